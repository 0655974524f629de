/- A unit (chapter 19): what it answers, and the plain laws; no program in sight. -/
import Derived.Test.YtpjmhckdeeonbaaRepLaw
import Derived.Test.YtpjmhckdeeonbaaStreamLaw
import Derived.Test.YtpjmhckdeeonbaaRepF
import Derived.Test.YtpjmhckdeeonbaaRepFo
import Derived.Test.YtpjmhckdeeonbaaRepP2
import Derived.Deep.RegionHeld3
import Derived.Deep.RegionLaw
import Derived.Test.YtpjmhckdeeonbaaAskKit
namespace Go.Out
open Go Go.RowKit
set_option linter.unusedVariables false

structure UnitD where
  addr : Nat
  size : Nat
  t1 : List UInt16
  t2 : List UInt16
  t3 : List UInt16
  t4 : List UInt16
  wrote : Nat
def tabU (u : UnitD) (c : Int) : List UInt16 := if c = 1 then u.t1 else if c = 2 then u.t2 else if c = 3 then u.t3 else u.t4
def putU (u : UnitD) (c : Int) (l : List UInt16) : UnitD := if c = 1 then { u with t1 := l } else if c = 2 then { u with t2 := l } else if c = 3 then { u with t3 := l } else { u with t4 := l }
structure UnitOk (u : UnitD) : Prop where
  l1 : u.t1.length = u.size
  l2 : u.t2.length = u.size
  l3 : u.t3.length = u.size
  l4 : u.t4.length = u.size
  s : 1 ≤ u.size ∧ u.size ≤ 1024
  a : 1 ≤ u.addr ∧ u.addr ≤ 247
def newU (addr size : Nat) : UnitD := ⟨addr, size, List.replicate size 0, List.replicate size 0, List.replicate size 0, List.replicate size 0, 0⟩
theorem newU_ok {addr size : Nat} (h1 : 1 ≤ addr ∧ addr ≤ 247) (h2 : 1 ≤ size ∧ size ≤ 1024) : UnitOk (newU addr size) := ⟨by simp [newU], by simp [newU], by simp [newU], by simp [newU], h2, h1⟩
theorem tabU_length {u : UnitD} (h : UnitOk u) (c : Int) : (tabU u c).length = u.size := by
  unfold tabU; split
  · exact h.l1
  · split
    · exact h.l2
    · split
      · exact h.l3
      · exact h.l4
/-- Some items laid over others. -/
def over {α : Type} (l : List α) (k : Nat) (xs : List α) : List α := l.take k ++ xs ++ l.drop (k + xs.length)
theorem over_length {α : Type} {l xs : List α} {k : Nat} (h : k + xs.length ≤ l.length) : (over l k xs).length = l.length := by
  unfold over; simp only [List.length_append, List.length_take, List.length_drop]; omega
theorem over_get {α : Type} {l xs : List α} {k i : Nat} (h : k + xs.length ≤ l.length) (hi : i < xs.length) : (over l k xs)[k + i]? = xs[i]? := by
  unfold over
  rw [List.append_assoc, List.getElem?_append_right (by simp; omega), List.length_take, Nat.min_eq_left (by omega), Nat.add_sub_cancel_left, List.getElem?_append_left hi]
theorem over_over {α : Type} {l xs : List α} {k : Nat} (h : k + xs.length ≤ l.length) : over (over l k xs) k xs = over l k xs := by
  have e1 : (over l k xs).take k = l.take k := by
    unfold over
    rw [List.append_assoc, List.take_append_of_le_length (by simp; omega), List.take_take, Nat.min_self]
  have e2 : (over l k xs).drop (k + xs.length) = l.drop (k + xs.length) := by
    have hl : (l.take k ++ xs).length = k + xs.length := by simp; omega
    unfold over
    rw [List.drop_append, hl, Nat.sub_self, List.drop_zero, List.drop_of_length_le (by omega), List.nil_append]
  show (over l k xs).take k ++ xs ++ (over l k xs).drop (k + xs.length) = _
  rw [e1, e2]; rfl
def b2w (x : Bool) : UInt16 := if x then 1 else 0
def excR (k : Int) : RepD := ⟨k, [], [], []⟩
def onR (l : List UInt16) : List Bool := l.map fun v => v == 1
def doU (u : UnitD) (a : AskD) : UnitD × RepD :=
  if checkF a = 20 ∨ a.code = 20 then (u, excR 1) else if checkF a ≠ 0 then (u, excR 3)
  else if (u.size : Int) < a.addr + manyF a then (u, excR 2)
  else if a.code = 1 ∨ a.code = 2 then (u, ⟨0, onR (((tabU u a.code).drop a.addr.toNat).take a.count.toNat), [], []⟩)
  else if a.code = 3 ∨ a.code = 4 then (u, ⟨0, [], ((tabU u a.code).drop a.addr.toNat).take a.count.toNat, []⟩)
  else if a.code = 5 ∨ a.code = 15 then ({ u with t1 := over u.t1 a.addr.toNat (a.on.map b2w), wrote := u.wrote + 1 }, rep0)
  else ({ u with t3 := over u.t3 a.addr.toNat a.set, wrote := u.wrote + 1 }, rep0)
def thereU (u : UnitD) (k i : Int) : Int := if k < 1 ∨ 4 < k then 28 else if i < 0 ∨ (u.size : Int) ≤ i then 21 else 0
def getU (u : UnitD) (k i : Int) : UInt16 × Int := if thereU u k i ≠ 0 then (0, thereU u k i) else ((tabU u k).getD i.toNat 0, 0)
def setU (u : UnitD) (k i : Int) (v : UInt16) : UnitD × Int :=
  if thereU u k i ≠ 0 then (u, thereU u k i) else if k ≤ 2 ∧ 1 < v.toNat then (u, 3) else (putU u k ((tabU u k).set i.toNat v), 0)
def hearU (u : UnitD) (b : List UInt8) : UnitD × List UInt8 :=
  if (openRtuF b).2.2 ≠ 0 ∨ (openRtuF b).1.toNat ≠ u.addr ∨ 128 ≤ b0 (openRtuF b).2.1 then (u, [])
  else if (getA (openRtuF b).2.1).2 = 20 then (u, (rtuF (openRtuF b).1 [UInt8.ofNat (b0 (openRtuF b).2.1 + 128), 1]).1)
  else if (getA (openRtuF b).2.1).2 ≠ 0 then (u, (rtuF (openRtuF b).1 [UInt8.ofNat (b0 (openRtuF b).2.1 + 128), 3]).1)
  else ((doU u (getA (openRtuF b).2.1).1).1, (rtuF (openRtuF b).1 (putR (getA (openRtuF b).2.1).1 (doU u (getA (openRtuF b).2.1).1).2).1).1)

theorem getA_ok_check {b : List UInt8} (h : (getA b).2 = 0) : checkF (getA b).1 = 0 := (getA_zero h).2.2.2.2
theorem many_of {a : AskD} (h : checkF a = 0) : (a.code = 1 ∨ a.code = 2 ∨ a.code = 3 ∨ a.code = 4 → manyF a = a.count ∧ 1 ≤ a.count ∧ a.count ≤ 2000 ∧ a.on = [] ∧ a.set = []) ∧
    (a.code = 5 ∨ a.code = 15 → manyF a = a.on.length ∧ a.count = 0 ∧ a.set = [] ∧ 1 ≤ a.on.length ∧ a.on.length ≤ 1968) ∧
    (a.code = 6 ∨ a.code = 16 → manyF a = a.set.length ∧ a.count = 0 ∧ a.on = [] ∧ 1 ≤ a.set.length ∧ a.set.length ≤ 123) ∧ 0 ≤ a.addr ∧ a.addr ≤ 65535 := by
  rcases ask_cases h with ⟨c, A, n, h1, h2, h3, h4, h5, rfl⟩ | ⟨A, x, h1, rfl⟩ | ⟨A, v, h1, rfl⟩ | ⟨A, l, h1, h2, h3, rfl⟩ | ⟨A, l, h1, h2, h3, rfl⟩ | ⟨l, h1, h2, h3, rfl⟩
  · refine ⟨fun _ => ⟨by unfold manyF; rw [if_pos (by unfold isCnt; simp only; omega)], by simp only; omega, by simp only; omega, rfl, rfl⟩, fun h => ?_, fun h => ?_, by simp only; omega, by simp only; omega⟩
    · simp only at h; omega
    · simp only at h; omega
  · exact ⟨fun h => by simp at h, fun _ => ⟨rfl, rfl, rfl, by simp, by simp⟩, fun h => by simp at h, by simp, by simp; omega⟩
  · exact ⟨fun h => by simp at h, fun h => by simp at h, fun _ => ⟨rfl, rfl, rfl, by simp, by simp⟩, by simp, by simp; omega⟩
  · exact ⟨fun h => by simp at h, fun _ => ⟨rfl, rfl, rfl, h2, h3⟩, fun h => by simp at h, by simp, by simp; omega⟩
  · exact ⟨fun h => by simp at h, fun h => by simp at h, fun _ => ⟨rfl, rfl, rfl, h2, h3⟩, by simp, by simp; omega⟩
  · exact ⟨fun h => by simp at h, fun h => by simp at h, fun h => by simp at h, by simp, by simp⟩
/-- What a unit answers to a right request may be an answer. -/
theorem doU_check {u : UnitD} {a : AskD} (hu : UnitOk u) (h : checkF a = 0) : checkR a (doU u a).2 = 0 := by
  have hc := codeP_cases (checkF_parts a h).1
  obtain ⟨m1, m2, m3, m4, m5⟩ := many_of h
  have hex : ∀ k : Nat, 1 ≤ k → k ≤ 127 → checkR a (excR k) = 0 := fun k h1 h2 => by
    unfold checkR excR
    rw [if_neg (by simp [h]), if_pos (by simp only; omega), if_neg (by simp only; omega), if_neg (by simp)]
  have hrd : ∀ r : RepD, r.exc = 0 → foreignB a.code r.on.length r.set.length r.files.length = false → countedB a r = true → checkR a r = 0 := fun r h1 h2 h3 => by
    unfold checkR
    rw [if_neg (by simp [h]), if_neg (by simp [h1]), if_neg (by simp [h2]), if_neg (by simp [h3])]
  unfold doU
  split
  · exact hex 1 (by omega) (by omega)
  · rename_i h1
    rw [if_neg (by simp [h])]
    split
    · exact hex 2 (by omega) (by omega)
    · rename_i h2
      split
      · rename_i h3
        obtain ⟨q1, q2, q3, q4, q5⟩ := m1 (by omega)
        refine hrd _ rfl ?_ ?_
        · unfold foreignB; rw [if_pos h3]; simp
        · unfold countedB; rw [if_pos h3]
          simp only [onR, List.length_map, List.length_take, List.length_drop, tabU_length hu, decide_eq_true_eq]
          omega
      · rename_i h3
        split
        · rename_i h4
          obtain ⟨q1, q2, q3, q4, q5⟩ := m1 (by omega)
          refine hrd _ rfl ?_ ?_
          · unfold foreignB; rw [if_neg h3, if_pos h4]; simp
          · unfold countedB; rw [if_neg h3, if_pos h4]
            simp only [List.length_take, List.length_drop, tabU_length hu, decide_eq_true_eq]
            omega
        · rename_i h4
          have hz : countedB a rep0 = true := by
            have hp : a.parts = [] := by
              rcases ask_cases h with ⟨c, A, n, _, _, _, _, _, rfl⟩ | ⟨A, x, _, rfl⟩ | ⟨A, v, _, rfl⟩ | ⟨A, l, _, _, _, rfl⟩ | ⟨A, l, _, _, _, rfl⟩ | ⟨l, _, _, _, rfl⟩
              · rfl
              · rfl
              · rfl
              · rfl
              · rfl
              · exact absurd (Or.inr rfl) h1
            unfold countedB; rw [if_neg h3, if_neg h4, hp]; rfl
          have hf : foreignB a.code 0 0 0 = false := by unfold foreignB; rw [if_neg h3, if_neg h4, if_neg (by omega)]; rfl
          split
          · exact hrd rep0 rfl hf hz
          · exact hrd rep0 rfl hf hz
theorem doU_ok {u : UnitD} {a : AskD} (hu : UnitOk u) : UnitOk (doU u a).1 := by
  unfold doU
  split
  · exact hu
  · rename_i h1
    split
    · exact hu
    · rename_i h
      have h : checkF a = 0 := Classical.not_not.1 h
      obtain ⟨m1, m2, m3, m4, m5⟩ := many_of h
      have hc := codeP_cases (checkF_parts a h).1
      split
      · exact hu
      · split
        · exact hu
        · split
          · exact hu
          · split
            · rename_i h5
              obtain ⟨q1, -⟩ := m2 h5
              exact ⟨by rw [over_length (by rw [hu.l1]; simp; omega)]; exact hu.l1, hu.l2, hu.l3, hu.l4, hu.s, hu.a⟩
            · obtain ⟨q1, -⟩ := m3 (by omega)
              exact ⟨hu.l1, hu.l2, by rw [over_length (by rw [hu.l3]; omega)]; exact hu.l3, hu.l4, hu.s, hu.a⟩
theorem doU_bad {u : UnitD} {a : AskD} (h : checkF a ≠ 0) : (doU u a).1 = u ∧ ((doU u a).2 = excR 1 ∨ (doU u a).2 = excR 3) := by
  unfold doU
  split
  · exact ⟨rfl, .inl rfl⟩
  · exact ⟨rfl, .inr rfl⟩
/-- Whatever is heard of a right request's frame. -/
theorem hearU_put {u : UnitD} {a : AskD} (hu : UnitOk u) (h : checkF a = 0) :
    hearU u (rtuF (UInt8.ofNat u.addr) (putA a).1).1 = ((doU u a).1, (rtuF (UInt8.ofNat u.addr) (putR a (doU u a).2).1).1) ∧ (rtuF (UInt8.ofNat u.addr) (putA a).1).2 = 0 ∧
    (rtuF (UInt8.ofNat u.addr) (putR a (doU u a).2).1).2 = 0 := by
  have ha := hu.a
  have hn : (UInt8.ofNat u.addr).toNat = u.addr := toNat_ofNat8 (by omega)
  obtain ⟨g1, g2, g3⟩ := getA_put h
  have hr : (rtuF (UInt8.ofNat u.addr) (putA a).1).2 = 0 := rtu_fits.2 (by rw [hn]; omega)
  obtain ⟨o1, -⟩ := openRtu_rtu hr
  have hk := doU_check (u := u) hu h
  obtain ⟨r1, r2, r3, r4⟩ := getR_putR hk
  refine ⟨?_, hr, rtu_fits.2 (by rw [hn]; omega)⟩
  have hb0 : b0 (putA a).1 = a.code.toNat := by
    have h1 := code_lt h
    rw [putA_ok h]
    show (UInt8.ofNat a.code.toNat).toNat = _
    exact toNat_ofNat8 (by omega)
  have hcl := code_lt h
  unfold hearU
  rw [o1]
  simp only
  rw [if_neg (by rw [hn, hb0]; omega), g1]
  simp only
  rw [if_neg (by omega), if_neg (by omega)]
/-- Two units that have the same tables. -/
def sameT (u v : UnitD) : Prop := u.addr = v.addr ∧ u.size = v.size ∧ u.t1 = v.t1 ∧ u.t2 = v.t2 ∧ u.t3 = v.t3 ∧ u.t4 = v.t4
theorem sameT_refl (u : UnitD) : sameT u u := ⟨rfl, rfl, rfl, rfl, rfl, rfl⟩
theorem doU_twice {u : UnitD} {a : AskD} (hu : UnitOk u) : (doU (doU u a).1 a).2 = (doU u a).2 ∧ sameT (doU (doU u a).1 a).1 (doU u a).1 ∧
    (((doU u a).2.exc ≠ 0 ∨ a.code ≤ 4) → (doU u a).1 = u) ∧ ((doU u a).2.exc = 0 → ¬ a.code ≤ 4 → (doU (doU u a).1 a).1.wrote = u.wrote + 2) := by
  by_cases h1 : checkF a = 20 ∨ a.code = 20
  · have e : ∀ u, doU u a = (u, excR 1) := fun u => by unfold doU; rw [if_pos h1]
    rw [e u, e]
    exact ⟨rfl, sameT_refl _, fun _ => rfl, fun h => by simp [excR] at h⟩
  by_cases h2 : checkF a ≠ 0
  · have e : ∀ u, doU u a = (u, excR 3) := fun u => by unfold doU; rw [if_neg h1, if_pos h2]
    rw [e u, e]
    exact ⟨rfl, sameT_refl _, fun _ => rfl, fun h => by simp [excR] at h⟩
  have h2 : checkF a = 0 := Classical.not_not.1 h2
  obtain ⟨m1, m2, m3, m4, m5⟩ := many_of h2
  have hc := codeP_cases (checkF_parts a h2).1
  by_cases h3 : (u.size : Int) < a.addr + manyF a
  · have e : doU u a = (u, excR 2) := by unfold doU; rw [if_neg h1, if_neg (by simp [h2]), if_pos h3]
    rw [e, e]
    exact ⟨rfl, sameT_refl _, fun _ => rfl, fun h => by simp [excR] at h⟩
  by_cases h4 : a.code = 1 ∨ a.code = 2 ∨ a.code = 3 ∨ a.code = 4
  · have e : (doU u a).1 = u := by
      unfold doU; rw [if_neg h1, if_neg (by simp [h2]), if_neg h3]
      split
      · rfl
      · rw [if_pos (by omega)]
    rw [e]
    exact ⟨rfl, by rw [e]; exact sameT_refl _, fun _ => rfl, fun _ h => absurd (by omega) h⟩
  by_cases h5 : a.code = 5 ∨ a.code = 15
  · have e : ∀ u : UnitD, ¬ (u.size : Int) < a.addr + manyF a → doU u a = ({ u with t1 := over u.t1 a.addr.toNat (a.on.map b2w), wrote := u.wrote + 1 }, rep0) := fun u h3 => by
      unfold doU; rw [if_neg h1, if_neg (by simp [h2]), if_neg h3, if_neg (by omega), if_neg (by omega), if_pos h5]
    have hl := (m2 h5).1
    have e1 := e u h3
    have e2 := e (doU u a).1 (by rw [e1]; exact h3)
    rw [e2, e1]
    refine ⟨rfl, ⟨rfl, rfl, over_over (by rw [hu.l1]; simp; omega), rfl, rfl, rfl⟩, fun h => ?_, fun _ _ => rfl⟩
    · rcases h with h | h
      · exact absurd rfl h
      · omega
  · have e : ∀ u : UnitD, ¬ (u.size : Int) < a.addr + manyF a → doU u a = ({ u with t3 := over u.t3 a.addr.toNat a.set, wrote := u.wrote + 1 }, rep0) := fun u h3 => by
      unfold doU; rw [if_neg h1, if_neg (by simp [h2]), if_neg h3, if_neg (by omega), if_neg (by omega), if_neg h5]
    have hl := (m3 (by omega)).1
    have e1 := e u h3
    have e2 := e (doU u a).1 (by rw [e1]; exact h3)
    rw [e2, e1]
    refine ⟨rfl, ⟨rfl, rfl, rfl, rfl, over_over (by rw [hu.l3]; omega), rfl⟩, fun h => ?_, fun _ _ => rfl⟩
    · rcases h with h | h
      · exact absurd rfl h
      · omega
end Go.Out

namespace Go.Proofs.Ytpjmhckdeeonbaa
set_option linter.unusedVariables false
set_option linter.unusedSimpArgs false
set_option maxRecDepth 100000
set_option maxHeartbeats 2000000
open Go Go.RowKit Go.Out

/-- Where a unit lies: its own row, and its four rows of words. -/
structure UnitS where
  p : Nat
  g1 : Nat
  g2 : Nat
  g3 : Nat
  g4 : Nat
def tabS (s : UnitS) (c : Int) : Nat := if c = 1 then s.g1 else if c = 2 then s.g2 else if c = 3 then s.g3 else s.g4
def unitRow (u : UnitD) (s : UnitS) : Obj := .cells #[.int .i64 (u.addr : Int), .slice (some ⟨s.g1, 0, none⟩) u.size u.size, .slice (some ⟨s.g2, 0, none⟩) u.size u.size, .slice (some ⟨s.g3, 0, none⟩) u.size u.size, .slice (some ⟨s.g4, 0, none⟩) u.size u.size, .int .i64 (u.wrote : Int)] 111 (0, 0)
def wordRow (l : List UInt16) : Obj := .cells (l.map cW).toArray 54 (0, 0)
/-- A unit lies there, and nothing of it lies twice. -/
structure UnitAt (w : World) (s : UnitS) (u : UnitD) : Prop where
  row : w.heap[s.p]? = some (unitRow u s)
  t1 : w.heap[s.g1]? = some (wordRow u.t1)
  t2 : w.heap[s.g2]? = some (wordRow u.t2)
  t3 : w.heap[s.g3]? = some (wordRow u.t3)
  t4 : w.heap[s.g4]? = some (wordRow u.t4)
  ne : s.p ≠ s.g1 ∧ s.p ≠ s.g2 ∧ s.p ≠ s.g3 ∧ s.p ≠ s.g4 ∧ s.g1 ≠ s.g2 ∧ s.g1 ≠ s.g3 ∧ s.g1 ≠ s.g4 ∧ s.g2 ≠ s.g3 ∧ s.g2 ≠ s.g4 ∧ s.g3 ≠ s.g4
def pU (s : UnitS) : Value := .pointer (some ⟨s.p, 0, none⟩)
theorem UnitAt.cells {w : World} {s : UnitS} {u : UnitD} (h : UnitAt w s u) :
    w.cell? ⟨s.p, 0, none⟩ = some (.int .i64 (u.addr : Int)) ∧ w.cell? ⟨s.p, 1, none⟩ = some (.slice (some ⟨s.g1, 0, none⟩) u.size u.size) ∧ w.cell? ⟨s.p, 2, none⟩ = some (.slice (some ⟨s.g2, 0, none⟩) u.size u.size) ∧ w.cell? ⟨s.p, 3, none⟩ = some (.slice (some ⟨s.g3, 0, none⟩) u.size u.size) ∧ w.cell? ⟨s.p, 4, none⟩ = some (.slice (some ⟨s.g4, 0, none⟩) u.size u.size) ∧ w.cell? ⟨s.p, 5, none⟩ = some (.int .i64 (u.wrote : Int)) :=
  cells6 h.row
theorem UnitAt.tab {w : World} {s : UnitS} {u : UnitD} (h : UnitAt w s u) (c : Int) : w.heap[tabS s c]? = some (wordRow (tabU u c)) := by
  unfold tabS tabU
  split
  · exact h.t1
  · split
    · exact h.t2
    · split
      · exact h.t3
      · exact h.t4
theorem wordRow_cell {w : World} {g i : Nat} {l : List UInt16} (h : w.heap[g]? = some (wordRow l)) (hi : i < l.length) : w.cell? ⟨g, i, none⟩ = some (.int .u16 ((l.getD i 0).toNat : Int)) := by
  have e : (l.map cW).toArray[i]? = some (.int .u16 ((l.getD i 0).toNat : Int)) := by
    rw [List.getElem?_toArray, List.getElem?_map, List.getElem?_eq_getElem hi, List.getD_eq_getElem?_getD, List.getElem?_eq_getElem hi]; rfl
  exact cell_of_row _ _ _ _ _ _ (by rw [h, wordRow]) |>.trans (by first | exact e | rfl)
theorem writes_u (u : UnitD) (s : UnitS) (w : World) (h : UnitAt w s u) : Calls Try.prog 39 #[pU s] w (RetN w u.wrote) := by
  obtain ⟨c0, c1, c2, c3, c4, c5⟩ := h.cells
  unfold pU
  go_enter Try.func39, Try.ntmps39
  go_wp2_with fail
  go_ret
  exact ⟨rfl, rfl⟩
def entV (u : UnitD) (s : UnitS) (k i : Int) : Value := .tuple #[if thereU u k i = 0 then .pointer (some ⟨tabS s k, i.toNat, none⟩) else .pointer none, .int .i64 (thereU u k i)]
theorem entry_u (u : UnitD) (s : UnitS) (k i : Int) (w : World) (h : UnitAt w s u) : Calls Try.prog 92 #[pU s, .int .i64 k, .int .i64 i] w (fun e w' => e = .returned (entV u s k i) ∧ w = w') := by
  obtain ⟨c0, c1, c2, c3, c4, c5⟩ := h.cells
  have ht := h.tab
  unfold pU
  by_cases hk : k < 1 ∨ 4 < k
  · have e : entV u s k i = .tuple #[.pointer none, .int .i64 28] := by unfold entV thereU; rw [if_pos hk]; rfl
    rw [e]
    clear h ht e
    go_enter Try.func92, Try.ntmps92
    rcases hk with hk | hk
    · go_wp2_with fail
      all_goals (go_ret2; exact ⟨rfl, rfl⟩)
    · have hk2 : ¬ k < 1 := by omega
      go_wp2_with fail
      all_goals (go_ret2; exact ⟨rfl, rfl⟩)
  · have hk4 : k = 1 ∨ k = 2 ∨ k = 3 ∨ k = 4 := by omega
    by_cases hi : i < 0 ∨ (u.size : Int) ≤ i
    · have e : entV u s k i = .tuple #[.pointer none, .int .i64 21] := by unfold entV thereU; rw [if_neg hk, if_pos hi]; rfl
      rw [e]
      clear h ht e hk
      rcases hk4 with rfl | rfl | rfl | rfl
      all_goals
        go_enter Try.func92, Try.ntmps92
        rcases hi with hi | hi
        · go_wp2_with fail
          all_goals (go_ret2; exact ⟨rfl, rfl⟩)
        · have hi2 : ¬ i < 0 := by omega
          go_wp2_with fail
          all_goals (go_ret2; exact ⟨rfl, rfl⟩)
    · obtain ⟨j, rfl⟩ : ∃ j : Nat, i = (j : Int) := ⟨i.toNat, by omega⟩
      have hj : j < u.size := by omega
      have e : entV u s k (j : Int) = .tuple #[.pointer (some ⟨tabS s k, j, none⟩), .int .i64 0] := by unfold entV thereU; rw [if_neg hk, if_neg hi]; rfl
      rw [e]
      clear h e hk hi
      have q1 : (j : Int) < (u.size : Int) := by omega
      have q2 : ¬ (j : Int) < 0 := by omega
      have q3 : (0 : Int) ≤ (j : Int) := by omega
      rcases hk4 with rfl | rfl | rfl | rfl
      all_goals
        clear ht
        go_enter Try.func92, Try.ntmps92
        go_wp2_with fail
        all_goals (go_ret2; exact ⟨by simp [tabS], rfl⟩)
def getV (u : UnitD) (k i : Int) : Value := .tuple #[.int .u16 ((getU u k i).1.toNat : Int), .int .i64 (getU u k i).2]
theorem thereU_zero {u : UnitD} {k i : Int} (h : thereU u k i = 0) : ∃ j : Nat, i = (j : Int) ∧ j < u.size ∧ (k = 1 ∨ k = 2 ∨ k = 3 ∨ k = 4) := by
  unfold thereU at h
  split at h
  · omega
  · split at h
    · omega
    · exact ⟨i.toNat, by omega, by omega, by omega⟩
theorem get_u (u : UnitD) (s : UnitS) (k i : Int) (w : World) (hu : UnitOk u) (h : UnitAt w s u) : Calls Try.prog 46 #[pU s, .int .i64 k, .int .i64 i] w (fun e w' => e = .returned (getV u k i) ∧ w = w') := by
  have hE := entry_u u s k i w h
  by_cases h0 : thereU u k i = 0
  · obtain ⟨j, rfl, hj, hk⟩ := thereU_zero h0
    have hc := wordRow_cell (h.tab k) (i := j) (by rw [tabU_length hu]; exact hj)
    have e : getV u k (j : Int) = .tuple #[.int .u16 (((tabU u k).getD j 0).toNat : Int), .int .i64 0] := by unfold getV getU; rw [if_neg (by simp [h0])]; rfl
    rw [e]
    have e2 : entV u s k (j : Int) = .tuple #[.pointer (some ⟨tabS s k, j, none⟩), .int .i64 0] := by unfold entV; rw [if_pos h0, h0]; rfl
    rw [e2] at hE
    have HE := Lib.hid hE
    clear h e e2 hE h0 hk hj hu
    unfold pU at HE ⊢
    go_enter Try.func46, Try.ntmps46
    go_wp2_with fail
    refine HE.out.mono ?_
    rintro e w1 ⟨rfl, rfl⟩
    go_wp2_with fail
    all_goals (go_ret2; exact ⟨rfl, rfl⟩)
  · have e : getV u k i = .tuple #[.int .u16 0, .int .i64 (thereU u k i)] := by unfold getV getU; rw [if_pos h0]; rfl
    rw [e]
    have e2 : entV u s k i = .tuple #[.pointer none, .int .i64 (thereU u k i)] := by unfold entV; rw [if_neg h0]
    rw [e2] at hE
    have HE := Lib.hid hE
    clear h e e2 hE hu
    unfold pU at HE ⊢
    go_enter Try.func46, Try.ntmps46
    go_wp2_with fail
    refine HE.out.mono ?_
    rintro e w1 ⟨rfl, rfl⟩
    go_wp2_with fail
    all_goals (go_ret2; exact ⟨rfl, rfl⟩)
/-- What an act upon a unit may have turned: its own rows, and nothing else that was there. -/
structure OnlyU (s : UnitS) (w w' : World) : Prop where
  os : w'.os = w.os
  tape : w'.tape = w.tape
  output : w'.output = w.output
  size : w.heap.size ≤ w'.heap.size
  block : ∀ k, k < w.heap.size → k ≠ s.p → k ≠ s.g1 → k ≠ s.g2 → k ≠ s.g3 → k ≠ s.g4 → w'.heap[k]? = w.heap[k]?
theorem OnlyU.refl (s : UnitS) (w : World) : OnlyU s w w := ⟨rfl, rfl, rfl, Nat.le_refl _, fun _ _ _ _ _ _ _ => rfl⟩
theorem OnlyU.trans {s : UnitS} {a b c : World} (h : OnlyU s a b) (k : OnlyU s b c) : OnlyU s a c :=
  ⟨k.os.trans h.os, k.tape.trans h.tape, k.output.trans h.output, Nat.le_trans h.size k.size, fun i hi h0 h1 h2 h3 h4 => (k.block i (Nat.lt_of_lt_of_le hi h.size) h0 h1 h2 h3 h4).trans (h.block i hi h0 h1 h2 h3 h4)⟩
theorem OnlyU.of_ext {s : UnitS} {w w' : World} (h : Ext w w') : OnlyU s w w' := ⟨h.os, h.tape, h.output, h.size, fun k hk _ _ _ _ _ => Below.block h k hk⟩
/-- All of a unit lies from B on. -/
def FromU (B : Nat) (s : UnitS) : Prop := B ≤ s.p ∧ B ≤ s.g1 ∧ B ≤ s.g2 ∧ B ≤ s.g3 ∧ B ≤ s.g4
theorem OnlyU.below {s : UnitS} {B : Nat} {w w' : World} (h : OnlyU s w w') (hB : FromU B s) (hs : B ≤ w.heap.size) : Below B w w' := by
  obtain ⟨b0, b1, b2, b3, b4⟩ := hB
  exact ⟨h.os, h.tape, h.output, h.size, fun k hk => h.block k (by omega) (by omega) (by omega) (by omega) (by omega) (by omega)⟩
theorem OnlyU.ext {s : UnitS} {a w w' : World} (h : OnlyU s w w') (hB : FromU a.heap.size s) (hx : Ext a w) : Ext a w' := Below.trans hx (h.below hB hx.size)
theorem UnitAt.lt {w : World} {s : UnitS} {u : UnitD} (h : UnitAt w s u) : s.p < w.heap.size ∧ s.g1 < w.heap.size ∧ s.g2 < w.heap.size ∧ s.g3 < w.heap.size ∧ s.g4 < w.heap.size :=
  ⟨lt_of_heap h.row, lt_of_heap h.t1, lt_of_heap h.t2, lt_of_heap h.t3, lt_of_heap h.t4⟩
theorem UnitAt.ext {w w' : World} {s : UnitS} {u : UnitD} (h : UnitAt w s u) (hx : Ext w w') : UnitAt w' s u :=
  ⟨hx.block h.row, hx.block h.t1, hx.block h.t2, hx.block h.t3, hx.block h.t4, h.ne⟩
/-- Two units share nothing. -/
def Apart2 (s t : UnitS) : Prop := ∀ a, (a = s.p ∨ a = s.g1 ∨ a = s.g2 ∨ a = s.g3 ∨ a = s.g4) → a ≠ t.p ∧ a ≠ t.g1 ∧ a ≠ t.g2 ∧ a ≠ t.g3 ∧ a ≠ t.g4
theorem UnitAt.other {w w' : World} {s t : UnitS} {u : UnitD} (h : UnitAt w s u) (ho : OnlyU t w w') (ha : Apart2 s t) : UnitAt w' s u := by
  have hb : ∀ a o, (a = s.p ∨ a = s.g1 ∨ a = s.g2 ∨ a = s.g3 ∨ a = s.g4) → w.heap[a]? = some o → w'.heap[a]? = some o := fun a o hm he => by
    obtain ⟨a0, a1, a2, a3, a4⟩ := ha a hm
    rw [ho.block a (lt_of_heap he) a0 a1 a2 a3 a4, he]
  exact ⟨hb _ _ (.inl rfl) h.row, hb _ _ (.inr (.inl rfl)) h.t1, hb _ _ (.inr (.inr (.inl rfl))) h.t2, hb _ _ (.inr (.inr (.inr (.inl rfl)))) h.t3, hb _ _ (.inr (.inr (.inr (.inr rfl)))) h.t4, h.ne⟩
end Go.Proofs.Ytpjmhckdeeonbaa

namespace Go.Proofs.Ytpjmhckdeeonbaa
set_option linter.unusedVariables false
set_option linter.unusedSimpArgs false
set_option maxRecDepth 100000
set_option maxHeartbeats 2000000
open Go Go.RowKit Go.Out

theorem wordRow_set {w : World} {g j : Nat} {l : List UInt16} (h : w.heap[g]? = some (wordRow l)) (v : UInt16) : (w.setCell ⟨g, j, none⟩ (cW v)).heap[g]? = some (wordRow (l.set j v)) := by
  have h2 := Go.heap_setCell_same w g j _ _ (cW v) h
  rw [h2]
  unfold wordRow
  congr 2
  apply Array.ext'
  simp [List.map_set]
theorem tabS_mem (s : UnitS) (c : Int) : tabS s c = s.g1 ∨ tabS s c = s.g2 ∨ tabS s c = s.g3 ∨ tabS s c = s.g4 := by
  unfold tabS
  split
  · exact .inl rfl
  · split
    · exact .inr (.inl rfl)
    · split
      · exact .inr (.inr (.inl rfl))
      · exact .inr (.inr (.inr rfl))
theorem OnlyU.set {s : UnitS} {w : World} {g : Nat} (hg : g = s.p ∨ g = s.g1 ∨ g = s.g2 ∨ g = s.g3 ∨ g = s.g4) (j : Nat) (v : Value) : OnlyU s w (w.setCell ⟨g, j, none⟩ v) := by
  refine ⟨rfl, rfl, rfl, by simp [World.setCell], fun k hk h0 h1 h2 h3 h4 => Below.heap_setCell w ⟨g, j, none⟩ v k ?_⟩
  show k ≠ g
  rcases hg with rfl | rfl | rfl | rfl | rfl <;> assumption
theorem UnitAt.setTab {w : World} {s : UnitS} {u : UnitD} (h : UnitAt w s u) {l : List UInt16} (c : Int) (w' : World) (ho : ∀ k, k ≠ tabS s c → k < w.heap.size → w'.heap[k]? = w.heap[k]?) (ht : w'.heap[tabS s c]? = some (wordRow l)) : UnitAt w' s (putU u c l) := by
  obtain ⟨n0, n1, n2, n3, n4, n5, n6, n7, n8, n9⟩ := h.ne
  have ns := Ne.symm n4; have ns5 := Ne.symm n5; have ns6 := Ne.symm n6; have ns7 := Ne.symm n7; have ns8 := Ne.symm n8; have ns9 := Ne.symm n9
  have K : ∀ k o, k ≠ tabS s c → w.heap[k]? = some o → w'.heap[k]? = some o := fun k o hk he => (ho k hk (lt_of_heap he)).trans he
  unfold tabS at K ht
  unfold putU
  split at ht
  · rename_i e
    simp only [e, if_true] at K ⊢
    exact ⟨K _ _ n0 h.row, ht, K _ _ ns h.t2, K _ _ ns5 h.t3, K _ _ ns6 h.t4, h.ne⟩
  · split at ht
    · rename_i e1 e
      simp only [e1, e, if_false, if_true] at K ⊢
      exact ⟨K _ _ n1 h.row, K _ _ n4 h.t1, ht, K _ _ ns7 h.t3, K _ _ ns8 h.t4, h.ne⟩
    · split at ht
      · rename_i e1 e2 e
        simp only [e1, e2, e, if_false, if_true] at K ⊢
        exact ⟨K _ _ n2 h.row, K _ _ n5 h.t1, K _ _ n7 h.t2, ht, K _ _ ns9 h.t4, h.ne⟩
      · rename_i e1 e2 e
        simp only [e1, e2, e, if_false] at K ⊢
        exact ⟨K _ _ n3 h.row, K _ _ n6 h.t1, K _ _ n8 h.t2, K _ _ n9 h.t3, ht, h.ne⟩
theorem UnitAt.set1 {w : World} {s : UnitS} {u : UnitD} (h : UnitAt w s u) (c : Int) (j : Nat) (v : UInt16) : UnitAt (w.setCell ⟨tabS s c, j, none⟩ (cW v)) s (putU u c ((tabU u c).set j v)) :=
  h.setTab c _ (fun k hk _ => Below.heap_setCell w ⟨tabS s c, j, none⟩ (cW v) k hk) (wordRow_set (h.tab c) v)
theorem set_u (u : UnitD) (s : UnitS) (k i : Int) (v : UInt16) (w : World) (hu : UnitOk u) (h : UnitAt w s u) : Calls Try.prog 48 #[pU s, .int .i64 k, .int .i64 i, .int .u16 (v.toNat : Int)] w
    (fun e w' => e = .returned (.int .i64 (setU u k i v).2) ∧ UnitAt w' s (setU u k i v).1 ∧ OnlyU s w w') := by
  have hE := entry_u u s k i w h
  by_cases h0 : thereU u k i = 0
  · obtain ⟨j, rfl, hj, hk⟩ := thereU_zero h0
    have e2 : entV u s k (j : Int) = .tuple #[.pointer (some ⟨tabS s k, j, none⟩), .int .i64 0] := by unfold entV; rw [if_pos h0, h0]; rfl
    rw [e2] at hE
    have HE := Lib.hid hE
    have HC := Lib.hid (wordRow_cell (h.tab k) (i := j) (by rw [tabU_length hu]; exact hj))
    by_cases hb : k ≤ 2 ∧ 1 < v.toNat
    · have e : setU u k (j : Int) v = (u, 3) := by unfold setU; rw [if_neg (by simp [h0]), if_pos hb]
      rw [e]
      have HU := Lib.hid h
      obtain ⟨b1, b2⟩ := hb
      have b3 : (1 : Int) < (v.toNat : Int) := by omega
      clear h e e2 hE h0 hk hj hu
      unfold pU at HE ⊢
      go_enter Try.func48, Try.ntmps48
      go_wp2_with fail
      refine HE.out.mono ?_
      rintro e w1 ⟨rfl, rfl⟩
      go_wp2_with fail
      all_goals (go_ret; exact ⟨rfl, HU.out, OnlyU.refl _ _⟩)
    · have e : setU u k (j : Int) v = (putU u k ((tabU u k).set j v), 0) := by unfold setU; rw [if_neg (by simp [h0]), if_neg hb]; rfl
      rw [e]
      have HU := Lib.hid h
      have hb' : ¬ 1 < v.toNat ∨ ¬ k ≤ 2 := by omega
      clear h e e2 hE h0 hk hj hu hb
      unfold pU at HE ⊢
      have hfz := frozen_of_row w (tabS s k) j _ _ (HU.out.tab k)
      have hc := HC.out
      have hst := HU.out.set1 k j v
      have HST := Lib.hid (show UnitAt (w.setCell ⟨tabS s k, j, none⟩ (.int .u16 (v.toNat : Int))) s (putU u k ((tabU u k).set j v)) from hst)
      clear hst HC
      rcases hb' with hb | hb
      · have b3 : ¬ (1 : Int) < (v.toNat : Int) := by omega
        go_enter Try.func48, Try.ntmps48
        go_wp2_with fail
        refine HE.out.mono ?_
        rintro e w1 ⟨rfl, rfl⟩
        go_wp2_with fail
        all_goals (go_ret; exact ⟨rfl, HST.out, OnlyU.set (.inr (tabS_mem s k)) _ _⟩)
      · go_enter Try.func48, Try.ntmps48
        go_wp2_with fail
        refine HE.out.mono ?_
        rintro e w1 ⟨rfl, rfl⟩
        go_wp2_with fail
        all_goals (go_ret; exact ⟨rfl, HST.out, OnlyU.set (.inr (tabS_mem s k)) _ _⟩)
  · have e : setU u k i v = (u, thereU u k i) := by unfold setU; rw [if_pos h0]
    rw [e]
    have e2 : entV u s k i = .tuple #[.pointer none, .int .i64 (thereU u k i)] := by unfold entV; rw [if_neg h0]
    rw [e2] at hE
    have HE := Lib.hid hE
    have HU := Lib.hid h
    clear h e e2 hE hu
    unfold pU at HE ⊢
    go_enter Try.func48, Try.ntmps48
    go_wp2_with fail
    refine HE.out.mono ?_
    rintro e w1 ⟨rfl, rfl⟩
    go_wp2_with fail
    all_goals (go_ret; exact ⟨rfl, HU.out, OnlyU.refl _ _⟩)
end Go.Proofs.Ytpjmhckdeeonbaa

namespace Go.Proofs.Ytpjmhckdeeonbaa
set_option linter.unusedVariables false
set_option linter.unusedSimpArgs false
set_option maxRecDepth 100000
set_option maxHeartbeats 4000000
open Go Go.RowKit Go.Out

theorem make_words (n : Nat) (h : n ≤ 1024) : ∀ W : World, (Instr.makeSlice 23 (.int .i64 (n : Int)) (.int .i64 (n : Int))).run Try.prog W = .ok (.slice (some ⟨W.heap.size, 0, none⟩) n n) (W.alloc (.cells (Array.replicate n (.int .u16 0)) 54)) :=
  fun W => run_make1 (P := Try.prog) 23 54 (.int .u16 0) 2 Try.underlying23 info_u16 rfl n (by omega) (by omega) W
def newE (a z : Int) : Int := if a < 1 ∨ 247 < a then 24 else if z < 1 ∨ 1024 < z then 3 else 0
def RetNew (w : World) (a z : Int) (e : Ending) (w' : World) : Prop :=
  (newE a z ≠ 0 ∧ e = .returned (.tuple #[.pointer none, .int .i64 (newE a z)]) ∧ w = w') ∨
  (newE a z = 0 ∧ ∃ s, e = .returned (.tuple #[pU s, .int .i64 0]) ∧ UnitAt w' s (newU a.toNat z.toNat) ∧ Ext w w' ∧ FromU w.heap.size s)
def nil4 : Value := .slice none 0 0
def tb (p n i j : Nat) : Value := if j < i then .slice (some ⟨p + 1 + j, 0, none⟩) n n else .slice none 0 0
/-- Behind i of the four rounds of New. -/
def NewAt (w wr : World) (p n : Nat) (a : Int) (i : Nat) : Prop := Ext w wr ∧ wr.heap.size = p + 1 + i ∧
  wr.heap[p]? = some (.cells #[.int .i64 a, tb p n i 0, tb p n i 1, tb p n i 2, tb p n i 3, .int .i64 0] 111 (0, 0)) ∧
  ∀ j, j < i → wr.heap[p + 1 + j]? = some (wordRow (List.replicate n 0))
theorem NewAt.step {w wr : World} {p n : Nat} {a : Int} {i : Nat} (h : NewAt w wr p n a i) (hi : i < 4) (hp : w.heap.size = p) :
    NewAt w ((wr.alloc (.cells (Array.replicate n (.int .u16 0)) 54)).setCell ⟨p, 1 + i, none⟩ (.slice (some ⟨wr.heap.size, 0, none⟩) n n)) p n a (i + 1) := by
  obtain ⟨h1, h2, h3, h4⟩ := h
  refine ⟨(h1.trans (Ext.alloc _ _)).set' (by simp [hp]) _, by simp [World.setCell, h2]; omega, ?_, fun j hj => ?_⟩
  · rw [Go.heap_setCell_same _ p (1 + i) _ _ _ ((Ext.alloc wr _).block h3), h2]
    have : i = 0 ∨ i = 1 ∨ i = 2 ∨ i = 3 := by omega
    rcases this with rfl | rfl | rfl | rfl <;> simp [tb]
  · rw [Below.heap_setCell _ _ _ _ (show p + 1 + j ≠ p by omega)]
    rcases Nat.lt_or_ge j i with hl | hg
    · exact (Ext.alloc wr _).block (h4 j hl)
    · obtain rfl : j = i := by omega
      rw [← h2, heap_alloc_new]
      simp [wordRow, cW]
theorem NewAt.drew {w wr : World} {p n : Nat} {a : Int} {i : Nat} (h : NewAt w wr p n a i) : NewAt w wr.drew p n a i :=
  ⟨h.1.trans (Ext.draw _), h.2.1, h.2.2.1, h.2.2.2⟩
theorem NewAt.unit {w wr : World} {p n m : Nat} (h : NewAt w wr p n (m : Int) 4) : UnitAt wr ⟨p, p + 1, p + 1 + 1, p + 1 + 2, p + 1 + 3⟩ (newU m n) :=
  ⟨h.2.2.1, h.2.2.2 0 (by omega), h.2.2.2 1 (by omega), h.2.2.2 2 (by omega), h.2.2.2 3 (by omega), by simp only; omega⟩
theorem new_u (a z : Int) (w : World) : Calls Try.prog 43 #[.int .i64 a, .int .i64 z] w (RetNew w a z) := by
  by_cases ha : a < 1 ∨ 247 < a
  · have e : RetNew w a z (.returned (.tuple #[.pointer none, .int .i64 24])) w := by
      have h : newE a z = 24 := by unfold newE; rw [if_pos ha]
      exact .inl ⟨by rw [h]; decide, by rw [h], rfl⟩
    have HE := Lib.hid e
    clear e
    rcases ha with ha | ha
    · go_enter Try.func43, Try.ntmps43
      go_wp2_with fail
      all_goals (go_ret2; exact HE.out)
    · have hb : ¬ a < 1 := by omega
      go_enter Try.func43, Try.ntmps43
      go_wp2_with fail
      all_goals (go_ret2; exact HE.out)
  · have hb1 : ¬ a < 1 := by omega
    have hb2 : ¬ 247 < a := by omega
    by_cases hz : z < 1 ∨ 1024 < z
    · have e : RetNew w a z (.returned (.tuple #[.pointer none, .int .i64 3])) w := by
        have h : newE a z = 3 := by unfold newE; rw [if_neg ha, if_pos hz]
        exact .inl ⟨by rw [h]; decide, by rw [h], rfl⟩
      have HE := Lib.hid e
      clear e ha
      rcases hz with hz | hz
      · go_enter Try.func43, Try.ntmps43
        go_wp2_with fail
        all_goals (go_ret2; exact HE.out)
      · have hz2 : ¬ z < 1 := by omega
        go_enter Try.func43, Try.ntmps43
        go_wp2_with fail
        all_goals (go_ret2; exact HE.out)
    · obtain ⟨n, rfl⟩ : ∃ n : Nat, z = (n : Int) := ⟨z.toNat, by omega⟩
      have hn1 : 1 ≤ n := by omega
      have hn2 : n ≤ 1024 := by omega
      have hz1 : ¬ (n : Int) < 1 := by omega
      have hz2 : ¬ 1024 < (n : Int) := by omega
      have h0 : newE a n = 0 := by unfold newE; rw [if_neg ha, if_neg hz]
      have H0 := Lib.hid h0
      have HM := make_words n hn2
      have HA := Lib.hid (show ∃ m : Nat, a = (m : Int) from ⟨a.toNat, by omega⟩)
      clear h0 ha hz hn1
      obtain ⟨p, hp⟩ : ∃ p, w.heap.size = p := ⟨_, rfl⟩
      have HP := Lib.hid hp
      go_enter Try.func43, Try.ntmps43
      go_wp2_with fail
      go_loopw [25] (fun x wr => ∃ i : Nat, i ≤ 4 ∧ x = .int .i64 (i : Int) ∧ NewAt w wr p n a i) (fun x _ => 4 - (intOf x).toNat)
      case atStart =>
        refine ⟨0, by omega, rfl, Ext.alloc _ _, by simp [hp], ?_, fun j hj => absurd hj (by omega)⟩
        exact heap_at _ _ _ hp.symm
      case round =>
        obtain ⟨i, hi, rfl, HX⟩ := hrel
        have HN := Lib.hid HX
        rcases Nat.lt_or_ge i 4 with hlt | hge
        · obtain ⟨x1, x2, x3, x4⟩ := HX
          have D := fun o => cells6 ((Ext.alloc wr o).block x3)
          have D0 := fun o => (D o).1
          have D1 := fun o => (D o).2.1
          have D2 := fun o => (D o).2.2.1
          have D3 := fun o => (D o).2.2.2.1
          have D4 := fun o => (D o).2.2.2.2.1
          have F := fun o k => frozen_of_row _ p k _ _ ((Ext.alloc wr o).block x3)
          clear D x1 x2 x3 x4
          have h4 : i = 0 ∨ i = 1 ∨ i = 2 ∨ i = 3 := by omega
          rcases h4 with rfl | rfl | rfl | rfl
          all_goals
            have HS := Lib.hid (HN.out.step hlt hp)
            clear HN
            go_wp2_with fail
            go_region_law (fail)
            all_goals
              go_wp2_with fail
              go_roundw
              case rel => first | exact ⟨1, by omega, by go_num, by first | exact HS.out.drew | exact HS.out⟩ | exact ⟨2, by omega, by go_num, by first | exact HS.out.drew | exact HS.out⟩ | exact ⟨3, by omega, by go_num, by first | exact HS.out.drew | exact HS.out⟩ | exact ⟨4, by omega, by go_num, by first | exact HS.out.drew | exact HS.out⟩
              case measure => simp [intOf]
        · obtain rfl : i = 4 := by omega
          obtain ⟨m, rfl⟩ := HA.out
          have HS := Lib.hid HN.out.unit
          have HX2 := Lib.hid HX.1
          clear HN HX
          go_wp2_with fail
          go_ret2
          exact .inr ⟨H0.out, _, rfl, HS.out, HX2.out, by unfold FromU; simp only; omega⟩
end Go.Proofs.Ytpjmhckdeeonbaa

namespace Go.Proofs.Ytpjmhckdeeonbaa
set_option linter.unusedVariables false
set_option linter.unusedSimpArgs false
set_option maxRecDepth 100000
set_option maxHeartbeats 400000
open Go Go.RowKit Go.Out

theorem duoU (w : World) (o1 o2 : Obj) : Ext w ((w.alloc o1).alloc o2) := (Ext.alloc _ _).trans (Ext.alloc _ _)
/-- What Do hands back: the answer, in memory of its own; only the unit has turned. -/
def RetDo (w : World) (s : UnitS) (u : UnitD) (a : AskD) (e : Ending) (w' : World) : Prop :=
  ∃ t, e = .returned (repV (doU u a).2 t) ∧ RepOw w' w.heap.size (doU u a).2 t ∧ UnitAt w' s (doU u a).1 ∧ OnlyU s w w' ∧ (a.parts ≠ [] → Ext w w')
theorem i64P_u {a b : Int} (h : i64P a) (h2 : a = b) : i64P b := h2 ▸ h
theorem do_told (k : Int) (hk : k = 1 ∨ k = 3) (u : UnitD) (s : UnitS) (a : AskD) (t : AskS) (w : World) (h : UnitAt w s u) (ha : AskRd w a t) (hd : doU u a = (u, excR k)) (h1 : k = 1 ↔ checkF a = 20 ∨ a.code = 20) (h2 : k = 3 → checkF a ≠ 0) :
    Calls Try.prog 47 #[pU s, askV a t] w (RetDo w s u a) := by
  have hC := fun W (hX : Ext w W) => check_any a t W (ha.ext hX)
  have HFin := Lib.hid (show ∀ W, Ext w W → RetDo w s u a (.returned (repV (excR k) repS0)) W from fun W hX => ⟨repS0, by rw [hd], by rw [hd]; exact repOwE _ _ _ (by unfold i64P; omega), by rw [hd]; exact h.ext hX, .of_ext hX, fun _ => hX⟩)
  obtain ⟨e, he⟩ : ∃ e, checkF a = e := ⟨_, rfl⟩
  rw [he] at h1 h2 hC
  obtain ⟨code, addr, count, on, set, parts⟩ := a
  obtain ⟨A1, n1, c1, A2, n2, c2, A3, n3, c3⟩ := t
  simp only [askV] at hC ⊢
  simp only at h1
  have HC := Lib.hid hC
  clear hC hd h ha he
  unfold pU
  generalize RetDo w s u _ = R at HFin ⊢
  obtain ⟨q, hq⟩ : ∃ q, w.heap.size = q := ⟨_, rfl⟩
  have hh : (k = 1 ∧ e = 20) ∨ (k = 1 ∧ e ≠ 20 ∧ code = 20) ∨ (k = 3 ∧ e ≠ 20 ∧ code ≠ 20 ∧ e ≠ 0) := by omega
  clear h1 h2 hk
  rcases hh with ⟨rfl, rfl⟩ | ⟨rfl, x1, x2⟩ | ⟨rfl, x1, x2, x3⟩
  all_goals
    first | (have X2 := Lib.hid x2; clear x2) | skip
    go_enter Try.func47, Try.ntmps47
    go_wp2_with fail
    refine (HC.out _ (duoU _ _ _)).mono ?_
    rintro e2 w2 ⟨rfl, hx⟩
    have HB := hx.block ((Ext.alloc _ _).block (heap_alloc_new w (.cells #[.int .i64 code, .int .i64 addr, .int .i64 count, .slice A1 n1 c1, .slice A2 n2 c2, .slice A3 n3 c3] 26)))
    have HR := hx.block (heap_alloc_new (w.alloc (.cells #[.int .i64 code, .int .i64 addr, .int .i64 count, .slice A1 n1 c1, .slice A2 n2 c2, .slice A3 n3 c3] 26)) (.cells #[.int .i64 0, .slice none 0 0, .slice none 0 0, .slice none 0 0] 29))
    obtain ⟨b0, b1, b2, b3, b4, b5⟩ := cells6 HB
    obtain ⟨r0, r1, r2, r3⟩ := cells4 HR
    have f0 := fun k => frozen_of_row _ _ k _ _ HR
    have HX := Lib.hid ((duoU _ _ _).trans hx)
    clear HB HR hx
    first | have x2 := X2.out | skip
    first | have y1 : (e == 20) = false := by simp [x1] | skip
    first | have y2 : (code == 20) = false := by simp [X2.out] | skip
    simp only [Go.World.size_alloc, hq] at b0 b1 b2 b3 b4 b5 r0 r1 r2 r3 f0
    go_wp2_with fail
    all_goals
      clear HC
      rename_i K hK
      clear hK
      first
        | (refine bodyPost_ret (v := repV (excR 1) repS0) (by simp [results, Try.results47, go_sem, repV, excR, repS0, r0, r1, r2, r3]) rfl (HFin.out _ ?_); repeat' (first | with_reducible exact HX.out | with_reducible refine Ext.set' ?_ (by simp [hq]) _))
        | (refine bodyPost_ret (v := repV (excR 3) repS0) (by simp [results, Try.results47, go_sem, repV, excR, repS0, r0, r1, r2, r3]) rfl (HFin.out _ ?_); repeat' (first | with_reducible exact HX.out | with_reducible refine Ext.set' ?_ (by simp [hq]) _))
end Go.Proofs.Ytpjmhckdeeonbaa

namespace Go.Proofs.Ytpjmhckdeeonbaa
set_option linter.unusedVariables false
set_option linter.unusedSimpArgs false
set_option maxRecDepth 100000
set_option maxHeartbeats 1500000
open Go Go.RowKit Go.Out

theorem do_far (u : UnitD) (s : UnitS) (a : AskD) (t : AskS) (w : World) (h : UnitAt w s u) (hu : UnitOk u) (ha : AskRd w a t) (h0 : checkF a = 0) (h20 : a.code ≠ 20) (hf : (u.size : Int) < a.addr + manyF a) :
    Calls Try.prog 47 #[pU s, askV a t] w (RetDo w s u a) := by
  have hC := fun W (hX : Ext w W) => check_any a t W (ha.ext hX)
  have hd : doU u a = (u, excR 2) := by unfold doU; rw [if_neg (by simp [h0, h20]), if_neg (by simp [h0]), if_pos hf]
  have HFin := Lib.hid (show ∀ W, Ext w W → RetDo w s u a (.returned (repV (excR 2) repS0)) W from fun W hX => ⟨repS0, by rw [hd], by rw [hd]; exact repOwE _ _ _ (by unfold i64P; omega), by rw [hd]; exact h.ext hX, .of_ext hX, fun _ => hX⟩)
  have HU := Lib.hid (fun W (hX : Ext w W) => (h.ext hX).cells)
  have hn1 := ha.n1; have hn2 := ha.n2
  obtain ⟨m1, m2, m3, m4, m5⟩ := many_of h0
  have hc := codeP_cases (checkF_parts a h0).1
  have hs := hu.s
  rw [h0] at hC
  generalize manyF a = N at hf m1 m2 m3
  obtain ⟨code, addr, count, on, set, parts⟩ := a
  obtain ⟨A1, n1, c1, A2, n2, c2, A3, n3, c3⟩ := t
  simp only [askV] at hC ⊢
  simp only at h20 hf m1 m2 m3 m4 m5 hc hn1 hn2
  have hl1 : on = [] → n1 = 0 := fun q => by rw [← hn1, q]; rfl
  have hl2 : set = [] → n2 = 0 := fun q => by rw [← hn2, q]; rfl
  have hk : (n1 = 0 ∧ n2 = 0 ∧ 1 ≤ count ∧ count ≤ 2000 ∧ N = count) ∨ (n2 = 0 ∧ count = 0 ∧ 1 ≤ n1 ∧ n1 ≤ 1968 ∧ N = n1) ∨ (n1 = 0 ∧ count = 0 ∧ 1 ≤ n2 ∧ n2 ≤ 123 ∧ N = n2) := by
    rcases hc with q | q | q | q | q | q | q | q | q
    · obtain ⟨e1, e2, e3, e4, e5⟩ := m1 (by omega); exact .inl ⟨hl1 e4, hl2 e5, e2, e3, e1⟩
    · obtain ⟨e1, e2, e3, e4, e5⟩ := m1 (by omega); exact .inl ⟨hl1 e4, hl2 e5, e2, e3, e1⟩
    · obtain ⟨e1, e2, e3, e4, e5⟩ := m1 (by omega); exact .inl ⟨hl1 e4, hl2 e5, e2, e3, e1⟩
    · obtain ⟨e1, e2, e3, e4, e5⟩ := m1 (by omega); exact .inl ⟨hl1 e4, hl2 e5, e2, e3, e1⟩
    · obtain ⟨e1, e2, e3, e4, e5⟩ := m2 (by omega); exact .inr (.inl ⟨hl2 e3, e2, by omega, by omega, by omega⟩)
    · obtain ⟨e1, e2, e3, e4, e5⟩ := m3 (by omega); exact .inr (.inr ⟨hl1 e3, e2, by omega, by omega, by omega⟩)
    · obtain ⟨e1, e2, e3, e4, e5⟩ := m2 (by omega); exact .inr (.inl ⟨hl2 e3, e2, by omega, by omega, by omega⟩)
    · obtain ⟨e1, e2, e3, e4, e5⟩ := m3 (by omega); exact .inr (.inr ⟨hl1 e3, e2, by omega, by omega, by omega⟩)
    · exact absurd q h20
  have HC := Lib.hid hC
  clear hC hd h ha h0 hn1 hn2 m1 m2 m3 hc hl1 hl2
  unfold pU
  generalize RetDo w s u _ = R at HFin ⊢
  obtain ⟨q, hq⟩ : ∃ q, w.heap.size = q := ⟨_, rfl⟩
  have y2 : (code == 20) = false := by simp [h20]
  go_enter Try.func47, Try.ntmps47
  have HK := Lib.hid hk
  have HF := Lib.hid hf
  clear hk hf
  go_wp2_with fail
  refine (HC.out _ (duoU _ _ _)).mono ?_
  rintro e2 w2 ⟨rfl, hx⟩
  have HB := hx.block ((Ext.alloc _ _).block (heap_alloc_new w (.cells #[.int .i64 code, .int .i64 addr, .int .i64 count, .slice A1 n1 c1, .slice A2 n2 c2, .slice A3 n3 c3] 26)))
  have HR := hx.block (heap_alloc_new (w.alloc (.cells #[.int .i64 code, .int .i64 addr, .int .i64 count, .slice A1 n1 c1, .slice A2 n2 c2, .slice A3 n3 c3] 26)) (.cells #[.int .i64 0, .slice none 0 0, .slice none 0 0, .slice none 0 0] 29))
  obtain ⟨b0, b1, b2, b3, b4, b5⟩ := cells6 HB
  obtain ⟨r0, r1, r2, r3⟩ := cells4 HR
  have f0 := fun k => frozen_of_row _ _ k _ _ HR
  have HX := Lib.hid ((duoU _ _ _).trans hx)
  obtain ⟨d0, d1, d2, d3, d4, d5⟩ := HU.out _ HX.out
  clear HB HR hx
  simp only [Go.World.size_alloc, hq] at b0 b1 b2 b3 b4 b5 r0 r1 r2 r3 f0
  clear HC
  have hw : IntKind.i64.wrap (addr + N) = addr + N := IntWalk.i64_in _ (by have := HK.out; omega)
  rcases HK.out with ⟨rfl, rfl, k1, k2, rfl⟩ | ⟨rfl, rfl, k1, k2, rfl⟩ | ⟨rfl, rfl, k1, k2, rfl⟩
  all_goals
    have k3 := HF.out
    clear HK HF
    go_wp2_with fail
    go_region_law (fail)
    all_goals
      go_wp2_with fail
      all_goals first
        | (refine bodyPost_ret (v := repV (excR 2) repS0) (by simp [results, Try.results47, go_sem, repV, excR, repS0, r0, r1, r2, r3]) rfl (HFin.out _ ?_); repeat' (first | with_reducible exact HX.out | with_reducible refine Ext.drew' ?_ | with_reducible refine Ext.set' ?_ (by simp [hq]) _))
        | (exfalso; omega)
end Go.Proofs.Ytpjmhckdeeonbaa

namespace Go.Proofs.Ytpjmhckdeeonbaa
set_option linter.unusedVariables false
set_option linter.unusedSimpArgs false
set_option maxRecDepth 100000
set_option maxHeartbeats 1500000
open Go Go.RowKit Go.Out

/-- One more item laid over. -/
theorem over_snoc {α : Type} {l xs : List α} {k : Nat} {x : α} (h : k + xs.length < l.length) : over l k (xs ++ [x]) = (over l k xs).set (k + xs.length) x := by
  unfold over
  have hl : (l.take k ++ xs).length = k + xs.length := by simp; omega
  rw [List.set_append_right (h := by omega), hl, Nat.sub_self, List.drop_eq_getElem_cons h, List.set_cons_zero, List.length_append, List.length_singleton, ← Nat.add_assoc]
  simp
theorem over_nil {α : Type} {l : List α} {k : Nat} : over l k [] = l := by unfold over; simp
/-- copy of words over a row of words, as one step of a region that draws. -/
theorem step_copy_words {ops : Array Oper} {o : Oper} {a : Act} {w : World} {K : Act → World → Prop} {Q : Exit → Act → World → Prop} {E : Prop} (hgd : o.guard = none) (d s : Operand) (dT sT : TypeId)
    (ho : o.op = .call { callee := .builtin .copy, args := #[d, s], argTypes := #[dT, sT] }) (hu : Try.prog.underlying dT = some (.slice 54))
    {g off dLen dCap sLen sCap : Nat} {A : Option Addr} {l xs : List UInt16} (hd : a.eval d = .slice (some ⟨g, off, none⟩) dLen dCap) (hs : a.eval s = .slice A sLen sCap)
    (hg : w.heap[g]? = some (wordRow l)) (hr : Rd w A sLen (xs.map cW)) (hp : 1 ≤ sLen) (hle : sLen ≤ dLen) (hfit : off + sLen ≤ l.length)
    (h : ∀ w', Hid (w'.heap[g]? = some (wordRow (over l off xs))) → Hid (w.grownBy w' (some g)) → Hid (w'.heap.size = w.heap.size) → K (a.put o.dst (.int .i64 (sLen : Int))) w') :
    if Region.wanted o (yielded ops a.tmps) = true then Oper.wp Try.prog o a w K Q else E := by
  have hw : Region.wanted o (yielded ops a.tmps) = true := by simp [Region.wanted, hgd]
  rw [if_pos hw]
  have hxl : xs.length = sLen := by have := hr.1; simpa using this
  obtain ⟨b, o1, rfl, hb, hc⟩ := hr.2 (by omega)
  have hrun := run_copy_row (P := Try.prog) w dT sT o.type 54 g off dLen dCap ⟨b, o1, none⟩ sLen sCap (l.map cW).toArray 54 (xs.map cW) hu (by kernel_rfl) hg (by rw [List.length_map, hxl]; exact (Nat.min_eq_left hle).symm)
    (fun j v hv => by rw [Addr.add_lit]; exact hc j v hv) (by simp [hxl]; omega) (fun v hv => isU16_one (isU16_map v hv))
  unfold Oper.wp
  simp only [execOp, ho, resolve, invoke, builtin, Sem.run_bind, Sem.run_pure, Result.andThen_ok, List.map_toArray, List.map_cons, List.map_nil, hd, hs, hrun]
  have e : (((l.map cW).toArray.toList.take off ++ xs.map cW ++ (l.map cW).toArray.toList.drop (off + (xs.map cW).length)).toArray) = ((over l off xs).map cW).toArray := by
    unfold over; simp [List.map_take, List.map_drop]
  rw [e]
  have e2 : goInt ((xs.map cW).length : Nat) = .int .i64 (sLen : Int) := by rw [List.length_map, hxl]; rfl
  rw [e2]
  exact h _ (Lib.hid (setRow_heap w g _ _ 54 _ hg)) (Lib.hid ⟨rfl, rfl, rfl, by simp, fun k _ hk => setRow_other w g k _ (fun e => hk (by simp [e]))⟩) (Lib.hid (by simp))
theorem parts_of {a : AskD} (h : checkF a = 0) (h2 : a.code ≠ 20) : a.parts = [] := by
  rcases Go.Out.ask_cases h with ⟨c, A, n, _, _, _, _, _, rfl⟩ | ⟨A, x, _, rfl⟩ | ⟨A, v, _, rfl⟩ | ⟨A, l, _, _, _, rfl⟩ | ⟨A, l, _, _, _, rfl⟩ | ⟨l, _, _, _, rfl⟩
  · rfl
  · rfl
  · rfl
  · rfl
  · rfl
  · exact absurd rfl h2
/-- An act upon a unit: what it has become, and that nothing else has turned. -/
structure ActU (s : UnitS) (w : World) (u : UnitD) (w' : World) : Prop where
  at_ : UnitAt w' s u
  only : OnlyU s w w'
  lt : s.p < w.heap.size ∧ s.g1 < w.heap.size ∧ s.g2 < w.heap.size ∧ s.g3 < w.heap.size ∧ s.g4 < w.heap.size
theorem UnitAt.act {w : World} {s : UnitS} {u : UnitD} (h : UnitAt w s u) : ActU s w u w := ⟨h, OnlyU.refl _ _, h.lt⟩
theorem ActU.below {s : UnitS} {w w1 w2 : World} {u : UnitD} (h : ActU s w u w1) (hb : Below w.heap.size w1 w2) : ActU s w u w2 :=
  ⟨⟨(hb.block _ h.lt.1).trans h.at_.row, (hb.block _ h.lt.2.1).trans h.at_.t1, (hb.block _ h.lt.2.2.1).trans h.at_.t2, (hb.block _ h.lt.2.2.2.1).trans h.at_.t3, (hb.block _ h.lt.2.2.2.2).trans h.at_.t4, h.at_.ne⟩,
   ⟨hb.os.trans h.only.os, hb.tape.trans h.only.tape, hb.output.trans h.only.output, Nat.le_trans h.only.size hb.size, fun k hk h0 h1 h2 h3 h4 => (hb.block k hk).trans (h.only.block k hk h0 h1 h2 h3 h4)⟩, h.lt⟩
theorem ActU.ext {s : UnitS} {w w1 w2 : World} {u : UnitD} (h : ActU s w u w1) (hx : Ext w1 w2) : ActU s w u w2 :=
  h.below ⟨hx.os, hx.tape, hx.output, hx.size, fun k hk => Below.block hx k (Nat.lt_of_lt_of_le hk h.only.size)⟩
theorem ActU.set' {s : UnitS} {w w1 : World} {u : UnitD} (h : ActU s w u w1) {q : Addr} (hq : w.heap.size ≤ q.block) (v : Value) : ActU s w u (w1.setCell q v) :=
  h.below ⟨rfl, rfl, rfl, by simp [World.setCell], fun k hk => Below.heap_setCell w1 q v k (by omega)⟩
theorem ActU.drew' {s : UnitS} {w w1 : World} {u : UnitD} (h : ActU s w u w1) : ActU s w u w1.drew := h.ext (Ext.draw _)
theorem ActU.alloc' {s : UnitS} {w w1 : World} {u : UnitD} (h : ActU s w u w1) (o : Obj) : ActU s w u (w1.alloc o) := h.ext (Ext.alloc _ _)
theorem UnitAt.setWrote {w : World} {s : UnitS} {u : UnitD} (h : UnitAt w s u) (n : Nat) : UnitAt (w.setCell ⟨s.p, 5, none⟩ (.int .i64 (n : Int))) s { u with wrote := n } := by
  obtain ⟨n0, n1, n2, n3, -⟩ := h.ne
  have K : ∀ k, k ≠ s.p → (w.setCell ⟨s.p, 5, none⟩ (.int .i64 (n : Int))).heap[k]? = w.heap[k]? := fun k hk => Below.heap_setCell w ⟨s.p, 5, none⟩ _ k hk
  refine ⟨?_, (K _ (Ne.symm n0)).trans h.t1, (K _ (Ne.symm n1)).trans h.t2, (K _ (Ne.symm n2)).trans h.t3, (K _ (Ne.symm n3)).trans h.t4, h.ne⟩
  rw [Go.heap_setCell_same w s.p 5 _ _ _ h.row]; rfl
theorem ActU.wrote {s : UnitS} {w w1 : World} {u : UnitD} (h : ActU s w u w1) : ActU s w { u with wrote := u.wrote + 1 } (w1.setCell ⟨s.p, 5, none⟩ (.int .i64 ((u.wrote : Int) + 1))) :=
  ⟨h.at_.setWrote (u.wrote + 1), h.only.trans (OnlyU.set (.inl rfl) 5 _), h.lt⟩
theorem ActU.set1 {s : UnitS} {w w1 : World} {u : UnitD} (h : ActU s w u w1) (c : Int) (j : Nat) (v : UInt16) : ActU s w (putU u c ((tabU u c).set j v)) (w1.setCell ⟨tabS s c, j, none⟩ (cW v)) :=
  ⟨h.at_.set1 c j v, h.only.trans (OnlyU.set (.inr (tabS_mem s c)) j _), h.lt⟩
theorem ActU.tab {s : UnitS} {w w1 w5 : World} {u : UnitD} {l : List UInt16} (h : ActU s w u w1) (c : Int) (hg : w1.grownBy w5 (some (tabS s c))) (h5 : w5.heap[tabS s c]? = some (wordRow l)) : ActU s w (putU u c l) w5 :=
  ⟨h.at_.setTab c w5 (fun k hk hlt => hg.block k hlt (by simpa using hk)) h5, h.only.trans ⟨hg.os, hg.tape, hg.output, hg.size, fun k hk h0 h1 h2 h3 h4 => hg.block k hk (by
    rcases tabS_mem s c with e | e | e | e <;> rw [e] <;> simpa using by assumption)⟩, h.lt⟩
theorem do_words (u : UnitD) (s : UnitS) (a : AskD) (t : AskS) (w : World) (h : UnitAt w s u) (hu : UnitOk u) (ha : AskRd w a t) (h0 : checkF a = 0) (h6 : a.code = 6 ∨ a.code = 16) (hf : ¬ (u.size : Int) < a.addr + manyF a) (hwr : u.wrote < 4611686018427387904) :
    Calls Try.prog 47 #[pU s, askV a t] w (RetDo w s u a) := by
  have hC := fun W (hX : Ext w W) => check_any a t W (ha.ext hX)
  have hd : doU u a = ({ u with t3 := over u.t3 a.addr.toNat a.set, wrote := u.wrote + 1 }, rep0) := by
    unfold doU; rw [if_neg (by omega), if_neg (by simp [h0]), if_neg hf, if_neg (by omega), if_neg (by omega), if_neg (by omega)]
  have hp := parts_of h0 (by omega)
  have HFin := Lib.hid (show ∀ W, ActU s w { u with t3 := over u.t3 a.addr.toNat a.set, wrote := u.wrote + 1 } W → RetDo w s u a (.returned (repV rep0 repS0)) W from
    fun W hA => ⟨repS0, by rw [hd], by rw [hd]; exact repOwE _ _ 0 (by unfold i64P; omega), by rw [hd]; exact hA.at_, hA.only, fun hq => absurd hp hq⟩)
  have HU := Lib.hid (fun W (hX : Ext w W) => (h.ext hX).cells)
  have HUA := Lib.hid h
  have hn1 := ha.n1; have hn2 := ha.n2
  have hset := ha.set
  obtain ⟨m1, m2, m3, m4, m5⟩ := many_of h0
  obtain ⟨e1, e2, e3, e4, e5⟩ := m3 h6
  have hs := hu.s
  rw [h0] at hC
  rw [e1] at hf
  obtain ⟨code, addr, count, on, set, parts⟩ := a
  obtain ⟨A1, n1, c1, A2, n2, c2, A3, n3, c3⟩ := t
  simp only at h6 hf m4 m5 hn1 hn2 e2 e3 e4 e5 HFin hset
  subst e2 e3
  obtain rfl : n1 = 0 := by rw [← hn1]; rfl
  obtain ⟨k, rfl⟩ : ∃ k : Nat, addr = (k : Int) := ⟨addr.toNat, by omega⟩
  simp only [askV] at hC ⊢
  have HC := Lib.hid hC
  have HAL := Lib.hid hset
  have hw : IntKind.i64.wrap ((k : Int) + (n2 : Int)) = (k : Int) + (n2 : Int) := IntWalk.i64_in _ (by omega)
  have hk1 : (k : Int) + (n2 : Int) ≤ (u.size : Int) := by omega
  have hk2 : 1 ≤ n2 ∧ n2 ≤ 123 := by omega
  have hk3 : k ≤ u.size := by omega
  have hk4 : ¬ u.size = k := by omega
  have hwrap : IntKind.i64.wrap ((u.wrote : Int) + 1) = (u.wrote : Int) + 1 := IntWalk.i64_in _ (by omega)
  rw [Int.toNat_natCast] at HFin
  clear hC h ha hset h0 m1 m2 m3 e1 hd hp
  unfold pU
  generalize RetDo w s u _ = R at HFin ⊢
  obtain ⟨q, hq⟩ : ∃ q, w.heap.size = q := ⟨_, rfl⟩
  have y2 : (code == 20) = false := by simp; omega
  have y3 : (code == 1) = false := by simp; omega
  have y4 : (code == 2) = false := by simp; omega
  have y5 : (code == 3) = false := by simp; omega
  have y6 : (code == 4) = false := by simp; omega
  have y7 : (code == 5) = false := by simp; omega
  have y8 : (code == 15) = false := by simp; omega
  go_enter Try.func47, Try.ntmps47
  go_wp2_with fail
  refine (HC.out _ (duoU _ _ _)).mono ?_
  rintro e2 w2 ⟨rfl, hx⟩
  have HB := Lib.hid (hx.block ((Ext.alloc _ _).block (heap_alloc_new w (.cells #[.int .i64 code, .int .i64 (k : Int), .int .i64 0, .slice A1 0 c1, .slice A2 n2 c2, .slice A3 n3 c3] 26))))
  have HR := Lib.hid (hx.block (heap_alloc_new (w.alloc (.cells #[.int .i64 code, .int .i64 (k : Int), .int .i64 0, .slice A1 0 c1, .slice A2 n2 c2, .slice A3 n3 c3] 26)) (.cells #[.int .i64 0, .slice none 0 0, .slice none 0 0, .slice none 0 0] 29)))
  have HX := Lib.hid ((duoU _ _ _).trans hx)
  obtain ⟨b0, b1, b2, b3, b4, b5⟩ := cells6 HB.out
  obtain ⟨d0, d1, d2, d3, d4, d5⟩ := HU.out _ HX.out
  have B0 := fun o => (cells6 ((Ext.alloc w2 o).block HB.out)).1
  have B1 := fun o => (cells6 ((Ext.alloc w2 o).block HB.out)).2.1
  have B4 := fun o => (cells6 ((Ext.alloc w2 o).block HB.out)).2.2.2.2.1
  have E3 := fun o => (HU.out _ (HX.out.trans (Ext.alloc w2 o))).2.2.2.1
  have E5 := fun o => (HU.out _ (HX.out.trans (Ext.alloc w2 o))).2.2.2.2.2
  clear hx
  simp only [hq] at B0 B1 B4
  simp only [Go.World.size_alloc, hq] at b0 b1 b2 b3 b4 b5
  clear HC
  go_wp2_with fail
  go_region_law (fail)
  all_goals
    go_wp2_with fail
  all_goals
    have HLT := Lib.hid HUA.out.lt
    have HN := Lib.hid HUA.out.ne
    have HRB := Lib.hid (heap_alloc_new w2 (.cells #[.int .i64 0, .slice none 0 0, .slice none 0 0, .slice none 0 0] 29))
    have HXS := Lib.hid HX.out.size
    have HAX := Lib.hid (HUA.out.act.ext (HX.out.trans (Ext.alloc w2 (.cells #[.int .i64 0, .slice none 0 0, .slice none 0 0, .slice none 0 0] 29))))
    go_region_law ((
      refine step_copy_words rfl (.tmp 57) (.tmp 59) _ _ rfl Try.underlying23 (l := u.t3) (xs := set) rfl rfl HAX.out.at_.t3 (HAL.out.ext (HX.out.trans (Ext.drew' (Ext.drew' (Ext.alloc w2 _))))) (by omega) (by omega) (by have := hu.l3; omega) ?_
      intro w5 h5 g5 z5
      clear d0 d1 d2 d3 d4 d5 E3 E5 B0 B1 B4 b0 b1 b2 b3 b4 b5))
    all_goals
      have HA5 := Lib.hid ((HAX.out.drew'.drew'.tab 3 g5.out h5.out : ActU s w (putU u 3 (over u.t3 k set)) w5))
      have c5 : w5.cell? ⟨s.p, 5, none⟩ = some (.int .i64 (u.wrote : Int)) := HA5.out.at_.cells.2.2.2.2.2
      have f5 := frozen_of_row _ _ 5 _ _ HA5.out.at_.row
      have hs1 := HLT.out.2.2.2.1
      have hs2 := HLT.out.1
      have hs3 := HXS.out
      have hRz := lt_of_heap HR.out
      have R5 : w5.heap[w2.heap.size]? = some (.cells #[.int .i64 0, .slice none 0 0, .slice none 0 0, .slice none 0 0] 29 (0, 0)) := (g5.out.block _ (by simp) (by simp; omega)).trans HRB.out
      have Q5 : w5.heap[q + 1]? = some (.cells #[.int .i64 0, .slice none 0 0, .slice none 0 0, .slice none 0 0] 29 (0, 0)) := by
        have hh := (Ext.alloc w2 (.cells #[.int .i64 0, .slice none 0 0, .slice none 0 0, .slice none 0 0] 29)).block HR.out
        simp only [Go.World.size_alloc, hq] at hh hRz
        exact (g5.out.block _ (by simp; omega) (by simp; omega)).trans hh
      have HAW : Hid (ActU s w { u with t3 := over u.t3 k set, wrote := u.wrote + 1 } (w5.setCell ⟨s.p, 5, none⟩ (.int .i64 ((u.wrote : Int) + 1)))) := HA5.out.wrote
      have R6 := (Below.heap_setCell w5 ⟨s.p, 5, none⟩ (.int .i64 ((u.wrote : Int) + 1)) w2.heap.size (by simp; omega)).trans R5
      have Q6 := (Below.heap_setCell w5 ⟨s.p, 5, none⟩ (.int .i64 ((u.wrote : Int) + 1)) (q + 1) (by simp; omega)).trans Q5
      obtain ⟨r0, r1, r2, r3⟩ := cells4 R6
      obtain ⟨q0, q1, q2, q3⟩ := cells4 Q6
      have f6 := fun k => frozen_of_row _ _ k _ _ Q6
      clear R5 Q5 R6 Q6 HAX HA5 HRB HN HB HU HUA HAL h5 g5 z5
      go_wp2_with fail
      refine bodyPost_ret (v := repV rep0 repS0) (by simp [results, Try.results47, go_sem, repV, rep0, repS0, q0, q1, q2, q3]) rfl (HFin.out _ ?_)
      repeat' (first | with_reducible exact HAW.out | with_reducible refine ActU.drew' ?_ | with_reducible refine ActU.set' ?_ (by simp [hq]) _)
end Go.Proofs.Ytpjmhckdeeonbaa
