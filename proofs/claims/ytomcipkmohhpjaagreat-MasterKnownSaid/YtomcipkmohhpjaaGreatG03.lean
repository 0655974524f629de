/- Answers to requests (chapter 04): what they read as; contracts of reply.foreign and reply.counted. -/
import Derived.Test.YtomcipkmohhpjaaGreatG02
import Derived.BigQuiet
import Derived.Deep.QuietTactic
import Derived.Test.YtomcipkmohhpjaaGreatG01
import Derived.Test.YtomcipkmohhpjaaGreatG00
namespace Go.Out
set_option linter.unusedVariables false
open Go Go.RowKit
structure RepD where
  exc : Int
  on : List Bool
  set : List UInt16
  files : List (List UInt16)
def rep0 : RepD := ⟨0, [], [], []⟩
structure RepS where
  A1 : Option Addr
  n1 : Nat
  c1 : Nat
  A2 : Option Addr
  n2 : Nat
  c2 : Nat
  A3 : Option Addr
  n3 : Nat
  c3 : Nat
def repS0 : RepS := ⟨none, 0, 0, none, 0, 0, none, 0, 0⟩
def repV (r : RepD) (s : RepS) : Value := .agg #[.int .i64 r.exc, .slice s.A1 s.n1 s.c1, .slice s.A2 s.n2 s.c2, .slice s.A3 s.n3 s.c3]
/-- A row of words, as its one cell. -/
def fileK : Kind (List UInt16) := ⟨1, fun w cs x => ∃ A n c, cs = [.slice A n c] ∧ Rd w A n (x.map cW) ∧ n ≤ c ∧ c ≤ 9223372036854775807 ∧ n ≤ 70368744175616, fun ⟨A, n, c, h1, h2, h3⟩ hx => ⟨A, n, c, h1, h2.ext hx, h3⟩⟩
/-- Has an answer that is no exception a list that it should not have? -/
def foreignB (code : Int) (n1 n2 n3 : Nat) : Bool :=
  if code = 1 ∨ code = 2 then decide (0 < n2) || decide (0 < n3) else if code = 3 ∨ code = 4 then decide (0 < n1) || decide (0 < n3)
  else if code = 20 then decide (0 < n1) || decide (0 < n2) else decide (0 < n1) || decide (0 < n2) || decide (0 < n3)
/-- Are the rows as long as the parts say? -/
def sizedB : List (List UInt16) → List PartD → Bool
  | [], [] => true
  | f :: fs, p :: ps => decide ((f.length : Int) = p.len) && sizedB fs ps
  | _, _ => false
def countedB (a : AskD) (r : RepD) : Bool :=
  if a.code = 1 ∨ a.code = 2 then decide ((r.on.length : Int) = a.count) else if a.code = 3 ∨ a.code = 4 then decide ((r.set.length : Int) = a.count) else sizedB r.files a.parts
def checkR (a : AskD) (r : RepD) : Int :=
  if checkF a ≠ 0 then checkF a else if r.exc ≠ 0 then (if r.exc < 1 ∨ 127 < r.exc then 3 else if 0 < r.on.length ∨ 0 < r.set.length ∨ 0 < r.files.length then 23 else 0)
  else if foreignB a.code r.on.length r.set.length r.files.length = true then 23 else if countedB a r = false then 22 else 0
theorem sizedB_len : ∀ {fs : List (List UInt16)} {ps : List PartD}, fs.length ≠ ps.length → sizedB fs ps = false
  | [], [], h => absurd rfl h
  | [], _ :: _, _ => rfl
  | _ :: _, [], _ => rfl
  | f :: fs, p :: ps, h => by
    unfold sizedB
    rw [sizedB_len (by simpa using h), Bool.and_false]
theorem sizedB_iff : ∀ {fs : List (List UInt16)} {ps : List PartD}, fs.length = ps.length → (sizedB fs ps = true ↔ ∀ (k : Nat) (h1 : k < fs.length) (h2 : k < ps.length), (fs[k].length : Int) = ps[k].len)
  | [], [], _ => by simp [sizedB]
  | [], _ :: _, h => by simp at h
  | _ :: _, [], h => by simp at h
  | f :: fs, p :: ps, h => by
    have ih := sizedB_iff (fs := fs) (ps := ps) (by simpa using h)
    unfold sizedB
    rw [Bool.and_eq_true, decide_eq_true_iff, ih]
    constructor
    · rintro ⟨h1, h2⟩ k q1 q2
      rcases k with _ | k
      · exact h1
      · exact h2 k (by simpa using q1) (by simpa using q2)
    · intro hh
      exact ⟨hh 0 (by simp) (by simp), fun k q1 q2 => hh (k + 1) (by simpa using q1) (by simpa using q2)⟩
theorem rep_cells (W : World) {w : World} {v0 v1 v2 v3 : Value} {t : TypeId} (hX : Ext (w.alloc (.cells #[v0, v1, v2, v3] t)) W) :
    W.cell? ⟨w.heap.size, 0, none⟩ = some v0 ∧ W.cell? ⟨w.heap.size, 1, none⟩ = some v1 ∧ W.cell? ⟨w.heap.size, 2, none⟩ = some v2 ∧ W.cell? ⟨w.heap.size, 3, none⟩ = some v3 := by
  have h := hX.block (heap_alloc_new w _)
  exact ⟨cell_of_row _ _ _ _ _ _ h, cell_of_row _ _ _ _ _ _ h, cell_of_row _ _ _ _ _ _ h, cell_of_row _ _ _ _ _ _ h⟩
end Go.Out
namespace Go.Proofs.YtomcipkmohhpjaaGreat
set_option linter.unusedVariables false
set_option linter.unusedSimpArgs false
set_option maxRecDepth 100000
set_option maxHeartbeats 2000000
open Go Go.RowKit Go.Out

structure RepRd (w : World) (r : RepD) (s : RepS) : Prop where
  on : Rd w s.A1 s.n1 (r.on.map cL)
  set : Rd w s.A2 s.n2 (r.set.map cW)
  files : RdL fileK w s.A3 s.n3 r.files
  exc : i64P r.exc
  cap1 : s.n1 ≤ s.c1 ∧ s.c1 ≤ 9223372036854775807
  cap2 : s.n2 ≤ s.c2 ∧ s.c2 ≤ 9223372036854775807
  cap3 : s.n3 ≤ s.c3 ∧ s.c3 ≤ 9223372036854775807
theorem RepRd.ext {w w' : World} {r : RepD} {s : RepS} (h : RepRd w r s) (hx : Ext w w') : RepRd w' r s :=
  ⟨h.on.ext hx, h.set.ext hx, h.files.ext hx, h.exc, h.cap1, h.cap2, h.cap3⟩
theorem RepRd.n1 {w : World} {r : RepD} {s : RepS} (h : RepRd w r s) : r.on.length = s.n1 := by have := h.on.length; simpa using this
theorem RepRd.n2 {w : World} {r : RepD} {s : RepS} (h : RepRd w r s) : r.set.length = s.n2 := by have := h.set.length; simpa using this
theorem RepRd.n3 {w : World} {r : RepD} {s : RepS} (h : RepRd w r s) : r.files.length = s.n3 := h.files.length

theorem foreign_any (code exc : Int) (A1 A2 A3 : Option Addr) (n1 c1 n2 c2 n3 c3 : Nat) (w : World) (hp : codeP code) :
    Calls Tryz.prog 105 #[.int .i64 code, .agg #[.int .i64 exc, .slice A1 n1 c1, .slice A2 n2 c2, .slice A3 n3 c3]] w (RetQ w (foreignB code n1 n2 n3)) := by
  rcases codeP_cases hp with rfl | rfl | rfl | rfl | rfl | rfl | rfl | rfl | rfl
  all_goals
    clear hp
    go_enter Tryz.func105, Tryz.ntmps105
    go_wp2_with fail
    go_quiet (fail)
    go_wp2_with fail
    all_goals
      go_ret
      refine RetQ.of ?_ (by repeat' (first | with_reducible exact Ext.alloc _ _ | with_reducible refine Ext.drewN' ?_ _ | with_reducible refine Ext.drew' ?_))
      simp [foreignB]
      try omega
theorem counted_len (a : AskD) (r : RepD) (s : AskS) (t : RepS) (w : World) (h1 : a.code = 1 ∨ a.code = 2 ∨ a.code = 3 ∨ a.code = 4) (hr : RepRd w r t) :
    Calls Tryz.prog 106 #[askV a s, repV r t] w (RetQ w (countedB a r)) := by
  have e1 := hr.n1; have e2 := hr.n2
  obtain ⟨code, addr, count, on, set, parts⟩ := a
  obtain ⟨exc, ron, rset, files⟩ := r
  obtain ⟨A1, n1, c1, A2, n2, c2, A3, n3, c3⟩ := s
  obtain ⟨B1, m1, k1, B2, m2, k2, B3, m3, k3⟩ := t
  simp only at e1 e2 h1
  simp only [askV, repV]
  clear hr
  rcases h1 with rfl | rfl | rfl | rfl
  all_goals
    go_enter Tryz.func106, Tryz.ntmps106
    go_wp2_with fail
    go_ret
    refine RetQ.of ?_ ((Ext.alloc _ _).trans (Ext.alloc _ _))
    simp [countedB, e1, e2]
    try rfl
theorem counted_rows (a : AskD) (r : RepD) (s : AskS) (t : RepS) (w : World) (h1 : a.code ≠ 1) (h2 : a.code ≠ 2) (h3 : a.code ≠ 3) (h4 : a.code ≠ 4) (ha : AskRd w a s) (hr : RepRd w r t) :
    Calls Tryz.prog 106 #[askV a s, repV r t] w (RetQ w (countedB a r)) := by
  have e3 := ha.n3; have g3 := hr.n3
  have hC : countedB a r = sizedB r.files a.parts := by unfold countedB; rw [if_neg (by omega), if_neg (by omega)]
  have HA := Lib.hid ha.parts
  have HR := Lib.hid hr.files
  have q1 := hr.cap3; have q2 := ha.cap3
  obtain ⟨code, addr, count, on, set, parts⟩ := a
  obtain ⟨exc, ron, rset, files⟩ := r
  obtain ⟨A1, n1, c1, A2, n2, c2, A3, n3, c3⟩ := s
  obtain ⟨B1, m1, k1, B2, m2, k2, B3, m3, k3⟩ := t
  simp only at e3 g3 h1 h2 h3 h4 q1 q2 HA HR hC
  simp only [askV, repV]
  rw [hC]
  clear ha hr hC
  by_cases hl : m3 = n3
  · subst hl
    have HI := Lib.hid (sizedB_iff (fs := files) (ps := parts) (by omega))
    have G3 := Lib.hid g3; have E3 := Lib.hid e3
    clear e3 g3
    go_enter Tryz.func106, Tryz.ntmps106
    go_wp2_with fail
    obtain ⟨V, hV⟩ : ∃ V, (w.alloc (.cells #[.int .i64 code, .int .i64 addr, .int .i64 count, .slice A1 n1 c1, .slice A2 n2 c2, .slice A3 m3 c3] 37)).alloc (.cells #[.int .i64 exc, .slice B1 m1 k1, .slice B2 m2 k2, .slice B3 m3 k3] 40) = V := ⟨_, rfl⟩
    have XV := Lib.hid (show Ext w V from hV ▸ (Ext.alloc _ _).trans (Ext.alloc _ _))
    have HB := Lib.hid (show V.heap[w.heap.size + 1]? = some (.cells #[.int .i64 exc, .slice B1 m1 k1, .slice B2 m2 k2, .slice B3 m3 k3] 40 (0, 0)) from hV ▸ heap_at _ _ _ (by simp))
    rw [hV]
    clear hV
    go_loopw [5, 6, 37] (fun i p j wr => ∃ k : Nat, k ≤ m3 ∧ j = .int .i64 (k : Int) ∧ Ext V wr ∧ Hid (∀ (q : Nat) (h1 : q < files.length) (h2 : q < parts.length), q < k → (files[q].length : Int) = parts[q].len)) (fun _ _ j _ => m3 - (intOf j).toNat)
    case atStart => exact ⟨0, by omega, rfl, Ext.refl _, Lib.hid fun q _ _ h => absurd h (by omega)⟩
    case round =>
      obtain ⟨k, hk, rfl, hx, HG⟩ := hrel
      rcases Nat.lt_or_ge k m3 with hlt | hge
      · have hf : k < files.length := by rw [G3.out]; exact hlt
        have hp : k < parts.length := by rw [E3.out]; exact hlt
        obtain ⟨b, off, rfl, hbk, hl', cs, -, hc, hR⟩ := (HA.out.ext (XV.out.trans hx)).at_ hlt
        obtain ⟨rfl, -⟩ := id hR
        have d0 : wr.cell? ⟨b, off + k * 3, none⟩ = some (.int .i64 parts[k].file) := hc 0 _ rfl
        have d1 : wr.cell? ⟨b, off + k * 3 + 1, none⟩ = some (.int .i64 parts[k].record) := hc 1 _ rfl
        have d2 : wr.cell? ⟨b, off + k * 3 + 2, none⟩ = some (.int .i64 parts[k].len) := hc 2 _ rfl
        have e3 : wr.cell? ⟨w.heap.size + 1, 3, none⟩ = some (.slice B3 m3 k3) := cell_of_row _ _ _ _ _ _ (hx.block HB.out)
        obtain ⟨g, of2, rfl, hgk, hl2, cs2, -, hc2, A5, n5, c5, rfl, hr5, -⟩ := (HR.out.ext (XV.out.trans hx)).at_ hlt
        have f0 : wr.cell? ⟨g, of2 + k, none⟩ = some (.slice A5 n5 c5) := by have := hc2 0 _ rfl; simpa [fileK] using this
        have hn5 : files[k].length = n5 := by have := hr5.length; simpa using this
        have hz : w.heap.size + 1 < wr.heap.size := Nat.lt_of_lt_of_le (lt_of_heap HB.out) hx.size
        have e3' := fun o : Obj => (Ext.alloc wr o).cell hz e3
        have f0' := fun o : Obj => (Ext.alloc wr o).cell hgk f0
        have HN := Lib.hid hn5
        have X0 := Lib.hid hx
        have HGS : Hid ((n5 : Int) = parts[k].len → ∀ (q : Nat) (h1 : q < files.length) (h2 : q < parts.length), q < k + 1 → (files[q].length : Int) = parts[q].len) := fun he q q1 q2 hq => by
          by_cases hqk : q = k
          · subst hqk; rw [HN.out]; exact he
          · exact HG.out q q1 q2 (by omega)
        have HGN : Hid ((n5 : Int) ≠ parts[k].len → sizedB files parts = false) := fun he => by
          cases hs : sizedB files parts with
          | false => rfl
          | true => exact absurd (by rw [← HN.out]; exact HI.out.1 hs k hf hp) he
        generalize parts[k].file = P0 at *
        generalize parts[k].record = P1 at *
        generalize parts[k].len = P2 at *
        clear hc hR hc2 hr5 hn5 hx HI HG
        by_cases he : (n5 : Int) = P2
        · have ht : ((n5 : Int) != P2) = false := by simpa using he
          go_wp2_with fail
          go_quiet (fail)
          go_wp2_with fail
          go_roundw
          case rel => exact ⟨k + 1, by omega, by go_num, by repeat' (first | with_reducible exact X0.out | with_reducible refine Ext.drewN' ?_ _ | with_reducible refine Ext.drew' ?_ | with_reducible refine Ext.alloc' ?_ _), Lib.hid (HGS.out he)⟩
          case measure => simp [intOf]; omega
        · have ht : ((n5 : Int) != P2) = true := by simpa using he
          go_wp2_with fail
          go_quiet (fail)
          go_wp2_with fail
          go_ret
          refine RetQ.of (HGN.out he) (XV.out.trans ?_)
          repeat' (first | with_reducible exact X0.out | with_reducible refine Ext.drewN' ?_ _ | with_reducible refine Ext.drew' ?_ | with_reducible refine Ext.alloc' ?_ _)
      · obtain rfl : k = m3 := by omega
        go_wp2_with fail
        all_goals
          go_ret
          refine RetQ.of ?_ (XV.out.trans hx)
          exact HI.out.2 fun q h1 h2 => HG.out q h1 h2 (by rw [← G3.out]; exact h1)
  · have hf : sizedB files parts = false := sizedB_len (by omega)
    rw [hf]
    have hl2 : ((m3 : Int) != (n3 : Int)) = true := by simp; omega
    go_enter Tryz.func106, Tryz.ntmps106
    go_wp2_with fail
    go_ret
    exact ⟨rfl, (Ext.alloc _ _).trans (Ext.alloc _ _)⟩
end Go.Proofs.YtomcipkmohhpjaaGreat

namespace Go.Out
open Go Go.RowKit
set_option linter.unusedVariables false

def fileB (f : List UInt16) : List UInt8 := UInt8.ofNat (1 + 2 * f.length) :: 6 :: wb f
def filesB (l : List (List UInt16)) : List UInt8 := l.flatMap fileB
def bodyR (a : AskD) (r : RepD) : List UInt8 := if a.code = 1 ∨ a.code = 2 then bitsF r.on else if a.code = 3 ∨ a.code = 4 then wb r.set else filesB r.files
def plainC (c : Int) : Prop := c = 1 ∨ c = 2 ∨ c = 3 ∨ c = 4 ∨ c = 20
instance (c : Int) : Decidable (plainC c) := by unfold plainC; infer_instance
def putR (a : AskD) (r : RepD) : List UInt8 × Int :=
  if checkR a r ≠ 0 then ([], checkR a r) else if r.exc ≠ 0 then ([UInt8.ofNat (a.code + 128).toNat, UInt8.ofNat r.exc.toNat], 0)
  else if plainC a.code then (UInt8.ofNat a.code.toNat :: UInt8.ofNat (bodyR a r).length :: bodyR a r, 0) else ((putA a).1.take 5, 0)
def lenR (a : AskD) : Nat := if a.code = 1 ∨ a.code = 2 then 2 + need a.count.toNat else if a.code = 3 ∨ a.code = 4 then 2 + 2 * a.count.toNat else if a.code = 20 then 2 + (sumP a.parts).toNat else 5
def filesOf : List PartD → List UInt8 → Option (List (List UInt16))
  | [], _ => some []
  | p :: ps, h :: g :: r => if (h.toNat : Int) = 1 + 2 * p.len ∧ g = 6 then (filesOf ps (r.drop (2 * p.len.toNat))).map (bw (r.take (2 * p.len.toNat)) :: ·) else none
  | _, _ => none
def readR (a : AskD) (b : List UInt8) : Option RepD :=
  if ¬ plainC a.code then (if (putA a).1.take 5 = b then some rep0 else none)
  else if ((b.getD 1 0).toNat : Int) ≠ (b.length : Int) - 2 then none
  else if a.code = 1 ∨ a.code = 2 then (if (unbitsF (b.drop 2) a.count).2 = 0 then some ⟨0, (unbitsF (b.drop 2) a.count).1, [], []⟩ else none)
  else if a.code = 3 ∨ a.code = 4 then some ⟨0, [], bw (b.drop 2), []⟩
  else (filesOf a.parts (b.drop 2)).map fun l => ⟨0, [], [], l⟩
def exR (b : List UInt8) : RepD × Int :=
  if b.length < 2 then (rep0, 1) else if 2 < b.length then (rep0, 2) else if b.getD 1 0 = 0 ∨ 127 < (b.getD 1 0).toNat then (rep0, 3) else (⟨((b.getD 1 0).toNat : Nat), [], [], []⟩, 0)
def getR (a : AskD) (b : List UInt8) : RepD × Int :=
  if checkF a ≠ 0 then (rep0, checkF a) else if b.length = 0 then (rep0, 1) else if (b0 b : Int) = a.code + 128 then exR b
  else if (b0 b : Int) ≠ a.code then (rep0, 20) else if b.length < lenR a then (rep0, 1) else if lenR a < b.length then (rep0, 2)
  else match readR a b with
    | some r => (r, 0)
    | none => (rep0, 4)

theorem need_le {n : Nat} (h : n ≤ 2000) : need n ≤ 250 := by unfold need; omega
theorem rep_cases {a : AskD} {r : RepD} (h : checkR a r = 0) : checkF a = 0 ∧
    ((∃ e : Nat, 1 ≤ e ∧ e ≤ 127 ∧ r = ⟨(e : Nat), [], [], []⟩) ∨
    ((a.code = 1 ∨ a.code = 2) ∧ (∃ l : List Bool, (l.length : Int) = a.count ∧ 1 ≤ l.length ∧ l.length ≤ 2000 ∧ r = ⟨0, l, [], []⟩)) ∨
    ((a.code = 3 ∨ a.code = 4) ∧ (∃ l : List UInt16, (l.length : Int) = a.count ∧ 1 ≤ l.length ∧ l.length ≤ 125 ∧ r = ⟨0, [], l, []⟩)) ∨
    (a.code = 20 ∧ (∃ l, sizedB l a.parts = true ∧ partsF a.parts = 0 ∧ r = ⟨0, [], [], l⟩)) ∨
    ((a.code = 5 ∨ a.code = 6 ∨ a.code = 15 ∨ a.code = 16) ∧ r = rep0)) := by
  unfold checkR at h
  by_cases hK : checkF a = 0
  · refine ⟨hK, ?_⟩
    rw [if_neg (by simpa using hK)] at h
    obtain ⟨exc, on, set, files⟩ := r
    simp only at h
    by_cases hE : exc = 0
    · subst hE
      rw [if_neg (by simp)] at h
      split at h
      · simp at h
      · rename_i hf
        split at h
        · simp at h
        · rename_i hc
          simp only [Bool.not_eq_true] at hf
          simp only [Bool.not_eq_false] at hc
          have hp := checkF_parts a hK
          obtain ⟨h1, h2, h3, h4, h5, h6, h7, h8⟩ := hp
          unfold foreignB at hf
          unfold countedB at hc
          simp only at hc
          have ln0 : ∀ {α : Type} {l : List α}, l.length = 0 → l = [] := fun h => List.length_eq_zero_iff.1 h
          by_cases c1 : a.code = 1 ∨ a.code = 2
          · rw [if_pos c1] at hf hc
            simp only [Bool.or_eq_false_iff, decide_eq_false_iff_not, decide_eq_true_eq] at hf hc
            obtain rfl := ln0 (l := set) (by omega)
            obtain rfl := ln0 (l := files) (by omega)
            have hm : manyF a = a.count := by unfold manyF; rw [if_pos (by unfold isCnt; omega)]
            have hmo : mostF a.code = 2000 := by unfold mostF; rw [if_pos c1]
            exact .inr (.inl ⟨c1, on, hc, by omega, by omega, rfl⟩)
          · rw [if_neg c1] at hf hc
            by_cases c2 : a.code = 3 ∨ a.code = 4
            · rw [if_pos c2] at hf hc
              simp only [Bool.or_eq_false_iff, decide_eq_false_iff_not, decide_eq_true_eq] at hf hc
              obtain rfl := ln0 (l := on) (by omega)
              obtain rfl := ln0 (l := files) (by omega)
              have hm : manyF a = a.count := by unfold manyF; rw [if_pos (by unfold isCnt; omega)]
              have hmo : mostF a.code = 125 := by unfold mostF; rw [if_neg c1, if_pos c2]
              exact .inr (.inr (.inl ⟨c2, set, hc, by omega, by omega, rfl⟩))
            · rw [if_neg c2] at hf hc
              by_cases c3 : a.code = 20
              · rw [if_pos c3] at hf
                simp only [Bool.or_eq_false_iff, decide_eq_false_iff_not] at hf
                obtain rfl := ln0 (l := on) (by omega)
                obtain rfl := ln0 (l := set) (by omega)
                exact .inr (.inr (.inr (.inl ⟨c3, files, hc, h8, rfl⟩)))
              · rw [if_neg c3] at hf
                simp only [Bool.or_eq_false_iff, decide_eq_false_iff_not] at hf
                obtain rfl := ln0 (l := on) (by omega)
                obtain rfl := ln0 (l := set) (by omega)
                obtain rfl := ln0 (l := files) (by omega)
                have := codeP_cases h1
                exact .inr (.inr (.inr (.inr ⟨by omega, rfl⟩)))
    · rw [if_pos hE] at h
      split at h
      · simp at h
      · rename_i h1
        split at h
        · simp at h
        · rename_i h2
          have ln0 : ∀ {α : Type} {l : List α}, l.length = 0 → l = [] := fun h => List.length_eq_zero_iff.1 h
          obtain rfl := ln0 (l := on) (by omega)
          obtain rfl := ln0 (l := set) (by omega)
          obtain rfl := ln0 (l := files) (by omega)
          obtain ⟨e, rfl⟩ := Int.eq_ofNat_of_zero_le (show 0 ≤ exc by omega)
          exact .inl ⟨e, by omega, by omega, rfl⟩
  · rw [if_pos hK] at h
    exact absurd h hK

theorem fileB_length (f : List UInt16) : (fileB f).length = 2 + 2 * f.length := by simp [fileB, wb_length]; omega
theorem filesB_cons (f : List UInt16) (l : List (List UInt16)) : filesB (f :: l) = fileB f ++ filesB l := rfl
theorem sizedB_cons {f : List UInt16} {fs : List (List UInt16)} {p : PartD} {ps : List PartD} : sizedB (f :: fs) (p :: ps) = true ↔ (f.length : Int) = p.len ∧ sizedB fs ps = true := by
  simp [sizedB]
theorem filesB_length : ∀ {fs : List (List UInt16)} {ps : List PartD}, sizedB fs ps = true → ((filesB fs).length : Int) = sumP ps
  | [], [], _ => rfl
  | [], _ :: _, h => by simp [sizedB] at h
  | _ :: _, [], h => by simp [sizedB] at h
  | f :: fs, p :: ps, h => by
    obtain ⟨h1, h2⟩ := sizedB_cons.1 h
    have ih := filesB_length h2
    rw [filesB_cons, List.length_append, fileB_length]
    simp only [sumP]
    omega
theorem filesOf_files : ∀ {fs : List (List UInt16)} {ps : List PartD}, sizedB fs ps = true → sumP ps ≤ 245 → ps.any (fun p => decide (badP p)) = false → filesOf ps (filesB fs) = some fs
  | [], [], _, _, _ => rfl
  | [], _ :: _, h, _, _ => by simp [sizedB] at h
  | _ :: _, [], h, _, _ => by simp [sizedB] at h
  | f :: fs, p :: ps, h, hs, hb => by
    obtain ⟨h1, h2⟩ := sizedB_cons.1 h
    simp only [List.any_cons, Bool.or_eq_false_iff, decide_eq_false_iff_not] at hb
    have hn := sumP_nonneg hb.2
    simp only [sumP] at hs
    have hb1 := hb.1
    unfold badP at hb1
    have ih := filesOf_files h2 (by omega) hb.2
    have e1 : p.len.toNat = f.length := by omega
    have e2 : (UInt8.ofNat (1 + 2 * f.length)).toNat = 1 + 2 * f.length := toNat_ofNat8 (by omega)
    rw [filesB_cons]
    show filesOf (p :: ps) (UInt8.ofNat (1 + 2 * f.length) :: 6 :: (wb f ++ filesB fs)) = _
    unfold filesOf
    rw [if_pos ⟨by rw [e2]; omega, rfl⟩, e1, List.drop_append_of_le_length (by rw [wb_length]; exact Nat.le_refl _), List.drop_of_length_le (by rw [wb_length]; exact Nat.le_refl _), List.nil_append, ih, List.take_append_of_le_length (by rw [wb_length]; exact Nat.le_refl _), List.take_of_length_le (by rw [wb_length]; exact Nat.le_refl _), bw_wb]
    rfl
theorem filesOf_some : ∀ {ps : List PartD} {b : List UInt8} {l : List (List UInt16)}, filesOf ps b = some l → ps.any (fun p => decide (badP p)) = false → (b.length : Int) = sumP ps → filesB l = b ∧ sizedB l ps = true
  | [], b, l, h, _, hl => by
    unfold filesOf at h
    injection h with h
    subst h
    simp only [sumP] at hl
    have : b = [] := List.length_eq_zero_iff.1 (by omega)
    subst this
    exact ⟨rfl, rfl⟩
  | p :: ps, [], l, h, _, _ => by simp [filesOf] at h
  | p :: ps, [x], l, h, _, _ => by simp [filesOf] at h
  | p :: ps, x :: y :: r, l, h, hb, hl => by
    unfold filesOf at h
    simp only [List.any_cons, Bool.or_eq_false_iff, decide_eq_false_iff_not] at hb
    have hb1 := hb.1
    unfold badP at hb1
    simp only [sumP, List.length_cons] at hl
    have hn := sumP_nonneg hb.2
    split at h
    · rename_i hx
      obtain ⟨h1, rfl⟩ := hx
      cases hq : filesOf ps (r.drop (2 * p.len.toNat)) with
      | none => rw [hq] at h; simp at h
      | some l' =>
        rw [hq] at h
        simp only [Option.map_some, Option.some.injEq] at h
        subst h
        obtain ⟨i1, i2⟩ := filesOf_some hq hb.2 (by rw [List.length_drop]; omega)
        have ht : (r.take (2 * p.len.toNat)).length = 2 * p.len.toNat := by rw [List.length_take]; omega
        have hbl : (bw (r.take (2 * p.len.toNat))).length = p.len.toNat := by rw [bw_length, ht]; omega
        refine ⟨?_, ?_⟩
        · rw [filesB_cons]
          unfold fileB
          rw [hbl, wb_bw _ (by rw [ht]; omega), i1]
          show _ :: 6 :: (r.take (2 * p.len.toNat) ++ r.drop (2 * p.len.toNat)) = _
          rw [List.take_append_drop, u8_eq_of (x := x) (by omega)]
        · rw [sizedB_cons]
          exact ⟨by rw [hbl]; omega, i2⟩
    · simp at h

theorem bodyR1 {a : AskD} {r : RepD} (h : a.code = 1 ∨ a.code = 2) : bodyR a r = bitsF r.on := by unfold bodyR; rw [if_pos h]
theorem bodyR3 {a : AskD} {r : RepD} (h : a.code = 3 ∨ a.code = 4) : bodyR a r = wb r.set := by unfold bodyR; rw [if_neg (by omega), if_pos h]
theorem bodyR20 {a : AskD} {r : RepD} (h : a.code = 20) : bodyR a r = filesB r.files := by unfold bodyR; rw [if_neg (by omega), if_neg (by omega)]
theorem lenR1 {a : AskD} (h : a.code = 1 ∨ a.code = 2) : lenR a = 2 + need a.count.toNat := by unfold lenR; rw [if_pos h]
theorem lenR3 {a : AskD} (h : a.code = 3 ∨ a.code = 4) : lenR a = 2 + 2 * a.count.toNat := by unfold lenR; rw [if_neg (by omega), if_pos h]
theorem lenR20 {a : AskD} (h : a.code = 20) : lenR a = 2 + (sumP a.parts).toNat := by unfold lenR; rw [if_neg (by omega), if_neg (by omega), if_pos h]
theorem lenR5 {a : AskD} (h : ¬ plainC a.code) : lenR a = 5 := by unfold plainC at h; unfold lenR; rw [if_neg (by omega), if_neg (by omega), if_neg (by omega)]
theorem putR_plain {a : AskD} {r : RepD} (h : checkR a r = 0) (he : r.exc = 0) (hp : plainC a.code) : putR a r = (UInt8.ofNat a.code.toNat :: UInt8.ofNat (bodyR a r).length :: bodyR a r, 0) := by
  unfold putR; rw [if_neg (by simpa using h), if_neg (by simpa using he), if_pos hp]
theorem putR_echo {a : AskD} {r : RepD} (h : checkR a r = 0) (he : r.exc = 0) (hp : ¬ plainC a.code) : putR a r = ((putA a).1.take 5, 0) := by
  unfold putR; rw [if_neg (by simpa using h), if_neg (by simpa using he), if_neg hp]
theorem readR_echo {a : AskD} {b : List UInt8} (hp : ¬ plainC a.code) : readR a b = if (putA a).1.take 5 = b then some rep0 else none := by unfold readR; rw [if_pos hp]
theorem readR_bad {a : AskD} {b : List UInt8} (hp : plainC a.code) (h : ((b.getD 1 0).toNat : Int) ≠ (b.length : Int) - 2) : readR a b = none := by unfold readR; rw [if_neg (not_not_intro hp), if_pos h]
theorem readR1 {a : AskD} {b : List UInt8} (hc : a.code = 1 ∨ a.code = 2) (h : ((b.getD 1 0).toNat : Int) = (b.length : Int) - 2) : readR a b = if (unbitsF (b.drop 2) a.count).2 = 0 then some ⟨0, (unbitsF (b.drop 2) a.count).1, [], []⟩ else none := by
  unfold readR; rw [if_neg (not_not_intro (by unfold plainC; omega)), if_neg (not_not_intro h), if_pos hc]
theorem readR3 {a : AskD} {b : List UInt8} (hc : a.code = 3 ∨ a.code = 4) (h : ((b.getD 1 0).toNat : Int) = (b.length : Int) - 2) : readR a b = some ⟨0, [], bw (b.drop 2), []⟩ := by
  unfold readR; rw [if_neg (not_not_intro (by unfold plainC; omega)), if_neg (not_not_intro h), if_neg (by omega), if_pos hc]
theorem readR20 {a : AskD} {b : List UInt8} (hc : a.code = 20) (h : ((b.getD 1 0).toNat : Int) = (b.length : Int) - 2) : readR a b = (filesOf a.parts (b.drop 2)).map fun l => ⟨0, [], [], l⟩ := by
  unfold readR; rw [if_neg (not_not_intro (by unfold plainC; omega)), if_neg (not_not_intro h), if_neg (by omega), if_neg (by omega)]
theorem plainC_cases {c : Int} (h : plainC c) : (c = 1 ∨ c = 2) ∨ (c = 3 ∨ c = 4) ∨ c = 20 := by unfold plainC at h; omega
/-- What is put for an answer that is no exception, of a reading request. -/
theorem body_length {a : AskD} {r : RepD} (h : checkR a r = 0) (he : r.exc = 0) (hp : plainC a.code) : (bodyR a r).length + 2 = lenR a ∧ (bodyR a r).length ≤ 250 := by
  obtain ⟨hK, h⟩ := rep_cases h
  rcases h with ⟨e, h1, h2, rfl⟩ | ⟨hc, l, h1, h2, h3, rfl⟩ | ⟨hc, l, h1, h2, h3, rfl⟩ | ⟨hc, l, h1, h2, rfl⟩ | ⟨hc, rfl⟩
  · simp only at he; omega
  · rw [bodyR1 hc, lenR1 hc, bitsF_length]
    have : a.count.toNat = l.length := by omega
    rw [this]
    have := need_le h3
    simp only
    omega
  · rw [bodyR3 hc, lenR3 hc, wb_length]
    simp only
    omega
  · rw [bodyR20 hc, lenR20 hc]
    have := filesB_length h1
    obtain ⟨h3, h4⟩ := partsF_zero h2
    simp only
    omega
  · unfold plainC at hp; omega
theorem code_lt {a : AskD} (h : checkF a = 0) : 1 ≤ a.code ∧ a.code ≤ 20 := by have := codeP_cases (checkF_parts a h).1; omega
theorem b0_ask {a : AskD} (h : checkF a = 0) : b0 ((putA a).1.take 5) = a.code.toNat ∧ ((putA a).1.take 5).length = 5 := by
  have h1 := code_lt h
  have h2 := (getA_put h).2.1
  rw [putA_ok h] at h2 ⊢
  refine ⟨?_, ?_⟩
  · show (UInt8.ofNat a.code.toNat).toNat = _
    exact toNat_ofNat8 (by omega)
  · rw [List.length_take]; omega
theorem putR_shape {a : AskD} {r : RepD} (h : checkR a r = 0) (he : r.exc = 0) : (putR a r).2 = 0 ∧ (putR a r).1.length = lenR a ∧ (b0 (putR a r).1 : Int) = a.code ∧ lenR a ≤ 253 ∧ 2 ≤ lenR a := by
  have hK := (rep_cases h).1
  have hc := code_lt hK
  unfold putR
  rw [if_neg (by simpa using h), if_neg (by simpa using he)]
  by_cases hp : plainC a.code
  · rw [if_pos hp]
    obtain ⟨h1, h2⟩ := body_length h he hp
    refine ⟨rfl, by simp only [List.length_cons]; omega, ?_, by omega, by omega⟩
    show ((UInt8.ofNat a.code.toNat).toNat : Int) = _
    rw [toNat_ofNat8 (by omega)]; omega
  · rw [if_neg hp]
    obtain ⟨h1, h2⟩ := b0_ask hK
    have hl : lenR a = 5 := lenR5 hp
    exact ⟨rfl, by rw [hl]; exact h2, by simp only [h1]; omega, by omega, by omega⟩
theorem readR_putR {a : AskD} {r : RepD} (h : checkR a r = 0) (he : r.exc = 0) : readR a (putR a r).1 = some r := by
  obtain ⟨hK, hr⟩ := rep_cases h
  by_cases hp : plainC a.code
  · obtain ⟨h1, h2⟩ := body_length h he hp
    rw [putR_plain h he hp]
    have hb : ((((UInt8.ofNat a.code.toNat :: UInt8.ofNat (bodyR a r).length :: bodyR a r) : List UInt8).getD 1 0).toNat : Int) = (((UInt8.ofNat a.code.toNat :: UInt8.ofNat (bodyR a r).length :: bodyR a r) : List UInt8).length : Int) - 2 := by
      show ((UInt8.ofNat (bodyR a r).length).toNat : Int) = _
      rw [toNat_ofNat8 (by omega)]
      simp only [List.length_cons]; omega
    clear h1 h2
    rcases hr with ⟨e, h1, h2, rfl⟩ | ⟨hc, l, h1, h2, h3, rfl⟩ | ⟨hc, l, h1, h2, h3, rfl⟩ | ⟨hc, l, h1, h2, rfl⟩ | ⟨hc, rfl⟩
    · simp only at he; omega
    · rw [readR1 hc hb]
      show (if (unbitsF (bodyR a _) a.count).2 = 0 then some (⟨0, (unbitsF (bodyR a _) a.count).1, [], []⟩ : RepD) else none) = _
      rw [bodyR1 hc, ← h1, unbits_bits]
      rfl
    · rw [readR3 hc hb]
      show some (⟨0, [], bw (bodyR a _), []⟩ : RepD) = _
      rw [bodyR3 hc, bw_wb]
    · rw [readR20 hc hb]
      show (filesOf a.parts (bodyR a _)).map (fun l => (⟨0, [], [], l⟩ : RepD)) = _
      obtain ⟨h3, h4⟩ := partsF_zero h2
      rw [bodyR20 hc, filesOf_files h1 h4 h3]
      rfl
    · unfold plainC at hp; omega
  · rw [putR_echo h he hp, readR_echo hp, if_pos rfl]
    rcases hr with ⟨e, h1, h2, rfl⟩ | ⟨hc, l, h1, h2, h3, rfl⟩ | ⟨hc, l, h1, h2, h3, rfl⟩ | ⟨hc, l, h1, h2, rfl⟩ | ⟨hc, rfl⟩
    · simp only at he; omega
    · unfold plainC at hp; omega
    · unfold plainC at hp; omega
    · unfold plainC at hp; omega
    · rfl
/-- An exception's two bytes. -/
theorem getR_ex {a : AskD} {x y : UInt8} {m : List UInt8} (hK : checkF a = 0) (hx : (x.toNat : Int) = a.code + 128) : getR a (x :: m) = exR (x :: m) := by
  unfold getR
  rw [if_neg (by simpa using hK), if_neg (by simp), if_pos (by exact hx)]
theorem putR_ex {a : AskD} {r : RepD} {e : Nat} (h : checkR a r = 0) (h1 : 1 ≤ e) (h2 : r.exc = (e : Nat)) : putR a r = ([UInt8.ofNat (a.code + 128).toNat, UInt8.ofNat e], 0) := by
  unfold putR
  rw [if_neg (by simpa using h), if_pos (by omega), h2]; rfl
/-- What was put is read. -/
theorem getR_putR {a : AskD} {r : RepD} (h : checkR a r = 0) : getR a (putR a r).1 = (r, 0) ∧ (putR a r).2 = 0 ∧ 2 ≤ (putR a r).1.length ∧ (putR a r).1.length ≤ 253 := by
  obtain ⟨hK, hr⟩ := rep_cases h
  have hc := code_lt hK
  by_cases he : r.exc = 0
  · obtain ⟨q1, q2, q3, q4, q5⟩ := putR_shape h he
    refine ⟨?_, q1, by omega, by omega⟩
    unfold getR
    rw [if_neg (by simpa using hK), if_neg (by omega), if_neg (by omega), if_neg (by omega), if_neg (by omega), if_neg (by omega), readR_putR h he]
  · have hr' : ∃ e : Nat, 1 ≤ e ∧ e ≤ 127 ∧ r = ⟨(e : Nat), [], [], []⟩ := by
      rcases hr with hr | ⟨_, l, _, _, _, rfl⟩ | ⟨_, l, _, _, _, rfl⟩ | ⟨_, l, _, _, rfl⟩ | ⟨_, rfl⟩
      · exact hr
      all_goals exact absurd rfl he
    obtain ⟨e, h1, h2, rfl⟩ := hr'
    rw [putR_ex h h1 rfl]
    refine ⟨?_, rfl, by simp, by simp⟩
    have hx : ((UInt8.ofNat (a.code + 128).toNat).toNat : Int) = a.code + 128 := by rw [toNat_ofNat8 (by omega)]; omega
    have hy : (UInt8.ofNat e).toNat = e := toNat_ofNat8 (by omega)
    rw [getR_ex (y := 0) hK hx]
    unfold exR
    rw [if_neg (by simp), if_neg (by simp)]
    show (if UInt8.ofNat e = 0 ∨ 127 < (UInt8.ofNat e).toNat then _ else _) = _
    have hnz : ¬ (UInt8.ofNat e = 0 ∨ 127 < (UInt8.ofNat e).toNat) := by
      rintro (h | h)
      · have := congrArg UInt8.toNat h
        rw [hy] at this
        simp at this
        omega
      · omega
    rw [if_neg hnz]
    show ((⟨(((UInt8.ofNat e).toNat : Nat) : Int), [], [], []⟩ : RepD), (0 : Int)) = _
    rw [hy]
theorem putR_no {a : AskD} {r : RepD} (h : checkR a r ≠ 0) : putR a r = ([], checkR a r) := by unfold putR; rw [if_pos h]
end Go.Out

namespace Go.Out
open Go Go.RowKit
set_option linter.unusedVariables false

/-- One bit's step of a register. -/
def cstep (P r : Nat) : Nat := if r % 2 = 1 then (r / 2) ^^^ P else r / 2
def citer (P : Nat) : Nat → Nat → Nat
  | 0, r => r
  | k + 1, r => cstep P (citer P k r)
def cbyte (P r : Nat) (c : UInt8) : Nat := citer P 8 (r ^^^ c.toNat)
/-- What a register comes to with bytes. -/
def crc (P r : Nat) (l : List UInt8) : Nat := l.foldl (cbyte P) r

theorem crc_snoc (P r : Nat) (l : List UInt8) (c : UInt8) : crc P r (l ++ [c]) = cbyte P (crc P r l) c := by simp [crc]
theorem crc_append (P r : Nat) (a b : List UInt8) : crc P r (a ++ b) = crc P (crc P r a) b := by simp [crc]
theorem crc_take (P r : Nat) (l : List UInt8) (k : Nat) (h : k < l.length) : crc P r (l.take (k + 1)) = cbyte P (crc P r (l.take k)) l[k] := by
  rw [List.take_succ_eq_append_getElem h, crc_snoc]
theorem cstep_lt {P r W : Nat} (hP : P < 2 ^ W) (hr : r < 2 ^ W) : cstep P r < 2 ^ W := by
  have h2 : r / 2 < 2 ^ W := Nat.lt_of_le_of_lt (Nat.div_le_self _ _) hr
  unfold cstep
  split
  · exact Nat.xor_lt_two_pow h2 hP
  · exact h2
theorem citer_lt {P r W : Nat} (hP : P < 2 ^ W) (hr : r < 2 ^ W) : ∀ k, citer P k r < 2 ^ W
  | 0 => hr
  | k + 1 => cstep_lt hP (citer_lt hP hr k)
theorem byte_lt {W : Nat} (hW : 8 ≤ W) (c : UInt8) : c.toNat < 2 ^ W := Nat.lt_of_lt_of_le c.toNat_lt (Nat.pow_le_pow_right (by omega) hW)
theorem cbyte_lt {P r W : Nat} (hW : 8 ≤ W) (hP : P < 2 ^ W) (hr : r < 2 ^ W) (c : UInt8) : cbyte P r c < 2 ^ W :=
  citer_lt hP (Nat.xor_lt_two_pow hr (byte_lt hW c)) 8
theorem crc_lt {P W : Nat} (hW : 8 ≤ W) (hP : P < 2 ^ W) : ∀ (l : List UInt8) (r : Nat), r < 2 ^ W → crc P r l < 2 ^ W
  | [], r, hr => hr
  | c :: l, r, hr => crc_lt hW hP l (cbyte P r c) (cbyte_lt hW hP hr c)
/-- The two sums of a document's chapter. -/
def more16 (r : Nat) (l : List UInt8) : Nat := crc 40961 r l
def more32 (r : Nat) (l : List UInt8) : Nat := crc 3988292384 (r ^^^ 4294967295) l ^^^ 4294967295
theorem more16_lt {r : Nat} (hr : r < 65536) (l : List UInt8) : more16 r l < 65536 := crc_lt (W := 16) (by omega) (by omega) l r hr
end Go.Out

namespace Go.Out
open Go Go.RowKit
set_option linter.unusedVariables false

theorem xor_half (x y : Nat) : (x ^^^ y) / 2 = x / 2 ^^^ y / 2 := by
  have h := Nat.shiftRight_xor_distrib (a := x) (b := y) (i := 1)
  simpa [Nat.shiftRight_eq_div_pow] using h
theorem xor_swap (a b c d : Nat) : (a ^^^ b) ^^^ (c ^^^ d) = (a ^^^ c) ^^^ (b ^^^ d) := by
  rw [Nat.xor_assoc, Nat.xor_assoc]; congr 1
  rw [← Nat.xor_assoc, ← Nat.xor_assoc, Nat.xor_comm b c]
theorem xor_par (x y : Nat) : (x ^^^ y) % 2 = (x + y) % 2 := by
  have h := Nat.testBit_xor x y 0
  simp only [Nat.testBit_zero] at h
  have e : (x + y) % 2 = (x % 2 + y % 2) % 2 := by omega
  rw [e]
  rcases Nat.mod_two_eq_zero_or_one x with hx | hx <;> rcases Nat.mod_two_eq_zero_or_one y with hy | hy <;> rcases Nat.mod_two_eq_zero_or_one (x ^^^ y) with hz | hz <;> rw [hx, hy, hz] at h <;> rw [hx, hy, hz] <;> first | rfl | (revert h; decide)
theorem cstep_xor (P x y : Nat) : cstep P (x ^^^ y) = cstep P x ^^^ cstep P y := by
  unfold cstep
  have hm := xor_par x y
  rcases Nat.mod_two_eq_zero_or_one x with hx | hx <;> rcases Nat.mod_two_eq_zero_or_one y with hy | hy
  · rw [if_neg (by omega), if_neg (by omega), if_neg (by omega), xor_half]
  · rw [if_pos (by omega), if_neg (by omega), if_pos (by omega), xor_half, Nat.xor_assoc]
  · rw [if_pos (by omega), if_pos (by omega), if_neg (by omega), xor_half, Nat.xor_assoc, Nat.xor_assoc, Nat.xor_comm (y / 2)]
  · rw [if_neg (by omega), if_pos (by omega), if_pos (by omega), xor_half, xor_swap, Nat.xor_self, Nat.xor_zero]
theorem citer_xor (P : Nat) : ∀ (k x y : Nat), citer P k (x ^^^ y) = citer P k x ^^^ citer P k y
  | 0, _, _ => rfl
  | k + 1, x, y => by unfold citer; rw [citer_xor P k, cstep_xor]
end Go.Out

namespace Go.Out
open Go Go.RowKit
set_option linter.unusedVariables false

/-- The k lowest bytes of a number, the lowest first. -/
def le (k v : Nat) : List UInt8 := (List.range k).map fun i => UInt8.ofNat (v / 256 ^ i % 256)
theorem le_length (k v : Nat) : (le k v).length = k := by simp [le]
theorem le_succ (k v : Nat) : le (k + 1) v = le k v ++ [UInt8.ofNat (v / 256 ^ k % 256)] := by simp [le, List.range_succ]
theorem cB_of (X : Nat) : cB (UInt8.ofNat X) = .int .u8 ((X : Int) % 256) := by unfold cB; congr 1
theorem le_map_succ (b : List UInt8) (k v : Nat) : (b ++ le (k + 1) v).map cB = (b ++ le k v).map cB ++ [.int .u8 (((v / 256 ^ k : Nat) : Int) % 256)] := by
  rw [le_succ, ← List.append_assoc, List.map_append, List.map_singleton, cB_of]; simp
theorem le_two (v : Nat) (h : v < 65536) : (le 2 v).map cB = [.int .u8 ((v : Int) % 256), .int .u8 ((v : Int) / 256)] := by
  rw [show le 2 v = [UInt8.ofNat (v % 256), UInt8.ofNat (v / 256 % 256)] from by simp [le, List.range_succ], List.map_cons, List.map_cons, List.map_nil, cB_of, cB_of]
  rw [show ((v % 256 : Nat) : Int) % 256 = (v : Int) % 256 from by omega, show ((v / 256 % 256 : Nat) : Int) % 256 = (v : Int) / 256 from by omega]
def sealF (k : Nat) (s : List UInt8 → Nat) (b : List UInt8) : List UInt8 := b ++ le k (s b)
def openR (q : Prop) [Decidable q] (L : List UInt8) : List UInt8 × Int := if q then (L, 0) else ([], 5)
theorem openR_t {q : Prop} [Decidable q] {L : List UInt8} (h : q) : openR q L = (L, 0) := if_pos h
theorem openR_f {q : Prop} [Decidable q] {L : List UInt8} (h : ¬ q) : openR q L = ([], 5) := if_neg h
def openF (k : Nat) (s : List UInt8 → Nat) (b : List UInt8) : List UInt8 × Int :=
  if b.length < k then ([], 1) else if sealF k s (b.take (b.length - k)) = b then (b.take (b.length - k), 0) else ([], 5)
theorem getElem_ofNat {x : UInt8} {v : Nat} : x = UInt8.ofNat (v % 256) ↔ x.toNat = v % 256 := by
  constructor
  · intro h; subst h; simp
  · intro h; apply UInt8.toNat.inj; simp [h]
theorem tail_two (b : List UInt8) (n v : Nat) (h : b.length = n + 2) : (b.take n ++ le 2 v = b) ↔ (b[n].toNat = v % 256 ∧ b[n + 1].toNat = v / 256 % 256) := by
  have hd : b.drop n = [b[n], b[n + 1]] := by
    apply List.ext_getElem
    · simp; omega
    · intro i h1 h2
      have : i < 2 := by simpa using h2
      match i, this with
      | 0, _ => simp
      | 1, _ => simp
  have e : b.take n ++ [b[n], b[n + 1]] = b := by rw [← hd]; exact List.take_append_drop n b
  have e2 : (b.take n ++ le 2 v = b) ↔ (b.take n ++ le 2 v = b.take n ++ [b[n], b[n + 1]]) := by rw [e]
  rw [e2, List.append_cancel_left_eq]
  simp only [le, List.range_succ, List.range_zero, List.nil_append, List.map_cons, List.map_nil, List.cons_append, Nat.pow_zero, Nat.div_one, Nat.pow_one, List.cons.injEq, and_true]
  rw [eq_comm, getElem_ofNat, @eq_comm _ _ b[n + 1], getElem_ofNat]
end Go.Out

namespace Go.Out
open Go Go.RowKit
set_option linter.unusedVariables false

/-- Bytes as one number, the first byte the lowest. -/
def val : List UInt8 → Nat
  | [] => 0
  | x :: l => x.toNat + 256 * val l
theorem citer_add (P : Nat) : ∀ (j k r : Nat), citer P (j + k) r = citer P j (citer P k r)
  | 0, k, r => by rw [Nat.zero_add]; rfl
  | j + 1, k, r => by rw [show j + 1 + k = (j + k) + 1 from by omega]; unfold citer; rw [citer_add P j k r]
theorem cstep_even (P y : Nat) : cstep P (2 * y) = y := by
  unfold cstep; rw [if_neg (by omega)]; omega
theorem citer_up (P : Nat) : ∀ (k y : Nat), citer P k (2 ^ k * y) = y
  | 0, y => by simp [citer]
  | k + 1, y => by
    rw [citer_add P k 1, show citer P 1 (2 ^ (k + 1) * y) = cstep P (2 ^ (k + 1) * y) from rfl, show 2 ^ (k + 1) * y = 2 * (2 ^ k * y) from by rw [Nat.pow_succ]; simp only [Nat.mul_comm, Nat.mul_left_comm], cstep_even, citer_up P k y]
theorem citer_zero (P : Nat) : ∀ k, citer P k 0 = 0
  | 0 => rfl
  | k + 1 => by unfold citer; rw [citer_zero P k]; rfl
theorem add_xor (x V : Nat) (h : x < 256) : x + 256 * V = x ^^^ (2 ^ 8 * V) := by
  have h2 := Nat.two_pow_add_eq_or_of_lt (i := 8) (b := x) h V
  have h3 : x ^^^ (2 ^ 8 * V) = 2 ^ 8 * V ||| x := by
    apply Nat.eq_of_testBit_eq
    intro i
    rw [Nat.testBit_xor, Nat.testBit_or, Nat.testBit_two_pow_mul]
    rcases Nat.lt_or_ge i 8 with hi | hi
    · have : ¬ 8 ≤ i := by omega
      simp [this]
    · rw [Nat.testBit_lt_two_pow (Nat.lt_of_lt_of_le h (Nat.pow_le_pow_right (n := 2) (i := 8) (j := i) (by omega) hi))]
      simp
  rw [h3, ← h2]; omega
/-- What a register comes to with bytes, at one blow. -/
theorem crc_val (P : Nat) : ∀ (l : List UInt8) (r : Nat), crc P r l = citer P (8 * l.length) (r ^^^ val l)
  | [], r => by simp [crc, val, citer]
  | x :: l, r => by
    show crc P (cbyte P r x) l = _
    rw [crc_val P l, List.length_cons, show 8 * (l.length + 1) = 8 * l.length + 8 from by omega, citer_add]
    congr 1
    rw [show val (x :: l) = x.toNat + 256 * val l from rfl]
    unfold cbyte
    rw [add_xor _ _ x.toNat_lt, ← Nat.xor_assoc, citer_xor P 8 (r ^^^ x.toNat) (2 ^ 8 * val l), citer_up P 8]
theorem xor_zero {a b : Nat} (h : a ^^^ b = 0) : a = b := by
  have e : a ^^^ b ^^^ b = b := by rw [h, Nat.zero_xor]
  rwa [Nat.xor_assoc, Nat.xor_self, Nat.xor_zero] at e
/-- A register that is not nought does not come to nought (the highest bit of P is set). -/
theorem cstep_ne {P W r : Nat} (hP : 2 ^ W ≤ P) (hP2 : P < 2 ^ (W + 1)) (hr : r < 2 ^ (W + 1)) (h : r ≠ 0) : cstep P r ≠ 0 := by
  unfold cstep
  split
  · intro h0
    have h1 := xor_zero h0
    have h2 : r / 2 < 2 ^ W := by rw [Nat.pow_succ] at hr; omega
    omega
  · omega
theorem citer_ne {P W r : Nat} (hP : 2 ^ W ≤ P) (hP2 : P < 2 ^ (W + 1)) (hr : r < 2 ^ (W + 1)) (h : r ≠ 0) : ∀ k, citer P k r ≠ 0
  | 0 => h
  | k + 1 => cstep_ne hP hP2 (citer_lt hP2 hr k) (citer_ne hP hP2 hr h k)
theorem xor_ne {a b : Nat} (h : a ^^^ b ≠ 0) : a ≠ b := fun e => h (by rw [e, Nat.xor_self])
theorem crc_differ (P r : Nat) (a b : List UInt8) (h : a.length = b.length) : crc P r a ^^^ crc P r b = citer P (8 * b.length) (val a ^^^ val b) := by
  rw [crc_val, crc_val, h, ← citer_xor]
  congr 1
  rw [xor_swap, Nat.xor_self, Nat.zero_xor]
/-- Rows that differ within a window of W + 1 bits have other sums. -/
theorem crc_burst {P W : Nat} (hP : 2 ^ W ≤ P) (hP2 : P < 2 ^ (W + 1)) (r k D : Nat) (a b : List UInt8) (h : a.length = b.length) (hd : val a ^^^ val b = 2 ^ k * D) (hk : k ≤ 8 * b.length) (hD : D < 2 ^ (W + 1)) (h0 : D ≠ 0) : crc P r a ^^^ crc P r b ≠ 0 := by
  rw [crc_differ P r a b h, hd, show 8 * b.length = (8 * b.length - k) + k from by omega, citer_add, citer_up]
  exact citer_ne hP hP2 hD h0 _
end Go.Out

namespace Go.Out
open Go Go.RowKit
set_option linter.unusedVariables false

/-- One bit of a byte. -/
def bit8 (j : Nat) : UInt8 := UInt8.ofNat (2 ^ j)
/-- Bytes with bit k turned. -/
def flip (l : List UInt8) (k : Nat) : List UInt8 := l.set (k / 8) (l.getD (k / 8) 0 ^^^ bit8 (k % 8))
theorem flip_length (l : List UInt8) (k : Nat) : (flip l k).length = l.length := by simp [flip]
theorem pow_xor (n a b : Nat) : 2 ^ n * (a ^^^ b) = 2 ^ n * a ^^^ 2 ^ n * b := by
  apply Nat.eq_of_testBit_eq
  intro i
  rw [Nat.testBit_xor, Nat.testBit_two_pow_mul, Nat.testBit_two_pow_mul, Nat.testBit_two_pow_mul, Nat.testBit_xor]
  by_cases h : n ≤ i <;> simp [h]
theorem val_cons (x : UInt8) (l : List UInt8) : val (x :: l) = x.toNat ^^^ 2 ^ 8 * val l := add_xor _ _ x.toNat_lt
theorem val_flip : ∀ (l : List UInt8) (k : Nat), k / 8 < l.length → val (flip l k) = val l ^^^ 2 ^ k
  | [], k, h => by simp at h
  | x :: l, k, h => by
    rcases Nat.lt_or_ge k 8 with hk | hk
    · have e0 : k / 8 = 0 := by omega
      have e1 : k % 8 = k := by omega
      have e2 : (bit8 k).toNat = 2 ^ k := by
        unfold bit8
        have : 2 ^ k < 2 ^ 8 := Nat.pow_lt_pow_right (by omega) hk
        simp; omega
      unfold flip
      rw [e0, e1, List.set_cons_zero, val_cons, val_cons]
      show (x ^^^ bit8 k).toNat ^^^ _ = _
      rw [UInt8.toNat_xor, e2, Nat.xor_assoc, Nat.xor_assoc, Nat.xor_comm (2 ^ k)]
    · have e0 : k / 8 = (k - 8) / 8 + 1 := by omega
      have e1 : k % 8 = (k - 8) % 8 := by omega
      have ih := val_flip l (k - 8) (by rw [e0] at h; simpa using h)
      have e2 : flip (x :: l) k = x :: flip l (k - 8) := by
        unfold flip
        rw [e0, e1]; simp
      rw [e2, val_cons, val_cons, ih, pow_xor, ← Nat.pow_add, show 8 + (k - 8) = k from by omega, Nat.xor_assoc]
/-- The first i bits of a mask turned, from a place on; how many were. -/
def turn (l : List UInt8) (at_ M : Nat) : Nat → List UInt8 × Nat
  | 0 => (l, 0)
  | i + 1 => if M / 2 ^ i % 2 = 1 ∧ (at_ + i) / 8 < l.length then (flip (turn l at_ M i).1 (at_ + i), (turn l at_ M i).2 + 1) else turn l at_ M i
theorem turn_length (l : List UInt8) (at_ M : Nat) : ∀ i, (turn l at_ M i).1.length = l.length
  | 0 => rfl
  | i + 1 => by
    unfold turn
    split
    · rw [flip_length, turn_length l at_ M i]
    · exact turn_length l at_ M i
theorem xor_top (D i : Nat) (h : D < 2 ^ i) : D ^^^ 2 ^ i = D + 2 ^ i := by
  have h2 := Nat.two_pow_add_eq_or_of_lt h 1
  rw [Nat.mul_one] at h2
  rw [Nat.add_comm, h2]
  apply Nat.eq_of_testBit_eq
  intro j
  rw [Nat.testBit_xor, Nat.testBit_or, Nat.testBit_two_pow]
  by_cases hj : i = j
  · subst hj; rw [Nat.testBit_lt_two_pow h]; simp
  · simp [hj]
/-- What the turned bytes differ in: a window of the mask's width. -/
theorem turn_val (l : List UInt8) (at_ M W : Nat) (hM : M < 2 ^ W) : ∀ i, ∃ D, val (turn l at_ M i).1 ^^^ val l = 2 ^ at_ * D ∧ D < 2 ^ i ∧ D < 2 ^ W ∧ (D = 0 ↔ (turn l at_ M i).2 = 0) ∧ (D ≠ 0 → at_ ≤ 8 * l.length)
  | 0 => ⟨0, by simp [turn], by simp, Nat.two_pow_pos _, by simp [turn], by simp⟩
  | i + 1 => by
    obtain ⟨D, h1, h2, h3, h4, h5⟩ := turn_val l at_ M W hM i
    have hp : 2 ^ (i + 1) = 2 ^ i + 2 ^ i := by rw [Nat.pow_succ]; omega
    by_cases hc : M / 2 ^ i % 2 = 1 ∧ (at_ + i) / 8 < l.length
    · have e : turn l at_ M (i + 1) = (flip (turn l at_ M i).1 (at_ + i), (turn l at_ M i).2 + 1) := if_pos hc
      rw [e]
      have hiW : i < W := by
        rcases Nat.lt_or_ge i W with h | h
        · exact h
        · have : M / 2 ^ i = 0 := Nat.div_eq_of_lt (Nat.lt_of_lt_of_le hM (Nat.pow_le_pow_right (by omega) h))
          rw [this] at hc; simp at hc
      have hle : 2 ^ (i + 1) ≤ 2 ^ W := Nat.pow_le_pow_right (by omega) hiW
      have hpos := Nat.two_pow_pos i
      refine ⟨D ^^^ 2 ^ i, ?_, ?_, ?_, ?_, fun _ => by omega⟩
      · rw [val_flip _ _ (by rw [turn_length]; exact hc.2), Nat.xor_assoc, Nat.xor_comm (2 ^ (at_ + i)), ← Nat.xor_assoc, h1, pow_xor, ← Nat.pow_add]
      · rw [xor_top D i h2]; omega
      · rw [xor_top D i h2]; omega
      · rw [xor_top D i h2]; simp only; omega
    · have e : turn l at_ M (i + 1) = turn l at_ M i := if_neg hc
      rw [e]
      exact ⟨D, h1, by omega, h3, h4, h5⟩
end Go.Out

namespace Go.Out
open Go Go.RowKit
set_option linter.unusedVariables false

theorem turn_burst {P W : Nat} (hP : 2 ^ W ≤ P) (hP2 : P < 2 ^ (W + 1)) (r : Nat) (l : List UInt8) (at_ M i : Nat) (hM : M < 2 ^ (W + 1)) (h : (turn l at_ M i).2 ≠ 0) : crc P r (turn l at_ M i).1 ≠ crc P r l := by
  obtain ⟨D, h1, h2, h3, h4, h5⟩ := turn_val l at_ M (W + 1) hM i
  have hD : D ≠ 0 := fun e => h (h4.1 e)
  exact xor_ne (crc_burst hP hP2 r at_ D _ _ (turn_length l at_ M i) h1 (h5 hD) h3 hD)
theorem val_le2 (v : Nat) (h : v < 65536) : val (le 2 v) = v := by
  rw [show le 2 v = [UInt8.ofNat (v % 256), UInt8.ofNat (v / 256 % 256)] from by simp [le, List.range_succ]]
  simp [val]; omega
theorem residue16 (b : List UInt8) : crc 40961 65535 (sealF 2 (more16 65535) b) = 0 := by
  have h := more16_lt (r := 65535) (by decide) b
  unfold sealF
  rw [crc_append, crc_val, le_length]
  show citer 40961 (8 * 2) (more16 65535 b ^^^ val (le 2 (more16 65535 b))) = 0
  rw [val_le2 _ h, Nat.xor_self, citer_zero]
theorem open_seal (k : Nat) (s : List UInt8 → Nat) (b : List UInt8) : openF k s (sealF k s b) = (b, 0) := by
  have hl : (sealF k s b).length = b.length + k := by simp [sealF, le_length]
  have ht : (sealF k s b).take ((sealF k s b).length - k) = b := by rw [hl, Nat.add_sub_cancel]; simp [sealF]
  unfold openF
  rw [if_neg (by omega), ht, if_pos rfl]
theorem open_turned {P r K k : Nat} (s : List UInt8 → Nat) (hres : ∀ b, crc P r (sealF k s b) = K) (b t : List UInt8) (hl : t.length = (sealF k s b).length) (hne : crc P r t ≠ crc P r (sealF k s b)) : openF k s t = ([], 5) := by
  have hk : k ≤ t.length := by rw [hl]; simp [sealF, le_length]
  unfold openF
  rw [if_neg (by omega), if_neg]
  intro e
  apply hne
  rw [hres b, ← e]
  exact hres _
theorem open16_turned (b : List UInt8) (at_ M i : Nat) (hM : M < 65536) (h : (turn (sealF 2 (more16 65535) b) at_ M i).2 ≠ 0) : openF 2 (more16 65535) (turn (sealF 2 (more16 65535) b) at_ M i).1 = ([], 5) :=
  open_turned _ residue16 b _ (turn_length _ _ _ _) (turn_burst (P := 40961) (W := 15) (by decide) (by decide) 65535 _ at_ M i hM h)
end Go.Out

namespace Go.Out
open Go Go.RowKit
set_option linter.unusedVariables false

/-- What is wrong with a PDU of so many bytes. -/
def szF (m : Nat) : Int := if m = 0 then 1 else if 253 < m then 2 else 0
def rtuF (u : UInt8) (b : List UInt8) : List UInt8 × Int :=
  if u.toNat < 1 ∨ 247 < u.toNat then ([], 24) else if szF b.length ≠ 0 then ([], szF b.length) else (sealF 2 (more16 65535) (u :: b), 0)
def lineF (o : List UInt8 × Int) : UInt8 × List UInt8 × Int :=
  if o.2 ≠ 0 then (0, [], o.2) else match o.1 with
    | [] => (0, [], 0)
    | x :: l => if x.toNat < 1 ∨ 247 < x.toNat then (0, [], 24) else (x, l, 0)
def openRtuF (b : List UInt8) : UInt8 × List UInt8 × Int :=
  if b.length < 4 then (0, [], 1) else if 256 < b.length then (0, [], 2) else lineF (openF 2 (more16 65535) b)
theorem openF_ok {k : Nat} {s : List UInt8 → Nat} {b : List UInt8} (h : (openF k s b).2 = 0) : (openF k s b).1 = b.take (b.length - k) := by
  unfold openF at h ⊢
  split at h
  · simp at h
  · split at h
    · simp [*]
    · simp at h
theorem rtuF_unit {u : UInt8} {b : List UInt8} (h : u.toNat < 1 ∨ 247 < u.toNat) : rtuF u b = ([], 24) := if_pos h
theorem rtuF_size {u : UInt8} {b : List UInt8} (h : ¬ (u.toNat < 1 ∨ 247 < u.toNat)) (hs : szF b.length ≠ 0) : rtuF u b = ([], szF b.length) := by unfold rtuF; rw [if_neg h, if_pos hs]
theorem rtuF_ok {u : UInt8} {b : List UInt8} (h : ¬ (u.toNat < 1 ∨ 247 < u.toNat)) (hs : szF b.length = 0) : rtuF u b = (sealF 2 (more16 65535) (u :: b), 0) := by unfold rtuF; rw [if_neg h, if_neg (by simp [hs])]
/-- All but the first of the call's own items. -/
theorem Own.tail {w : World} {base : Nat} {e : TypeId} {p : Value → Prop} {A : Option Addr} {n c : Nat} {xs : List Value} (h : Own w base e p A n c xs) (hn : 1 ≤ n) :
    Own w base e p (A.map (·.add 1)) (n - 1) (c - 1) (xs.drop 1) := by
  obtain ⟨h1, h2, h3, h4⟩ := h
  refine ⟨by simp [h1], by omega, by omega, ?_⟩
  rcases h4 with ⟨h5, h6⟩ | ⟨g, off, cur, h5, h6, h7, h8, h9, h10⟩
  · omega
  · refine .inr ⟨g, off + 1, cur, by subst h5; rfl, h6, h7, by omega, ?_, h10⟩
    rw [← h9, List.drop_take, List.drop_drop]
end Go.Out

namespace Go.Out
open Go Go.RowKit
set_option linter.unusedVariables false

end Go.Out

namespace Go.Out
open Go Go.RowKit
set_option linter.unusedVariables false

theorem szF_zero {m : Nat} : szF m = 0 ↔ 1 ≤ m ∧ m ≤ 253 := by
  unfold szF
  split
  · simp; omega
  · split
    · simp; omega
    · simp; omega
/-- What is framed on a line is opened as it was. -/
theorem openRtu_rtu {u : UInt8} {b : List UInt8} (h : (rtuF u b).2 = 0) : openRtuF (rtuF u b).1 = (u, b, 0) ∧ (rtuF u b).1.length = 3 + b.length ∧ (rtuF u b).1 = sealF 2 (more16 65535) (u :: b) ∧ 1 ≤ u.toNat ∧ u.toNat ≤ 247 ∧ 1 ≤ b.length ∧ b.length ≤ 253 := by
  by_cases hu : u.toNat < 1 ∨ 247 < u.toNat
  · rw [rtuF_unit hu] at h; simp at h
  · by_cases hs : szF b.length = 0
    · rw [rtuF_ok hu hs]
      have hl : (sealF 2 (more16 65535) (u :: b)).length = 3 + b.length := by simp [sealF, le_length]; omega
      have hb := szF_zero.1 hs
      refine ⟨?_, hl, rfl, by omega, by omega, hb.1, hb.2⟩
      simp only
      unfold openRtuF
      rw [if_neg (by omega), if_neg (by omega), open_seal]
      unfold lineF
      rw [if_neg (by simp)]
      exact if_neg hu
    · rw [rtuF_size hu hs] at h; exact absurd h hs
theorem rtu_fits {u : UInt8} {b : List UInt8} : (rtuF u b).2 = 0 ↔ (1 ≤ u.toNat ∧ u.toNat ≤ 247) ∧ 1 ≤ b.length ∧ b.length ≤ 253 := by
  constructor
  · intro h; have := openRtu_rtu h; omega
  · intro h
    rw [rtuF_ok (by omega) (szF_zero.2 h.2)]
end Go.Out

namespace Go.Proofs.YtomcipkmohhpjaaGreat
set_option linter.unusedVariables false
open Go Go.RowKit Go.Out

theorem info_bo : (Tryz.prog.info? 4).map (fun i => (i.zero, i.size, i.bytes)) = some (some (.bool false), 1, 1) := by kernel_rfl

theorem sameL_any (a b : List Bool) (A B : Option Addr) (n m ca cb : Nat) (w : World) (ha : Rd w A n (a.map cL)) (hb : Rd w B m (b.map cL)) (hn : n ≤ maxLen) :
    Calls Tryz.prog 76 #[.slice A n ca, .slice B m cb] w fun e w' => e = .returned (.bool (decide (a = b))) ∧ Below w.heap.size w w' := by
  unfold maxLen at hn
  have hla : a.length = n := by have := ha.1; simpa using this
  have hlb : b.length = m := by have := hb.1; simpa using this
  by_cases hnm : n = m
  · subst hnm
    have Ha := Lib.hid ha; have Hb := Lib.hid hb; have Hla := Lib.hid hla; have Hlb := Lib.hid hlb; clear ha hb hla hlb
    go_enter Tryz.func76, Tryz.ntmps76
    go_wp2
    go_loopw [5] (fun i wr => ∃ k : Nat, k ≤ n ∧ i = .int .i64 k ∧ Below w.heap.size w wr ∧ Hid (a.take k = b.take k)) (fun i _ => n - (intOf i).toNat)
    case atStart => exact ⟨0, Nat.zero_le _, rfl, Below.refl _ _, by simp [Hid]⟩
    case round =>
      obtain ⟨k, hk, rfl, hbel, htk⟩ := hrel
      by_cases hlt : k < n
      · obtain ⟨b1, o1, rfl, -, hl1, hc1⟩ := ((Ha.out).below hbel).boat hlt
        obtain ⟨b2, o2, rfl, -, hl2, hc2⟩ := ((Hb.out).below hbel).boat hlt
        cases hxa : a[k] <;> cases hxb : b[k]
        all_goals
          rw [hxa] at hc1
          rw [hxb] at hc2
          have Hxa := Lib.hid hxa; have Hxb := Lib.hid hxb; clear hxa hxb
          go_wp2
          go_quiet (fail)
          go_wp2
        · go_roundw
          case rel => exact ⟨k + 1, by omega, by go_num, below_drewN hbel _, by unfold Hid at htk ⊢; rw [List.take_succ_eq_append_getElem hl1, List.take_succ_eq_append_getElem hl2, htk, Hxa.out, Hxb.out]⟩
          case measure => simp [intOf]; omega
        · go_ret
          exact ⟨ret_bool (by symm; rw [decide_eq_false_iff_not]; intro h; subst h; have h1 := Hxa.out; rw [Hxb.out] at h1; cases h1), below_drewN hbel _⟩
        · go_ret
          exact ⟨ret_bool (by symm; rw [decide_eq_false_iff_not]; intro h; subst h; have h1 := Hxa.out; rw [Hxb.out] at h1; cases h1), below_drewN hbel _⟩
        · go_roundw
          case rel => exact ⟨k + 1, by omega, by go_num, below_drewN hbel _, by unfold Hid at htk ⊢; rw [List.take_succ_eq_append_getElem hl1, List.take_succ_eq_append_getElem hl2, htk, Hxa.out, Hxb.out]⟩
          case measure => simp [intOf]; omega
      · go_wp2
        go_ret
        exact ⟨ret_bool (by symm; rw [decide_eq_true_eq]; have h := htk.out; rwa [List.take_of_length_le (by have := Hla.out; omega), List.take_of_length_le (by have := Hlb.out; omega)] at h), hbel⟩
  · have H := Lib.hid hla; clear hla
    have H' := Lib.hid hlb; clear hlb
    have ht : ((n : Int) != (m : Int)) = true := by simp; omega
    go_enter Tryz.func76, Tryz.ntmps76
    go_wp2
    go_ret
    exact ⟨by simp; intro h; subst h; exact hnm (H.out.symm.trans H'.out), Below.refl _ _⟩

theorem app_bo {ops : Array Oper} {rest : List Oper} {o : Oper} {a : Act} {Q : Exit → Act → World → Prop} (w : World) (hgd : o.guard = none) (s x : Operand)
    (ho : o.op = .call { callee := .builtin .append, args := #[s, x], argTypes := #[33, 33] })
    {base : Nat} {A : Option Addr} {n c : Nat} {xs : List Value} (hs : a.eval s = .slice A n c) (hown : Own w base 4 IsBo A n c xs)
    {A' : Option Addr} {m c' : Nat} {news : List Value} (hx : a.eval x = .slice A' m c') (hr : Rd w A' m news) (hnp : ∀ u ∈ news, IsBo u) (hsz : n + m ≤ 140737488355328) (hbase : base ≤ w.heap.size)
    (h : ∀ A1 c1 w1, Own w1 base 4 IsBo A1 (n + m) c1 (xs ++ news) → w.grownBy w1 (blk A) → (blk A1 = blk A ∨ blk A1 = some w.heap.size) → wpList Tryz.prog ops Q rest (a.put o.dst (.slice A1 (n + m) c1)) w1) : wpList Tryz.prog ops Q (o :: rest) a w :=
  wpList_append_Own w hgd s x _ ho IsBo base _ (.bool false) 1 Tryz.underlying33 info_bo rfl ⟨false, rfl⟩ (fun _ => isBo_one) A n c xs hs hown A' m c' news hx hr hnp (by omega) (by omega) hbase h

theorem copyL_any (l : List Bool) (A : Option Addr) (n c : Nat) (w : World) (hr : Rd w A n (l.map cL)) (hn : n ≤ 140737488355328) :
    Calls Tryz.prog 91 #[.slice A n c] w (RetOwn w 4 IsBo n (l.map cL)) := by
  have hl : l.length = n := by have := hr.1; simpa using this
  have Hr := Lib.hid hr; have Hl := Lib.hid hl; clear hr hl
  go_enter Tryz.func91, Tryz.ntmps91
  go_wp2
  go_loopw [3, 4] (fun v i wr => ∃ (k c : Nat) (A : Option Addr), k ≤ n ∧ i = .int .i64 k ∧ v = .slice A k c ∧ Own wr w.heap.size 4 IsBo A k c ((l.take k).map cL) ∧ Below w.heap.size w wr) (fun _ i _ => n - (intOf i).toNat)
  case atStart => exact ⟨0, 0, none, Nat.zero_le _, rfl, rfl, Own.nil_ _ _ _ _, Below.refl _ _⟩
  case round =>
    obtain ⟨k, c1, A1, hk, rfl, rfl, hown, hbel⟩ := hrel
    by_cases hlt : k < n
    · obtain ⟨b1, o1, rfl, -, hl1, hc1⟩ := ((Hr.out).below hbel).boat hlt
      have hbs := hbel.size
      go_wp2_with (at_builtin; go_loud (refine app_bo _ rfl (.tmp 11) (.tmp 16) rfl rfl (hown.alloc _) rfl (Rd.one _ _ _) (by intro u hu; simp at hu; subst hu; exact ⟨_, rfl⟩) (by omega) (by simp; omega) ?_); intro A2 c2 w2 hown2 hg2 hb2)
      go_roundw
      case rel => exact ⟨k + 1, c2, A2, by omega, by go_num, rfl, by rw [map_take_succ _ _ _ hl1]; exact hown2, below_app hbel hbs hg2 (fun g hg => (hown.lt g hg).1)⟩
      case measure => simp [intOf]; omega
    · obtain rfl : k = n := by omega
      go_wp2
      go_ret
      exact ⟨_, _, rfl, by rw [List.take_of_length_le (by have := Hl.out; omega)] at hown; exact hown, hbel⟩

theorem lentL_any (l : List Bool) (A : Option Addr) (n c : Nat) (w : World) (hr : Rd w A n (l.map cL)) (hn : n ≤ 140737488355328) :
    Calls Tryz.prog 42 #[.slice A n c] w fun e w' => ∃ g cur, e = .returned (.slice (some ⟨g, 0, none⟩) n (n + 5)) ∧ w.heap.size ≤ g ∧ w'.heap[g]? = some (.cells cur 4 (0, 0)) ∧ cur.toList = l.map cL ++ List.replicate 5 (.bool true) ∧ Below w.heap.size w w' := by
  have hl : l.length = n := by have := hr.1; simpa using this
  have Hr := Lib.hid hr; have Hl := Lib.hid hl; clear hr hl
  have hmk : ∀ W : World, (Instr.makeSlice 33 (.int .i64 ((n : Int) + 5)) (.int .i64 ((n : Int) + 5))).run Tryz.prog W = .ok (.slice (some ⟨W.heap.size, 0, none⟩) (n + 5) (n + 5)) (W.alloc (.cells (Array.replicate (n + 5) (.bool false)) 4)) :=
    fun W => by have := run_make1 (P := Tryz.prog) 33 4 (.bool false) 1 Tryz.underlying33 info_bo rfl (n + 5) (by omega) (by omega) W; simpa using this
  go_enter Tryz.func42, Tryz.ntmps42
  go_wp2
  have HT : Hid ((l.map cL ++ List.replicate 5 (Value.bool true)).length = n + 5) := by have := Hl.out; simp [Hid]; omega
  go_loopw [4] (fun i wr => ∃ (k : Nat) (cur : Array Value), k ≤ n ∧ i = .int .i64 k ∧ wr.heap[w.heap.size]? = some (.cells cur 4 (0, 0)) ∧ Hid (cur.toList = (l.map cL ++ List.replicate 5 (Value.bool true)).take k ++ List.replicate (n + 5 - k) (.bool false)) ∧ Hid (cur.size = n + 5) ∧ Below w.heap.size w wr) (fun i _ => n - (intOf i).toNat)
  case atStart => exact ⟨0, Array.replicate (n + 5) (.bool false), Nat.zero_le _, rfl, heap_alloc_new w _, by simp [Hid], by simp [Hid], (Below.refl _ _).alloc (Nat.le_refl _) _⟩
  case round =>
    obtain ⟨k, cur, hk, rfl, hh, hcur, Hcs, hbel⟩ := hrel
    by_cases hlt : k < n
    · obtain ⟨b1, o1, rfl, -, hl1, hc1⟩ := ((Hr.out).below hbel).boat hlt
      obtain ⟨old, hce⟩ := heap_cell (k := k) hh (by have := Hcs.out; omega)
      have hfz := frozen_of_row wr w.heap.size k cur _ hh
      have Hh := Lib.hid hh; clear hh
      go_wp2
      go_roundw
      case rel => exact ⟨k + 1, cur.setIfInBounds k (.bool l[k]), by omega, by go_num, heap_setCell_same _ _ _ _ _ _ Hh.out, fill_step hcur HT.out (by rw [List.getElem?_append_left (by simpa using hl1)]; simp [hl1, cL]), by have := Hcs.out; simp [Hid]; omega, hbel.setCell (Nat.le_refl _) _⟩
      case measure => simp [intOf]; omega
    · obtain rfl : k = n := by omega
      have Hh := Lib.hid hh; clear hh
      go_wp2
      go_loopw [5] (fun i wr => ∃ (j : Nat) (cur : Array Value), k ≤ j ∧ j ≤ k + 5 ∧ i = .int .i64 j ∧ wr.heap[w.heap.size]? = some (.cells cur 4 (0, 0)) ∧ Hid (cur.toList = (l.map cL ++ List.replicate 5 (Value.bool true)).take j ++ List.replicate (k + 5 - j) (.bool false)) ∧ Hid (cur.size = k + 5) ∧ Below w.heap.size w wr) (fun i _ => k + 5 - (intOf i).toNat)
      case atStart => exact ⟨k, cur, Nat.le_refl _, by omega, rfl, Hh.out, hcur, Hcs, hbel⟩
      case round =>
        obtain ⟨j, cur', hj1, hj2, rfl, hh', hcur', Hcs', hbel'⟩ := hrel
        by_cases hlt' : j < k + 5
        · obtain ⟨old, hce⟩ := heap_cell (k := j) hh' (by have := Hcs'.out; omega)
          have hfz := frozen_of_row _ w.heap.size j cur' _ hh'
          have Hh' := Lib.hid hh'; clear hh'
          go_wp2
          go_roundw
          case rel => exact ⟨j + 1, cur'.setIfInBounds j (.bool true), by omega, by omega, by go_num, heap_setCell_same _ _ _ _ _ _ Hh'.out, fill_step hcur' HT.out (by have := Hl.out; rw [List.getElem?_append_right (by simp; omega), List.getElem?_replicate, if_pos (by simp; omega)]), by have := Hcs'.out; simp [Hid]; omega, hbel'.setCell (Nat.le_refl _) _⟩
          case measure => simp [intOf]; omega
        · obtain rfl : j = k + 5 := by omega
          have Hh' := Lib.hid hh'; clear hh'
          go_wp2
          go_ret
          exact ⟨_, cur', rfl, Nat.le_refl _, Hh'.out, by have h := hcur'.out; rwa [Nat.sub_self, List.replicate_zero, List.append_nil, List.take_of_length_le (by rw [HT.out]; exact Nat.le_refl _)] at h, hbel'⟩

theorem keptL_any (l : List Bool) (A : Option Addr) (n c g : Nat) (cur : Array Value) (w : World) (hr : Rd w A n (l.map cL)) (hh : w.heap[g]? = some (.cells cur 4 (0, 0))) (hcur : cur.toList = l.map cL ++ List.replicate 5 (.bool true)) (hn : n ≤ 140737488355328) :
    Calls Tryz.prog 49 #[.slice (some ⟨g, 0, none⟩) n (n + 5), .slice A n c] w fun e w' => e = .returned (.bool true) ∧ Below w.heap.size w w' := by
  have hl : l.length = n := by have := hr.1; simpa using this
  have hrg : Rd w (some ⟨g, 0, none⟩) n (l.map cL) := ⟨by simpa using hl, fun _ => ⟨g, 0, rfl, lt_of_heap hh, fun j u hu => by
    rw [cell_of_row _ _ _ _ _ _ hh, ← Array.getElem?_toList, hcur, Nat.zero_add, List.getElem?_append_left (by have := (List.getElem?_eq_some_iff.1 hu).1; omega)]; exact hu⟩⟩
  have hcs : cur.size = n + 5 := by rw [← Array.length_toList, hcur]; simp [hl]
  have hsp : ∀ j, n ≤ j → j < n + 5 → w.cell? ⟨g, j, none⟩ = some (.bool true) := fun j h1 h2 => by
    rw [cell_of_row _ _ _ _ _ _ hh, ← Array.getElem?_toList, hcur, List.getElem?_append_right (by simp; omega), List.getElem?_replicate, if_pos (by simp; omega)]
  have hlt := lt_of_heap hh
  have Hr := Lib.hid hr; have Hrg := Lib.hid hrg; have Hsp := Lib.hid hsp; clear hr hrg hsp hl hh hcur hcs
  go_enter Tryz.func49, Tryz.ntmps49
  go_wp2_with fail
  refine (sameL_any l l _ _ _ _ _ _ _ Hrg.out Hr.out (by unfold maxLen; omega)).mono ?_
  rintro e w1 ⟨rfl, hb1⟩
  rw [decide_eq_true rfl]
  go_wp2_with fail
  go_loopw [6] (fun i wr => ∃ (j : Nat), n ≤ j ∧ j ≤ n + 5 ∧ i = .int .i64 j ∧ Below w.heap.size w wr) (fun i _ => n + 5 - (intOf i).toNat)
  case atStart => exact ⟨n, Nat.le_refl _, by omega, rfl, hb1⟩
  case round =>
    obtain ⟨j, hj1, hj2, rfl, hbel⟩ := hrel
    by_cases hlt' : j < n + 5
    · have hc1 : wr.cell? ⟨g, j, none⟩ = some (.bool true) := (hbel.cell (p := ⟨g, j, none⟩) hlt).trans (Hsp.out j hj1 hlt')
      go_wp2
      go_roundw
      case rel => exact ⟨j + 1, by omega, by omega, by go_num, hbel⟩
      case measure => simp [intOf]; omega
    · go_wp2
      go_ret
      exact ⟨rfl, hbel⟩

theorem spoilL_any (A : Option Addr) (n c base : Nat) (xs : List Value) (w : World) (ho : Own w base 4 IsBo A n c xs) :
    Calls Tryz.prog 52 #[.slice A n c] w fun e w' => e = .returned (.tuple #[]) ∧ (∃ ys, Own w' base 4 IsBo A n c ys) ∧ w.grownBy w' (blk A) := by
  obtain ⟨h1, h2, h3, h4⟩ := ho
  unfold maxLen at h3
  have H1 := Lib.hid h1; clear h1
  rcases h4 with ⟨rfl, rfl⟩ | ⟨g, off, cur, rfl, hbg, hh, hcs, ht, hp⟩
  · obtain rfl : n = 0 := by omega
    go_enter Tryz.func52, Tryz.ntmps52
    go_wp2_with fail
    refine wp_loop_rounds 1 ?_
    rw [rounds_succ]
    go_wp2
    go_end0
    exact ⟨rfl, ⟨[], Own.nil_ _ _ _ _⟩, World.grownBy.refl _ _⟩
  · have Ht := Lib.hid ht; have Hcs := Lib.hid hcs; have Hp := Lib.hid hp; have Hh := Lib.hid hh; clear ht hcs hp hh
    go_enter Tryz.func52, Tryz.ntmps52
    go_wp2_with fail
    go_loopw [3] (fun i wr => ∃ (k : Nat) (cur : Array Value), k ≤ c ∧ i = .int .i64 k ∧ wr.heap[g]? = some (.cells cur 4 (0, 0)) ∧ Hid (cur.size = off + c) ∧ Hid (∀ u ∈ cur.toList, IsBo u) ∧ w.grownBy wr (some g)) (fun i _ => c - (intOf i).toNat)
    case atStart => exact ⟨0, cur, by omega, rfl, Hh.out, Hcs, Hp, World.grownBy.refl _ _⟩
    case round =>
      obtain ⟨k, cur', hk, rfl, hh, Hcs', Hp', hg⟩ := hrel
      by_cases hlt : k < c
      · obtain ⟨old, hce⟩ := heap_cell (k := off + k) hh (by have := Hcs'.out; omega)
        obtain ⟨x, rfl⟩ : IsBo old := by
          refine Hp'.out _ ?_
          rw [cell_of_row _ _ _ _ _ _ hh] at hce
          exact Array.mem_toList_iff.2 (Array.mem_of_getElem? hce)
        have hfz := frozen_of_row wr g (off + k) cur' _ hh
        have Hh' := Lib.hid hh; clear hh
        go_wp2
        go_roundw
        case rel => exact ⟨k + 1, cur'.setIfInBounds (off + k) _, by omega, by go_num, heap_setCell_same _ _ _ _ _ _ Hh'.out, by have := Hcs'.out; simp [Hid]; omega, all_set Hp'.out ⟨_, rfl⟩, only_setCell hg (.inl rfl) _⟩
        case measure => simp [intOf]; omega
      · obtain rfl : k = c := by omega
        have Hh' := Lib.hid hh; clear hh
        go_wp2
        go_end0
        exact ⟨rfl, ⟨_, Own.of_heap hbg Hh'.out n k h2 Hcs'.out (by unfold maxLen; omega) Hp'.out⟩, hg⟩


end Go.Proofs.YtomcipkmohhpjaaGreat
