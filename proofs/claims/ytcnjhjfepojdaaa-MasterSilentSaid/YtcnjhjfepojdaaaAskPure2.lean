/- Requests: plain definitions; no program in sight. -/
import Derived.Test.YtcnjhjfepojdaaaBitBack
namespace Go.Out
open Go Go.RowKit
set_option linter.unusedVariables false

structure PartD where
  file : Int
  record : Int
  len : Int
structure AskD where
  code : Int
  addr : Int
  count : Int
  on : List Bool
  set : List UInt16
  parts : List PartD
def ask0 : AskD := ⟨0, 0, 0, [], [], []⟩
def isCnt (c : Int) : Prop := 1 ≤ c ∧ c ≤ 4
def isOn (c : Int) : Prop := c = 5 ∨ c = 15
def isSet (c : Int) : Prop := c = 6 ∨ c = 16
instance (c : Int) : Decidable (isCnt c) := by unfold isCnt; infer_instance
instance (c : Int) : Decidable (isOn c) := by unfold isOn; infer_instance
instance (c : Int) : Decidable (isSet c) := by unfold isSet; infer_instance
def codeP (c : Int) : Prop := isCnt c ∨ isOn c ∨ isSet c ∨ c = 20
instance (c : Int) : Decidable (codeP c) := by unfold codeP; infer_instance
def fieldP (a : AskD) : Prop :=
  (¬ isCnt a.code ∧ a.count ≠ 0) ∨ (¬ isOn a.code ∧ 0 < a.on.length) ∨ (¬ isSet a.code ∧ 0 < a.set.length) ∨ (a.code ≠ 20 ∧ 0 < a.parts.length) ∨ (a.code = 20 ∧ a.addr ≠ 0)
instance (a : AskD) : Decidable (fieldP a) := by unfold fieldP; infer_instance
def manyF (a : AskD) : Int := if isCnt a.code then a.count else if isOn a.code then a.on.length else if isSet a.code then a.set.length else a.parts.length
def mostF (c : Int) : Int := if c = 1 ∨ c = 2 then 2000 else if c = 3 ∨ c = 4 then 125 else if c = 15 then 1968 else if c = 16 then 123 else if c = 20 then 35 else 1
def badP (p : PartD) : Prop := p.file < 1 ∨ 65535 < p.file ∨ p.record < 0 ∨ 9999 < p.record ∨ p.len < 1 ∨ 10000 - p.record < p.len
instance (p : PartD) : Decidable (badP p) := by unfold badP; infer_instance
def sumP : List PartD → Int
  | [] => 0
  | p :: l => 2 + 2 * p.len + sumP l
def partsF (l : List PartD) : Int := if l.any (fun p => decide (badP p)) = true then 3 else if 245 < sumP l then 2 else 0
def checkF (a : AskD) : Int :=
  if ¬ codeP a.code then 20 else if fieldP a then 23 else if a.addr < 0 ∨ 65535 < a.addr then 21 else if manyF a < 1 ∨ mostF a.code < manyF a then 22
  else if a.code ≠ 20 ∧ 65536 < a.addr + manyF a then 21 else partsF a.parts
def partB (p : PartD) : List UInt8 := 6 :: (two p.file.toNat ++ two p.record.toNat ++ two p.len.toNat)
def partsB (l : List PartD) : List UInt8 := l.flatMap partB
def bodyF (a : AskD) : List UInt8 :=
  if a.code = 20 then UInt8.ofNat (7 * a.parts.length) :: partsB a.parts
  else two a.addr.toNat ++
    (if a.code = 5 then two (if a.on.getD 0 false then 65280 else 0)
    else if a.code = 6 then two (a.set.getD 0 0).toNat
    else if a.code = 15 then two a.on.length ++ UInt8.ofNat (need a.on.length) :: bitsF a.on
    else if a.code = 16 then two a.set.length ++ UInt8.ofNat (2 * a.set.length) :: wb a.set
    else two a.count.toNat)
def putA (a : AskD) : List UInt8 × Int := if checkF a ≠ 0 then ([], checkF a) else (UInt8.ofNat a.code.toNat :: bodyF a, 0)

def b0 (b : List UInt8) : Nat := (b.getD 0 0).toNat
/-- How many bytes a PDU has that begins so (0: that can't be told yet). -/
def sizeF (b : List UInt8) : Nat := if b0 b ≤ 6 then 5 else if b0 b = 20 then (if 2 ≤ b.length then 2 + (b.getD 1 0).toNat else 0) else if 6 ≤ b.length then 6 + (b.getD 5 0).toNat else 0
def sizedF (b : List UInt8) : Int := if sizeF b = 0 then 1 else if b.length < sizeF b then 1 else if sizeF b < b.length then 2 else 0
def partsOf : List UInt8 → Option (List PartD)
  | [] => some []
  | t :: a :: b :: c :: d :: e :: f :: r => if t = 6 then (partsOf r).map (fun l => ⟨((a.toNat * 256 + b.toNat : Nat) : Int), ((c.toNat * 256 + d.toNat : Nat) : Int), ((e.toNat * 256 + f.toNat : Nat) : Int)⟩ :: l) else none
  | _ => none
def saidF (b : List UInt8) : Option AskD :=
  if b0 b = 20 then (partsOf (b.drop 2)).map fun l => ⟨20, 0, 0, [], [], l⟩
  else if b0 b = 5 then (if at2 b 3 = 65280 ∨ at2 b 3 = 0 then some ⟨5, (at2 b 1 : Nat), 0, [decide (at2 b 3 = 65280)], [], []⟩ else none)
  else if b0 b = 6 then some ⟨6, (at2 b 1 : Nat), 0, [], [UInt16.ofNat (at2 b 3)], []⟩
  else if b0 b = 15 then (if (unbitsF (b.drop 6) (at2 b 3 : Nat)).2 = 0 then some ⟨15, (at2 b 1 : Nat), 0, (unbitsF (b.drop 6) (at2 b 3 : Nat)).1, [], []⟩ else none)
  else if b0 b = 16 then (if b.length - 6 = 2 * at2 b 3 then some ⟨16, (at2 b 1 : Nat), 0, [], bw (b.drop 6), []⟩ else none)
  else some ⟨(b0 b : Nat), (at2 b 1 : Nat), (at2 b 3 : Nat), [], [], []⟩
def getA (b : List UInt8) : AskD × Int :=
  if b.length = 0 then (ask0, 1) else if ¬ codeP (b0 b : Nat) then (ask0, 20) else if sizedF b ≠ 0 then (ask0, sizedF b)
  else match saidF b with
    | none => (ask0, 4)
    | some a => if checkF a ≠ 0 then (ask0, checkF a) else (a, 0)
def writesF (c : Int) : Bool := decide (isOn c ∨ isSet c)

theorem codeP_cases {c : Int} (h : codeP c) : c = 1 ∨ c = 2 ∨ c = 3 ∨ c = 4 ∨ c = 5 ∨ c = 6 ∨ c = 15 ∨ c = 16 ∨ c = 20 := by
  unfold codeP isCnt isOn isSet at h; omega
theorem sumP_nonneg {l : List PartD} (h : l.any (fun p => decide (badP p)) = false) : 4 * (l.length : Int) ≤ sumP l := by
  induction l with
  | nil => simp [sumP]
  | cons p l ih =>
    simp only [List.any_cons, Bool.or_eq_false_iff, decide_eq_false_iff_not] at h
    have := ih h.2
    have h1 := h.1
    unfold badP at h1
    simp only [sumP, List.length_cons]
    omega
theorem checkF_parts (a : AskD) (h : checkF a = 0) : codeP a.code ∧ ¬ fieldP a ∧ 0 ≤ a.addr ∧ a.addr ≤ 65535 ∧ 1 ≤ manyF a ∧ manyF a ≤ mostF a.code ∧ (a.code = 20 ∨ a.addr + manyF a ≤ 65536) ∧ partsF a.parts = 0 := by
  unfold checkF at h
  split at h
  · simp at h
  · split at h
    · simp at h
    · split at h
      · simp at h
      · split at h
        · simp at h
        · split at h
          · simp at h
          · rename_i h1 h2 h3 h4 h5
            exact ⟨Classical.not_not.1 h1, h2, by omega, by omega, by omega, by omega, by omega, h⟩
end Go.Out

namespace Go.Out
open Go Go.RowKit
set_option linter.unusedVariables false

/-- A request that is right, by its kind. -/
theorem ask_cases {a : AskD} (h : checkF a = 0) :
    (∃ c A n : Nat, 1 ≤ c ∧ c ≤ 4 ∧ A ≤ 65535 ∧ 1 ≤ n ∧ n ≤ 2000 ∧ a = ⟨c, A, n, [], [], []⟩) ∨
    (∃ (A : Nat) (x : Bool), A ≤ 65535 ∧ a = ⟨5, A, 0, [x], [], []⟩) ∨ (∃ (A : Nat) (v : UInt16), A ≤ 65535 ∧ a = ⟨6, A, 0, [], [v], []⟩) ∨
    (∃ (A : Nat) (l : List Bool), A ≤ 65535 ∧ 1 ≤ l.length ∧ l.length ≤ 1968 ∧ a = ⟨15, A, 0, l, [], []⟩) ∨ (∃ (A : Nat) (l : List UInt16), A ≤ 65535 ∧ 1 ≤ l.length ∧ l.length ≤ 123 ∧ a = ⟨16, A, 0, [], l, []⟩) ∨
    (∃ l : List PartD, 1 ≤ l.length ∧ l.length ≤ 35 ∧ partsF l = 0 ∧ a = ⟨20, 0, 0, [], [], l⟩) := by
  obtain ⟨h1, h2, h3, h4, h5, h6, h7, h8⟩ := checkF_parts a h
  obtain ⟨code, addr, count, on, set, parts⟩ := a
  simp only at h1 h2 h3 h4 h5 h6 h7 h8
  obtain ⟨A, rfl⟩ := Int.eq_ofNat_of_zero_le h3
  rcases codeP_cases h1 with rfl | rfl | rfl | rfl | rfl | rfl | rfl | rfl | rfl <;>
    simp [fieldP, isCnt, isOn, isSet] at h2 <;> simp [manyF, mostF, isCnt, isOn, isSet] at h5 h6 h7
  · obtain ⟨rfl, rfl, rfl⟩ := h2
    obtain ⟨n, rfl⟩ := Int.eq_ofNat_of_zero_le (show 0 ≤ count by omega)
    exact .inl ⟨1, A, n, by omega, by omega, by omega, by omega, by omega, rfl⟩
  · obtain ⟨rfl, rfl, rfl⟩ := h2
    obtain ⟨n, rfl⟩ := Int.eq_ofNat_of_zero_le (show 0 ≤ count by omega)
    exact .inl ⟨2, A, n, by omega, by omega, by omega, by omega, by omega, rfl⟩
  · obtain ⟨rfl, rfl, rfl⟩ := h2
    obtain ⟨n, rfl⟩ := Int.eq_ofNat_of_zero_le (show 0 ≤ count by omega)
    exact .inl ⟨3, A, n, by omega, by omega, by omega, by omega, by omega, rfl⟩
  · obtain ⟨rfl, rfl, rfl⟩ := h2
    obtain ⟨n, rfl⟩ := Int.eq_ofNat_of_zero_le (show 0 ≤ count by omega)
    exact .inl ⟨4, A, n, by omega, by omega, by omega, by omega, by omega, rfl⟩
  · obtain ⟨rfl, rfl, rfl⟩ := h2
    obtain ⟨x, rfl⟩ : ∃ x, on = [x] := List.length_eq_one_iff.1 (by omega)
    exact .inr (.inl ⟨A, x, by omega, rfl⟩)
  · obtain ⟨rfl, rfl, rfl⟩ := h2
    obtain ⟨x, rfl⟩ : ∃ x, set = [x] := List.length_eq_one_iff.1 (by omega)
    exact .inr (.inr (.inl ⟨A, x, by omega, rfl⟩))
  · obtain ⟨rfl, rfl, rfl⟩ := h2
    exact .inr (.inr (.inr (.inl ⟨A, on, by omega, by omega, by omega, rfl⟩)))
  · obtain ⟨rfl, rfl, rfl⟩ := h2
    exact .inr (.inr (.inr (.inr (.inl ⟨A, set, by omega, by omega, by omega, rfl⟩))))
  · obtain ⟨rfl, rfl, rfl, h9⟩ := h2
    have : A = 0 := by omega
    subst this
    exact .inr (.inr (.inr (.inr (.inr ⟨parts, by omega, by omega, h8, rfl⟩))))

theorem ofNat_toNat8 (x : UInt8) : UInt8.ofNat x.toNat = x := by simp
theorem toNat_ofNat8 {c : Nat} (h : c < 256) : (UInt8.ofNat c).toNat = c := by simp; omega
theorem at2_two1 (x : UInt8) (A : Nat) (l : List UInt8) (h : A < 65536) : at2 (x :: (two A ++ l)) 1 = A := by
  show (UInt8.ofNat (A / 256)).toNat * 256 + (UInt8.ofNat A).toNat = A
  exact two_join A h
theorem at2_two3 (x : UInt8) (A n : Nat) (l : List UInt8) (h : n < 65536) : at2 (x :: (two A ++ (two n ++ l))) 3 = n := by
  show (UInt8.ofNat (n / 256)).toNat * 256 + (UInt8.ofNat n).toNat = n
  exact two_join n h
theorem two_nil (n : Nat) : two n = two n ++ [] := by simp

theorem partsOf_parts : ∀ (l : List PartD), l.any (fun p => decide (badP p)) = false → partsOf (partsB l) = some l
  | [], _ => rfl
  | p :: l, h => by
    simp only [List.any_cons, Bool.or_eq_false_iff, decide_eq_false_iff_not] at h
    have ih := partsOf_parts l h.2
    have h1 := h.1
    unfold badP at h1
    obtain ⟨f, r, n⟩ := p
    simp only at h1
    obtain ⟨F, rfl⟩ := Int.eq_ofNat_of_zero_le (show 0 ≤ f by omega)
    obtain ⟨R, rfl⟩ := Int.eq_ofNat_of_zero_le (show 0 ≤ r by omega)
    obtain ⟨M, rfl⟩ := Int.eq_ofNat_of_zero_le (show 0 ≤ n by omega)
    have e : partsB (⟨(F : Int), (R : Int), (M : Int)⟩ :: l) = 6 :: UInt8.ofNat (F / 256) :: UInt8.ofNat F :: UInt8.ofNat (R / 256) :: UInt8.ofNat R :: UInt8.ofNat (M / 256) :: UInt8.ofNat M :: partsB l := rfl
    rw [e, partsOf, if_pos rfl, ih, two_join F (by omega), two_join R (by omega), two_join M (by omega)]
    rfl
theorem partsOf_some : ∀ (r : List UInt8) (l : List PartD), partsOf r = some l → partsB l = r ∧ r.length = 7 * l.length
  | [], l, h => by simp [partsOf] at h; subst h; simp [partsB]
  | t :: a :: b :: c :: d :: e :: f :: r, l, h => by
    rw [partsOf] at h
    split at h
    · rename_i ht
      subst ht
      rw [Option.map_eq_some_iff] at h
      obtain ⟨l', hl', rfl⟩ := h
      obtain ⟨i1, i2⟩ := partsOf_some r l' hl'
      refine ⟨?_, by simp only [List.length_cons]; omega⟩
      have e : partsB (⟨((a.toNat * 256 + b.toNat : Nat) : Int), ((c.toNat * 256 + d.toNat : Nat) : Int), ((e.toNat * 256 + f.toNat : Nat) : Int)⟩ :: l') =
        6 :: (two (a.toNat * 256 + b.toNat) ++ two (c.toNat * 256 + d.toNat) ++ two (e.toNat * 256 + f.toNat)) ++ partsB l' := rfl
      rw [e, i1, two_split, two_split, two_split]
      rfl
    · cases h
  | [_], l, h => by simp [partsOf] at h
  | [_, _], l, h => by simp [partsOf] at h
  | [_, _, _], l, h => by simp [partsOf] at h
  | [_, _, _, _], l, h => by simp [partsOf] at h
  | [_, _, _, _, _], l, h => by simp [partsOf] at h
  | [_, _, _, _, _, _], l, h => by simp [partsOf] at h
theorem partsF_zero {l : List PartD} (h : partsF l = 0) : l.any (fun p => decide (badP p)) = false ∧ sumP l ≤ 245 := by
  unfold partsF at h
  split at h
  · simp at h
  · rename_i h1
    split at h
    · simp at h
    · exact ⟨by simpa using h1, by omega⟩
theorem partsB_length (l : List PartD) : (partsB l).length = 7 * l.length := by
  induction l with
  | nil => rfl
  | cons p l ih => simp only [partsB, List.flatMap_cons, List.length_append, List.length_cons] at ih ⊢; rw [ih]; simp [partB, two]; omega

theorem getA_of {b : List UInt8} {a : AskD} (h1 : b.length ≠ 0) (h2 : codeP (b0 b : Nat)) (h3 : sizedF b = 0) (h4 : saidF b = some a) (h5 : checkF a = 0) : getA b = (a, 0) := by
  unfold getA
  rw [if_neg h1, if_neg (by simpa using h2), if_neg (by simpa using h3), h4]
  simp [h5]
theorem getA_zero {b : List UInt8} (h : (getA b).2 = 0) : b.length ≠ 0 ∧ codeP (b0 b : Nat) ∧ sizedF b = 0 ∧ saidF b = some (getA b).1 ∧ checkF (getA b).1 = 0 := by
  unfold getA at h ⊢
  split at h
  · simp at h
  · rename_i h1
    rw [if_neg h1]
    split at h
    · simp at h
    · rename_i h2
      rw [if_neg h2]
      split at h
      · rename_i h3; exact absurd h h3
      · rename_i h3
        rw [if_neg h3]
        cases hs : saidF b with
        | none => rw [hs] at h; simp at h
        | some a =>
          rw [hs] at h
          simp only at h ⊢
          split at h
          · rename_i h4; exact absurd h h4
          · rename_i h4
            rw [if_neg h4]
            exact ⟨h1, Classical.not_not.1 h2, Classical.not_not.1 h3, rfl, Classical.not_not.1 h4⟩
theorem getA_err {b : List UInt8} (h : (getA b).2 ≠ 0) : (getA b).1 = ask0 := by
  unfold getA at h ⊢
  split
  · rfl
  · rename_i h1
    rw [if_neg h1] at h
    split
    · rfl
    · rename_i h2
      rw [if_neg h2] at h
      split
      · rfl
      · rename_i h3
        rw [if_neg h3] at h
        cases hs : saidF b with
        | none => rfl
        | some a =>
          rw [hs] at h
          simp only at h ⊢
          split
          · rfl
          · rename_i h4; rw [if_neg h4] at h; simp at h
theorem sizedF_zero {b : List UInt8} : sizedF b = 0 ↔ sizeF b ≠ 0 ∧ sizeF b = b.length := by
  unfold sizedF
  constructor
  · intro h
    split at h
    · simp at h
    · split at h
      · simp at h
      · split at h
        · simp at h
        · omega
  · rintro ⟨h1, h2⟩
    rw [if_neg h1, if_neg (by omega), if_neg (by omega)]
theorem sizeF_of5 {b : List UInt8} (h : b0 b ≤ 6) : sizeF b = 5 := by unfold sizeF; rw [if_pos h]
theorem sizeF_of20 {b : List UInt8} (h : b0 b = 20) (h2 : 2 ≤ b.length) : sizeF b = 2 + (b.getD 1 0).toNat := by unfold sizeF; rw [if_neg (by omega), if_pos h, if_pos h2]
theorem sizeF_of6 {b : List UInt8} (h : b0 b = 15 ∨ b0 b = 16) (h2 : 6 ≤ b.length) : sizeF b = 6 + (b.getD 5 0).toNat := by unfold sizeF; rw [if_neg (by omega), if_neg (by omega), if_pos h2]
theorem codeP_lit (c : Nat) (h : c = 1 ∨ c = 2 ∨ c = 3 ∨ c = 4 ∨ c = 5 ∨ c = 6 ∨ c = 15 ∨ c = 16 ∨ c = 20) : codeP (c : Int) := by
  unfold codeP isCnt isOn isSet; omega

theorem b0_cons (c : Nat) (l : List UInt8) (h : c < 256) : b0 (UInt8.ofNat c :: l) = c := toNat_ofNat8 h
/-- A right request's bytes. -/
theorem putA_ok {a : AskD} (h : checkF a = 0) : putA a = (UInt8.ofNat a.code.toNat :: bodyF a, 0) := by unfold putA; rw [if_neg (by simp [h])]
theorem putA_no {a : AskD} (h : checkF a ≠ 0) : putA a = ([], checkF a) := by unfold putA; rw [if_pos h]

/-- A right request is read from its bytes as it was. -/
theorem getA_put {a : AskD} (h : checkF a = 0) : getA (putA a).1 = (a, 0) ∧ 5 ≤ (putA a).1.length ∧ (putA a).1.length ≤ 253 := by
  have hp := putA_ok h
  rcases ask_cases h with ⟨c, A, n, h1, h2, h3, h4, h5, rfl⟩ | ⟨A, x, h3, rfl⟩ | ⟨A, v, h3, rfl⟩ | ⟨A, l, h3, h4, h5, rfl⟩ | ⟨A, l, h3, h4, h5, rfl⟩ | ⟨l, h4, h5, h6, rfl⟩
  · have e : (putA ⟨c, A, n, [], [], []⟩).1 = UInt8.ofNat c :: (two A ++ (two n ++ [])) := by
      rw [hp, ← two_nil]
      simp only [bodyF, Int.toNat_natCast]
      rw [if_neg (by omega), if_neg (by omega), if_neg (by omega), if_neg (by omega), if_neg (by omega)]
    rw [e]
    have hb := b0_cons c (two A ++ (two n ++ [])) (by omega)
    refine ⟨getA_of (by simp) (by rw [hb]; exact codeP_lit c (by omega)) (sizedF_zero.2 ?_) ?_ h, by simp [two], by simp [two]⟩
    · rw [sizeF_of5 (by omega)]; simp [two]
    · unfold saidF
      rw [hb, at2_two1 _ _ _ (by omega), at2_two3 _ _ _ _ (by omega), if_neg (by omega), if_neg (by omega), if_neg (by omega), if_neg (by omega), if_neg (by omega)]
  · have e : (putA ⟨5, A, 0, [x], [], []⟩).1 = UInt8.ofNat 5 :: (two A ++ (two (if x then 65280 else 0) ++ [])) := by rw [hp, ← two_nil]; rfl
    rw [e]
    have hb := b0_cons 5 (two A ++ (two (if x then 65280 else 0) ++ [])) (by omega)
    refine ⟨getA_of (by simp) (by rw [hb]; exact codeP_lit 5 (by omega)) (sizedF_zero.2 ?_) ?_ h, by simp [two], by simp [two]⟩
    · rw [sizeF_of5 (by omega)]; simp [two]
    · unfold saidF
      rw [hb, at2_two1 _ _ _ (by omega), at2_two3 _ _ _ _ (by split <;> omega)]
      cases x <;> simp
  · have e : (putA ⟨6, A, 0, [], [v], []⟩).1 = UInt8.ofNat 6 :: (two A ++ (two v.toNat ++ [])) := by rw [hp, ← two_nil]; rfl
    rw [e]
    have hb := b0_cons 6 (two A ++ (two v.toNat ++ [])) (by omega)
    have hv : v.toNat < 65536 := v.toNat_lt
    refine ⟨getA_of (by simp) (by rw [hb]; exact codeP_lit 6 (by omega)) (sizedF_zero.2 ?_) ?_ h, by simp [two], by simp [two]⟩
    · rw [sizeF_of5 (by omega)]; simp [two]
    · unfold saidF
      rw [hb, at2_two1 _ _ _ (by omega), at2_two3 _ _ _ _ hv]
      simp
  · have e : (putA ⟨15, A, 0, l, [], []⟩).1 = UInt8.ofNat 15 :: (two A ++ (two l.length ++ UInt8.ofNat (need l.length) :: bitsF l)) := by rw [hp]; rfl
    rw [e]
    have hn : need l.length ≤ 246 := by unfold need; omega
    have hn1 : 1 ≤ need l.length := by unfold need; omega
    have hl := bitsF_length l
    have hb := b0_cons 15 (two A ++ (two l.length ++ UInt8.ofNat (need l.length) :: bitsF l)) (by omega)
    refine ⟨getA_of (by simp) (by rw [hb]; exact codeP_lit 15 (by omega)) (sizedF_zero.2 ?_) ?_ h, by simp [two], by simp [two, hl]; omega⟩
    · have e2 : (UInt8.ofNat 15 :: (two A ++ (two l.length ++ UInt8.ofNat (need l.length) :: bitsF l))).getD 5 0 = UInt8.ofNat (need l.length) := rfl
      rw [sizeF_of6 (.inl hb) (by simp [two]), e2, toNat_ofNat8 (by omega)]
      simp [two, hl]; omega
    · have e3 : (UInt8.ofNat 15 :: (two A ++ (two l.length ++ UInt8.ofNat (need l.length) :: bitsF l))).drop 6 = bitsF l := rfl
      unfold saidF
      rw [hb, at2_two1 _ _ _ (by omega), at2_two3 _ _ _ _ (by omega), e3, unbits_bits]
      simp
  · have e : (putA ⟨16, A, 0, [], l, []⟩).1 = UInt8.ofNat 16 :: (two A ++ (two l.length ++ UInt8.ofNat (2 * l.length) :: wb l)) := by rw [hp]; rfl
    rw [e]
    have hl := wb_length l
    have hb := b0_cons 16 (two A ++ (two l.length ++ UInt8.ofNat (2 * l.length) :: wb l)) (by omega)
    refine ⟨getA_of (by simp) (by rw [hb]; exact codeP_lit 16 (by omega)) (sizedF_zero.2 ?_) ?_ h, by simp [two], by simp [two, hl]; omega⟩
    · have e2 : (UInt8.ofNat 16 :: (two A ++ (two l.length ++ UInt8.ofNat (2 * l.length) :: wb l))).getD 5 0 = UInt8.ofNat (2 * l.length) := rfl
      rw [sizeF_of6 (.inr hb) (by simp [two]), e2, toNat_ofNat8 (by omega)]
      simp [two, hl]; omega
    · have e3 : (UInt8.ofNat 16 :: (two A ++ (two l.length ++ UInt8.ofNat (2 * l.length) :: wb l))).drop 6 = wb l := rfl
      have e4 : (UInt8.ofNat 16 :: (two A ++ (two l.length ++ UInt8.ofNat (2 * l.length) :: wb l))).length - 6 = 2 * l.length := by simp [two, hl]
      unfold saidF
      rw [hb, at2_two1 _ _ _ (by omega), at2_two3 _ _ _ _ (by omega), e3, e4, bw_wb]
      simp
  · have e : (putA ⟨20, 0, 0, [], [], l⟩).1 = UInt8.ofNat 20 :: UInt8.ofNat (7 * l.length) :: partsB l := by rw [hp]; rfl
    rw [e]
    have hl := partsB_length l
    have hb := b0_cons 20 (UInt8.ofNat (7 * l.length) :: partsB l) (by omega)
    refine ⟨getA_of (by simp) (by rw [hb]; exact codeP_lit 20 (by omega)) (sizedF_zero.2 ?_) ?_ h, by simp [hl]; omega, by simp [hl]; omega⟩
    · have e2 : (UInt8.ofNat 20 :: UInt8.ofNat (7 * l.length) :: partsB l).getD 1 0 = UInt8.ofNat (7 * l.length) := rfl
      rw [sizeF_of20 hb (by simp), e2, toNat_ofNat8 (by omega)]
      simp [hl]; omega
    · have e3 : (UInt8.ofNat 20 :: UInt8.ofNat (7 * l.length) :: partsB l).drop 2 = partsB l := rfl
      unfold saidF
      rw [hb, if_pos rfl, e3, partsOf_parts l (partsF_zero h6).1]
      rfl
end Go.Out

namespace Go.Out
open Go Go.RowKit
set_option linter.unusedVariables false

theorem len5 {b : List UInt8} (h : b.length = 5) : ∃ x0 x1 x2 x3 x4, b = [x0, x1, x2, x3, x4] := by
  match b, h with
  | [x0, x1, x2, x3, x4], _ => exact ⟨x0, x1, x2, x3, x4, rfl⟩
theorem len6 {b : List UInt8} (h : 6 ≤ b.length) : ∃ x0 x1 x2 x3 x4 x5 r, b = x0 :: x1 :: x2 :: x3 :: x4 :: x5 :: r := by
  match b, h with
  | x0 :: x1 :: x2 :: x3 :: x4 :: x5 :: r, _ => exact ⟨x0, x1, x2, x3, x4, x5, r, rfl⟩
  | [], h => simp at h
  | [_], h => simp at h
  | [_, _], h => simp at h
  | [_, _, _], h => simp at h
  | [_, _, _, _], h => simp at h
  | [_, _, _, _, _], h => simp at h
theorem len2 {b : List UInt8} (h : 2 ≤ b.length) : ∃ x0 x1 r, b = x0 :: x1 :: r := by
  match b, h with
  | x0 :: x1 :: r, _ => exact ⟨x0, x1, r, rfl⟩
  | [], h => simp at h
  | [_], h => simp at h
theorem two_at (x0 x1 x2 : UInt8) (r : List UInt8) : two (at2 (x0 :: x1 :: x2 :: r) 1) = [x1, x2] := two_split x1 x2
theorem two_at3 (x0 x1 x2 x3 x4 : UInt8) (r : List UInt8) : two (at2 (x0 :: x1 :: x2 :: x3 :: x4 :: r) 3) = [x3, x4] := two_split x3 x4
theorem u8_eq_of {x : UInt8} {n : Nat} (h : x.toNat = n) : UInt8.ofNat n = x := by subst h; simp

/-- What is read from bytes has just these. -/
theorem putA_get {b : List UInt8} (h : (getA b).2 = 0) : putA (getA b).1 = (b, 0) := by
  obtain ⟨h1, h2, h3, h4, h5⟩ := getA_zero h
  generalize (getA b).1 = a at h4 h5
  rw [putA_ok h5]
  rw [sizedF_zero] at h3
  have hc : b0 b = 1 ∨ b0 b = 2 ∨ b0 b = 3 ∨ b0 b = 4 ∨ b0 b = 5 ∨ b0 b = 6 ∨ b0 b = 15 ∨ b0 b = 16 ∨ b0 b = 20 := by have := codeP_cases h2; omega
  have hx0 : ∀ (x : UInt8) (l : List UInt8), b0 (x :: l) = x.toNat := fun _ _ => rfl
  by_cases hs : b0 b ≤ 6
  · rw [sizeF_of5 hs] at h3
    obtain ⟨x0, x1, x2, x3, x4, rfl⟩ := len5 h3.2.symm
    have t1 := two_at x0 x1 x2 [x3, x4]
    have t3 := two_at3 x0 x1 x2 x3 x4 []
    have hlt := at2_lt [x0, x1, x2, x3, x4] 3
    by_cases h5' : b0 [x0, x1, x2, x3, x4] = 5
    · unfold saidF at h4
      rw [if_neg (by omega), if_pos h5'] at h4
      split at h4
      · rename_i hv
        injection h4 with h4
        subst h4
        have hv2 : (if decide (at2 [x0, x1, x2, x3, x4] 3 = 65280) then 65280 else 0) = at2 [x0, x1, x2, x3, x4] 3 := by
          rcases hv with hv | hv <;> simp [hv]
        have e : bodyF ⟨5, (at2 [x0, x1, x2, x3, x4] 1 : Nat), 0, [decide (at2 [x0, x1, x2, x3, x4] 3 = 65280)], [], []⟩ = two (at2 [x0, x1, x2, x3, x4] 1) ++ two (if decide (at2 [x0, x1, x2, x3, x4] 3 = 65280) then 65280 else 0) := rfl
        rw [e, hv2, t1, t3]
        rw [show UInt8.ofNat (5 : Int).toNat = x0 from u8_eq_of h5']
        rfl
      · cases h4
    · by_cases h6' : b0 [x0, x1, x2, x3, x4] = 6
      · unfold saidF at h4
        rw [if_neg (by omega), if_neg (by omega), if_pos h6'] at h4
        injection h4 with h4
        subst h4
        have e : bodyF ⟨6, (at2 [x0, x1, x2, x3, x4] 1 : Nat), 0, [], [UInt16.ofNat (at2 [x0, x1, x2, x3, x4] 3)], []⟩ = two (at2 [x0, x1, x2, x3, x4] 1) ++ two (UInt16.ofNat (at2 [x0, x1, x2, x3, x4] 3)).toNat := rfl
        rw [e, show (UInt16.ofNat (at2 [x0, x1, x2, x3, x4] 3)).toNat = at2 [x0, x1, x2, x3, x4] 3 by simp; omega, t1, t3]
        rw [show UInt8.ofNat (6 : Int).toNat = x0 from u8_eq_of h6']
        rfl
      · have hr : 1 ≤ b0 [x0, x1, x2, x3, x4] ∧ b0 [x0, x1, x2, x3, x4] ≤ 4 := by omega
        unfold saidF at h4
        rw [if_neg (by omega), if_neg (by omega), if_neg (by omega), if_neg (by omega), if_neg (by omega)] at h4
        injection h4 with h4
        subst h4
        have e : bodyF ⟨(b0 [x0, x1, x2, x3, x4] : Nat), (at2 [x0, x1, x2, x3, x4] 1 : Nat), (at2 [x0, x1, x2, x3, x4] 3 : Nat), [], [], []⟩ = two (at2 [x0, x1, x2, x3, x4] 1) ++ two (at2 [x0, x1, x2, x3, x4] 3) := by
          simp only [bodyF, Int.toNat_natCast]
          rw [if_neg (by omega), if_neg (by omega), if_neg (by omega), if_neg (by omega), if_neg (by omega)]
        rw [e, t1, t3]
        simp only [Int.toNat_natCast]
        rw [show UInt8.ofNat (b0 [x0, x1, x2, x3, x4]) = x0 from u8_eq_of rfl]
        rfl
  · by_cases h20 : b0 b = 20
    · have hl2 : 2 ≤ b.length := by
        rcases Nat.lt_or_ge b.length 2 with hlt | hge
        · have : sizeF b = 0 := by unfold sizeF; rw [if_neg (by omega), if_pos h20, if_neg (by omega)]
          exact absurd this h3.1
        · exact hge
      rw [sizeF_of20 h20 hl2] at h3
      obtain ⟨x0, x1, r, rfl⟩ := len2 hl2
      unfold saidF at h4
      rw [if_pos h20, Option.map_eq_some_iff] at h4
      obtain ⟨l, hl, rfl⟩ := h4
      obtain ⟨i1, i2⟩ := partsOf_some _ _ hl
      have i1' : partsB l = r := i1
      have i2' : r.length = 7 * l.length := i2
      have e : bodyF ⟨20, 0, 0, [], [], l⟩ = UInt8.ofNat (7 * l.length) :: partsB l := rfl
      have hx1 : x1.toNat = 7 * l.length := by
        have := h3.2
        rw [show (x0 :: x1 :: r).getD 1 0 = x1 from rfl] at this
        simp only [List.length_cons] at this
        omega
      rw [e, i1', u8_eq_of hx1, show UInt8.ofNat (20 : Int).toNat = x0 from u8_eq_of h20]
    · have hl6 : 6 ≤ b.length := by
        rcases Nat.lt_or_ge b.length 6 with hlt | hge
        · have : sizeF b = 0 := by unfold sizeF; rw [if_neg (by omega), if_neg (by omega), if_neg (by omega)]
          exact absurd this h3.1
        · exact hge
      have hc2 : b0 b = 15 ∨ b0 b = 16 := by omega
      rw [sizeF_of6 hc2 hl6] at h3
      obtain ⟨x0, x1, x2, x3, x4, x5, r, rfl⟩ := len6 hl6
      have t1 := two_at x0 x1 x2 (x3 :: x4 :: x5 :: r)
      have t3 := two_at3 x0 x1 x2 x3 x4 (x5 :: r)
      have hlt := at2_lt (x0 :: x1 :: x2 :: x3 :: x4 :: x5 :: r) 3
      have hx5 : x5.toNat = r.length := by
        have := h3.2
        rw [show (x0 :: x1 :: x2 :: x3 :: x4 :: x5 :: r).getD 5 0 = x5 from rfl] at this
        simp only [List.length_cons] at this
        omega
      generalize hN : at2 (x0 :: x1 :: x2 :: x3 :: x4 :: x5 :: r) 3 = N at *
      generalize hM : at2 (x0 :: x1 :: x2 :: x3 :: x4 :: x5 :: r) 1 = M at *
      unfold saidF at h4
      rw [hN, hM, show (x0 :: x1 :: x2 :: x3 :: x4 :: x5 :: r).drop 6 = r from rfl] at h4
      rcases hc2 with hc2 | hc2
      · rw [if_neg (by omega), if_neg (by omega), if_neg (by omega), if_pos hc2] at h4
        split at h4
        · rename_i hu
          injection h4 with h4
          subst h4
          obtain ⟨u1, u2⟩ := unbitsF_zero hu
          have u3 : (unbitsF r (N : Int)).1.length = N := by omega
          have e : bodyF ⟨15, (M : Nat), 0, (unbitsF r (N : Int)).1, [], []⟩ = two M ++ (two (unbitsF r (N : Int)).1.length ++ UInt8.ofNat (need (unbitsF r (N : Int)).1.length) :: bitsF (unbitsF r (N : Int)).1) := rfl
          have hq : need (unbitsF r (N : Int)).1.length = r.length := by rw [← bitsF_length, u2]
          rw [e, hq, u3, u2, t1, t3, u8_eq_of hx5, show UInt8.ofNat (15 : Int).toNat = x0 from u8_eq_of hc2]
          rfl
        · cases h4
      · rw [if_neg (by omega), if_neg (by omega), if_neg (by omega), if_neg (by omega), if_pos hc2] at h4
        split at h4
        · rename_i hu
          injection h4 with h4
          subst h4
          have hr : r.length = 2 * N := by simpa using hu
          have u3 : (bw r).length = N := by rw [bw_length]; omega
          have e : bodyF ⟨16, (M : Nat), 0, [], bw r, []⟩ = two M ++ (two (bw r).length ++ UInt8.ofNat (2 * (bw r).length) :: wb (bw r)) := rfl
          rw [e, u3, wb_bw r (by omega), t1, t3, ← hr, u8_eq_of hx5, show UInt8.ofNat (16 : Int).toNat = x0 from u8_eq_of hc2]
          rfl
        · cases h4

theorem getD_take8 (l : List UInt8) {k i : Nat} (h : i < k) : (l.take k).getD i 0 = l.getD i 0 := by
  rw [List.getD_eq_getElem?_getD, List.getD_eq_getElem?_getD, List.getElem?_take, if_pos h]
theorem getD_app8 (l m : List UInt8) {i : Nat} (h : i < l.length) : (l ++ m).getD i 0 = l.getD i 0 := by
  rw [List.getD_eq_getElem?_getD, List.getD_eq_getElem?_getD, List.getElem?_append_left h]
theorem sizeF_take (b : List UInt8) {k : Nat} (h : 1 ≤ k) : sizeF (b.take k) = sizeF b ∨ sizeF (b.take k) = 0 := by
  unfold sizeF b0
  rw [getD_take8 b h, List.length_take]
  by_cases h6 : (b.getD 0 0).toNat ≤ 6
  · rw [if_pos h6, if_pos h6]; exact .inl rfl
  · rw [if_neg h6, if_neg h6]
    by_cases h20 : (b.getD 0 0).toNat = 20
    · rw [if_pos h20, if_pos h20]
      by_cases hk : 2 ≤ min k b.length
      · rw [if_pos hk, if_pos (by omega), getD_take8 b (by omega)]; exact .inl rfl
      · rw [if_neg hk]; exact .inr rfl
    · rw [if_neg h20, if_neg h20]
      by_cases hk : 6 ≤ min k b.length
      · rw [if_pos hk, if_pos (by omega), getD_take8 b (by omega)]; exact .inl rfl
      · rw [if_neg hk]; exact .inr rfl
theorem sizeF_app (b m : List UInt8) (h : 1 ≤ b.length) (hs : sizeF b ≠ 0) : sizeF (b ++ m) = sizeF b := by
  unfold sizeF b0 at hs ⊢
  rw [getD_app8 b m h, List.length_append]
  by_cases h6 : (b.getD 0 0).toNat ≤ 6
  · rw [if_pos h6, if_pos h6]
  · rw [if_neg h6] at hs ⊢
    rw [if_neg h6]
    by_cases h20 : (b.getD 0 0).toNat = 20
    · rw [if_pos h20] at hs ⊢
      rw [if_pos h20]
      by_cases hk : 2 ≤ b.length
      · rw [if_pos hk, if_pos (by omega), getD_app8 b m (by omega)]
      · rw [if_neg hk] at hs; exact absurd rfl hs
    · rw [if_neg h20] at hs ⊢
      rw [if_neg h20]
      by_cases hk : 6 ≤ b.length
      · rw [if_pos hk, if_pos (by omega), getD_app8 b m (by omega)]
      · rw [if_neg hk] at hs; exact absurd rfl hs
/-- Each beginning of a request's bytes is too short. -/
theorem getA_take {b : List UInt8} {k : Nat} (h : (getA b).2 = 0) (hk : k < b.length) : getA (b.take k) = (ask0, 1) := by
  obtain ⟨h1, h2, h3, h4, h5⟩ := getA_zero h
  rw [sizedF_zero] at h3
  unfold getA
  by_cases h0 : (b.take k).length = 0
  · rw [if_pos h0]
  · rw [List.length_take] at h0
    have e0 : b0 (b.take k) = b0 b := by unfold b0; rw [getD_take8 b (by omega)]
    have hz : sizedF (b.take k) = 1 := by
      unfold sizedF
      rcases sizeF_take b (k := k) (by omega) with hs | hs
      · rw [hs, if_neg h3.1, if_pos (by rw [List.length_take]; omega)]
      · rw [if_pos hs]
    rw [List.length_take, if_neg h0, e0, if_neg (by simpa using h2), hz, if_pos (by omega)]
/-- With more bytes behind it, it is too long. -/
theorem getA_more {b : List UInt8} (m : List UInt8) (h : (getA b).2 = 0) (hm : m ≠ []) : getA (b ++ m) = (ask0, 2) := by
  obtain ⟨h1, h2, h3, h4, h5⟩ := getA_zero h
  rw [sizedF_zero] at h3
  have hml : 0 < m.length := List.length_pos_iff.2 hm
  have e0 : b0 (b ++ m) = b0 b := by unfold b0; rw [getD_app8 b m (by omega)]
  have hz : sizedF (b ++ m) = 2 := by
    unfold sizedF
    rw [sizeF_app b m (by omega) h3.1, if_neg h3.1, List.length_append, if_neg (by omega), if_pos (by omega)]
  unfold getA
  rw [List.length_append, if_neg (by omega), e0, if_neg (by simpa using h2), hz, if_pos (by omega)]

def mostOf (a : AskD) : Int := max a.count (max (a.on.length : Int) (a.set.length : Int))
theorem partsF_nil : partsF [] = 0 := by simp [partsF, sumP]
/-- A request of registers that is moved. -/
theorem checkF_moved {a : AskD} (h : checkF a = 0) (h20 : a.code ≠ 20) (to : Int) :
    manyF a = max a.count (max (a.on.length : Int) (a.set.length : Int)) ∧ 1 ≤ manyF a ∧ checkF { a with addr := to } = if to < 0 ∨ 65536 - manyF a < to then 21 else 0 := by
  obtain ⟨h1, h2, h3, h4, h5, h6, h7, h8⟩ := checkF_parts a h
  have hf : ¬ fieldP { a with addr := to } := by
    unfold fieldP at h2 ⊢
    simp only at h2 ⊢
    rintro (h | h | h | h | h)
    · exact h2 (.inl h)
    · exact h2 (.inr (.inl h))
    · exact h2 (.inr (.inr (.inl h)))
    · exact h2 (.inr (.inr (.inr (.inl h))))
    · exact h20 h.1
  have hm : manyF { a with addr := to } = manyF a := rfl
  refine ⟨?_, h5, ?_⟩
  · rcases ask_cases h with ⟨c, A, n, g1, g2, g3, g4, g5, rfl⟩ | ⟨A, x, g3, rfl⟩ | ⟨A, v, g3, rfl⟩ | ⟨A, l, g3, g4, g5, rfl⟩ | ⟨A, l, g3, g4, g5, rfl⟩ | ⟨l, g4, g5, g6, rfl⟩
    · simp only [manyF, isCnt]; rw [if_pos (by omega)]; simp
    · simp [manyF, isCnt, isOn] <;> omega
    · simp [manyF, isCnt, isOn, isSet] <;> omega
    · simp [manyF, isCnt, isOn] <;> omega
    · simp [manyF, isCnt, isOn, isSet] <;> omega
    · exact absurd rfl h20
  · have hp : a.parts = [] := by
      rcases ask_cases h with ⟨c, A, n, g1, g2, g3, g4, g5, rfl⟩ | ⟨A, x, g3, rfl⟩ | ⟨A, v, g3, rfl⟩ | ⟨A, l, g3, g4, g5, rfl⟩ | ⟨A, l, g3, g4, g5, rfl⟩ | ⟨l, g4, g5, g6, rfl⟩
      all_goals first | rfl | exact absurd rfl h20
    unfold checkF
    rw [if_neg (by simpa using h1), if_neg hf]
    rw [hm, show ({ a with addr := to } : AskD).parts = [] from hp, partsF_nil]
    simp only
    by_cases hA : to < 0 ∨ 65535 < to
    · rw [if_pos hA, if_pos (by omega)]
    · rw [if_neg hA, if_neg (by omega)]
      by_cases hB : 65536 - manyF a < to
      · rw [if_pos ⟨h20, by omega⟩, if_pos (.inr hB)]
      · rw [if_neg (fun hh => hB (by omega)), if_neg (by omega)]
end Go.Out

namespace Go.Out
open Go Go.RowKit
set_option linter.unusedVariables false
set_option linter.unusedSimpArgs false

theorem sumP_take {l : List PartD} {k : Nat} (h : k < l.length) : sumP (l.take (k + 1)) = sumP (l.take k) + (2 + 2 * l[k].len) := by
  induction l generalizing k with
  | nil => simp at h
  | cons p l ih =>
    cases k with
    | zero => simp [sumP]
    | succ k =>
      have := ih (k := k) (by simpa using h)
      simp only [List.take_succ_cons, sumP, List.getElem_cons_succ] at this ⊢
      omega
theorem partsF_bad {l : List PartD} {k : Nat} (h : k < l.length) (hb : badP l[k]) : partsF l = 3 := by
  unfold partsF
  rw [if_pos]
  rw [List.any_eq_true]
  exact ⟨l[k], List.getElem_mem h, by simpa using hb⟩
theorem partsF_done {l : List PartD} (h : ∀ i (hi : i < l.length), ¬ badP l[i]) : partsF l = if 245 < sumP l then 2 else 0 := by
  unfold partsF
  rw [if_neg]
  rw [List.any_eq_true]
  rintro ⟨p, hp, hb⟩
  obtain ⟨i, hi, rfl⟩ := List.getElem_of_mem hp
  exact h i hi (by simpa using hb)
/-- The parts up to here are right, and that many bytes. -/
def goodTo (l : List PartD) (k : Nat) : Prop := ∀ i (hi : i < l.length), i < k → ¬ badP l[i]
theorem goodTo_zero (l : List PartD) : goodTo l 0 := fun i hi h => absurd h (by omega)
theorem goodTo_succ {l : List PartD} {k : Nat} (h : goodTo l k) (hk : k < l.length) (hb : ¬ badP l[k]) : goodTo l (k + 1) := by
  intro i hi h1
  rcases Nat.lt_or_ge i k with h2 | h2
  · exact h i hi h2
  · obtain rfl : i = k := by omega
    exact hb
theorem sumP_good {l : List PartD} {k : Nat} (h : goodTo l k) (hk : k ≤ l.length) : 0 ≤ sumP (l.take k) ∧ sumP (l.take k) ≤ 20002 * k := by
  induction k with
  | zero => simp [sumP]
  | succ k ih =>
    have := ih (fun i hi h1 => h i hi (by omega)) (by omega)
    have hb := h k (by omega) (by omega)
    rw [sumP_take (by omega)]
    unfold badP at hb
    omega
theorem partsF_all {l : List PartD} {n : Nat} (hn : l.length = n) (h : goodTo l n) : partsF l = if 245 < sumP (l.take n) then 2 else 0 := by
  subst hn
  rw [List.take_length]
  exact partsF_done fun i hi => h i hi hi
/-- What is wrong with a request of a code, step by step. -/
theorem check_steps {a : AskD} {P : Prop} (hp : codeP a.code) (hf : fieldP a ↔ P) :
    (P → checkF a = 23) ∧ (¬ P → (a.addr < 0 ∨ 65535 < a.addr) → checkF a = 21) ∧ (¬ P → ¬ (a.addr < 0 ∨ 65535 < a.addr) → (manyF a < 1 ∨ mostF a.code < manyF a) → checkF a = 22) ∧
    (¬ P → ¬ (a.addr < 0 ∨ 65535 < a.addr) → ¬ (manyF a < 1 ∨ mostF a.code < manyF a) → (a.code ≠ 20 ∧ 65536 < a.addr + manyF a) → checkF a = 21) ∧
    (¬ P → ¬ (a.addr < 0 ∨ 65535 < a.addr) → ¬ (manyF a < 1 ∨ mostF a.code < manyF a) → ¬ (a.code ≠ 20 ∧ 65536 < a.addr + manyF a) → checkF a = partsF a.parts) := by
  refine ⟨fun h => ?_, fun h h1 => ?_, fun h h1 h2 => ?_, fun h h1 h2 h3 => ?_, fun h h1 h2 h3 => ?_⟩ <;> unfold checkF <;> rw [if_neg (by simpa using hp)]
  · rw [if_pos (hf.2 h)]
  · rw [if_neg (fun x => h (hf.1 x)), if_pos h1]
  · rw [if_neg (fun x => h (hf.1 x)), if_neg h1, if_pos h2]
  · rw [if_neg (fun x => h (hf.1 x)), if_neg h1, if_neg h2, if_pos h3]
  · rw [if_neg (fun x => h (hf.1 x)), if_neg h1, if_neg h2, if_neg h3]
theorem checkF_code {a : AskD} (h : ¬ codeP a.code) : checkF a = 20 := by unfold checkF; rw [if_pos h]
end Go.Out
