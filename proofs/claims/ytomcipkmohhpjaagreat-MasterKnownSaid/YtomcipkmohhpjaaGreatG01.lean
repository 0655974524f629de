/- Requests: plain definitions; no program in sight. -/
import Derived.Test.YtomcipkmohhpjaaGreatG00
import Derived.Test.YtomcipkmohhpjaaGreatChecked
namespace Go.Out
open Go Go.RowKit
set_option linter.unusedVariables false

structure PartD where
  file : Int
  record : Int
  len : Int
structure AskD where
  code : Int
  addr : Int
  count : Int
  on : List Bool
  set : List UInt16
  parts : List PartD
def ask0 : AskD := ⟨0, 0, 0, [], [], []⟩
def isCnt (c : Int) : Prop := 1 ≤ c ∧ c ≤ 4
def isOn (c : Int) : Prop := c = 5 ∨ c = 15
def isSet (c : Int) : Prop := c = 6 ∨ c = 16
instance (c : Int) : Decidable (isCnt c) := by unfold isCnt; infer_instance
instance (c : Int) : Decidable (isOn c) := by unfold isOn; infer_instance
instance (c : Int) : Decidable (isSet c) := by unfold isSet; infer_instance
def codeP (c : Int) : Prop := isCnt c ∨ isOn c ∨ isSet c ∨ c = 20
instance (c : Int) : Decidable (codeP c) := by unfold codeP; infer_instance
def fieldP (a : AskD) : Prop :=
  (¬ isCnt a.code ∧ a.count ≠ 0) ∨ (¬ isOn a.code ∧ 0 < a.on.length) ∨ (¬ isSet a.code ∧ 0 < a.set.length) ∨ (a.code ≠ 20 ∧ 0 < a.parts.length) ∨ (a.code = 20 ∧ a.addr ≠ 0)
instance (a : AskD) : Decidable (fieldP a) := by unfold fieldP; infer_instance
def manyF (a : AskD) : Int := if isCnt a.code then a.count else if isOn a.code then a.on.length else if isSet a.code then a.set.length else a.parts.length
def mostF (c : Int) : Int := if c = 1 ∨ c = 2 then 2000 else if c = 3 ∨ c = 4 then 125 else if c = 15 then 1968 else if c = 16 then 123 else if c = 20 then 35 else 1
def badP (p : PartD) : Prop := p.file < 1 ∨ 65535 < p.file ∨ p.record < 0 ∨ 9999 < p.record ∨ p.len < 1 ∨ 10000 - p.record < p.len
instance (p : PartD) : Decidable (badP p) := by unfold badP; infer_instance
def sumP : List PartD → Int
  | [] => 0
  | p :: l => 2 + 2 * p.len + sumP l
def partsF (l : List PartD) : Int := if l.any (fun p => decide (badP p)) = true then 3 else if 245 < sumP l then 2 else 0
def checkF (a : AskD) : Int :=
  if ¬ codeP a.code then 20 else if fieldP a then 23 else if a.addr < 0 ∨ 65535 < a.addr then 21 else if manyF a < 1 ∨ mostF a.code < manyF a then 22
  else if a.code ≠ 20 ∧ 65536 < a.addr + manyF a then 21 else partsF a.parts
def partB (p : PartD) : List UInt8 := 6 :: (two p.file.toNat ++ two p.record.toNat ++ two p.len.toNat)
def partsB (l : List PartD) : List UInt8 := l.flatMap partB
def bodyF (a : AskD) : List UInt8 :=
  if a.code = 20 then UInt8.ofNat (7 * a.parts.length) :: partsB a.parts
  else two a.addr.toNat ++
    (if a.code = 5 then two (if a.on.getD 0 false then 65280 else 0)
    else if a.code = 6 then two (a.set.getD 0 0).toNat
    else if a.code = 15 then two a.on.length ++ UInt8.ofNat (need a.on.length) :: bitsF a.on
    else if a.code = 16 then two a.set.length ++ UInt8.ofNat (2 * a.set.length) :: wb a.set
    else two a.count.toNat)
def putA (a : AskD) : List UInt8 × Int := if checkF a ≠ 0 then ([], checkF a) else (UInt8.ofNat a.code.toNat :: bodyF a, 0)

def b0 (b : List UInt8) : Nat := (b.getD 0 0).toNat
/-- How many bytes a PDU has that begins so (0: that can't be told yet). -/
def sizeF (b : List UInt8) : Nat := if b0 b ≤ 6 then 5 else if b0 b = 20 then (if 2 ≤ b.length then 2 + (b.getD 1 0).toNat else 0) else if 6 ≤ b.length then 6 + (b.getD 5 0).toNat else 0
def sizedF (b : List UInt8) : Int := if sizeF b = 0 then 1 else if b.length < sizeF b then 1 else if sizeF b < b.length then 2 else 0
def partsOf : List UInt8 → Option (List PartD)
  | [] => some []
  | t :: a :: b :: c :: d :: e :: f :: r => if t = 6 then (partsOf r).map (fun l => ⟨((a.toNat * 256 + b.toNat : Nat) : Int), ((c.toNat * 256 + d.toNat : Nat) : Int), ((e.toNat * 256 + f.toNat : Nat) : Int)⟩ :: l) else none
  | _ => none
def saidF (b : List UInt8) : Option AskD :=
  if b0 b = 20 then (partsOf (b.drop 2)).map fun l => ⟨20, 0, 0, [], [], l⟩
  else if b0 b = 5 then (if at2 b 3 = 65280 ∨ at2 b 3 = 0 then some ⟨5, (at2 b 1 : Nat), 0, [decide (at2 b 3 = 65280)], [], []⟩ else none)
  else if b0 b = 6 then some ⟨6, (at2 b 1 : Nat), 0, [], [UInt16.ofNat (at2 b 3)], []⟩
  else if b0 b = 15 then (if (unbitsF (b.drop 6) (at2 b 3 : Nat)).2 = 0 then some ⟨15, (at2 b 1 : Nat), 0, (unbitsF (b.drop 6) (at2 b 3 : Nat)).1, [], []⟩ else none)
  else if b0 b = 16 then (if b.length - 6 = 2 * at2 b 3 then some ⟨16, (at2 b 1 : Nat), 0, [], bw (b.drop 6), []⟩ else none)
  else some ⟨(b0 b : Nat), (at2 b 1 : Nat), (at2 b 3 : Nat), [], [], []⟩
def getA (b : List UInt8) : AskD × Int :=
  if b.length = 0 then (ask0, 1) else if ¬ codeP (b0 b : Nat) then (ask0, 20) else if sizedF b ≠ 0 then (ask0, sizedF b)
  else match saidF b with
    | none => (ask0, 4)
    | some a => if checkF a ≠ 0 then (ask0, checkF a) else (a, 0)
theorem codeP_cases {c : Int} (h : codeP c) : c = 1 ∨ c = 2 ∨ c = 3 ∨ c = 4 ∨ c = 5 ∨ c = 6 ∨ c = 15 ∨ c = 16 ∨ c = 20 := by
  unfold codeP isCnt isOn isSet at h; omega
theorem sumP_nonneg {l : List PartD} (h : l.any (fun p => decide (badP p)) = false) : 4 * (l.length : Int) ≤ sumP l := by
  induction l with
  | nil => simp [sumP]
  | cons p l ih =>
    simp only [List.any_cons, Bool.or_eq_false_iff, decide_eq_false_iff_not] at h
    have := ih h.2
    have h1 := h.1
    unfold badP at h1
    simp only [sumP, List.length_cons]
    omega
theorem checkF_parts (a : AskD) (h : checkF a = 0) : codeP a.code ∧ ¬ fieldP a ∧ 0 ≤ a.addr ∧ a.addr ≤ 65535 ∧ 1 ≤ manyF a ∧ manyF a ≤ mostF a.code ∧ (a.code = 20 ∨ a.addr + manyF a ≤ 65536) ∧ partsF a.parts = 0 := by
  unfold checkF at h
  split at h
  · simp at h
  · split at h
    · simp at h
    · split at h
      · simp at h
      · split at h
        · simp at h
        · split at h
          · simp at h
          · rename_i h1 h2 h3 h4 h5
            exact ⟨Classical.not_not.1 h1, h2, by omega, by omega, by omega, by omega, by omega, h⟩
end Go.Out

namespace Go.Out
open Go Go.RowKit
set_option linter.unusedVariables false

/-- A request that is right, by its kind. -/
theorem ask_cases {a : AskD} (h : checkF a = 0) :
    (∃ c A n : Nat, 1 ≤ c ∧ c ≤ 4 ∧ A ≤ 65535 ∧ 1 ≤ n ∧ n ≤ 2000 ∧ a = ⟨c, A, n, [], [], []⟩) ∨
    (∃ (A : Nat) (x : Bool), A ≤ 65535 ∧ a = ⟨5, A, 0, [x], [], []⟩) ∨ (∃ (A : Nat) (v : UInt16), A ≤ 65535 ∧ a = ⟨6, A, 0, [], [v], []⟩) ∨
    (∃ (A : Nat) (l : List Bool), A ≤ 65535 ∧ 1 ≤ l.length ∧ l.length ≤ 1968 ∧ a = ⟨15, A, 0, l, [], []⟩) ∨ (∃ (A : Nat) (l : List UInt16), A ≤ 65535 ∧ 1 ≤ l.length ∧ l.length ≤ 123 ∧ a = ⟨16, A, 0, [], l, []⟩) ∨
    (∃ l : List PartD, 1 ≤ l.length ∧ l.length ≤ 35 ∧ partsF l = 0 ∧ a = ⟨20, 0, 0, [], [], l⟩) := by
  obtain ⟨h1, h2, h3, h4, h5, h6, h7, h8⟩ := checkF_parts a h
  obtain ⟨code, addr, count, on, set, parts⟩ := a
  simp only at h1 h2 h3 h4 h5 h6 h7 h8
  obtain ⟨A, rfl⟩ := Int.eq_ofNat_of_zero_le h3
  rcases codeP_cases h1 with rfl | rfl | rfl | rfl | rfl | rfl | rfl | rfl | rfl <;>
    simp [fieldP, isCnt, isOn, isSet] at h2 <;> simp [manyF, mostF, isCnt, isOn, isSet] at h5 h6 h7
  · obtain ⟨rfl, rfl, rfl⟩ := h2
    obtain ⟨n, rfl⟩ := Int.eq_ofNat_of_zero_le (show 0 ≤ count by omega)
    exact .inl ⟨1, A, n, by omega, by omega, by omega, by omega, by omega, rfl⟩
  · obtain ⟨rfl, rfl, rfl⟩ := h2
    obtain ⟨n, rfl⟩ := Int.eq_ofNat_of_zero_le (show 0 ≤ count by omega)
    exact .inl ⟨2, A, n, by omega, by omega, by omega, by omega, by omega, rfl⟩
  · obtain ⟨rfl, rfl, rfl⟩ := h2
    obtain ⟨n, rfl⟩ := Int.eq_ofNat_of_zero_le (show 0 ≤ count by omega)
    exact .inl ⟨3, A, n, by omega, by omega, by omega, by omega, by omega, rfl⟩
  · obtain ⟨rfl, rfl, rfl⟩ := h2
    obtain ⟨n, rfl⟩ := Int.eq_ofNat_of_zero_le (show 0 ≤ count by omega)
    exact .inl ⟨4, A, n, by omega, by omega, by omega, by omega, by omega, rfl⟩
  · obtain ⟨rfl, rfl, rfl⟩ := h2
    obtain ⟨x, rfl⟩ : ∃ x, on = [x] := List.length_eq_one_iff.1 (by omega)
    exact .inr (.inl ⟨A, x, by omega, rfl⟩)
  · obtain ⟨rfl, rfl, rfl⟩ := h2
    obtain ⟨x, rfl⟩ : ∃ x, set = [x] := List.length_eq_one_iff.1 (by omega)
    exact .inr (.inr (.inl ⟨A, x, by omega, rfl⟩))
  · obtain ⟨rfl, rfl, rfl⟩ := h2
    exact .inr (.inr (.inr (.inl ⟨A, on, by omega, by omega, by omega, rfl⟩)))
  · obtain ⟨rfl, rfl, rfl⟩ := h2
    exact .inr (.inr (.inr (.inr (.inl ⟨A, set, by omega, by omega, by omega, rfl⟩))))
  · obtain ⟨rfl, rfl, rfl, h9⟩ := h2
    have : A = 0 := by omega
    subst this
    exact .inr (.inr (.inr (.inr (.inr ⟨parts, by omega, by omega, h8, rfl⟩))))

theorem toNat_ofNat8 {c : Nat} (h : c < 256) : (UInt8.ofNat c).toNat = c := by simp; omega
theorem at2_two1 (x : UInt8) (A : Nat) (l : List UInt8) (h : A < 65536) : at2 (x :: (two A ++ l)) 1 = A := by
  show (UInt8.ofNat (A / 256)).toNat * 256 + (UInt8.ofNat A).toNat = A
  exact two_join A h
theorem at2_two3 (x : UInt8) (A n : Nat) (l : List UInt8) (h : n < 65536) : at2 (x :: (two A ++ (two n ++ l))) 3 = n := by
  show (UInt8.ofNat (n / 256)).toNat * 256 + (UInt8.ofNat n).toNat = n
  exact two_join n h
theorem two_nil (n : Nat) : two n = two n ++ [] := by simp

theorem partsOf_parts : ∀ (l : List PartD), l.any (fun p => decide (badP p)) = false → partsOf (partsB l) = some l
  | [], _ => rfl
  | p :: l, h => by
    simp only [List.any_cons, Bool.or_eq_false_iff, decide_eq_false_iff_not] at h
    have ih := partsOf_parts l h.2
    have h1 := h.1
    unfold badP at h1
    obtain ⟨f, r, n⟩ := p
    simp only at h1
    obtain ⟨F, rfl⟩ := Int.eq_ofNat_of_zero_le (show 0 ≤ f by omega)
    obtain ⟨R, rfl⟩ := Int.eq_ofNat_of_zero_le (show 0 ≤ r by omega)
    obtain ⟨M, rfl⟩ := Int.eq_ofNat_of_zero_le (show 0 ≤ n by omega)
    have e : partsB (⟨(F : Int), (R : Int), (M : Int)⟩ :: l) = 6 :: UInt8.ofNat (F / 256) :: UInt8.ofNat F :: UInt8.ofNat (R / 256) :: UInt8.ofNat R :: UInt8.ofNat (M / 256) :: UInt8.ofNat M :: partsB l := rfl
    rw [e, partsOf, if_pos rfl, ih, two_join F (by omega), two_join R (by omega), two_join M (by omega)]
    rfl
theorem partsF_zero {l : List PartD} (h : partsF l = 0) : l.any (fun p => decide (badP p)) = false ∧ sumP l ≤ 245 := by
  unfold partsF at h
  split at h
  · simp at h
  · rename_i h1
    split at h
    · simp at h
    · exact ⟨by simpa using h1, by omega⟩
theorem partsB_length (l : List PartD) : (partsB l).length = 7 * l.length := by
  induction l with
  | nil => rfl
  | cons p l ih => simp only [partsB, List.flatMap_cons, List.length_append, List.length_cons] at ih ⊢; rw [ih]; simp [partB, two]; omega

theorem getA_of {b : List UInt8} {a : AskD} (h1 : b.length ≠ 0) (h2 : codeP (b0 b : Nat)) (h3 : sizedF b = 0) (h4 : saidF b = some a) (h5 : checkF a = 0) : getA b = (a, 0) := by
  unfold getA
  rw [if_neg h1, if_neg (by simpa using h2), if_neg (by simpa using h3), h4]
  simp [h5]
theorem sizedF_zero {b : List UInt8} : sizedF b = 0 ↔ sizeF b ≠ 0 ∧ sizeF b = b.length := by
  unfold sizedF
  constructor
  · intro h
    split at h
    · simp at h
    · split at h
      · simp at h
      · split at h
        · simp at h
        · omega
  · rintro ⟨h1, h2⟩
    rw [if_neg h1, if_neg (by omega), if_neg (by omega)]
theorem sizeF_of5 {b : List UInt8} (h : b0 b ≤ 6) : sizeF b = 5 := by unfold sizeF; rw [if_pos h]
theorem sizeF_of20 {b : List UInt8} (h : b0 b = 20) (h2 : 2 ≤ b.length) : sizeF b = 2 + (b.getD 1 0).toNat := by unfold sizeF; rw [if_neg (by omega), if_pos h, if_pos h2]
theorem sizeF_of6 {b : List UInt8} (h : b0 b = 15 ∨ b0 b = 16) (h2 : 6 ≤ b.length) : sizeF b = 6 + (b.getD 5 0).toNat := by unfold sizeF; rw [if_neg (by omega), if_neg (by omega), if_pos h2]
theorem codeP_lit (c : Nat) (h : c = 1 ∨ c = 2 ∨ c = 3 ∨ c = 4 ∨ c = 5 ∨ c = 6 ∨ c = 15 ∨ c = 16 ∨ c = 20) : codeP (c : Int) := by
  unfold codeP isCnt isOn isSet; omega

theorem b0_cons (c : Nat) (l : List UInt8) (h : c < 256) : b0 (UInt8.ofNat c :: l) = c := toNat_ofNat8 h
/-- A right request's bytes. -/
theorem putA_ok {a : AskD} (h : checkF a = 0) : putA a = (UInt8.ofNat a.code.toNat :: bodyF a, 0) := by unfold putA; rw [if_neg (by simp [h])]
theorem putA_no {a : AskD} (h : checkF a ≠ 0) : putA a = ([], checkF a) := by unfold putA; rw [if_pos h]

/-- A right request is read from its bytes as it was. -/
theorem getA_put {a : AskD} (h : checkF a = 0) : getA (putA a).1 = (a, 0) ∧ 5 ≤ (putA a).1.length ∧ (putA a).1.length ≤ 253 := by
  have hp := putA_ok h
  rcases ask_cases h with ⟨c, A, n, h1, h2, h3, h4, h5, rfl⟩ | ⟨A, x, h3, rfl⟩ | ⟨A, v, h3, rfl⟩ | ⟨A, l, h3, h4, h5, rfl⟩ | ⟨A, l, h3, h4, h5, rfl⟩ | ⟨l, h4, h5, h6, rfl⟩
  · have e : (putA ⟨c, A, n, [], [], []⟩).1 = UInt8.ofNat c :: (two A ++ (two n ++ [])) := by
      rw [hp, ← two_nil]
      simp only [bodyF, Int.toNat_natCast]
      rw [if_neg (by omega), if_neg (by omega), if_neg (by omega), if_neg (by omega), if_neg (by omega)]
    rw [e]
    have hb := b0_cons c (two A ++ (two n ++ [])) (by omega)
    refine ⟨getA_of (by simp) (by rw [hb]; exact codeP_lit c (by omega)) (sizedF_zero.2 ?_) ?_ h, by simp [two], by simp [two]⟩
    · rw [sizeF_of5 (by omega)]; simp [two]
    · unfold saidF
      rw [hb, at2_two1 _ _ _ (by omega), at2_two3 _ _ _ _ (by omega), if_neg (by omega), if_neg (by omega), if_neg (by omega), if_neg (by omega), if_neg (by omega)]
  · have e : (putA ⟨5, A, 0, [x], [], []⟩).1 = UInt8.ofNat 5 :: (two A ++ (two (if x then 65280 else 0) ++ [])) := by rw [hp, ← two_nil]; rfl
    rw [e]
    have hb := b0_cons 5 (two A ++ (two (if x then 65280 else 0) ++ [])) (by omega)
    refine ⟨getA_of (by simp) (by rw [hb]; exact codeP_lit 5 (by omega)) (sizedF_zero.2 ?_) ?_ h, by simp [two], by simp [two]⟩
    · rw [sizeF_of5 (by omega)]; simp [two]
    · unfold saidF
      rw [hb, at2_two1 _ _ _ (by omega), at2_two3 _ _ _ _ (by split <;> omega)]
      cases x <;> simp
  · have e : (putA ⟨6, A, 0, [], [v], []⟩).1 = UInt8.ofNat 6 :: (two A ++ (two v.toNat ++ [])) := by rw [hp, ← two_nil]; rfl
    rw [e]
    have hb := b0_cons 6 (two A ++ (two v.toNat ++ [])) (by omega)
    have hv : v.toNat < 65536 := v.toNat_lt
    refine ⟨getA_of (by simp) (by rw [hb]; exact codeP_lit 6 (by omega)) (sizedF_zero.2 ?_) ?_ h, by simp [two], by simp [two]⟩
    · rw [sizeF_of5 (by omega)]; simp [two]
    · unfold saidF
      rw [hb, at2_two1 _ _ _ (by omega), at2_two3 _ _ _ _ hv]
      simp
  · have e : (putA ⟨15, A, 0, l, [], []⟩).1 = UInt8.ofNat 15 :: (two A ++ (two l.length ++ UInt8.ofNat (need l.length) :: bitsF l)) := by rw [hp]; rfl
    rw [e]
    have hn : need l.length ≤ 246 := by unfold need; omega
    have hn1 : 1 ≤ need l.length := by unfold need; omega
    have hl := bitsF_length l
    have hb := b0_cons 15 (two A ++ (two l.length ++ UInt8.ofNat (need l.length) :: bitsF l)) (by omega)
    refine ⟨getA_of (by simp) (by rw [hb]; exact codeP_lit 15 (by omega)) (sizedF_zero.2 ?_) ?_ h, by simp [two], by simp [two, hl]; omega⟩
    · have e2 : (UInt8.ofNat 15 :: (two A ++ (two l.length ++ UInt8.ofNat (need l.length) :: bitsF l))).getD 5 0 = UInt8.ofNat (need l.length) := rfl
      rw [sizeF_of6 (.inl hb) (by simp [two]), e2, toNat_ofNat8 (by omega)]
      simp [two, hl]; omega
    · have e3 : (UInt8.ofNat 15 :: (two A ++ (two l.length ++ UInt8.ofNat (need l.length) :: bitsF l))).drop 6 = bitsF l := rfl
      unfold saidF
      rw [hb, at2_two1 _ _ _ (by omega), at2_two3 _ _ _ _ (by omega), e3, unbits_bits]
      simp
  · have e : (putA ⟨16, A, 0, [], l, []⟩).1 = UInt8.ofNat 16 :: (two A ++ (two l.length ++ UInt8.ofNat (2 * l.length) :: wb l)) := by rw [hp]; rfl
    rw [e]
    have hl := wb_length l
    have hb := b0_cons 16 (two A ++ (two l.length ++ UInt8.ofNat (2 * l.length) :: wb l)) (by omega)
    refine ⟨getA_of (by simp) (by rw [hb]; exact codeP_lit 16 (by omega)) (sizedF_zero.2 ?_) ?_ h, by simp [two], by simp [two, hl]; omega⟩
    · have e2 : (UInt8.ofNat 16 :: (two A ++ (two l.length ++ UInt8.ofNat (2 * l.length) :: wb l))).getD 5 0 = UInt8.ofNat (2 * l.length) := rfl
      rw [sizeF_of6 (.inr hb) (by simp [two]), e2, toNat_ofNat8 (by omega)]
      simp [two, hl]; omega
    · have e3 : (UInt8.ofNat 16 :: (two A ++ (two l.length ++ UInt8.ofNat (2 * l.length) :: wb l))).drop 6 = wb l := rfl
      have e4 : (UInt8.ofNat 16 :: (two A ++ (two l.length ++ UInt8.ofNat (2 * l.length) :: wb l))).length - 6 = 2 * l.length := by simp [two, hl]
      unfold saidF
      rw [hb, at2_two1 _ _ _ (by omega), at2_two3 _ _ _ _ (by omega), e3, e4, bw_wb]
      simp
  · have e : (putA ⟨20, 0, 0, [], [], l⟩).1 = UInt8.ofNat 20 :: UInt8.ofNat (7 * l.length) :: partsB l := by rw [hp]; rfl
    rw [e]
    have hl := partsB_length l
    have hb := b0_cons 20 (UInt8.ofNat (7 * l.length) :: partsB l) (by omega)
    refine ⟨getA_of (by simp) (by rw [hb]; exact codeP_lit 20 (by omega)) (sizedF_zero.2 ?_) ?_ h, by simp [hl]; omega, by simp [hl]; omega⟩
    · have e2 : (UInt8.ofNat 20 :: UInt8.ofNat (7 * l.length) :: partsB l).getD 1 0 = UInt8.ofNat (7 * l.length) := rfl
      rw [sizeF_of20 hb (by simp), e2, toNat_ofNat8 (by omega)]
      simp [hl]; omega
    · have e3 : (UInt8.ofNat 20 :: UInt8.ofNat (7 * l.length) :: partsB l).drop 2 = partsB l := rfl
      unfold saidF
      rw [hb, if_pos rfl, e3, partsOf_parts l (partsF_zero h6).1]
      rfl
end Go.Out

namespace Go.Out
open Go Go.RowKit
set_option linter.unusedVariables false

theorem len2 {b : List UInt8} (h : 2 ≤ b.length) : ∃ x0 x1 r, b = x0 :: x1 :: r := by
  match b, h with
  | x0 :: x1 :: r, _ => exact ⟨x0, x1, r, rfl⟩
  | [], h => simp at h
  | [_], h => simp at h
theorem u8_eq_of {x : UInt8} {n : Nat} (h : x.toNat = n) : UInt8.ofNat n = x := by subst h; simp

theorem partsF_nil : partsF [] = 0 := by simp [partsF, sumP]
end Go.Out

namespace Go.Out
open Go Go.RowKit
set_option linter.unusedVariables false
set_option linter.unusedSimpArgs false

theorem sumP_take {l : List PartD} {k : Nat} (h : k < l.length) : sumP (l.take (k + 1)) = sumP (l.take k) + (2 + 2 * l[k].len) := by
  induction l generalizing k with
  | nil => simp at h
  | cons p l ih =>
    cases k with
    | zero => simp [sumP]
    | succ k =>
      have := ih (k := k) (by simpa using h)
      simp only [List.take_succ_cons, sumP, List.getElem_cons_succ] at this ⊢
      omega
theorem partsF_bad {l : List PartD} {k : Nat} (h : k < l.length) (hb : badP l[k]) : partsF l = 3 := by
  unfold partsF
  rw [if_pos]
  rw [List.any_eq_true]
  exact ⟨l[k], List.getElem_mem h, by simpa using hb⟩
theorem partsF_done {l : List PartD} (h : ∀ i (hi : i < l.length), ¬ badP l[i]) : partsF l = if 245 < sumP l then 2 else 0 := by
  unfold partsF
  rw [if_neg]
  rw [List.any_eq_true]
  rintro ⟨p, hp, hb⟩
  obtain ⟨i, hi, rfl⟩ := List.getElem_of_mem hp
  exact h i hi (by simpa using hb)
/-- The parts up to here are right, and that many bytes. -/
def goodTo (l : List PartD) (k : Nat) : Prop := ∀ i (hi : i < l.length), i < k → ¬ badP l[i]
theorem goodTo_zero (l : List PartD) : goodTo l 0 := fun i hi h => absurd h (by omega)
theorem goodTo_succ {l : List PartD} {k : Nat} (h : goodTo l k) (hk : k < l.length) (hb : ¬ badP l[k]) : goodTo l (k + 1) := by
  intro i hi h1
  rcases Nat.lt_or_ge i k with h2 | h2
  · exact h i hi h2
  · obtain rfl : i = k := by omega
    exact hb
theorem sumP_good {l : List PartD} {k : Nat} (h : goodTo l k) (hk : k ≤ l.length) : 0 ≤ sumP (l.take k) ∧ sumP (l.take k) ≤ 20002 * k := by
  induction k with
  | zero => simp [sumP]
  | succ k ih =>
    have := ih (fun i hi h1 => h i hi (by omega)) (by omega)
    have hb := h k (by omega) (by omega)
    rw [sumP_take (by omega)]
    unfold badP at hb
    omega
theorem partsF_all {l : List PartD} {n : Nat} (hn : l.length = n) (h : goodTo l n) : partsF l = if 245 < sumP (l.take n) then 2 else 0 := by
  subst hn
  rw [List.take_length]
  exact partsF_done fun i hi => h i hi hi
/-- What is wrong with a request of a code, step by step. -/
theorem check_steps {a : AskD} {P : Prop} (hp : codeP a.code) (hf : fieldP a ↔ P) :
    (P → checkF a = 23) ∧ (¬ P → (a.addr < 0 ∨ 65535 < a.addr) → checkF a = 21) ∧ (¬ P → ¬ (a.addr < 0 ∨ 65535 < a.addr) → (manyF a < 1 ∨ mostF a.code < manyF a) → checkF a = 22) ∧
    (¬ P → ¬ (a.addr < 0 ∨ 65535 < a.addr) → ¬ (manyF a < 1 ∨ mostF a.code < manyF a) → (a.code ≠ 20 ∧ 65536 < a.addr + manyF a) → checkF a = 21) ∧
    (¬ P → ¬ (a.addr < 0 ∨ 65535 < a.addr) → ¬ (manyF a < 1 ∨ mostF a.code < manyF a) → ¬ (a.code ≠ 20 ∧ 65536 < a.addr + manyF a) → checkF a = partsF a.parts) := by
  refine ⟨fun h => ?_, fun h h1 => ?_, fun h h1 h2 => ?_, fun h h1 h2 h3 => ?_, fun h h1 h2 h3 => ?_⟩ <;> unfold checkF <;> rw [if_neg (by simpa using hp)]
  · rw [if_pos (hf.2 h)]
  · rw [if_neg (fun x => h (hf.1 x)), if_pos h1]
  · rw [if_neg (fun x => h (hf.1 x)), if_neg h1, if_pos h2]
  · rw [if_neg (fun x => h (hf.1 x)), if_neg h1, if_neg h2, if_pos h3]
  · rw [if_neg (fun x => h (hf.1 x)), if_neg h1, if_neg h2, if_neg h3]
theorem checkF_code {a : AskD} (h : ¬ codeP a.code) : checkF a = 20 := by unfold checkF; rw [if_pos h]
end Go.Out

namespace Go.Out
open Go Go.RowKit
set_option linter.unusedVariables false

/-- Nothing that was there has turned. -/
def Ext (w w' : World) : Prop := Below w.heap.size w w'
section
variable {w w1 w2 w3 : World}
theorem Ext.refl (w : World) : Ext w w := Below.refl _ _
theorem Ext.of (h : Below w.heap.size w w1) : Ext w w1 := h
theorem Ext.below (h : Ext w w1) : Below w.heap.size w w1 := h
theorem Ext.size (h : Ext w w1) : w.heap.size ≤ w1.heap.size := Below.size h
theorem Ext.trans (h : Ext w w1) (h2 : Ext w1 w2) : Ext w w2 := Below.trans h (Below.mono h2 h.size)
theorem Ext.alloc (w : World) (o : Obj) : Ext w (w.alloc o) := (Below.refl _ _).alloc (Nat.le_refl _) _
theorem Ext.draws (w : World) (n : Nat) : Ext w (w.drewN n) := below_drewN (Below.refl _ _) n
theorem Ext.draw (w : World) : Ext w w.drew := (Below.refl _ _).drew
theorem Ext.set' (h : Ext w w1) {p : Addr} (hp : w.heap.size ≤ p.block) (u : Value) : Ext w (w1.setCell p u) := Below.setCell h hp u
theorem Ext.drewN' (h : Ext w w1) (n : Nat) : Ext w (w1.drewN n) := below_drewN h n
theorem Ext.drew' (h : Ext w w1) : Ext w w1.drew := Below.drew h
theorem Ext.alloc' (h : Ext w w1) (o : Obj) : Ext w (w1.alloc o) := h.trans (Ext.alloc _ _)
theorem Ext.grown' (h : Ext w w1) {row : Option Nat} (hg : w1.grownBy w2 row) (hr : ∀ k, row = some k → w.heap.size ≤ k) : Ext w w2 := Below.grown h hg h.size hr
theorem Ext.cell (h : Ext w w1) {b off : Nat} {v : Value} (hb : b < w.heap.size) (hc : w.cell? ⟨b, off, none⟩ = some v) : w1.cell? ⟨b, off, none⟩ = some v :=
  (Below.cell h (p := ⟨b, off, none⟩) hb).trans hc
theorem Ext.block (h : Ext w w1) {g : Nat} {o : Obj} (hg : w.heap[g]? = some o) : w1.heap[g]? = some o := (Below.block h g (lt_of_heap hg)).trans hg
theorem Rd.ext {A : Option Addr} {n : Nat} {xs : List Value} (h : Rd w A n xs) (hx : Ext w w1) : Rd w1 A n xs := Rd.below h hx
theorem Own.ext {base : Nat} {e : TypeId} {p : Value → Prop} {A : Option Addr} {n c : Nat} {xs : List Value} (h : Own w base e p A n c xs) (hx : Ext w w1) : Own w1 base e p A n c xs := Own.below h hx
end
theorem Own.set_below {w : World} {base : Nat} {e : TypeId} {p : Value → Prop} {A : Option Addr} {n c : Nat} {xs : List Value} (h : Own w base e p A n c xs) {q : Addr} (hq : q.block < base) (u : Value) : Own (w.setCell q u) base e p A n c xs :=
  h.kept fun g hg => Below.heap_setCell w q u g (by have := (h.lt g hg).1; omega)
/-- A block of cells of a type lies there. -/
def TyAt (w : World) (g : Nat) (t : TypeId) : Prop := ∃ cs fr, w.heap[g]? = some (.cells cs t fr)
theorem TyAt.of {w : World} {g : Nat} {t : TypeId} {cs : Array Value} {fr : Nat × Nat} (h : w.heap[g]? = some (.cells cs t fr)) : TyAt w g t := ⟨cs, fr, h⟩
theorem TyAt.set {w : World} {g : Nat} {t : TypeId} (h : TyAt w g t) (q : Addr) (u : Value) : TyAt (w.setCell q u) g t := by
  obtain ⟨cs, fr, h⟩ := h
  by_cases e : g = q.block
  · subst e
    simp only [TyAt, World.setCell, Array.getElem?_modify, if_true, h, Option.map_some]
    exact ⟨_, _, rfl⟩
  · exact ⟨cs, fr, (Below.heap_setCell w q u g e).trans h⟩
/-- All cells of a list of bytes that is there, by their places. -/
theorem Rd.u8all {w : World} {A : Option Addr} {n : Nat} {l : List UInt8} (h : Rd w A n (l.map cB)) (hn : 0 < n) :
    ∃ b off, A = some ⟨b, off, none⟩ ∧ b < w.heap.size ∧ ∀ j, j < n → w.cell? ⟨b, off + j, none⟩ = some (.int .u8 ((l.getD j 0).toNat : Int)) := by
  obtain ⟨b, off, e, hb, hc⟩ := h.2 hn
  have hl := h.length
  refine ⟨b, off, e, hb, fun j hj => hc j _ ?_⟩
  rw [List.getElem?_map, List.getElem?_eq_getElem (by omega), List.getD_eq_getElem?_getD, List.getElem?_eq_getElem (by omega)]
  rfl
end Go.Out

namespace Go.Out
open Go Go.RowKit
set_option linter.unusedVariables false

/-- What the cells of one item read as: so many cells; growth of the world turns nothing. -/
structure Kind (α : Type) where
  k : Nat
  R : World → List Value → α → Prop
  ext : ∀ {w w' : World} {cs : List Value} {x : α}, R w cs x → Ext w w' → R w' cs x

section
variable {α : Type} {K : Kind α} {w w' : World} {A : Option Addr} {n : Nat} {l : List α}

/-- A slice value's items read as l. -/
def RdL (K : Kind α) (w : World) (A : Option Addr) (n : Nat) (l : List α) : Prop :=
  l.length = n ∧ (0 < n → ∃ b off, A = some ⟨b, off, none⟩ ∧ b < w.heap.size ∧ ∀ i x, l[i]? = some x → ∃ cs, cs.length = K.k ∧ (∀ j u, cs[j]? = some u → w.cell? ⟨b, off + (i * K.k + j), none⟩ = some u) ∧ K.R w cs x)
theorem RdL.nil_ (K : Kind α) (w : World) (A : Option Addr) : RdL K w A 0 [] := ⟨rfl, fun h => absurd h (by omega)⟩
theorem RdL.length (h : RdL K w A n l) : l.length = n := h.1
theorem RdL.ext (h : RdL K w A n l) (hx : Ext w w') : RdL K w' A n l :=
  ⟨h.1, fun hn => by
    obtain ⟨b, off, e, hb, hc⟩ := h.2 hn
    refine ⟨b, off, e, Nat.lt_of_lt_of_le hb hx.size, fun i x hi => ?_⟩
    obtain ⟨cs, h1, h2, h3⟩ := hc i x hi
    exact ⟨cs, h1, fun j u hu => hx.cell hb (h2 j u hu), K.ext h3 hx⟩⟩
theorem RdL.at_ (h : RdL K w A n l) {i : Nat} (hi : i < n) :
    ∃ b off, A = some ⟨b, off, none⟩ ∧ b < w.heap.size ∧ ∃ hl : i < l.length, ∃ cs, cs.length = K.k ∧ (∀ j u, cs[j]? = some u → w.cell? ⟨b, off + (i * K.k + j), none⟩ = some u) ∧ K.R w cs l[i] := by
  obtain ⟨b, off, e, hb, hc⟩ := h.2 (by omega)
  have hl : i < l.length := by have := h.1; omega
  exact ⟨b, off, e, hb, hl, hc i l[i] (List.getElem?_eq_getElem hl)⟩

/-- The cells xs are the items l, one behind the other. -/
def Items (K : Kind α) (w : World) (xs : List Value) (l : List α) : Prop := xs.length = l.length * K.k ∧ ∀ i x, l[i]? = some x → K.R w ((xs.drop (i * K.k)).take K.k) x
theorem Items.nil_ (K : Kind α) (w : World) : Items K w [] [] := ⟨by simp, by simp⟩
theorem Items.mono {xs : List Value} (h : Items K w xs l) (hm : ∀ cs x, K.R w cs x → K.R w' cs x) : Items K w' xs l := ⟨h.1, fun i x hi => hm _ _ (h.2 i x hi)⟩
theorem Items.ext {xs : List Value} (h : Items K w xs l) (hx : Ext w w') : Items K w' xs l := h.mono fun _ _ hr => K.ext hr hx
theorem Items.snoc {xs news : List Value} {x : α} (h : Items K w xs l) (hr : K.R w news x) (hn : news.length = K.k) : Items K w (xs ++ news) (l ++ [x]) := by
  refine ⟨by simp [h.1, hn, Nat.succ_mul], fun i y hi => ?_⟩
  rcases Nat.lt_or_ge i l.length with hlt | hge
  · rw [List.getElem?_append_left hlt] at hi
    have := h.2 i y hi
    have h1 : i * K.k + K.k ≤ xs.length := by rw [h.1]; have := Nat.mul_le_mul_right K.k (show i + 1 ≤ l.length by omega); rw [Nat.succ_mul] at this; exact this
    rwa [List.drop_append_of_le_length (by omega), List.take_append_of_le_length (by simp; omega)]
  · rw [List.getElem?_append_right hge] at hi
    have hi0 : i = l.length := by
      rcases Nat.eq_zero_or_pos (i - l.length) with h0 | h0
      · omega
      · rw [List.getElem?_eq_none (by simp; omega)] at hi; cases hi
    subst hi0
    simp only [Nat.sub_self, List.getElem?_cons_zero, Option.some.injEq] at hi
    subst hi
    rw [← h.1, List.drop_left, List.take_of_length_le (by omega)]
    exact hr
theorem Items.append {xs ys : List Value} {l' : List α} (h : Items K w xs l) (h' : Items K w ys l') : Items K w (xs ++ ys) (l ++ l') := by
  refine ⟨by simp [h.1, h'.1, Nat.add_mul], fun i y hi => ?_⟩
  rcases Nat.lt_or_ge i l.length with hlt | hge
  · rw [List.getElem?_append_left hlt] at hi
    have := h.2 i y hi
    have h1 : i * K.k + K.k ≤ xs.length := by rw [h.1]; have := Nat.mul_le_mul_right K.k (show i + 1 ≤ l.length by omega); rw [Nat.succ_mul] at this; exact this
    rwa [List.drop_append_of_le_length (by omega), List.take_append_of_le_length (by simp; omega)]
  · rw [List.getElem?_append_right hge] at hi
    have := h'.2 _ _ hi
    have e : i * K.k = xs.length + (i - l.length) * K.k := by
      rw [h.1, ← Nat.add_mul]; congr 1; omega
    rw [e, ← List.drop_drop, List.drop_left]
    exact this
theorem Items.one {news : List Value} {x : α} (hr : K.R w news x) (hn : news.length = K.k) : Items K w news [x] := by
  have := (Items.nil_ K w).snoc hr hn
  simpa using this

/-- A slice of the call's own, its items read. -/
def OwL (K : Kind α) (w : World) (base : Nat) (e : TypeId) (v : Value) (l : List α) : Prop := ∃ xs, w.ownsRow base e K.k v l.length xs ∧ Items K w xs l
theorem OwL.nil_ (K : Kind α) (w : World) (base : Nat) (e : TypeId) : OwL K w base e (.slice none 0 0) [] := ⟨[], World.ownsRow_nil _ _ _ _, Items.nil_ _ _⟩
theorem OwL.form {base : Nat} {e : TypeId} {v : Value} (h : OwL K w base e v l) : ∃ A c, v = .slice A l.length c ∧ l.length ≤ c ∧ c ≤ 9223372036854775807 ∧ RdL K w A l.length l ∧ (∀ g, blk A = some g → base ≤ g ∧ g < w.heap.size) := by
  obtain ⟨xs, ⟨h1, h2⟩, h3⟩ := h
  rcases h2 with ⟨rfl, h0⟩ | ⟨g, cap, cur, rfl, hb, hg, hc, hm, hs, ht⟩
  · rw [h0]
    have : l = [] := List.eq_nil_of_length_eq_zero h0
    subst this
    exact ⟨none, 0, rfl, Nat.le_refl _, by omega, RdL.nil_ _ _ _, by simp [blk]⟩
  · refine ⟨_, cap, rfl, hc, by unfold maxLen at hm; exact hm, ⟨rfl, fun hn => ⟨g, 0, rfl, lt_of_heap hg, fun i x hi => ⟨_, ?_, ?_, h3.2 i x hi⟩⟩⟩, fun g' hg' => by simp [blk] at hg'; subst hg'; exact ⟨hb, lt_of_heap hg⟩⟩
    · have hlt := (List.getElem?_eq_some_iff.1 hi).1
      have := Nat.mul_le_mul_right K.k (show i + 1 ≤ l.length by omega)
      rw [Nat.succ_mul] at this
      simp; omega
    · intro j u hu
      rw [List.getElem?_take] at hu
      split at hu
      · rw [List.getElem?_drop] at hu
        rw [cell_of_row _ _ _ _ _ _ hg, Nat.zero_add, ← Array.getElem?_toList]
        rw [← ht, List.getElem?_take] at hu
        split at hu
        · exact hu
        · cases hu
      · cases hu
theorem ownsRow_ext {base size k : Nat} {e : TypeId} {v : Value} {xs : List Value} (h : w.ownsRow base e size v k xs) (hx : Ext w w') : w'.ownsRow base e size v k xs :=
  h.kept (only_of_below hx.below none) (by cases v.ownBlock <;> simp)
theorem OwL.ext {base : Nat} {e : TypeId} {v : Value} (h : OwL K w base e v l) (hx : Ext w w') : OwL K w' base e v l := by
  obtain ⟨xs, h1, h2⟩ := h
  exact ⟨xs, ownsRow_ext h1 hx, h2.ext hx⟩
theorem OwL.mono {base base' : Nat} {e : TypeId} {v : Value} (h : OwL K w base e v l) (hb : base' ≤ base) : OwL K w base' e v l := by
  obtain ⟨xs, ⟨h1, h2⟩, h3⟩ := h
  refine ⟨xs, ⟨h1, ?_⟩, h3⟩
  rcases h2 with h2 | ⟨g, cap, cur, hv, hg, r⟩
  · exact .inl h2
  · exact .inr ⟨g, cap, cur, hv, by omega, r⟩
end
end Go.Out

namespace Go.Out
open Go Go.RowKit
set_option linter.unusedVariables false

/-- The end of a slice, from item k on. -/
theorem Rd.from {w : World} {A : Option Addr} {n c k : Nat} {xs : List Value} (h : Rd w A n xs) (hk : k ≤ n) (hc : n ≤ c) : Rd w (if c = k then A else Option.map (fun x => x.add k) A) (n - k) (xs.drop k) := by
  by_cases e : c = k
  · rw [if_pos e]
    have : n = k := by omega
    subst this
    rw [Nat.sub_self, List.drop_of_length_le (by rw [h.1]; exact Nat.le_refl _)]
    exact Rd.empty_ _ _
  · rw [if_neg e]
    have := h.cut (k := k) (m := n - k) (by omega)
    rwa [List.take_of_length_le (by simp [h.1])] at this
theorem Rd.from8 {w : World} {A : Option Addr} {n c k : Nat} {l : List UInt8} (h : Rd w A n (l.map cB)) (hk : k ≤ n) (hc : n ≤ c) : Rd w (if c = k then A else Option.map (fun x => x.add k) A) (n - k) ((l.drop k).map cB) := by
  rw [List.map_drop]; exact h.from hk hc
theorem ownsRow_ty {w : World} {base size n : Nat} {t : TypeId} {v : Value} {xs : List Value} (h : w.ownsRow base t size v n xs) {g : Nat} (hg : v.ownBlock = some g) : TyAt w g t := by
  rcases h.2 with ⟨rfl, _⟩ | ⟨g', cap, cur, rfl, _, hh, _⟩
  · cases hg
  · cases hg; exact TyAt.of hh
theorem Own.ty {w : World} {base : Nat} {e : TypeId} {p : Value → Prop} {A : Option Addr} {n c : Nat} {xs : List Value} (h : Own w base e p A n c xs) {g : Nat} (hg : blk A = some g) : TyAt w g e := by
  rcases h.2.2.2 with ⟨rfl, _⟩ | ⟨g', off, cur, rfl, _, hh, _⟩
  · cases hg
  · cases hg; exact TyAt.of hh
theorem TyAt.inj {w : World} {g : Nat} {t e : TypeId} (h : TyAt w g t) (h' : TyAt w g e) : t = e := by
  obtain ⟨cs, fr, h⟩ := h
  obtain ⟨cs', fr', h'⟩ := h'
  rw [h] at h'
  injection h' with h'
  injection h'
/-- A row of another type grows. -/
theorem Own.grown_ty {w w' : World} {base base' size m : Nat} {e t : TypeId} {p : Value → Prop} {A : Option Addr} {n c : Nat} {xs ys : List Value} {v : Value} (h : Own w base e p A n c xs) (hr : w.ownsRow base' t size v m ys) (ht : t ≠ e) (hg : w.grownBy w' v.ownBlock) : Own w' base e p A n c xs :=
  h.grown hg fun g hg' e' => ht ((ownsRow_ty hr e'.symm).inj (h.ty hg'))
end Go.Out

namespace Go.Out
open Go Go.RowKit
set_option linter.unusedVariables false

def IsI64 (u : Value) : Prop := ∃ n : Int, u = .int .i64 n
/-- All cells of the slice's block are numbers. -/
def IntRow (w : World) (v : Value) : Prop := ∀ g, v.ownBlock = some g → ∃ cur e, w.heap[g]? = some (.cells cur e (0, 0)) ∧ ∀ u ∈ cur.toList, IsI64 u
theorem IntRow.nil_ (w : World) : IntRow w (.slice none 0 0) := fun g h => by simp [Value.ownBlock] at h
theorem IntRow.kept {w w' : World} {v : Value} (h : IntRow w v) (hk : ∀ g, v.ownBlock = some g → w'.heap[g]? = w.heap[g]?) : IntRow w' v := fun g hg => by
  obtain ⟨cur, e, h1, h2⟩ := h g hg
  exact ⟨cur, e, (hk g hg).trans h1, h2⟩
theorem IntRow.ext {w w' : World} {v : Value} (h : IntRow w v) (hx : Ext w w') : IntRow w' v := fun g hg => by
  obtain ⟨cur, e, h1, h2⟩ := h g hg
  exact ⟨cur, e, hx.block h1, h2⟩
theorem zeroCells_ints {z : Value} (hz : ∀ u ∈ z.cells, IsI64 u) (hs : 0 < z.cells.size) (k : Nat) : ∀ u ∈ (Builtin.zeroCells z.cells k).toList, IsI64 u := by
  intro u hu
  simp only [Builtin.zeroCells, Array.toList_map, List.mem_map] at hu
  obtain ⟨i, -, rfl⟩ := hu
  have hlt : i % z.cells.size < z.cells.size := Nat.mod_lt _ hs
  rw [getElem!_pos z.cells _ hlt]
  exact hz _ (Array.getElem_mem hlt)

/-- Behind an append the row's cells are numbers, as they were. -/
theorem run_append_ints {P : Program} {w : World} (base : Nat) (t ty e : TypeId) (i : TypeInfo) (z : Value) (size bytes : Nat) (ht : P.underlying t = some (.slice e)) (hi : P.info? e = some i) (hz : i.zero = some z)
    (hsize : i.size = size) (hby : i.bytes = bytes) (hzs : z.cells.size = size) (hsz : 0 < size) (hzi : ∀ u ∈ z.cells, IsI64 u)
    (v : Value) (n : Nat) (xs : List Value) (hown : w.ownsRow base e size v n xs) (hint : IntRow w v)
    (a : Addr) (m c : Nat) (news : List Value) (hl : news.length = m * size) (hnews : ∀ j u, news[j]? = some u → w.cell? (a.add j) = some u) (h1 : ∀ u ∈ news, u.oneCell' = true) (hni : ∀ u ∈ news, IsI64 u)
    (h63 : n + m ≤ maxLen) (hbytes : (n + m) * bytes ≤ 140737488355328) (hm0 : 0 < m) {v' : Value} {w' : World}
    (hrun : (Builtin.append_ #[t, t] ty #[v, .slice (some a) m c]).run P w = .ok v' w') : IntRow w' v' := by
  subst hsize
  subst hby
  have hxi : ∀ u ∈ xs, IsI64 u := by
    rcases hown.2 with ⟨rfl, rfl⟩ | ⟨g, cap, cur, rfl, hbg, hg, hnc, hcm, hcs, htake⟩
    · have hx : xs = [] := List.eq_nil_of_length_eq_zero (by simpa using hown.1)
      subst hx; simp
    · obtain ⟨cur', e', hg', hp⟩ := hint g rfl
      rw [hg] at hg'
      injection hg' with hg'
      injection hg' with h1 h2 h3
      subst h1
      intro u hu
      rw [← htake] at hu
      exact hp u (List.mem_of_mem_take hu)
  have hsmall : n + m ≤ 9223372036854775807 := by simp only [maxLen] at h63; omega
  rcases hown.2 with ⟨rfl, rfl⟩ | ⟨g, cap, cur, rfl, hbg, hg, hnc, hcm, hcs, htake⟩
  · have hr := run_append_nil (P := P) w t ty e i z ht hi hz a m c news hl hnews hm0 (by omega) (by have hb := hbytes; simp only [Nat.zero_add] at hb; omega)
    rw [hr] at hrun
    injection hrun with e1 e2
    subst e1; subst e2
    intro g hg
    simp only [Value.ownBlock, Option.some.injEq] at hg
    subst hg
    refine ⟨_, _, heap_alloc_new w.drew _, fun u hu => ?_⟩
    simp only [Array.toList_append, List.mem_append] at hu
    rcases hu with hu | hu
    · exact hni u hu
    · exact zeroCells_ints hzi (by omega) _ u hu
  · by_cases hroom : n + m ≤ cap
    · have hfit : n * i.size + news.length ≤ cur.size := by rw [hl, hcs, ← Nat.add_mul]; exact Nat.mul_le_mul_right _ hroom
      have hr := run_append_room (P := P) w t ty e i ht hi g n cap cur hg a m c news hl hnews h1 hroom hfit
      rw [hr] at hrun
      injection hrun with e1 e2
      subst e1; subst e2
      obtain ⟨cur', e', hg', hp⟩ := hint g rfl
      rw [hg] at hg'
      injection hg' with hg'
      injection hg' with q1 q2 q3
      subst q1
      intro g' hg'
      simp only [Value.ownBlock, Option.some.injEq] at hg'
      subst hg'
      refine ⟨_, _, setRow_heap w g cur _ e _ hg, fun u hu => ?_⟩
      simp only [List.mem_append] at hu
      rcases hu with (hu | hu) | hu
      · exact hp u (List.mem_of_mem_take hu)
      · exact hni u hu
      · exact hp u (List.mem_of_mem_drop hu)
    · have holds : ∀ j u, xs[j]? = some u → w.cell? ((⟨g, 0, none⟩ : Addr).add j) = some u := hown.cells (g := g) rfl
      have hr := run_append_grow (P := P) w t ty e i z ht hi hz ⟨g, 0, none⟩ n cap xs hown.1 holds a m c news hl hnews (by omega) (by omega) (growslice_fits (by omega) hbytes)
      rw [hr] at hrun
      injection hrun with e1 e2
      subst e1; subst e2
      intro g' hg'
      simp only [Value.ownBlock, Option.some.injEq] at hg'
      subst hg'
      refine ⟨_, _, heap_alloc_new w.drew _, fun u hu => ?_⟩
      simp only [Array.toList_append, List.mem_append] at hu
      rcases hu with (hu | hu) | hu
      · exact hxi u (by simpa using hu)
      · exact hni u (by simpa using hu)
      · exact zeroCells_ints hzi (by omega) _ u hu
/-- An append to a row of the call's own whose cells are numbers. -/
theorem wp_append_ints {P : Program} {w : World} {o : Oper} {a : Act} {K : Act → World → Prop} {Q : Exit → Act → World → Prop} (s x : Operand) (t : TypeId)
    (ho : o.op = .call { callee := .builtin .append, args := #[s, x], argTypes := #[t, t] })
    (base : Nat) (e : TypeId) (i : TypeInfo) (z : Value) (size bytes : Nat) (ht : P.underlying t = some (.slice e)) (hi : P.info? e = some i) (hz : i.zero = some z)
    (hsize : i.size = size) (hby : i.bytes = bytes) (hzs : z.cells.size = size) (hsz : 0 < size) (hzi : ∀ u ∈ z.cells, IsI64 u)
    (v : Value) (n : Nat) (xs : List Value) (hs : a.eval s = v) (hown : w.ownsRow base e size v n xs) (hint : IntRow w v)
    (ad : Addr) (m c : Nat) (news : List Value) (hx : a.eval x = .slice (some ad) m c) (hl : news.length = m * size) (hnews : ∀ j u, news[j]? = some u → w.cell? (ad.add j) = some u) (h1 : ∀ u ∈ news, u.oneCell' = true) (hni : ∀ u ∈ news, IsI64 u)
    (h63 : n + m ≤ maxLen) (hbytes : (n + m) * bytes ≤ 140737488355328) (hbase : base ≤ w.heap.size) (hm0 : 0 < m)
    (h : ∀ v' w', w'.ownsRow base e size v' (n + m) (xs ++ news) → IntRow w' v' → w.grownBy w' v.ownBlock → K (a.put o.dst v') w') : o.wp P a w K Q := by
  obtain ⟨v', w', hr, h2, h3, h4⟩ := run_append_own (P := P) w base t o.type e i z size bytes ht hi hz hsize hby hzs hsz v n xs hown ad m c news hl hnews h1 h63 hbytes hbase
  have h5 := run_append_ints base t o.type e i z size bytes ht hi hz hsize hby hzs hsz hzi v n xs hown hint ad m c news hl hnews h1 hni h63 hbytes hm0 hr
  unfold Oper.wp execOp
  simp only [ho, resolve, invoke, builtin, Sem.run_bind, Sem.run_pure, Result.andThen_ok, List.map_toArray, List.map_cons, List.map_nil, hs, hx, hr]
  exact h v' w' h2 h5 h3
end Go.Out

namespace Go.Proofs.YtomcipkmohhpjaaGreat
set_option linter.unusedVariables false
open Go Go.RowKit Go.Out

theorem info_u8 : (Tryz.prog.info? 5).map (fun i => (i.zero, i.size, i.bytes)) = some (some (.int .u8 0), 1, 1) := by kernel_rfl

theorem same_any (a b : List UInt8) (A B : Option Addr) (n m ca cb : Nat) (w : World) (ha : Rd w A n (a.map cB)) (hb : Rd w B m (b.map cB)) (hn : n ≤ maxLen) :
    Calls Tryz.prog 19 #[.slice A n ca, .slice B m cb] w fun e w' => e = .returned (.bool (decide (a = b))) ∧ Below w.heap.size w w' := by
  unfold maxLen at hn
  have hla : a.length = n := by have := ha.1; simpa using this
  have hlb : b.length = m := by have := hb.1; simpa using this
  by_cases hnm : n = m
  · subst hnm
    have Ha := Lib.hid ha; have Hb := Lib.hid hb; have Hla := Lib.hid hla; have Hlb := Lib.hid hlb; clear ha hb hla hlb
    go_enter Tryz.func19, Tryz.ntmps19
    go_wp2
    go_loopw [5] (fun i wr => ∃ k : Nat, k ≤ n ∧ i = .int .i64 k ∧ Below w.heap.size w wr ∧ Hid (a.take k = b.take k)) (fun i _ => n - (intOf i).toNat)
    case atStart => exact ⟨0, Nat.zero_le _, rfl, Below.refl _ _, by simp [Hid]⟩
    case round =>
      obtain ⟨k, hk, rfl, hbel, htk⟩ := hrel
      by_cases hlt : k < n
      · obtain ⟨b1, o1, rfl, -, hl1, hc1⟩ := ((Ha.out).below hbel).u8at hlt
        obtain ⟨b2, o2, rfl, -, hl2, hc2⟩ := ((Hb.out).below hbel).u8at hlt
        by_cases heq : a[k] = b[k]
        · have ht : ((a[k].toNat : Int) != (b[k].toNat : Int)) = false := by simp [heq]
          go_wp2
          go_quiet (fail)
          go_wp2
          go_roundw
          case rel => exact ⟨k + 1, by omega, by go_num, below_drewN hbel _, by unfold Hid at htk ⊢; rw [List.take_succ_eq_append_getElem hl1, List.take_succ_eq_append_getElem hl2]; simp [htk, heq]⟩
          case measure => simp [intOf]; omega
        · have ht : ((a[k].toNat : Int) != (b[k].toNat : Int)) = true := by simp; intro h; exact heq (UInt8.toNat.inj (by omega))
          go_wp2
          go_quiet (fail)
          go_wp2
          go_ret
          exact ⟨ret_bool (by symm; rw [decide_eq_false_iff_not]; intro h; subst h; exact heq rfl), below_drewN hbel _⟩
      · go_wp2
        go_ret
        exact ⟨ret_bool (by symm; rw [decide_eq_true_eq]; have h := htk.out; rwa [List.take_of_length_le (by have := Hla.out; omega), List.take_of_length_le (by have := Hlb.out; omega)] at h), hbel⟩
  · have H := Lib.hid hla; clear hla
    have H' := Lib.hid hlb; clear hlb
    have ht : ((n : Int) != (m : Int)) = true := by simp; omega
    go_enter Tryz.func19, Tryz.ntmps19
    go_wp2
    go_ret
    exact ⟨by simp; intro h; subst h; exact hnm (H.out.symm.trans H'.out), Below.refl _ _⟩

theorem app_u8 {ops : Array Oper} {rest : List Oper} {o : Oper} {a : Act} {Q : Exit → Act → World → Prop} (w : World) (hgd : o.guard = none) (s x : Operand)
    (ho : o.op = .call { callee := .builtin .append, args := #[s, x], argTypes := #[41, 41] })
    {base : Nat} {A : Option Addr} {n c : Nat} {xs : List Value} (hs : a.eval s = .slice A n c) (hown : Own w base 5 IsU8 A n c xs)
    {A' : Option Addr} {m c' : Nat} {news : List Value} (hx : a.eval x = .slice A' m c') (hr : Rd w A' m news) (hnp : ∀ u ∈ news, IsU8 u) (hsz : n + m ≤ 140737488355328) (hbase : base ≤ w.heap.size)
    (h : ∀ A1 c1 w1, Own w1 base 5 IsU8 A1 (n + m) c1 (xs ++ news) → w.grownBy w1 (blk A) → (blk A1 = blk A ∨ blk A1 = some w.heap.size) → wpList Tryz.prog ops Q rest (a.put o.dst (.slice A1 (n + m) c1)) w1) : wpList Tryz.prog ops Q (o :: rest) a w :=
  wpList_append_Own w hgd s x _ ho IsU8 base _ (.int .u8 0) 1 Tryz.underlying41 info_u8 rfl ⟨0, rfl⟩ (fun _ => isU8_one) A n c xs hs hown A' m c' news hx hr hnp (by omega) (by omega) hbase h

theorem copy_any (l : List UInt8) (A : Option Addr) (n c : Nat) (w : World) (hr : Rd w A n (l.map cB)) (hn : n ≤ 140737488355328) :
    Calls Tryz.prog 48 #[.slice A n c] w (RetOwn w 5 IsU8 n (l.map cB)) := by
  have hl : l.length = n := by have := hr.1; simpa using this
  have Hr := Lib.hid hr; have Hl := Lib.hid hl; clear hr hl
  go_enter Tryz.func48, Tryz.ntmps48
  go_wp2
  go_loopw [3, 4] (fun v i wr => ∃ (k c : Nat) (A : Option Addr), k ≤ n ∧ i = .int .i64 k ∧ v = .slice A k c ∧ Own wr w.heap.size 5 IsU8 A k c ((l.take k).map cB) ∧ Below w.heap.size w wr) (fun _ i _ => n - (intOf i).toNat)
  case atStart => exact ⟨0, 0, none, Nat.zero_le _, rfl, rfl, Own.nil_ _ _ _ _, Below.refl _ _⟩
  case round =>
    obtain ⟨k, c1, A1, hk, rfl, rfl, hown, hbel⟩ := hrel
    by_cases hlt : k < n
    · obtain ⟨b1, o1, rfl, -, hl1, hc1⟩ := ((Hr.out).below hbel).u8at hlt
      have hbs := hbel.size
      go_wp2_with (at_builtin; go_loud (refine app_u8 _ rfl (.tmp 11) (.tmp 16) rfl rfl (hown.alloc _) rfl (Rd.one _ _ _) (by intro u hu; simp at hu; subst hu; exact ⟨_, rfl⟩) (by omega) (by simp; omega) ?_); intro A2 c2 w2 hown2 hg2 hb2)
      go_roundw
      case rel => exact ⟨k + 1, c2, A2, by omega, by go_num, rfl, by rw [map_take_succ _ _ _ hl1]; exact hown2, below_app hbel hbs hg2 (fun g hg => (hown.lt g hg).1)⟩
      case measure => simp [intOf]; omega
    · obtain rfl : k = n := by omega
      go_wp2
      go_ret
      exact ⟨_, _, rfl, by rw [List.take_of_length_le (by have := Hl.out; omega)] at hown; exact hown, hbel⟩

theorem lent_any (l : List UInt8) (A : Option Addr) (n c : Nat) (w : World) (hr : Rd w A n (l.map cB)) (hn : n ≤ 140737488355328) :
    Calls Tryz.prog 55 #[.slice A n c] w fun e w' => ∃ g cur, e = .returned (.slice (some ⟨g, 0, none⟩) n (n + 5)) ∧ w.heap.size ≤ g ∧ w'.heap[g]? = some (.cells cur 5 (0, 0)) ∧ cur.toList = l.map cB ++ List.replicate 5 (.int .u8 165) ∧ Below w.heap.size w w' := by
  have hl : l.length = n := by have := hr.1; simpa using this
  have Hr := Lib.hid hr; have Hl := Lib.hid hl; clear hr hl
  have hmk : ∀ W : World, (Instr.makeSlice 41 (.int .i64 ((n : Int) + 5)) (.int .i64 ((n : Int) + 5))).run Tryz.prog W = .ok (.slice (some ⟨W.heap.size, 0, none⟩) (n + 5) (n + 5)) (W.alloc (.cells (Array.replicate (n + 5) (.int .u8 0)) 5)) :=
    fun W => by have := run_make1 (P := Tryz.prog) 41 5 (.int .u8 0) 1 Tryz.underlying41 info_u8 rfl (n + 5) (by omega) (by omega) W; simpa using this
  go_enter Tryz.func55, Tryz.ntmps55
  go_wp2
  have HT : Hid ((l.map cB ++ List.replicate 5 (Value.int .u8 165)).length = n + 5) := by have := Hl.out; simp [Hid]; omega
  go_loopw [4] (fun i wr => ∃ (k : Nat) (cur : Array Value), k ≤ n ∧ i = .int .i64 k ∧ wr.heap[w.heap.size]? = some (.cells cur 5 (0, 0)) ∧ Hid (cur.toList = (l.map cB ++ List.replicate 5 (Value.int .u8 165)).take k ++ List.replicate (n + 5 - k) (.int .u8 0)) ∧ Hid (cur.size = n + 5) ∧ Below w.heap.size w wr) (fun i _ => n - (intOf i).toNat)
  case atStart => exact ⟨0, Array.replicate (n + 5) (.int .u8 0), Nat.zero_le _, rfl, heap_alloc_new w _, by simp [Hid], by simp [Hid], (Below.refl _ _).alloc (Nat.le_refl _) _⟩
  case round =>
    obtain ⟨k, cur, hk, rfl, hh, hcur, Hcs, hbel⟩ := hrel
    by_cases hlt : k < n
    · obtain ⟨b1, o1, rfl, -, hl1, hc1⟩ := ((Hr.out).below hbel).u8at hlt
      obtain ⟨old, hce⟩ := heap_cell (k := k) hh (by have := Hcs.out; omega)
      have hfz := frozen_of_row wr w.heap.size k cur _ hh
      have Hh := Lib.hid hh; clear hh
      go_wp2
      go_roundw
      case rel => exact ⟨k + 1, cur.setIfInBounds k (.int .u8 (l[k].toNat : Int)), by omega, by go_num, heap_setCell_same _ _ _ _ _ _ Hh.out, fill_step hcur HT.out (by rw [List.getElem?_append_left (by simpa using hl1)]; simp [hl1, cB]), by have := Hcs.out; simp [Hid]; omega, hbel.setCell (Nat.le_refl _) _⟩
      case measure => simp [intOf]; omega
    · obtain rfl : k = n := by omega
      have Hh := Lib.hid hh; clear hh
      go_wp2
      go_loopw [5] (fun i wr => ∃ (j : Nat) (cur : Array Value), k ≤ j ∧ j ≤ k + 5 ∧ i = .int .i64 j ∧ wr.heap[w.heap.size]? = some (.cells cur 5 (0, 0)) ∧ Hid (cur.toList = (l.map cB ++ List.replicate 5 (Value.int .u8 165)).take j ++ List.replicate (k + 5 - j) (.int .u8 0)) ∧ Hid (cur.size = k + 5) ∧ Below w.heap.size w wr) (fun i _ => k + 5 - (intOf i).toNat)
      case atStart => exact ⟨k, cur, Nat.le_refl _, by omega, rfl, Hh.out, hcur, Hcs, hbel⟩
      case round =>
        obtain ⟨j, cur', hj1, hj2, rfl, hh', hcur', Hcs', hbel'⟩ := hrel
        by_cases hlt' : j < k + 5
        · obtain ⟨old, hce⟩ := heap_cell (k := j) hh' (by have := Hcs'.out; omega)
          have hfz := frozen_of_row _ w.heap.size j cur' _ hh'
          have Hh' := Lib.hid hh'; clear hh'
          go_wp2
          go_roundw
          case rel => exact ⟨j + 1, cur'.setIfInBounds j (.int .u8 165), by omega, by omega, by go_num, heap_setCell_same _ _ _ _ _ _ Hh'.out, fill_step hcur' HT.out (by have := Hl.out; rw [List.getElem?_append_right (by simp; omega), List.getElem?_replicate, if_pos (by simp; omega)]), by have := Hcs'.out; simp [Hid]; omega, hbel'.setCell (Nat.le_refl _) _⟩
          case measure => simp [intOf]; omega
        · obtain rfl : j = k + 5 := by omega
          have Hh' := Lib.hid hh'; clear hh'
          go_wp2
          go_ret
          exact ⟨_, cur', rfl, Nat.le_refl _, Hh'.out, by have h := hcur'.out; rwa [Nat.sub_self, List.replicate_zero, List.append_nil, List.take_of_length_le (by rw [HT.out]; exact Nat.le_refl _)] at h, hbel'⟩

theorem kept_any (l : List UInt8) (A : Option Addr) (n c g : Nat) (cur : Array Value) (w : World) (hr : Rd w A n (l.map cB)) (hh : w.heap[g]? = some (.cells cur 5 (0, 0))) (hcur : cur.toList = l.map cB ++ List.replicate 5 (.int .u8 165)) (hn : n ≤ 140737488355328) :
    Calls Tryz.prog 57 #[.slice (some ⟨g, 0, none⟩) n (n + 5), .slice A n c] w fun e w' => e = .returned (.bool true) ∧ Below w.heap.size w w' := by
  have hl : l.length = n := by have := hr.1; simpa using this
  have hrg : Rd w (some ⟨g, 0, none⟩) n (l.map cB) := ⟨by simpa using hl, fun _ => ⟨g, 0, rfl, lt_of_heap hh, fun j u hu => by
    rw [cell_of_row _ _ _ _ _ _ hh, ← Array.getElem?_toList, hcur, Nat.zero_add, List.getElem?_append_left (by have := (List.getElem?_eq_some_iff.1 hu).1; omega)]; exact hu⟩⟩
  have hcs : cur.size = n + 5 := by rw [← Array.length_toList, hcur]; simp [hl]
  have hsp : ∀ j, n ≤ j → j < n + 5 → w.cell? ⟨g, j, none⟩ = some (.int .u8 165) := fun j h1 h2 => by
    rw [cell_of_row _ _ _ _ _ _ hh, ← Array.getElem?_toList, hcur, List.getElem?_append_right (by simp; omega), List.getElem?_replicate, if_pos (by simp; omega)]
  have hlt := lt_of_heap hh
  have Hr := Lib.hid hr; have Hrg := Lib.hid hrg; have Hsp := Lib.hid hsp; clear hr hrg hsp hl hh hcur hcs
  go_enter Tryz.func57, Tryz.ntmps57
  go_wp2_with fail
  refine (same_any l l _ _ _ _ _ _ _ Hrg.out Hr.out (by unfold maxLen; omega)).mono ?_
  rintro e w1 ⟨rfl, hb1⟩
  rw [decide_eq_true rfl]
  go_wp2_with fail
  go_loopw [6] (fun i wr => ∃ (j : Nat), n ≤ j ∧ j ≤ n + 5 ∧ i = .int .i64 j ∧ Below w.heap.size w wr) (fun i _ => n + 5 - (intOf i).toNat)
  case atStart => exact ⟨n, Nat.le_refl _, by omega, rfl, hb1⟩
  case round =>
    obtain ⟨j, hj1, hj2, rfl, hbel⟩ := hrel
    by_cases hlt' : j < n + 5
    · have hc1 : wr.cell? ⟨g, j, none⟩ = some (.int .u8 165) := (hbel.cell (p := ⟨g, j, none⟩) hlt).trans (Hsp.out j hj1 hlt')
      go_wp2
      go_roundw
      case rel => exact ⟨j + 1, by omega, by omega, by go_num, hbel⟩
      case measure => simp [intOf]; omega
    · go_wp2
      go_ret
      exact ⟨rfl, hbel⟩

theorem spoil_any (A : Option Addr) (n c base : Nat) (xs : List Value) (w : World) (ho : Own w base 5 IsU8 A n c xs) :
    Calls Tryz.prog 24 #[.slice A n c] w fun e w' => e = .returned (.tuple #[]) ∧ (∃ ys, Own w' base 5 IsU8 A n c ys) ∧ w.grownBy w' (blk A) := by
  obtain ⟨h1, h2, h3, h4⟩ := ho
  unfold maxLen at h3
  have H1 := Lib.hid h1; clear h1
  rcases h4 with ⟨rfl, rfl⟩ | ⟨g, off, cur, rfl, hbg, hh, hcs, ht, hp⟩
  · obtain rfl : n = 0 := by omega
    go_enter Tryz.func24, Tryz.ntmps24
    go_wp2_with fail
    refine wp_loop_rounds 1 ?_
    rw [rounds_succ]
    go_wp2
    go_end0
    exact ⟨rfl, ⟨[], Own.nil_ _ _ _ _⟩, World.grownBy.refl _ _⟩
  · have Ht := Lib.hid ht; have Hcs := Lib.hid hcs; have Hp := Lib.hid hp; have Hh := Lib.hid hh; clear ht hcs hp hh
    go_enter Tryz.func24, Tryz.ntmps24
    go_wp2_with fail
    go_loopw [3] (fun i wr => ∃ (k : Nat) (cur : Array Value), k ≤ c ∧ i = .int .i64 k ∧ wr.heap[g]? = some (.cells cur 5 (0, 0)) ∧ Hid (cur.size = off + c) ∧ Hid (∀ u ∈ cur.toList, IsU8 u) ∧ w.grownBy wr (some g)) (fun i _ => c - (intOf i).toNat)
    case atStart => exact ⟨0, cur, by omega, rfl, Hh.out, Hcs, Hp, World.grownBy.refl _ _⟩
    case round =>
      obtain ⟨k, cur', hk, rfl, hh, Hcs', Hp', hg⟩ := hrel
      by_cases hlt : k < c
      · obtain ⟨old, hce⟩ := heap_cell (k := off + k) hh (by have := Hcs'.out; omega)
        obtain ⟨x, rfl⟩ : IsU8 old := by
          refine Hp'.out _ ?_
          rw [cell_of_row _ _ _ _ _ _ hh] at hce
          exact Array.mem_toList_iff.2 (Array.mem_of_getElem? hce)
        have hfz := frozen_of_row wr g (off + k) cur' _ hh
        have Hh' := Lib.hid hh; clear hh
        go_wp2
        go_roundw
        case rel => exact ⟨k + 1, cur'.setIfInBounds (off + k) _, by omega, by go_num, heap_setCell_same _ _ _ _ _ _ Hh'.out, by have := Hcs'.out; simp [Hid]; omega, all_set Hp'.out (isU8_bits _ _ _), only_setCell hg (.inl rfl) _⟩
        case measure => simp [intOf]; omega
      · obtain rfl : k = c := by omega
        have Hh' := Lib.hid hh; clear hh
        go_wp2
        go_end0
        exact ⟨rfl, ⟨_, Own.of_heap hbg Hh'.out n k h2 Hcs'.out (by unfold maxLen; omega) Hp'.out⟩, hg⟩

/-- A slice that was lent, as one of the call's own. -/
theorem lent_own {w : World} {base g n : Nat} {cur : Array Value} {l : List UInt8} (hb : base ≤ g) (hh : w.heap[g]? = some (.cells cur 5 (0, 0))) (hcur : cur.toList = l.map cB ++ List.replicate 5 (.int .u8 165)) (hl : l.length = n) (hn : n + 5 ≤ 9223372036854775807) :
    Own w base 5 IsU8 (some ⟨g, 0, none⟩) n (n + 5) (l.map cB) := by
  have hs : cur.size = n + 5 := by rw [← Array.length_toList, hcur]; simp [hl]
  have hp : ∀ u ∈ cur.toList, IsU8 u := by
    rw [hcur]; intro u hu
    rcases List.mem_append.1 hu with hu | hu
    · exact isU8_map u hu
    · have := List.eq_of_mem_replicate hu
      subst this; exact ⟨165, rfl⟩
  have h := Own.of_heap (p := IsU8) hb hh (off := 0) n (n + 5) (by omega) (by omega) (by unfold maxLen; omega) hp
  rw [List.drop_zero, hcur, List.take_append_of_le_length (by simp [hl]), List.take_of_length_le (by simp [hl])] at h
  exact h

end Go.Proofs.YtomcipkmohhpjaaGreat

namespace Go.Proofs.YtomcipkmohhpjaaGreat
set_option linter.unusedVariables false
set_option linter.unusedSimpArgs false
open Go Go.RowKit Go.Out

def shapeV (c : Int) : Value := .agg #[.int .i64 (if codeP c then mostF c else 0), .bool (decide (isCnt c)), .bool (decide (isOn c)), .bool (decide (isSet c)), .bool (decide (c = 20))]
theorem notCode {c : Int} (h : ¬ codeP c) : ¬ c = 1 ∧ ¬ c = 2 ∧ ¬ c = 3 ∧ ¬ c = 4 ∧ ¬ c = 5 ∧ ¬ c = 6 ∧ ¬ c = 15 ∧ ¬ c = 16 ∧ ¬ c = 20 := by
  unfold codeP isCnt isOn isSet at h; omega

theorem shapeOf_any (c : Int) (w : World) :
    Calls Tryz.prog 81 #[.int .i64 c] w fun e w' => e = .returned (.tuple #[shapeV c, .bool (decide (codeP c))]) ∧ Ext w w' := by
  by_cases hp : codeP c
  · rcases codeP_cases hp with rfl | rfl | rfl | rfl | rfl | rfl | rfl | rfl | rfl
    all_goals
      go_enter Tryz.func81, Tryz.ntmps81
      go_wp2_with fail
      exact bodyPost_ret (by simp [results, Tryz.results81, go_sem]; exact ⟨rfl, hp⟩) rfl ⟨rfl, Ext.alloc _ _⟩
  · obtain ⟨h1, h2, h3, h4, h5, h6, h7, h8, h9⟩ := notCode hp
    have hs : shapeV c = .agg #[.int .i64 0, .bool false, .bool false, .bool false, .bool false] := by
      have hq := hp
      unfold codeP at hq
      simp only [not_or] at hq
      unfold shapeV
      rw [if_neg hp, decide_eq_false hq.1, decide_eq_false hq.2.1, decide_eq_false hq.2.2.1, decide_eq_false hq.2.2.2]
    rw [hs, decide_eq_false hp]
    clear hs
    go_enter Tryz.func81, Tryz.ntmps81
    go_wp2_with fail
    exact bodyPost_ret (by simp [results, Tryz.results81, go_sem]) rfl ⟨rfl, Ext.alloc _ _⟩
theorem known3_any (c : Int) (w : World) :
    Calls Tryz.prog 84 #[.int .i64 c] w fun e w' => e = .returned (.bool (decide (codeP c))) ∧ w = w' := by
  by_cases hp : codeP c
  · rcases codeP_cases hp with rfl | rfl | rfl | rfl | rfl | rfl | rfl | rfl | rfl
    all_goals
      go_enter Tryz.func84, Tryz.ntmps84
      go_wp2_with fail
      go_ret
      exact ⟨rfl, rfl⟩
  · obtain ⟨h1, h2, h3, h4, h5, h6, h7, h8, h9⟩ := notCode hp
    have b7 : (c == 15) = false := by simpa using h7
    have b8 : (c == 16) = false := by simpa using h8
    have b9 : (c == 20) = false := by simpa using h9
    rw [decide_eq_false hp]
    rcases Int.lt_or_le c 1 with hc | hc
    · have hc' : ¬ 1 ≤ c := by omega
      go_enter Tryz.func84, Tryz.ntmps84
      go_wp2_with fail
      go_ret
      simp [hc', b7, b8, b9]
    · have hc6 : ¬ c ≤ 6 := by omega
      go_enter Tryz.func84, Tryz.ntmps84
      go_wp2_with fail
      go_ret
      simp [hc, hc6, b7, b8, b9]
theorem most3_any (c : Int) (w : World) :
    Calls Tryz.prog 87 #[.int .i64 c] w fun e w' => e = .returned (.int .i64 (mostF c)) ∧ w = w' := by
  unfold mostF
  by_cases h1 : c = 1 <;> by_cases h2 : c = 2 <;> by_cases h3 : c = 3 <;> by_cases h4 : c = 4 <;> by_cases h5 : c = 15 <;> by_cases h6 : c = 16 <;> by_cases h7 : c = 20
  all_goals first
    | (exfalso; omega)
    | (go_enter Tryz.func87, Tryz.ntmps87
       go_wp2_with fail
       go_ret
       simp [h1, h2, h3, h4, h5, h6, h7])
end Go.Proofs.YtomcipkmohhpjaaGreat

namespace Go.Proofs.YtomcipkmohhpjaaGreat
set_option linter.unusedVariables false
set_option linter.unusedSimpArgs false
open Go Go.RowKit Go.Out

def i64P (x : Int) : Prop := -9223372036854775808 ≤ x ∧ x ≤ 9223372036854775807
def partCells (p : PartD) : List Value := [.int .i64 p.file, .int .i64 p.record, .int .i64 p.len]
/-- A part of a file, as its three cells. -/
def partK : Kind PartD := ⟨3, fun _ cs p => cs = partCells p ∧ i64P p.file ∧ i64P p.record ∧ i64P p.len, fun h _ => h⟩
structure AskS where
  A1 : Option Addr
  n1 : Nat
  c1 : Nat
  A2 : Option Addr
  n2 : Nat
  c2 : Nat
  A3 : Option Addr
  n3 : Nat
  c3 : Nat
def askV (a : AskD) (s : AskS) : Value := .agg #[.int .i64 a.code, .int .i64 a.addr, .int .i64 a.count, .slice s.A1 s.n1 s.c1, .slice s.A2 s.n2 s.c2, .slice s.A3 s.n3 s.c3]
/-- A request value reads so. -/
structure AskRd (w : World) (a : AskD) (s : AskS) : Prop where
  on : Rd w s.A1 s.n1 (a.on.map cL)
  set : Rd w s.A2 s.n2 (a.set.map cW)
  parts : RdL partK w s.A3 s.n3 a.parts
  code : i64P a.code
  addr : i64P a.addr
  count : i64P a.count
  cap1 : s.n1 ≤ s.c1 ∧ s.c1 ≤ 9223372036854775807
  cap2 : s.n2 ≤ s.c2 ∧ s.c2 ≤ 9223372036854775807
  cap3 : s.n3 ≤ s.c3 ∧ s.c3 ≤ 9223372036854775807
theorem AskRd.ext {w w' : World} {a : AskD} {s : AskS} (h : AskRd w a s) (hx : Ext w w') : AskRd w' a s :=
  ⟨h.on.ext hx, h.set.ext hx, h.parts.ext hx, h.code, h.addr, h.count, h.cap1, h.cap2, h.cap3⟩
theorem AskRd.n1 {w : World} {a : AskD} {s : AskS} (h : AskRd w a s) : a.on.length = s.n1 := by have := h.on.length; simpa using this
theorem AskRd.n2 {w : World} {a : AskD} {s : AskS} (h : AskRd w a s) : a.set.length = s.n2 := by have := h.set.length; simpa using this
theorem AskRd.n3 {w : World} {a : AskD} {s : AskS} (h : AskRd w a s) : a.parts.length = s.n3 := h.parts.length

theorem shape_kind {c : Int} (h : codeP c) : 1 ≤ mostF c ∧ mostF c ≤ 2000 ∧
    ((isCnt c ∧ ¬ isOn c ∧ ¬ isSet c ∧ c ≠ 20 ∧ shapeV c = .agg #[.int .i64 (mostF c), .bool true, .bool false, .bool false, .bool false]) ∨
    (¬ isCnt c ∧ isOn c ∧ ¬ isSet c ∧ c ≠ 20 ∧ shapeV c = .agg #[.int .i64 (mostF c), .bool false, .bool true, .bool false, .bool false]) ∨
    (¬ isCnt c ∧ ¬ isOn c ∧ isSet c ∧ c ≠ 20 ∧ shapeV c = .agg #[.int .i64 (mostF c), .bool false, .bool false, .bool true, .bool false]) ∨
    (¬ isCnt c ∧ ¬ isOn c ∧ ¬ isSet c ∧ c = 20 ∧ mostF c = 35 ∧ shapeV c = .agg #[.int .i64 35, .bool false, .bool false, .bool false, .bool true])) := by
  refine ⟨?_, ?_, ?_⟩
  · unfold mostF; repeat' split
    all_goals omega
  · unfold mostF; repeat' split
    all_goals omega
  · rcases codeP_cases h with rfl | rfl | rfl | rfl | rfl | rfl | rfl | rfl | rfl
    · exact .inl ⟨by decide, by decide, by decide, by decide, rfl⟩
    · exact .inl ⟨by decide, by decide, by decide, by decide, rfl⟩
    · exact .inl ⟨by decide, by decide, by decide, by decide, rfl⟩
    · exact .inl ⟨by decide, by decide, by decide, by decide, rfl⟩
    · exact .inr (.inl ⟨by decide, by decide, by decide, by decide, rfl⟩)
    · exact .inr (.inr (.inl ⟨by decide, by decide, by decide, by decide, rfl⟩))
    · exact .inr (.inl ⟨by decide, by decide, by decide, by decide, rfl⟩)
    · exact .inr (.inr (.inl ⟨by decide, by decide, by decide, by decide, rfl⟩))
    · exact .inr (.inr (.inr ⟨by decide, by decide, by decide, by decide, rfl, rfl⟩))

theorem many_any (a : AskD) (s : AskS) (w : World) (h1 : a.on.length = s.n1) (h2 : a.set.length = s.n2) (h3 : a.parts.length = s.n3) (hp : codeP a.code) :
    Calls Tryz.prog 108 #[shapeV a.code, askV a s] w fun e w' => e = .returned (.int .i64 (manyF a)) ∧ Ext w w' := by
  unfold manyF
  rw [h1, h2, h3]
  clear h1 h2 h3
  obtain ⟨code, addr, count, on, set, parts⟩ := a
  obtain ⟨A1, n1, c1, A2, n2, c2, A3, n3, c3⟩ := s
  simp only [askV] at hp ⊢
  obtain ⟨-, -, hk⟩ := shape_kind hp
  rcases hk with ⟨k1, k2, k3, k4, hs⟩ | ⟨k1, k2, k3, k4, hs⟩ | ⟨k1, k2, k3, k4, hs⟩ | ⟨k1, k2, k3, k4, k5, hs⟩
  · rw [hs, if_pos k1]
    go_enter Tryz.func108, Tryz.ntmps108
    go_wp2_with fail
    go_ret
    exact ⟨rfl, (Ext.alloc _ _).trans (Ext.alloc _ _)⟩
  · rw [hs, if_neg k1, if_pos k2]
    go_enter Tryz.func108, Tryz.ntmps108
    go_wp2_with fail
    go_ret
    exact ⟨rfl, (Ext.alloc _ _).trans (Ext.alloc _ _)⟩
  · rw [hs, if_neg k1, if_neg k2, if_pos k3]
    go_enter Tryz.func108, Tryz.ntmps108
    go_wp2_with fail
    go_ret
    exact ⟨rfl, (Ext.alloc _ _).trans (Ext.alloc _ _)⟩
  · rw [hs, if_neg k1, if_neg k2, if_neg k3]
    go_enter Tryz.func108, Tryz.ntmps108
    go_wp2_with fail
    go_ret
    exact ⟨rfl, (Ext.alloc _ _).trans (Ext.alloc _ _)⟩
theorem many3_any (a : AskD) (s : AskS) (w : World) (h1 : a.on.length = s.n1) (h2 : a.set.length = s.n2) (h3 : a.parts.length = s.n3) (hp : codeP a.code) :
    Calls Tryz.prog 86 #[askV a s] w fun e w' => e = .returned (.int .i64 (manyF a)) ∧ Ext w w' := by
  unfold manyF
  rw [h1, h2, h3]
  clear h1 h2 h3
  obtain ⟨code, addr, count, on, set, parts⟩ := a
  obtain ⟨A1, n1, c1, A2, n2, c2, A3, n3, c3⟩ := s
  simp only [askV] at hp ⊢
  rcases codeP_cases hp with rfl | rfl | rfl | rfl | rfl | rfl | rfl | rfl | rfl
  all_goals
    go_enter Tryz.func86, Tryz.ntmps86
    go_wp2_with fail
    go_ret
    exact ⟨rfl, (Ext.alloc _ _)⟩
end Go.Proofs.YtomcipkmohhpjaaGreat
