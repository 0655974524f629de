/- Packets: plain definitions and laws; no program in sight. -/
import Derived.Test.YtifojmmggcenkaaStreamLaw
import Derived.Test.YtifojmmggcenkaaBitBack
namespace Go.Out
open Go Go.RowKit
set_option linter.unusedVariables false
set_option linter.unusedSimpArgs false

structure PacD where
  kind : Int
  epoch : Int
  seq : Int
  id : Int
  code : Int
  body : List UInt8
def pac0 : PacD := ⟨0, 0, 0, 0, 0, []⟩
def runsP (k : Int) : Prop := k = 1 ∨ k = 2
instance (k : Int) : Decidable (runsP k) := inferInstanceAs (Decidable (_ ∨ _))
def fullP (k : Int) : Prop := k = 1 ∨ k = 3
instance (k : Int) : Decidable (fullP k) := inferInstanceAs (Decidable (_ ∨ _))
/-- A field without a meaning has something in it. -/
def fieldPP (p : PacD) : Prop := (¬ runsP p.kind ∧ (p.epoch ≠ 0 ∨ p.seq ≠ 0)) ∨ (runsP p.kind ∧ p.id ≠ 0) ∨ (p.kind ≠ 4 ∧ p.code ≠ 0) ∨ (¬ fullP p.kind ∧ p.body ≠ [])
instance (p : PacD) : Decidable (fieldPP p) := inferInstanceAs (Decidable ((¬ runsP p.kind ∧ (p.epoch ≠ 0 ∨ p.seq ≠ 0)) ∨ (runsP p.kind ∧ p.id ≠ 0) ∨ (p.kind ≠ 4 ∧ p.code ≠ 0) ∨ (¬ fullP p.kind ∧ p.body ≠ [])))
/-- A number is out of its place. -/
def rangeP (p : PacD) : Prop := (runsP p.kind ∧ (p.epoch < 1 ∨ 1099511627776 < p.epoch ∨ p.seq < 0 ∨ 1099511627776 < p.seq ∨ (p.kind = 1 ∧ p.seq = 1099511627776))) ∨ (¬ runsP p.kind ∧ (p.id < 1 ∨ 1099511627776 < p.id ∨ p.code < 0 ∨ 255 < p.code))
instance (p : PacD) : Decidable (rangeP p) := inferInstanceAs (Decidable (_ ∨ _))
def leastF (k : Int) : Nat := if k = 1 then 1 else if k = 3 then 2 else 0
def mostFP (k : Int) : Nat := if k = 1 then 1024 else if k = 3 then 254 else 0
def checkP (p : PacD) : Int :=
  if ¬ (1 ≤ p.kind ∧ p.kind ≤ 4) then 28 else if fieldPP p then 23 else if rangeP p then 3 else if p.body.length < leastF p.kind then 1 else if mostFP p.kind < p.body.length then 2 else 0
def be8 (v : Int) : List UInt8 := be v.toNat 8
def headP (p : PacD) : List UInt8 := if runsP p.kind then be8 p.epoch ++ be8 p.seq else if p.kind = 4 then be8 p.id ++ [UInt8.ofNat p.code.toNat] else be8 p.id
def rawP (p : PacD) : List UInt8 := UInt8.ofNat p.kind.toNat :: (headP p ++ p.body)
def putP (p : PacD) : List UInt8 × Int := if checkP p ≠ 0 then ([], checkP p) else (sealF 4 (more32 0) (rawP p), 0)
/-- The number in eight bytes at a place, as an int. -/
def numAt (l : List UInt8) (i : Nat) : Int := IntKind.i64.wrap (num ((l.drop i).take 8) : Nat)
def headN (k : Int) : Nat := if k = 1 ∨ k = 2 then 17 else if k = 3 then 9 else 10
def kindN (l : List UInt8) : Nat := (l.getD 0 0).toNat
def readP (l : List UInt8) : PacD :=
  if kindN l = 1 then ⟨1, numAt l 1, numAt l 9, 0, 0, l.drop 17⟩ else if kindN l = 2 then ⟨2, numAt l 1, numAt l 9, 0, 0, []⟩ else if kindN l = 3 then ⟨3, 0, 0, numAt l 1, 0, l.drop 9⟩ else ⟨4, 0, 0, numAt l 1, ((l.getD 9 0).toNat : Int), []⟩
def inP (l : List UInt8) : PacD × Int :=
  if ¬ (1 ≤ kindN l ∧ kindN l ≤ 4) then (pac0, 28) else if l.length < headN (kindN l : Nat) then (pac0, 1) else if ¬ fullP (kindN l : Nat) ∧ headN (kindN l : Nat) < l.length then (pac0, 2) else
  if checkP (readP l) ≠ 0 then (pac0, checkP (readP l)) else (readP l, 0)
def getP (b : List UInt8) : PacD × Int :=
  if b.length < 5 then (pac0, 1) else if (openF 4 (more32 0) b).2 ≠ 0 then (pac0, (openF 4 (more32 0) b).2) else inP (openF 4 (more32 0) b).1

theorem kind_cases {p : PacD} (h : checkP p = 0) : (p.kind = 1 ∨ p.kind = 2 ∨ p.kind = 3 ∨ p.kind = 4) ∧ ¬ fieldPP p ∧ ¬ rangeP p ∧ leastF p.kind ≤ p.body.length ∧ p.body.length ≤ mostFP p.kind := by
  unfold checkP at h
  by_cases h1 : ¬ (1 ≤ p.kind ∧ p.kind ≤ 4)
  · rw [if_pos h1] at h; cases h
  · rw [if_neg h1] at h
    by_cases h2 : fieldPP p
    · rw [if_pos h2] at h; cases h
    · rw [if_neg h2] at h
      by_cases h3 : rangeP p
      · rw [if_pos h3] at h; cases h
      · rw [if_neg h3] at h
        by_cases h4 : p.body.length < leastF p.kind
        · rw [if_pos h4] at h; cases h
        · rw [if_neg h4] at h
          by_cases h5 : mostFP p.kind < p.body.length
          · rw [if_pos h5] at h; cases h
          · exact ⟨by omega, h2, h3, by omega, by omega⟩

/-- The four packets that are right. -/
theorem pac_cases {p : PacD} (h : checkP p = 0) :
    (∃ (E S : Nat) (l : List UInt8), 1 ≤ E ∧ E ≤ 1099511627776 ∧ S < 1099511627776 ∧ 1 ≤ l.length ∧ l.length ≤ 1024 ∧ p = ⟨1, E, S, 0, 0, l⟩) ∨
    (∃ (E S : Nat), 1 ≤ E ∧ E ≤ 1099511627776 ∧ S ≤ 1099511627776 ∧ p = ⟨2, E, S, 0, 0, []⟩) ∨
    (∃ (I : Nat) (l : List UInt8), 1 ≤ I ∧ I ≤ 1099511627776 ∧ 2 ≤ l.length ∧ l.length ≤ 254 ∧ p = ⟨3, 0, 0, I, 0, l⟩) ∨
    (∃ (I C : Nat), 1 ≤ I ∧ I ≤ 1099511627776 ∧ C ≤ 255 ∧ p = ⟨4, 0, 0, I, C, []⟩) := by
  obtain ⟨hk, hf, hr, hl, hm⟩ := kind_cases h
  obtain ⟨k, e, s, i, c, l⟩ := p
  simp only [fieldPP, rangeP, runsP, fullP, leastF, mostFP] at hk hf hr hl hm
  rcases hk with rfl | rfl | rfl | rfl
  · simp at hf hr hl hm
    left
    obtain ⟨rfl, rfl⟩ := hf
    exact ⟨e.toNat, s.toNat, l, by omega, by omega, by omega, hl, hm, by congr 1 <;> omega⟩
  · simp at hf hr hl hm
    right; left
    obtain ⟨rfl, rfl, rfl⟩ := hf
    exact ⟨e.toNat, s.toNat, by omega, by omega, by omega, by congr 1 <;> omega⟩
  · simp at hf hr hl hm
    right; right; left
    obtain ⟨⟨rfl, rfl⟩, rfl⟩ := hf
    exact ⟨i.toNat, l, by omega, by omega, hl, hm, by congr 1 <;> omega⟩
  · simp at hf hr hl hm
    right; right; right
    obtain ⟨⟨rfl, rfl⟩, rfl⟩ := hf
    exact ⟨i.toNat, c.toNat, by omega, by omega, by omega, by congr 1 <;> omega⟩
end Go.Out

namespace Go.Out
open Go Go.RowKit
set_option linter.unusedVariables false
set_option linter.unusedSimpArgs false

theorem be_num : ∀ (n : Nat) (t : List UInt8) (r : Nat), t.length = n → be (r * 256 ^ n + num t) n = t := by
  intro n
  induction n with
  | zero => intro t r h; rw [List.length_eq_zero_iff.1 h]; rfl
  | succ n ih =>
    intro t r h
    obtain ⟨s, x, rfl⟩ : ∃ s x, t = s ++ [x] := ⟨t.dropLast, t.getLast (by intro e; simp [e] at h), (List.dropLast_concat_getLast _).symm⟩
    have hs : s.length = n := by simpa using h
    have hx := x.toNat_lt
    -- the highest first: by the whole number
    have key : ∀ (v : Nat) (m : Nat), be v (m + 1) = be (v / 256) m ++ [UInt8.ofNat v] := by
      intro v m
      induction m with
      | zero => simp [be]
      | succ m ihm =>
        rw [be, ihm, be]
        simp only [List.cons_append]
        congr 2
        rw [Nat.pow_succ, Nat.mul_comm, Nat.div_div_eq_div_mul]
    rw [key, num_snoc]
    have e1 : (r * 256 ^ (n + 1) + (num s * 256 + x.toNat)) / 256 = r * 256 ^ n + num s := by
      rw [Nat.pow_succ, ← Nat.mul_assoc]
      omega
    have e2 : UInt8.ofNat (r * 256 ^ (n + 1) + (num s * 256 + x.toNat)) = x := by
      apply UInt8.toNat.inj
      show (r * 256 ^ (n + 1) + (num s * 256 + x.toNat)) % 256 = x.toNat
      rw [Nat.pow_succ, ← Nat.mul_assoc]
      omega
    rw [e1, e2, ih s r hs]
theorem be_num8 (t : List UInt8) (h : t.length = 8) : be (num t) 8 = t := by simpa using be_num 8 t 0 h
theorem i64_wrap_in (x : Int) (h : -9223372036854775808 ≤ x ∧ x ≤ 9223372036854775807) : IntKind.i64.wrap x = x := by rw [IntKind.wrap_i64]; omega
theorem numAt1 (x : UInt8) (E : Nat) (r : List UInt8) (h : E < 9223372036854775808) : numAt (x :: (be E 8 ++ r)) 1 = E := by
  unfold numAt
  rw [List.drop_succ_cons, List.drop_zero, List.take_left' (be_length E 8), num_be, Nat.mod_eq_of_lt (by omega), i64_wrap_in _ (by omega)]
theorem numAt9 (x : UInt8) (E S : Nat) (r : List UInt8) (h : S < 9223372036854775808) : numAt (x :: (be E 8 ++ (be S 8 ++ r))) 9 = S := by
  unfold numAt
  rw [List.drop_succ_cons, List.drop_left' (be_length E 8), List.take_left' (be_length S 8), num_be, Nat.mod_eq_of_lt (by omega), i64_wrap_in _ (by omega)]
theorem numAt_pos {l : List UInt8} {i : Nat} (hi : i + 8 ≤ l.length) (h : 0 ≤ numAt l i) : be8 (numAt l i) = (l.drop i).take 8 := by
  have hlen : ((l.drop i).take 8).length = 8 := by simp; omega
  have hlt := num_lt ((l.drop i).take 8)
  rw [hlen] at hlt
  have e : numAt l i = (num ((l.drop i).take 8) : Nat) := by
    unfold numAt at h ⊢
    rw [IntKind.wrap_i64] at h ⊢
    omega
  unfold be8
  rw [e, Int.toNat_natCast, be_num8 _ hlen]
theorem checkP_one (p : PacD) (hk : 1 ≤ p.kind ∧ p.kind ≤ 4) (hf : ¬ fieldPP p) (hr : ¬ rangeP p) (hl : leastF p.kind ≤ p.body.length) (hm : p.body.length ≤ mostFP p.kind) : checkP p = 0 := by
  unfold checkP
  rw [if_neg (by omega), if_neg hf, if_neg hr, if_neg (by omega), if_neg (by omega)]
theorem inP_raw {p : PacD} (h : checkP p = 0) : inP (rawP p) = (p, 0) ∧ 10 ≤ (rawP p).length ∧ (rawP p).length ≤ 1041 := by
  have hc := h
  rcases pac_cases h with ⟨E, S, l, h1, h2, h3, h4, h5, rfl⟩ | ⟨E, S, h1, h2, h3, rfl⟩ | ⟨I, l, h1, h2, h3, h4, rfl⟩ | ⟨I, C, h1, h2, h3, rfl⟩
  · have e : rawP ⟨1, E, S, 0, 0, l⟩ = 1 :: (be E 8 ++ (be S 8 ++ l)) := by simp [rawP, headP, runsP, be8]
    rw [e]
    have hr : readP (1 :: (be E 8 ++ (be S 8 ++ l))) = ⟨1, E, S, 0, 0, l⟩ := by
      unfold readP
      rw [if_pos (by simp [kindN]), numAt1 _ _ _ (by omega), numAt9 _ _ _ _ (by omega)]
      congr 1
    refine ⟨?_, by simp [be_length] <;> omega, by simp [be_length] <;> omega⟩
    unfold inP
    rw [if_neg (by simp [kindN]), if_neg (by simp [kindN, headN, be_length] <;> omega), if_neg (by simp [kindN, fullP]), hr, hc]
    simp
  · have e : rawP ⟨2, E, S, 0, 0, []⟩ = 2 :: (be E 8 ++ (be S 8 ++ [])) := by simp [rawP, headP, runsP, be8]
    rw [e]
    have hr : readP (2 :: (be E 8 ++ (be S 8 ++ []))) = ⟨2, E, S, 0, 0, []⟩ := by
      unfold readP
      rw [if_neg (by simp [kindN]), if_pos (by simp [kindN]), numAt1 _ _ _ (by omega), numAt9 _ _ _ _ (by omega)]
    refine ⟨?_, by simp [be_length] <;> omega, by simp [be_length] <;> omega⟩
    unfold inP
    rw [if_neg (by simp [kindN]), if_neg (by simp [kindN, headN, be_length]), if_neg (by simp [kindN, headN, fullP, be_length]), hr, hc]
    simp
  · have e : rawP ⟨3, 0, 0, I, 0, l⟩ = 3 :: (be I 8 ++ l) := by simp [rawP, headP, runsP, be8]
    rw [e]
    have hr : readP (3 :: (be I 8 ++ l)) = ⟨3, 0, 0, I, 0, l⟩ := by
      unfold readP
      rw [if_neg (by simp [kindN]), if_neg (by simp [kindN]), if_pos (by simp [kindN]), numAt1 _ _ _ (by omega)]
      congr 1
    refine ⟨?_, by simp [be_length] <;> omega, by simp [be_length] <;> omega⟩
    unfold inP
    rw [if_neg (by simp [kindN]), if_neg (by simp [kindN, headN, be_length] <;> omega), if_neg (by simp [kindN, fullP]), hr, hc]
    simp
  · have e : rawP ⟨4, 0, 0, I, C, []⟩ = 4 :: (be I 8 ++ [UInt8.ofNat C]) := by simp [rawP, headP, runsP, be8]
    rw [e]
    have hr : readP (4 :: (be I 8 ++ [UInt8.ofNat C])) = ⟨4, 0, 0, I, C, []⟩ := by
      unfold readP
      rw [if_neg (by simp [kindN]), if_neg (by simp [kindN]), if_neg (by simp [kindN]), numAt1 _ _ _ (by omega)]
      congr 1
      rw [List.getD_eq_getElem?_getD, List.getElem?_cons_succ, List.getElem?_append_right (by simp [be_length])]
      simp [be_length]
      omega
    refine ⟨?_, by simp [be_length] <;> omega, by simp [be_length] <;> omega⟩
    unfold inP
    rw [if_neg (by simp [kindN]), if_neg (by simp [kindN, headN, be_length]), if_neg (by simp [kindN, headN, fullP, be_length]), hr, hc]
    simp
theorem sealF_length (l : List UInt8) : (sealF 4 (more32 0) l).length = l.length + 4 := by unfold sealF; simp [le_length]
theorem putP_ok {p : PacD} (h : checkP p = 0) : putP p = (sealF 4 (more32 0) (rawP p), 0) := by unfold putP; rw [if_neg (by simp [h])]
theorem putP_no {p : PacD} (h : checkP p ≠ 0) : putP p = ([], checkP p) := by unfold putP; rw [if_pos h]
theorem getP_of {b l : List UInt8} (hl : 5 ≤ b.length) (h : openF 4 (more32 0) b = (l, 0)) : getP b = inP l := by
  unfold getP
  rw [if_neg (by omega), h, if_neg (by simp)]
/-- A right packet is read from its bytes as it was. -/
theorem getP_putP {p : PacD} (h : checkP p = 0) : getP (putP p).1 = (p, 0) ∧ 14 ≤ (putP p).1.length ∧ (putP p).1.length ≤ 1045 := by
  obtain ⟨h1, h2, h3⟩ := inP_raw h
  rw [putP_ok h]
  have hs := sealF_length (rawP p)
  refine ⟨?_, by simp only [hs]; omega, by simp only [hs]; omega⟩
  rw [getP_of (by simp only [hs]; omega) (open_seal 4 (more32 0) (rawP p)), h1]
theorem inP_err {l : List UInt8} (h : (inP l).2 ≠ 0) : (inP l).1 = pac0 := by
  unfold inP at h ⊢
  by_cases h1 : ¬ (1 ≤ kindN l ∧ kindN l ≤ 4)
  · rw [if_pos h1]
  · rw [if_neg h1] at h ⊢
    by_cases h2 : l.length < headN (kindN l : Nat)
    · rw [if_pos h2]
    · rw [if_neg h2] at h ⊢
      by_cases h3 : ¬ fullP (kindN l : Nat) ∧ headN (kindN l : Nat) < l.length
      · rw [if_pos h3]
      · rw [if_neg h3] at h ⊢
        by_cases h4 : checkP (readP l) ≠ 0
        · rw [if_pos h4]
        · rw [if_neg h4] at h; exact absurd rfl h
theorem getP_err {b : List UInt8} (h : (getP b).2 ≠ 0) : (getP b).1 = pac0 := by
  unfold getP at h ⊢
  by_cases h1 : b.length < 5
  · rw [if_pos h1]
  · rw [if_neg h1] at h ⊢
    by_cases h2 : (openF 4 (more32 0) b).2 ≠ 0
    · rw [if_pos h2]
    · rw [if_neg h2] at h ⊢
      exact inP_err h
theorem inP_zero {l : List UInt8} (h : (inP l).2 = 0) : (1 ≤ kindN l ∧ kindN l ≤ 4) ∧ headN (kindN l : Nat) ≤ l.length ∧ (fullP (kindN l : Nat) ∨ l.length = headN (kindN l : Nat)) ∧ checkP (readP l) = 0 ∧ (inP l).1 = readP l := by
  unfold inP at h ⊢
  by_cases h1 : ¬ (1 ≤ kindN l ∧ kindN l ≤ 4)
  · rw [if_pos h1] at h; cases h
  · rw [if_neg h1] at h ⊢
    by_cases h2 : l.length < headN (kindN l : Nat)
    · rw [if_pos h2] at h; cases h
    · rw [if_neg h2] at h ⊢
      by_cases h3 : ¬ fullP (kindN l : Nat) ∧ headN (kindN l : Nat) < l.length
      · rw [if_pos h3] at h; cases h
      · rw [if_neg h3] at h ⊢
        by_cases h4 : checkP (readP l) ≠ 0
        · rw [if_pos h4] at h; exact absurd h h4
        · rw [if_neg h4]
          refine ⟨by omega, by omega, ?_, by simpa using h4, rfl⟩
          by_cases h5 : fullP (kindN l : Nat)
          · exact .inl h5
          · exact .inr (by have : ¬ headN (kindN l : Nat) < l.length := fun hh => h3 ⟨h5, hh⟩; omega)
theorem split8 {l : List UInt8} (i : Nat) : (l.drop i).take 8 ++ l.drop (i + 8) = l.drop i := by
  rw [← List.drop_drop, List.take_append_drop]
theorem raw_read {l : List UInt8} (h : (inP l).2 = 0) : rawP (readP l) = l := by
  obtain ⟨hk, hl, hf, hc, -⟩ := inP_zero h
  have hl0 : l ≠ [] := by intro e; subst e; simp [kindN] at hk
  obtain ⟨x, r, rfl⟩ := List.exists_cons_of_ne_nil hl0
  have hx : kindN (x :: r) = x.toNat := rfl
  rw [hx] at hk hl hf
  have hd1 : (x :: r).drop 1 = r := rfl
  have hks : x.toNat = 1 ∨ x.toNat = 2 ∨ x.toNat = 3 ∨ x.toNat = 4 := by omega
  obtain ⟨hkk, hff, hrr, -, -⟩ := kind_cases hc
  rcases hks with hk1 | hk1 | hk1 | hk1
  · have hxe : x = 1 := UInt8.toNat.inj hk1
    subst hxe
    have e : readP ((1 : UInt8) :: r) = ⟨1, numAt (1 :: r) 1, numAt (1 :: r) 9, 0, 0, ((1 : UInt8) :: r).drop 17⟩ := by unfold readP; rw [if_pos (by simp [kindN])]
    rw [e] at hrr ⊢
    simp only [rangeP, runsP] at hrr
    simp [headN] at hl hrr
    rw [rawP, headP]
    simp only [runsP]
    rw [if_pos (by simp), numAt_pos (by simp; omega) (by omega), numAt_pos (by simp; omega) (by omega), List.append_assoc, split8, split8]
    rfl
  · have hxe : x = 2 := UInt8.toNat.inj hk1
    subst hxe
    have e : readP ((2 : UInt8) :: r) = ⟨2, numAt (2 :: r) 1, numAt (2 :: r) 9, 0, 0, []⟩ := by unfold readP; rw [if_neg (by simp [kindN]), if_pos (by simp [kindN])]
    rw [e] at hrr ⊢
    simp only [rangeP, runsP] at hrr
    simp [fullP, headN] at hl hrr hf
    have h17 : ((2 : UInt8) :: r).drop 17 = [] := List.drop_eq_nil_of_le (by simp; omega)
    rw [rawP, headP]
    simp only [runsP]
    rw [if_pos (by simp), numAt_pos (by simp; omega) (by omega), numAt_pos (by simp; omega) (by omega), ← h17, List.append_assoc, split8, split8]
    rfl
  · have hxe : x = 3 := UInt8.toNat.inj hk1
    subst hxe
    have e : readP ((3 : UInt8) :: r) = ⟨3, 0, 0, numAt (3 :: r) 1, 0, ((3 : UInt8) :: r).drop 9⟩ := by unfold readP; rw [if_neg (by simp [kindN]), if_neg (by simp [kindN]), if_pos (by simp [kindN])]
    rw [e] at hrr ⊢
    simp only [rangeP, runsP] at hrr
    simp [headN] at hl hrr
    rw [rawP, headP]
    simp only [runsP]
    rw [if_neg (by simp), if_neg (by simp), numAt_pos (by simp; omega) (by omega), split8]
    rfl
  · have hxe : x = 4 := UInt8.toNat.inj hk1
    subst hxe
    have e : readP ((4 : UInt8) :: r) = ⟨4, 0, 0, numAt (4 :: r) 1, ((((4 : UInt8) :: r).getD 9 0).toNat : Int), []⟩ := by unfold readP; rw [if_neg (by simp [kindN]), if_neg (by simp [kindN]), if_neg (by simp [kindN])]
    rw [e] at hrr ⊢
    simp only [rangeP, runsP] at hrr
    simp [fullP, headN] at hl hrr hf
    have h9 : ((4 : UInt8) :: r).drop 9 = [((4 : UInt8) :: r).getD 9 0] := by
      have hlt : 9 < ((4 : UInt8) :: r).length := by simp; omega
      rw [List.drop_eq_getElem_cons hlt, List.drop_eq_nil_of_le (by simp; omega), List.getD_eq_getElem?_getD, List.getElem?_eq_getElem hlt]
      rfl
    have hcode : UInt8.ofNat ((((((4 : UInt8) :: r).getD 9 0).toNat : Int)).toNat) = ((4 : UInt8) :: r).getD 9 0 := by simp
    rw [rawP, headP]
    simp only [runsP]
    rw [if_neg (by simp), if_pos (by simp), numAt_pos (by simp; omega) (by omega), hcode, ← h9, List.append_nil, split8]
    rfl
theorem openF_zero {b : List UInt8} (h : (openF 4 (more32 0) b).2 = 0) : sealF 4 (more32 0) (openF 4 (more32 0) b).1 = b := by
  unfold openF at h ⊢
  by_cases h1 : b.length < 4
  · rw [if_pos h1] at h; cases h
  · rw [if_neg h1] at h ⊢
    by_cases h2 : sealF 4 (more32 0) (b.take (b.length - 4)) = b
    · rw [if_pos h2]; exact h2
    · rw [if_neg h2] at h; cases h
/-- What is read from any bytes is right, and has just these. -/
theorem putP_getP {b : List UInt8} (h : (getP b).2 = 0) : putP (getP b).1 = (b, 0) ∧ checkP (getP b).1 = 0 := by
  unfold getP at h ⊢
  by_cases h1 : b.length < 5
  · rw [if_pos h1] at h; cases h
  · rw [if_neg h1] at h ⊢
    by_cases h2 : (openF 4 (more32 0) b).2 ≠ 0
    · rw [if_pos h2] at h; exact absurd h h2
    · rw [if_neg h2] at h ⊢
      have h0 : (openF 4 (more32 0) b).2 = 0 := by simpa using h2
      obtain ⟨-, -, -, hc, hi⟩ := inP_zero h
      rw [hi]
      refine ⟨?_, hc⟩
      rw [putP_ok hc, raw_read h, openF_zero h0]
theorem getP_turned {p : PacD} (hp : checkP p = 0) (at_ M i : Nat) (hM : M < 4294967296) (h : (turn (putP p).1 at_ M i).2 ≠ 0) : getP (turn (putP p).1 at_ M i).1 = (pac0, 5) := by
  have hl := (getP_putP hp).2.1
  have e := putP_ok hp
  rw [e] at h hl ⊢
  have ho := open32_turned (rawP p) at_ M i hM h
  unfold getP
  rw [if_neg (by rw [turn_length]; omega), ho]
  simp
theorem getP_same {p : PacD} (hp : checkP p = 0) (at_ M i : Nat) (h : (turn (putP p).1 at_ M i).2 = 0) : getP (turn (putP p).1 at_ M i).1 = (p, 0) := by
  rw [turn_same _ _ _ _ h]
  exact (getP_putP hp).1
end Go.Out
