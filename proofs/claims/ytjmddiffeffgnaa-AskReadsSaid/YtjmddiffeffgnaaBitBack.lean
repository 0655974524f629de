/- Bits become the same bits, bytes the same bytes: plain laws; no program in sight. -/
import Derived.Test.YtjmddiffeffgnaaBitPure
namespace Go.Out
open Go Go.RowKit
set_option linter.unusedVariables false

theorem bByte_bit (l : List Bool) (j r : Nat) (hr : r < 8) : bByte l j / 2 ^ r % 2 = bt l (8 * j + r) := by
  have b0 := bt_le l (8 * j); have b1 := bt_le l (8 * j + 1); have b2 := bt_le l (8 * j + 2); have b3 := bt_le l (8 * j + 3)
  have b4 := bt_le l (8 * j + 4); have b5 := bt_le l (8 * j + 5); have b6 := bt_le l (8 * j + 6); have b7 := bt_le l (8 * j + 7)
  unfold bByte
  match r, hr with
  | 0, _ | 1, _ | 2, _ | 3, _ | 4, _ | 5, _ | 6, _ | 7, _ => simp only [Nat.reducePow, Nat.add_zero]; omega

theorem ubit_bits (l : List Bool) (N i : Nat) (h : i < 8 * N) : ubit (bitsN l N) i = l.getD i false := by
  unfold ubit
  have h1 : (bitsN l N).getD (i / 8) 0 = UInt8.ofNat (bByte l (i / 8)) := by
    rw [List.getD_eq_getElem?_getD, bitsN_get _ _ _ (by omega)]; rfl
  rw [h1]
  have h2 : (UInt8.ofNat (bByte l (i / 8))).toNat = bByte l (i / 8) := by
    show bByte l (i / 8) % 256 = _
    exact Nat.mod_eq_of_lt (bByte_lt _ _)
  rw [h2, bByte_bit l (i / 8) (i % 8) (by omega), show 8 * (i / 8) + i % 8 = i from by omega]
  unfold bt
  cases l.getD i false <;> simp

theorem unbits_bits (l : List Bool) : unbitsF (bitsF l) l.length = (l, 0) := by
  have hl := bitsF_length l
  have hs : spare (bitsF l) l.length = false := by
    rw [← Bool.not_eq_true]
    intro hs
    unfold spare at hs
    rw [List.any_eq_true] at hs
    obtain ⟨i, hi, hh⟩ := hs
    simp only [List.mem_range, Bool.and_eq_true, decide_eq_true_eq] at hi hh
    rw [hl] at hi
    unfold bitsF at hh
    rw [ubit_bits l _ i hi, List.getD_eq_getElem?_getD, List.getElem?_eq_none hh.1] at hh
    exact absurd hh.2 (by decide)
  unfold unbitsF
  rw [if_neg (by omega), if_neg (by simpa using hl), if_neg (by simp [hs])]
  congr 1
  apply List.ext_getElem?
  intro i
  rcases Nat.lt_or_ge i l.length with h | h
  · simp only [Int.toNat_natCast, List.getElem?_map, List.getElem?_range h, Option.map_some]
    unfold bitsF
    rw [ubit_bits l _ i (by unfold need; omega), List.getD_eq_getElem?_getD, List.getElem?_eq_getElem h]; rfl
  · rw [List.getElem?_eq_none (by simpa using h), List.getElem?_eq_none h]

theorem byte_sum (x : Nat) (hx : x < 256) : x / 2 ^ 0 % 2 + 2 * (x / 2 ^ 1 % 2) + 4 * (x / 2 ^ 2 % 2) + 8 * (x / 2 ^ 3 % 2) + 16 * (x / 2 ^ 4 % 2) + 32 * (x / 2 ^ 5 % 2) + 64 * (x / 2 ^ 6 % 2) + 128 * (x / 2 ^ 7 % 2) = x := by
  simp only [Nat.reducePow]; omega

theorem bits_unbits (b : List UInt8) (n : Nat) (hl : b.length = need n) (hs : spare b n = false) : bitsF ((List.range n).map (ubit b)) = b := by
  apply List.ext_getElem?
  intro j
  have hlen : (bitsF ((List.range n).map (ubit b))).length = need n := by rw [bitsF_length]; simp
  rcases Nat.lt_or_ge j (need n) with h | h
  · have hj : j < b.length := by omega
    unfold bitsF
    rw [bitsN_get _ _ _ (by simpa using h), List.getElem?_eq_getElem hj]
    congr 1
    apply UInt8.toNat.inj
    have hx := b[j].toNat_lt
    have e1 : ∀ L : List Bool, (UInt8.ofNat (bByte L j)).toNat = bByte L j := fun L => Nat.mod_eq_of_lt (bByte_lt L j)
    rw [e1]
    have hbit : ∀ r, r < 8 → bt ((List.range n).map (ubit b)) (8 * j + r) = b[j].toNat / 2 ^ r % 2 := by
      intro r hr
      have hu : ubit b (8 * j + r) = decide (b[j].toNat / 2 ^ r % 2 = 1) := by
        unfold ubit
        rw [show (8 * j + r) / 8 = j from by omega, show (8 * j + r) % 8 = r from by omega, List.getD_eq_getElem?_getD, List.getElem?_eq_getElem hj]; rfl
      rcases Nat.lt_or_ge (8 * j + r) n with hn | hn
      · have hg : ((List.range n).map (ubit b)).getD (8 * j + r) false = decide (b[j].toNat / 2 ^ r % 2 = 1) := by
          rw [List.getD_eq_getElem?_getD, List.getElem?_map, List.getElem?_range hn, ← hu]; rfl
        unfold bt
        simp only [hg]
        by_cases hb : b[j].toNat / 2 ^ r % 2 = 1
        · simp [hb]
        · rw [if_neg (by simpa using hb)]; omega
      · have hg : ((List.range n).map (ubit b)).getD (8 * j + r) false = false := by
          rw [List.getD_eq_getElem?_getD, List.getElem?_eq_none (by simpa using hn)]; rfl
        have : ubit b (8 * j + r) = false := by
          rw [← Bool.not_eq_true]
          intro h1
          have : spare b n = true := by
            unfold spare
            rw [List.any_eq_true]
            exact ⟨8 * j + r, by simp; omega, by simp [hn, h1]⟩
          rw [hs] at this; cases this
        rw [hu, decide_eq_false_iff_not] at this
        unfold bt
        simp only [hg]
        simp only [Bool.false_eq_true, if_false]
        omega
    have hb0 := hbit 0 (by omega)
    rw [Nat.add_zero] at hb0
    unfold bByte
    rw [hb0, hbit 1 (by omega), hbit 2 (by omega), hbit 3 (by omega), hbit 4 (by omega), hbit 5 (by omega), hbit 6 (by omega), hbit 7 (by omega)]
    exact byte_sum _ hx
  · rw [List.getElem?_eq_none (by omega), List.getElem?_eq_none (by omega)]

theorem unbitsF_zero {b : List UInt8} {n : Int} (h : (unbitsF b n).2 = 0) : ((unbitsF b n).1.length : Int) = n ∧ bitsF (unbitsF b n).1 = b := by
  unfold unbitsF at h ⊢
  split at h
  · simp at h
  · split at h
    · simp at h
    · split at h
      · simp at h
      · rename_i h1 h2 h3
        rw [if_neg h1, if_neg h2, if_neg h3]
        exact ⟨by simp; omega, bits_unbits b _ (by simpa using h2) (by simpa using h3)⟩
theorem unbitsF_err {b : List UInt8} {n : Int} (h : (unbitsF b n).2 ≠ 0) : (unbitsF b n).1 = [] := by
  unfold unbitsF at h ⊢
  split
  · rfl
  · split
    · rfl
    · split
      · rfl
      · rename_i h1 h2 h3
        rw [if_neg h1, if_neg h2, if_neg h3] at h
        exact absurd rfl h
end Go.Out
