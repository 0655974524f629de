/- Turned bits as a plain function; its laws; no program in sight. -/
import Derived.Test.YtfjpalciocjkoaaBurst
namespace Go.Out
open Go Go.RowKit
set_option linter.unusedVariables false

/-- One bit of a byte. -/
def bit8 (j : Nat) : UInt8 := UInt8.ofNat (2 ^ j)
/-- Bytes with bit k turned. -/
def flip (l : List UInt8) (k : Nat) : List UInt8 := l.set (k / 8) (l.getD (k / 8) 0 ^^^ bit8 (k % 8))
theorem flip_length (l : List UInt8) (k : Nat) : (flip l k).length = l.length := by simp [flip]
theorem pow_xor (n a b : Nat) : 2 ^ n * (a ^^^ b) = 2 ^ n * a ^^^ 2 ^ n * b := by
  apply Nat.eq_of_testBit_eq
  intro i
  rw [Nat.testBit_xor, Nat.testBit_two_pow_mul, Nat.testBit_two_pow_mul, Nat.testBit_two_pow_mul, Nat.testBit_xor]
  by_cases h : n ≤ i <;> simp [h]
theorem val_cons (x : UInt8) (l : List UInt8) : val (x :: l) = x.toNat ^^^ 2 ^ 8 * val l := add_xor _ _ x.toNat_lt
theorem val_flip : ∀ (l : List UInt8) (k : Nat), k / 8 < l.length → val (flip l k) = val l ^^^ 2 ^ k
  | [], k, h => by simp at h
  | x :: l, k, h => by
    rcases Nat.lt_or_ge k 8 with hk | hk
    · have e0 : k / 8 = 0 := by omega
      have e1 : k % 8 = k := by omega
      have e2 : (bit8 k).toNat = 2 ^ k := by
        unfold bit8
        have : 2 ^ k < 2 ^ 8 := Nat.pow_lt_pow_right (by omega) hk
        simp; omega
      unfold flip
      rw [e0, e1, List.set_cons_zero, val_cons, val_cons]
      show (x ^^^ bit8 k).toNat ^^^ _ = _
      rw [UInt8.toNat_xor, e2, Nat.xor_assoc, Nat.xor_assoc, Nat.xor_comm (2 ^ k)]
    · have e0 : k / 8 = (k - 8) / 8 + 1 := by omega
      have e1 : k % 8 = (k - 8) % 8 := by omega
      have ih := val_flip l (k - 8) (by rw [e0] at h; simpa using h)
      have e2 : flip (x :: l) k = x :: flip l (k - 8) := by
        unfold flip
        rw [e0, e1]; simp
      rw [e2, val_cons, val_cons, ih, pow_xor, ← Nat.pow_add, show 8 + (k - 8) = k from by omega, Nat.xor_assoc]
/-- The first i bits of a mask turned, from a place on; how many were. -/
def turn (l : List UInt8) (at_ M : Nat) : Nat → List UInt8 × Nat
  | 0 => (l, 0)
  | i + 1 => if M / 2 ^ i % 2 = 1 ∧ (at_ + i) / 8 < l.length then (flip (turn l at_ M i).1 (at_ + i), (turn l at_ M i).2 + 1) else turn l at_ M i
theorem turn_length (l : List UInt8) (at_ M : Nat) : ∀ i, (turn l at_ M i).1.length = l.length
  | 0 => rfl
  | i + 1 => by
    unfold turn
    split
    · rw [flip_length, turn_length l at_ M i]
    · exact turn_length l at_ M i
theorem turn_count (l : List UInt8) (at_ M : Nat) : ∀ i, (turn l at_ M i).2 ≤ i
  | 0 => Nat.le_refl _
  | i + 1 => by
    have h := turn_count l at_ M i
    unfold turn
    split
    · simp only; omega
    · omega
theorem xor_top (D i : Nat) (h : D < 2 ^ i) : D ^^^ 2 ^ i = D + 2 ^ i := by
  have h2 := Nat.two_pow_add_eq_or_of_lt h 1
  rw [Nat.mul_one] at h2
  rw [Nat.add_comm, h2]
  apply Nat.eq_of_testBit_eq
  intro j
  rw [Nat.testBit_xor, Nat.testBit_or, Nat.testBit_two_pow]
  by_cases hj : i = j
  · subst hj; rw [Nat.testBit_lt_two_pow h]; simp
  · simp [hj]
/-- What the turned bytes differ in: a window of the mask's width. -/
theorem turn_val (l : List UInt8) (at_ M W : Nat) (hM : M < 2 ^ W) : ∀ i, ∃ D, val (turn l at_ M i).1 ^^^ val l = 2 ^ at_ * D ∧ D < 2 ^ i ∧ D < 2 ^ W ∧ (D = 0 ↔ (turn l at_ M i).2 = 0) ∧ (D ≠ 0 → at_ ≤ 8 * l.length)
  | 0 => ⟨0, by simp [turn], by simp, Nat.two_pow_pos _, by simp [turn], by simp⟩
  | i + 1 => by
    obtain ⟨D, h1, h2, h3, h4, h5⟩ := turn_val l at_ M W hM i
    have hp : 2 ^ (i + 1) = 2 ^ i + 2 ^ i := by rw [Nat.pow_succ]; omega
    by_cases hc : M / 2 ^ i % 2 = 1 ∧ (at_ + i) / 8 < l.length
    · have e : turn l at_ M (i + 1) = (flip (turn l at_ M i).1 (at_ + i), (turn l at_ M i).2 + 1) := if_pos hc
      rw [e]
      have hiW : i < W := by
        rcases Nat.lt_or_ge i W with h | h
        · exact h
        · have : M / 2 ^ i = 0 := Nat.div_eq_of_lt (Nat.lt_of_lt_of_le hM (Nat.pow_le_pow_right (by omega) h))
          rw [this] at hc; simp at hc
      have hle : 2 ^ (i + 1) ≤ 2 ^ W := Nat.pow_le_pow_right (by omega) hiW
      have hpos := Nat.two_pow_pos i
      refine ⟨D ^^^ 2 ^ i, ?_, ?_, ?_, ?_, fun _ => by omega⟩
      · rw [val_flip _ _ (by rw [turn_length]; exact hc.2), Nat.xor_assoc, Nat.xor_comm (2 ^ (at_ + i)), ← Nat.xor_assoc, h1, pow_xor, ← Nat.pow_add]
      · rw [xor_top D i h2]; omega
      · rw [xor_top D i h2]; omega
      · rw [xor_top D i h2]; simp only; omega
    · have e : turn l at_ M (i + 1) = turn l at_ M i := if_neg hc
      rw [e]
      exact ⟨D, h1, by omega, h3, h4, h5⟩
theorem turn_same (l : List UInt8) (at_ M : Nat) : ∀ i, (turn l at_ M i).2 = 0 → (turn l at_ M i).1 = l
  | 0, _ => rfl
  | i + 1, h => by
    unfold turn at h ⊢
    split at h
    · simp at h
    · rename_i hc; rw [if_neg hc]; exact turn_same l at_ M i h
end Go.Out
