/- Bits turned within a window are seen: plain laws; no program in sight. -/
import Derived.Test.YtfjpalciocjkoaaCrcLaid
import Derived.Test.YtfjpalciocjkoaaSealPure
namespace Go.Out
open Go Go.RowKit
set_option linter.unusedVariables false

/-- Bytes as one number, the first byte the lowest. -/
def val : List UInt8 → Nat
  | [] => 0
  | x :: l => x.toNat + 256 * val l
theorem val_lt : ∀ l : List UInt8, val l < 2 ^ (8 * l.length)
  | [] => by simp [val]
  | x :: l => by
    have h1 := val_lt l
    have h2 := x.toNat_lt
    have e : 2 ^ (8 * (x :: l).length) = 256 * 2 ^ (8 * l.length) := by rw [List.length_cons, Nat.mul_add, Nat.pow_add, Nat.mul_comm]
    rw [e]; unfold val; omega
theorem citer_add (P : Nat) : ∀ (j k r : Nat), citer P (j + k) r = citer P j (citer P k r)
  | 0, k, r => by rw [Nat.zero_add]; rfl
  | j + 1, k, r => by rw [show j + 1 + k = (j + k) + 1 from by omega]; unfold citer; rw [citer_add P j k r]
theorem cstep_even (P y : Nat) : cstep P (2 * y) = y := by
  unfold cstep; rw [if_neg (by omega)]; omega
theorem citer_up (P : Nat) : ∀ (k y : Nat), citer P k (2 ^ k * y) = y
  | 0, y => by simp [citer]
  | k + 1, y => by
    rw [citer_add P k 1, show citer P 1 (2 ^ (k + 1) * y) = cstep P (2 ^ (k + 1) * y) from rfl, show 2 ^ (k + 1) * y = 2 * (2 ^ k * y) from by rw [Nat.pow_succ]; simp only [Nat.mul_comm, Nat.mul_left_comm], cstep_even, citer_up P k y]
theorem citer_zero (P : Nat) : ∀ k, citer P k 0 = 0
  | 0 => rfl
  | k + 1 => by unfold citer; rw [citer_zero P k]; rfl
theorem add_xor (x V : Nat) (h : x < 256) : x + 256 * V = x ^^^ (2 ^ 8 * V) := by
  have h2 := Nat.two_pow_add_eq_or_of_lt (i := 8) (b := x) h V
  have h3 : x ^^^ (2 ^ 8 * V) = 2 ^ 8 * V ||| x := by
    apply Nat.eq_of_testBit_eq
    intro i
    rw [Nat.testBit_xor, Nat.testBit_or, Nat.testBit_two_pow_mul]
    rcases Nat.lt_or_ge i 8 with hi | hi
    · have : ¬ 8 ≤ i := by omega
      simp [this]
    · rw [Nat.testBit_lt_two_pow (Nat.lt_of_lt_of_le h (Nat.pow_le_pow_right (n := 2) (i := 8) (j := i) (by omega) hi))]
      simp
  rw [h3, ← h2]; omega
/-- What a register comes to with bytes, at one blow. -/
theorem crc_val (P : Nat) : ∀ (l : List UInt8) (r : Nat), crc P r l = citer P (8 * l.length) (r ^^^ val l)
  | [], r => by simp [crc, val, citer]
  | x :: l, r => by
    show crc P (cbyte P r x) l = _
    rw [crc_val P l, List.length_cons, show 8 * (l.length + 1) = 8 * l.length + 8 from by omega, citer_add]
    congr 1
    rw [show val (x :: l) = x.toNat + 256 * val l from rfl]
    unfold cbyte
    rw [add_xor _ _ x.toNat_lt, ← Nat.xor_assoc, citer_xor P 8 (r ^^^ x.toNat) (2 ^ 8 * val l), citer_up P 8]
theorem xor_zero {a b : Nat} (h : a ^^^ b = 0) : a = b := by
  have e : a ^^^ b ^^^ b = b := by rw [h, Nat.zero_xor]
  rwa [Nat.xor_assoc, Nat.xor_self, Nat.xor_zero] at e
/-- A register that is not nought does not come to nought (the highest bit of P is set). -/
theorem cstep_ne {P W r : Nat} (hP : 2 ^ W ≤ P) (hP2 : P < 2 ^ (W + 1)) (hr : r < 2 ^ (W + 1)) (h : r ≠ 0) : cstep P r ≠ 0 := by
  unfold cstep
  split
  · intro h0
    have h1 := xor_zero h0
    have h2 : r / 2 < 2 ^ W := by rw [Nat.pow_succ] at hr; omega
    omega
  · omega
theorem citer_ne {P W r : Nat} (hP : 2 ^ W ≤ P) (hP2 : P < 2 ^ (W + 1)) (hr : r < 2 ^ (W + 1)) (h : r ≠ 0) : ∀ k, citer P k r ≠ 0
  | 0 => h
  | k + 1 => cstep_ne hP hP2 (citer_lt hP2 hr k) (citer_ne hP hP2 hr h k)
theorem xor_ne {a b : Nat} (h : a ^^^ b ≠ 0) : a ≠ b := fun e => h (by rw [e, Nat.xor_self])
theorem crc_differ (P r : Nat) (a b : List UInt8) (h : a.length = b.length) : crc P r a ^^^ crc P r b = citer P (8 * b.length) (val a ^^^ val b) := by
  rw [crc_val, crc_val, h, ← citer_xor]
  congr 1
  rw [xor_swap, Nat.xor_self, Nat.zero_xor]
/-- Rows that differ within a window of W + 1 bits have other sums. -/
theorem crc_burst {P W : Nat} (hP : 2 ^ W ≤ P) (hP2 : P < 2 ^ (W + 1)) (r k D : Nat) (a b : List UInt8) (h : a.length = b.length) (hd : val a ^^^ val b = 2 ^ k * D) (hk : k ≤ 8 * b.length) (hD : D < 2 ^ (W + 1)) (h0 : D ≠ 0) : crc P r a ^^^ crc P r b ≠ 0 := by
  rw [crc_differ P r a b h, hd, show 8 * b.length = (8 * b.length - k) + k from by omega, citer_add, citer_up]
  exact citer_ne hP hP2 hD h0 _
end Go.Out
