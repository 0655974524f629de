/- The sums are linear: plain laws; no program in sight. -/
import Derived.Test.YtfjpalciocjkoaaCrcPure
namespace Go.Out
open Go Go.RowKit
set_option linter.unusedVariables false

theorem xor_half (x y : Nat) : (x ^^^ y) / 2 = x / 2 ^^^ y / 2 := by
  have h := Nat.shiftRight_xor_distrib (a := x) (b := y) (i := 1)
  simpa [Nat.shiftRight_eq_div_pow] using h
theorem xor_swap (a b c d : Nat) : (a ^^^ b) ^^^ (c ^^^ d) = (a ^^^ c) ^^^ (b ^^^ d) := by
  rw [Nat.xor_assoc, Nat.xor_assoc]; congr 1
  rw [← Nat.xor_assoc, ← Nat.xor_assoc, Nat.xor_comm b c]
theorem xor_par (x y : Nat) : (x ^^^ y) % 2 = (x + y) % 2 := by
  have h := Nat.testBit_xor x y 0
  simp only [Nat.testBit_zero] at h
  have e : (x + y) % 2 = (x % 2 + y % 2) % 2 := by omega
  rw [e]
  rcases Nat.mod_two_eq_zero_or_one x with hx | hx <;> rcases Nat.mod_two_eq_zero_or_one y with hy | hy <;> rcases Nat.mod_two_eq_zero_or_one (x ^^^ y) with hz | hz <;> rw [hx, hy, hz] at h <;> rw [hx, hy, hz] <;> first | rfl | (revert h; decide)
theorem cstep_xor (P x y : Nat) : cstep P (x ^^^ y) = cstep P x ^^^ cstep P y := by
  unfold cstep
  have hm := xor_par x y
  rcases Nat.mod_two_eq_zero_or_one x with hx | hx <;> rcases Nat.mod_two_eq_zero_or_one y with hy | hy
  · rw [if_neg (by omega), if_neg (by omega), if_neg (by omega), xor_half]
  · rw [if_pos (by omega), if_neg (by omega), if_pos (by omega), xor_half, Nat.xor_assoc]
  · rw [if_pos (by omega), if_pos (by omega), if_neg (by omega), xor_half, Nat.xor_assoc, Nat.xor_assoc, Nat.xor_comm (y / 2)]
  · rw [if_neg (by omega), if_pos (by omega), if_pos (by omega), xor_half, xor_swap, Nat.xor_self, Nat.xor_zero]
theorem citer_xor (P : Nat) : ∀ (k x y : Nat), citer P k (x ^^^ y) = citer P k x ^^^ citer P k y
  | 0, _, _ => rfl
  | k + 1, x, y => by unfold citer; rw [citer_xor P k, cstep_xor]
/-- Two rows laid over one another. -/
def laid (a b : List UInt8) : List UInt8 := List.zipWith (fun x y => x ^^^ y) a b
theorem crc_laid (P : Nat) : ∀ (a b : List UInt8) (r s : Nat), a.length = b.length → crc P (r ^^^ s) (laid a b) = crc P r a ^^^ crc P s b
  | [], [], _, _, _ => rfl
  | [], _ :: _, _, _, h => by simp at h
  | _ :: _, [], _, _, h => by simp at h
  | x :: a, y :: b, r, s, h => by
    have e : cbyte P (r ^^^ s) (x ^^^ y) = cbyte P r x ^^^ cbyte P s y := by
      unfold cbyte
      rw [← citer_xor, UInt8.toNat_xor, xor_swap]
    show crc P (cbyte P (r ^^^ s) (x ^^^ y)) (laid a b) = crc P (cbyte P r x) a ^^^ crc P (cbyte P s y) b
    rw [e, crc_laid P a b _ _ (by simpa using h)]
theorem laid_zero (c : List UInt8) : laid c (List.replicate c.length 0) = c := by
  apply List.ext_getElem
  · simp [laid]
  · intro i h1 h2; simp [laid]
theorem laid_length (a b : List UInt8) (h : a.length = b.length) : (laid a b).length = a.length := by simp [laid, h]
theorem crc_three (P r : Nat) (a b : List UInt8) (h : a.length = b.length) : crc P r a ^^^ crc P r b ^^^ crc P r (laid a b) = crc P r (List.replicate a.length 0) := by
  have h1 := crc_laid P a b r r h
  have h2 := crc_laid P (laid a b) (List.replicate (laid a b).length 0) r r (by simp)
  rw [laid_zero] at h2
  rw [← h1, h2, laid_length a b h, Nat.xor_comm, ← Nat.xor_assoc, Nat.xor_self, Nat.zero_xor]
theorem more16_three (a b : List UInt8) (h : a.length = b.length) : more16 65535 a ^^^ more16 65535 b ^^^ more16 65535 (laid a b) = more16 65535 (List.replicate a.length 0) := crc_three _ _ a b h
theorem more32_three (a b : List UInt8) (h : a.length = b.length) : more32 0 a ^^^ more32 0 b ^^^ more32 0 (laid a b) = more32 0 (List.replicate a.length 0) := by
  unfold more32
  rw [← crc_three _ _ a b h]
  generalize crc 3988292384 (0 ^^^ 4294967295) a = x
  generalize crc 3988292384 (0 ^^^ 4294967295) b = y
  generalize crc 3988292384 (0 ^^^ 4294967295) (laid a b) = z
  generalize (4294967295 : Nat) = f
  rw [xor_swap x f y f, Nat.xor_self, Nat.xor_zero, Nat.xor_assoc, Nat.xor_assoc, Nat.xor_assoc]
theorem more16_append (r : Nat) (a b : List UInt8) : more16 (more16 r a) b = more16 r (a ++ b) := (crc_append _ _ a b).symm
theorem more32_append (r : Nat) (a b : List UInt8) : more32 (more32 r a) b = more32 r (a ++ b) := by
  unfold more32
  rw [crc_append, Nat.xor_assoc, Nat.xor_self, Nat.xor_zero]
end Go.Out
