/- The check sums as plain functions on numbers, and their laws; no program in sight. -/
import Derived.Test.YtfjpalciocjkoaaBase
namespace Go.Out
open Go Go.RowKit
set_option linter.unusedVariables false

/-- One bit's step of a register. -/
def cstep (P r : Nat) : Nat := if r % 2 = 1 then (r / 2) ^^^ P else r / 2
def citer (P : Nat) : Nat → Nat → Nat
  | 0, r => r
  | k + 1, r => cstep P (citer P k r)
def cbyte (P r : Nat) (c : UInt8) : Nat := citer P 8 (r ^^^ c.toNat)
/-- What a register comes to with bytes. -/
def crc (P r : Nat) (l : List UInt8) : Nat := l.foldl (cbyte P) r

theorem crc_snoc (P r : Nat) (l : List UInt8) (c : UInt8) : crc P r (l ++ [c]) = cbyte P (crc P r l) c := by simp [crc]
theorem crc_append (P r : Nat) (a b : List UInt8) : crc P r (a ++ b) = crc P (crc P r a) b := by simp [crc]
theorem crc_take (P r : Nat) (l : List UInt8) (k : Nat) (h : k < l.length) : crc P r (l.take (k + 1)) = cbyte P (crc P r (l.take k)) l[k] := by
  rw [List.take_succ_eq_append_getElem h, crc_snoc]
theorem cstep_lt {P r W : Nat} (hP : P < 2 ^ W) (hr : r < 2 ^ W) : cstep P r < 2 ^ W := by
  have h2 : r / 2 < 2 ^ W := Nat.lt_of_le_of_lt (Nat.div_le_self _ _) hr
  unfold cstep
  split
  · exact Nat.xor_lt_two_pow h2 hP
  · exact h2
theorem citer_lt {P r W : Nat} (hP : P < 2 ^ W) (hr : r < 2 ^ W) : ∀ k, citer P k r < 2 ^ W
  | 0 => hr
  | k + 1 => cstep_lt hP (citer_lt hP hr k)
theorem byte_lt {W : Nat} (hW : 8 ≤ W) (c : UInt8) : c.toNat < 2 ^ W := Nat.lt_of_lt_of_le c.toNat_lt (Nat.pow_le_pow_right (by omega) hW)
theorem cbyte_lt {P r W : Nat} (hW : 8 ≤ W) (hP : P < 2 ^ W) (hr : r < 2 ^ W) (c : UInt8) : cbyte P r c < 2 ^ W :=
  citer_lt hP (Nat.xor_lt_two_pow hr (byte_lt hW c)) 8
theorem crc_lt {P W : Nat} (hW : 8 ≤ W) (hP : P < 2 ^ W) : ∀ (l : List UInt8) (r : Nat), r < 2 ^ W → crc P r l < 2 ^ W
  | [], r, hr => hr
  | c :: l, r, hr => crc_lt hW hP l (cbyte P r c) (cbyte_lt hW hP hr c)
/-- The two sums of a document's chapter. -/
def more16 (r : Nat) (l : List UInt8) : Nat := crc 40961 r l
def more32 (r : Nat) (l : List UInt8) : Nat := crc 3988292384 (r ^^^ 4294967295) l ^^^ 4294967295
theorem more16_lt {r : Nat} (hr : r < 65536) (l : List UInt8) : more16 r l < 65536 := crc_lt (W := 16) (by omega) (by omega) l r hr
theorem crc32_lt {r : Nat} (hr : r < 4294967296) (l : List UInt8) : crc 3988292384 r l < 4294967296 := crc_lt (W := 32) (by omega) (by omega) l r hr
theorem more32_lt {r : Nat} (hr : r < 4294967296) (l : List UInt8) : more32 r l < 4294967296 :=
  Nat.xor_lt_two_pow (n := 32) (crc32_lt (Nat.xor_lt_two_pow (n := 32) hr (by omega)) l) (by omega)
theorem not_u32 (r : Nat) (hr : r < 4294967296) : bits .xor .u32 IntKind.u32.max (r : Int) = ((r ^^^ 4294967295 : Nat) : Int) := by
  have e : IntKind.u32.max = ((4294967295 : Nat) : Int) := by decide
  rw [e, u32_xor_nat _ _ (by decide) hr, Nat.xor_comm]
end Go.Out
