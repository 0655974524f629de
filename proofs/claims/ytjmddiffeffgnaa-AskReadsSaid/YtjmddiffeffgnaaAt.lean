/- Numbers in two bytes: plain definitions and laws; no program in sight. -/
import Derived.Test.YtjmddiffeffgnaaBase
namespace Go.Out
open Go Go.RowKit
set_option linter.unusedVariables false

/-- The number in the two bytes at a place. -/
def at2 (b : List UInt8) (i : Nat) : Nat := (b.getD i 0).toNat * 256 + (b.getD (i + 1) 0).toNat
/-- A number in two bytes. -/
def two (v : Nat) : List UInt8 := [UInt8.ofNat (v / 256), UInt8.ofNat v]
theorem two_length (v : Nat) : (two v).length = 2 := rfl
theorem at2_lt (b : List UInt8) (i : Nat) : at2 b i < 65536 := by
  have h1 := (b.getD i 0).toNat_lt; have h2 := (b.getD (i + 1) 0).toNat_lt
  unfold at2; omega
theorem two_join (v : Nat) (h : v < 65536) : (UInt8.ofNat (v / 256)).toNat * 256 + (UInt8.ofNat v).toNat = v := by simp; omega
theorem two_split (x y : UInt8) : two (x.toNat * 256 + y.toNat) = [x, y] := by
  unfold two
  have h1 := y.toNat_lt
  have h2 := x.toNat_lt
  rw [show (x.toNat * 256 + y.toNat) / 256 = x.toNat from by omega]
  simp only [UInt8.ofNat_toNat, List.cons.injEq, true_and, and_true]
  apply UInt8.toNat.inj
  simp
end Go.Out
