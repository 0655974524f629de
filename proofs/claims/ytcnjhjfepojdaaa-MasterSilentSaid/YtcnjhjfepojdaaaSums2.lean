/- Contracts of More16, More32, Crc16, Crc32 and of the document's: what each call returns; nothing turns. -/
import Derived.Test.YtcnjhjfepojdaaaKitA
import Derived.Test.YtcnjhjfepojdaaaStreamLaw
import Derived.Deep.RegionWith
import Derived.Lib.SlBytesConst
namespace Go.Proofs.Ytcnjhjfepojdaaa
set_option linter.unusedVariables false
open Go Go.RowKit Go.Out

theorem more16_any (l : List UInt8) (A : Option Addr) (m c r : Nat) (w : World) (hr : Rd w A m (l.map cB)) (hm : m ≤ 140737488355328) (hrr : r < 65536) :
    Calls Try.prog 44 #[.int .u16 r, .slice A m c] w fun e w' => e = .returned (.int .u16 (more16 r l : Nat)) ∧ w = w' := by
  have Hr := Lib.hid hr; have Hrr := Lib.hid hrr; clear hr hrr
  go_enter Try.func44, Try.ntmps44
  go_wp2_with fail
  go_loop [0, 10] (fun x i => ∃ k : Nat, k ≤ m ∧ i = .int .i64 k ∧ x = .int .u16 (crc 40961 r (l.take k) : Nat)) (fun x i => m - (intOf i).toNat)
  case atStart => exact ⟨0, Nat.zero_le _, rfl, by simp [crc]⟩
  case round =>
    obtain ⟨k, hk, rfl, rfl⟩ := hrel
    by_cases hlt : k < m
    · obtain ⟨b1, o1, rfl, hb1, hl1, hc1⟩ := Hr.out.u8at hlt
      have hcl : crc 40961 r (l.take k) < 65536 := more16_lt Hrr.out _
      have hst := crc_take 40961 r l k hl1
      generalize crc 40961 r (l.take k) = R at *
      have hc2 := l[k].toNat_lt
      have Hst := Lib.hid hst; have Hcl := Lib.hid hcl; clear hst hcl
      have hx : IntKind.u16.wrap (l[k].toNat : Int) = (l[k].toNat : Int) := by rw [IntKind.wrap_u16]; omega
      have hxor : bits .xor .u16 (R : Int) (l[k].toNat : Int) = ((R ^^^ l[k].toNat : Nat) : Int) := u16_xor_nat _ _ Hcl.out (by omega)
      have hq : R ^^^ l[k].toNat < 2 ^ 16 := Nat.xor_lt_two_pow Hcl.out (by omega)
      generalize hQ : R ^^^ l[k].toNat = Q at *
      have HQ := Lib.hid hQ; have Hq := Lib.hid hq; clear hQ hq
      go_wp2_with fail
      go_loop [0, 18] (fun y q => ∃ j : Nat, j ≤ 8 ∧ q = .int .i64 j ∧ y = .int .u16 (citer 40961 j Q : Nat)) (fun y q => 8 - (intOf q).toNat)
      case atStart => exact ⟨0, by omega, rfl, rfl⟩
      case round =>
        obtain ⟨j, hj, rfl, rfl⟩ := hrel
        have hcj : citer 40961 j Q < 2 ^ 16 := citer_lt (by omega) Hq.out j
        have hcs : citer 40961 (j + 1) Q = cstep 40961 (citer 40961 j Q) := rfl
        have HX8 : Hid (j = 8 → citer 40961 j Q = citer 40961 8 Q) := fun h => by rw [h]
        generalize citer 40961 j Q = X at *
        have Hcj := Lib.hid hcj; have Hcs := Lib.hid hcs; clear hcj hcs
        by_cases hj8 : j < 8
        · have hdv : ((X / 2 : Nat) : Int) = (X : Int) / 2 := by simp
          have hwr : IntKind.u16.wrap ((X : Int) / 2) = (X : Int) / 2 := by have := Hcj.out; rw [IntKind.wrap_u16]; omega
          have hxr : bits .xor .u16 ((X : Int) / 2) 40961 = ((X / 2 ^^^ 40961 : Nat) : Int) := by have h := u16_xor_nat (X / 2) 40961 (by have := Hcj.out; omega) (by omega); rw [hdv] at h; exact h
          have Hw2 : Hid ((X : Int) / 2 % 65536 = (X : Int) / 2) := by have := Hcj.out; unfold Hid; omega
          have Hxr := Lib.hid hxr; have Hwr := Lib.hid hwr; clear hdv hxr hwr
          rcases Nat.mod_two_eq_zero_or_one X with h | h
          · have hp : bits .and .u16 (X : Int) 1 = 0 := by have h1 := u16_and_nat X 1 Hcj.out (by omega); rw [nat_mask1, h] at h1; exact h1
            have Hh := Lib.hid h; clear h
            go_wp2_with fail
            go_round
            case rel => exact ⟨j + 1, by omega, by go_num, by rw [Hcs.out]; unfold cstep; rw [if_neg (by have := Hh.out; omega)]; first | (rw [Hwr.out]; simp; done) | (rw [Hw2.out]; simp; done) | simp⟩
            case measure => simp [intOf]; omega
          · have hp : bits .and .u16 (X : Int) 1 = 1 := by have h1 := u16_and_nat X 1 Hcj.out (by omega); rw [nat_mask1, h] at h1; exact h1
            have Hh := Lib.hid h; clear h
            go_wp2_with fail
            go_round
            case rel => exact ⟨j + 1, by omega, by go_num, by rw [Hcs.out]; unfold cstep; rw [if_pos Hh.out]; first | rw [Hwr.out, Hxr.out] | rw [Hw2.out, Hxr.out] | rw [Hxr.out]⟩
            case measure => simp [intOf]; omega
        · obtain rfl : j = 8 := by omega
          have hfin : X = cbyte 40961 R l[k] := by unfold cbyte; rw [HQ.out]; exact HX8.out rfl
          go_wp2_with fail
          go_round
          case rel => exact ⟨k + 1, by omega, by go_num, by rw [Hst.out]; congr 2⟩
          case measure => simp [intOf]; omega
    · obtain rfl : k = m := by omega
      rw [List.take_of_length_le (by have := Hr.out.length; omega)]
      go_wp2_with fail
      go_ret
      exact ⟨rfl, rfl⟩

end Go.Proofs.Ytcnjhjfepojdaaa

namespace Go.Proofs.Ytcnjhjfepojdaaa
set_option linter.unusedVariables false
open Go Go.RowKit Go.Out

theorem crc16_any (l : List UInt8) (A : Option Addr) (m c : Nat) (w : World) (hr : Rd w A m (l.map cB)) (hm : m ≤ 140737488355328) :
    Calls Try.prog 34 #[.slice A m c] w fun e w' => e = .returned (.int .u16 (more16 65535 l : Nat)) ∧ w = w' := by
  have Hr := Lib.hid hr; clear hr
  go_enter Try.func34, Try.ntmps34
  go_wp2_with fail
  refine (more16_any l _ _ _ 65535 _ Hr.out hm (by decide)).mono ?_
  rintro e w1 ⟨rfl, rfl⟩
  go_wp2_with fail
  go_ret
  exact ⟨rfl, rfl⟩
/-- The bytes of a constant text, in a new block that is marked behind its end. -/
theorem Rd.marked (w : World) (xs : List Value) (t : TypeId) (fr : Nat × Nat) (n : Nat) (hn : xs.length = n) : Rd (w.alloc (.cells xs.toArray t fr)) (some ⟨w.heap.size, 0, none⟩) n xs :=
  ⟨hn, fun _ => ⟨_, 0, rfl, by simp, fun j u hu => by
    rw [cell_of_row _ _ _ _ _ _ (heap_alloc_new w _), Nat.zero_add]; simpa using hu⟩⟩

def digits9 : List UInt8 := [49, 50, 51, 52, 53, 54, 55, 56, 57]
theorem digits16 : more16 65535 digits9 = 19255 := by decide +kernel
theorem digits32 : more32 0 digits9 = 3421780262 := by decide +kernel

end Go.Proofs.Ytcnjhjfepojdaaa
