/- Contracts of More16, More32, Crc16, Crc32 and of the document's: what each call returns; nothing turns. -/
import Derived.Test.YtdflnmphiglmaaaKitA
import Derived.Test.YtdflnmphiglmaaaStreamLaw
import Derived.Deep.RegionWith
import Derived.Lib.SlBytesConst
namespace Go.Proofs.Ytdflnmphiglmaaa
set_option linter.unusedVariables false
open Go Go.RowKit Go.Out

end Go.Proofs.Ytdflnmphiglmaaa

namespace Go.Proofs.Ytdflnmphiglmaaa
set_option linter.unusedVariables false
open Go Go.RowKit Go.Out

/-- The bytes of a constant text, in a new block that is marked behind its end. -/
theorem Rd.marked (w : World) (xs : List Value) (t : TypeId) (fr : Nat × Nat) (n : Nat) (hn : xs.length = n) : Rd (w.alloc (.cells xs.toArray t fr)) (some ⟨w.heap.size, 0, none⟩) n xs :=
  ⟨hn, fun _ => ⟨_, 0, rfl, by simp, fun j u hu => by
    rw [cell_of_row _ _ _ _ _ _ (heap_alloc_new w _), Nat.zero_add]; simpa using hu⟩⟩

def digits9 : List UInt8 := [49, 50, 51, 52, 53, 54, 55, 56, 57]
theorem digits16 : more16 65535 digits9 = 19255 := by decide +kernel
theorem digits32 : more32 0 digits9 = 3421780262 := by decide +kernel

end Go.Proofs.Ytdflnmphiglmaaa
