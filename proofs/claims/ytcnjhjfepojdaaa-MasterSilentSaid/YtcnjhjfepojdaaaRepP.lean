/- Contracts of bytes.Clone and of reply.Put: what is refused, exceptions, bits, words, writes. -/
import Derived.Test.YtcnjhjfepojdaaaRep2
import Derived.Test.YtcnjhjfepojdaaaRepLaw
import Derived.Test.YtcnjhjfepojdaaaAskP6
import Derived.Test.YtcnjhjfepojdaaaPackL2
import Derived.Lib.SliceRun
namespace Go.Proofs.Ytcnjhjfepojdaaa
set_option linter.unusedVariables false
set_option linter.unusedSimpArgs false
set_option maxRecDepth 100000
set_option maxHeartbeats 2000000
open Go Go.RowKit Go.Out

theorem lit2 (w : World) (base : Nat) (h : base ≤ w.heap.size) (x y : UInt8) (u v : Int) (hu : u = (x.toNat : Int)) (hv : v = (y.toNat : Int)) :
    Own (w.alloc (.cells #[.int .u8 u, .int .u8 v] 5)) base 5 IsU8 (some ⟨w.heap.size, 0, none⟩) 2 2 ([x, y].map cB) := by
  subst hu hv
  exact Own.bytes (l := [x, y]) h (heap_alloc_new w _) rfl rfl (by unfold maxLen; omega)

end Go.Proofs.Ytcnjhjfepojdaaa
