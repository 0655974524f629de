/- Contracts of reply.length, reply.exception, bytes.Equal and of the closure that takes bytes. -/
import Derived.Test.YtdflnmphiglmaaaRepP2
import Derived.Laws.BytesArg
import Derived.Lib.Bytes
namespace Go.Out
open Go Go.RowKit
set_option linter.unusedVariables false
theorem strOf_list (xs : List UInt8) : (strOfNums (xs.map fun x => (x.toNat : Int))).toList = xs := by
  rw [Lib.strOfNums_toList]
  unfold Lib.bytesOf
  rw [List.map_map]
  have e : ((fun n : Int => UInt8.ofNat n.toNat) ∘ fun x : UInt8 => (x.toNat : Int)) = id := by funext x; simp
  rw [e, List.map_id]
theorem sumP_bound {l : List PartD} {k : Nat} (h : ∀ i (hi : i < l.length), ¬ badP l[i]) (hk : k ≤ l.length) : 0 ≤ sumP (l.take k) ∧ sumP (l.take k) ≤ 20002 * k := sumP_good (fun i hi _ => h i hi) hk
end Go.Out
namespace Go.Proofs.Ytdflnmphiglmaaa
set_option linter.unusedVariables false
set_option linter.unusedSimpArgs false
set_option maxRecDepth 100000
set_option maxHeartbeats 2000000
open Go Go.RowKit Go.Out

theorem ask_box (w : World) (va : Array Value) (ta : TypeId) (W : World) (hX : Ext (w.alloc (.cells va ta)) W) : W.heap[w.heap.size]? = some (.cells va ta (0, 0)) := hX.block (heap_alloc_new _ _)

end Go.Proofs.Ytdflnmphiglmaaa
