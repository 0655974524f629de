/- Contracts of the requests: what is wrong with a request for parts of files. -/
import Derived.Test.YtifojmmggcenkaaAsk3
namespace Go.Proofs.Ytifojmmggcenkaa
set_option linter.unusedVariables false
set_option linter.unusedSimpArgs false
set_option maxRecDepth 100000
set_option maxHeartbeats 2000000
open Go Go.RowKit Go.Out

end Go.Proofs.Ytifojmmggcenkaa

namespace Go.Proofs.Ytifojmmggcenkaa
set_option linter.unusedVariables false
set_option linter.unusedSimpArgs false
set_option maxRecDepth 100000
set_option maxHeartbeats 2000000
open Go Go.RowKit Go.Out

theorem shapeV_no {c : Int} (hp : ¬ codeP c) : shapeV c = .agg #[.int .i64 0, .bool false, .bool false, .bool false, .bool false] := by
  have hq := hp
  unfold codeP at hq
  simp only [not_or] at hq
  unfold shapeV
  rw [if_neg hp, decide_eq_false hq.1, decide_eq_false hq.2.1, decide_eq_false hq.2.2.1, decide_eq_false hq.2.2.2]
theorem parts_len0 {l : List PartD} (h : l.length = 0) : partsF l = 0 := by
  rw [List.eq_nil_of_length_eq_zero h]; exact partsF_nil

end Go.Proofs.Ytifojmmggcenkaa

namespace Go.Proofs.Ytifojmmggcenkaa
set_option linter.unusedVariables false
set_option linter.unusedSimpArgs false
set_option maxRecDepth 100000
set_option maxHeartbeats 2000000
open Go Go.RowKit Go.Out

def RetQ (w : World) (k : Bool) (e : Ending) (w' : World) : Prop := e = .returned (.bool k) ∧ Ext w w'
theorem RetQ.of {w w' : World} {k k' : Bool} (h : k = k') (hx : Ext w w') : RetQ w k (.returned (.bool k')) w' := ⟨by rw [h], hx⟩

end Go.Proofs.Ytifojmmggcenkaa
