/- How a request is opened that comes in. -/
import Derived.Test.YtifojmmggcenkaaSees
import Derived.Test.YtifojmmggcenkaaAsk2
namespace Go.Proofs.Ytifojmmggcenkaa
set_option linter.unusedVariables false
set_option linter.unusedSimpArgs false
set_option maxRecDepth 100000
open Go Go.RowKit Go.ChangeShapes Go.WideShapes Go.Deep Go.Out

section
variable {H : Type} {enc : TypeId × Value → H} {w : World}
theorem i64P_of {x : Int} (h : (Lit.int .i64 x).wf = true) : i64P x := by
  have := bounds_i64 h
  unfold i64P; omega
end
end Go.Proofs.Ytifojmmggcenkaa
