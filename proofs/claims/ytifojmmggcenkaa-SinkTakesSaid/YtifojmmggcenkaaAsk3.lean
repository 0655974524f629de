/- Contracts of the requests: what is wrong with a request. -/
import Derived.Test.YtifojmmggcenkaaAsk2
import Derived.Test.YtifojmmggcenkaaAskPure2
namespace Go.Proofs.Ytifojmmggcenkaa
set_option linter.unusedVariables false
set_option linter.unusedSimpArgs false
set_option maxRecDepth 100000
open Go Go.RowKit Go.Out

/-- A call that hands back a number. -/
def RetI (w : World) (k : Int) (e : Ending) (w' : World) : Prop := e = .returned (.int .i64 k) ∧ Ext w w'
theorem RetI.of {w w' : World} {k k' : Int} (h : k = k') (hx : Ext w w') : RetI w k (.returned (.int .i64 k')) w' := ⟨by rw [h], hx⟩

end Go.Proofs.Ytifojmmggcenkaa
