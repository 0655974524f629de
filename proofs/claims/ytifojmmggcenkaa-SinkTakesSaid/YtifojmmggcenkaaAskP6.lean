/- Contract of ask.Put: for every request the PDU, or what is wrong with it. -/
import Derived.Test.YtifojmmggcenkaaAskP4
import Derived.Test.YtifojmmggcenkaaAskP5
namespace Go.Proofs.Ytifojmmggcenkaa
set_option linter.unusedVariables false
set_option linter.unusedSimpArgs false
open Go Go.RowKit Go.Out

end Go.Proofs.Ytifojmmggcenkaa
