/- Contracts of the requests: a request as a PDU: one register, coils, registers. -/
import Derived.Test.YtifojmmggcenkaaAskP
import Derived.Test.YtifojmmggcenkaaPackL2
import Derived.Test.YtifojmmggcenkaaPackW
import Derived.Deep.RegionWith
import Derived.Test.YtifojmmggcenkaaPackL
namespace Go.Proofs.Ytifojmmggcenkaa
set_option linter.unusedVariables false
set_option linter.unusedSimpArgs false
set_option maxRecDepth 100000
set_option maxHeartbeats 400000
open Go Go.RowKit Go.Out

end Go.Proofs.Ytifojmmggcenkaa

namespace Go.Proofs.Ytifojmmggcenkaa
set_option linter.unusedVariables false
set_option linter.unusedSimpArgs false
set_option maxRecDepth 100000
set_option maxHeartbeats 1000000
open Go Go.RowKit Go.Out

end Go.Proofs.Ytifojmmggcenkaa

namespace Go.Proofs.Ytifojmmggcenkaa
set_option linter.unusedVariables false
set_option linter.unusedSimpArgs false
set_option maxRecDepth 100000
set_option maxHeartbeats 1000000
open Go Go.RowKit Go.Out

end Go.Proofs.Ytifojmmggcenkaa
