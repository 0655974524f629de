/- Contracts of the requests: has a field without a meaning something in it, by the reference. -/
import Derived.Test.YtbaiifhncpfdpaaAsk6
namespace Go.Proofs.Ytbaiifhncpfdpaa
set_option linter.unusedVariables false
set_option linter.unusedSimpArgs false
set_option maxRecDepth 100000
set_option maxHeartbeats 2000000
open Go Go.RowKit Go.Out

end Go.Proofs.Ytbaiifhncpfdpaa

namespace Go.Proofs.Ytbaiifhncpfdpaa
set_option linter.unusedVariables false
set_option linter.unusedSimpArgs false
set_option maxRecDepth 100000
set_option maxHeartbeats 2000000
open Go Go.RowKit Go.Out

end Go.Proofs.Ytbaiifhncpfdpaa

namespace Go.Proofs.Ytbaiifhncpfdpaa
set_option linter.unusedVariables false
set_option linter.unusedSimpArgs false
set_option maxRecDepth 100000
set_option maxHeartbeats 2000000
open Go Go.RowKit Go.Out

end Go.Proofs.Ytbaiifhncpfdpaa
