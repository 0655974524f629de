/- Contracts of the requests: has a field without a meaning something in it, by the reference. -/
import Derived.Test.YtcnjhjfepojdaaaAsk6
namespace Go.Proofs.Ytcnjhjfepojdaaa
set_option linter.unusedVariables false
set_option linter.unusedSimpArgs false
set_option maxRecDepth 100000
set_option maxHeartbeats 2000000
open Go Go.RowKit Go.Out

end Go.Proofs.Ytcnjhjfepojdaaa

namespace Go.Proofs.Ytcnjhjfepojdaaa
set_option linter.unusedVariables false
set_option linter.unusedSimpArgs false
set_option maxRecDepth 100000
set_option maxHeartbeats 2000000
open Go Go.RowKit Go.Out

end Go.Proofs.Ytcnjhjfepojdaaa

namespace Go.Proofs.Ytcnjhjfepojdaaa
set_option linter.unusedVariables false
set_option linter.unusedSimpArgs false
set_option maxRecDepth 100000
set_option maxHeartbeats 2000000
open Go Go.RowKit Go.Out

end Go.Proofs.Ytcnjhjfepojdaaa
