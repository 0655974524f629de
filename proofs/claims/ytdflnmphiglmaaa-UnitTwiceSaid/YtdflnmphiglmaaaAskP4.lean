/- Contracts of the requests: a request as a PDU: one register, coils, registers. -/
import Derived.Test.YtdflnmphiglmaaaAskP
import Derived.Test.YtdflnmphiglmaaaPackL2
import Derived.Test.YtdflnmphiglmaaaPackW
import Derived.Deep.RegionWith
import Derived.Test.YtdflnmphiglmaaaPackL
namespace Go.Proofs.Ytdflnmphiglmaaa
set_option linter.unusedVariables false
set_option linter.unusedSimpArgs false
set_option maxRecDepth 100000
set_option maxHeartbeats 400000
open Go Go.RowKit Go.Out

end Go.Proofs.Ytdflnmphiglmaaa

namespace Go.Proofs.Ytdflnmphiglmaaa
set_option linter.unusedVariables false
set_option linter.unusedSimpArgs false
set_option maxRecDepth 100000
set_option maxHeartbeats 1000000
open Go Go.RowKit Go.Out

end Go.Proofs.Ytdflnmphiglmaaa

namespace Go.Proofs.Ytdflnmphiglmaaa
set_option linter.unusedVariables false
set_option linter.unusedSimpArgs false
set_option maxRecDepth 100000
set_option maxHeartbeats 1000000
open Go Go.RowKit Go.Out

end Go.Proofs.Ytdflnmphiglmaaa
