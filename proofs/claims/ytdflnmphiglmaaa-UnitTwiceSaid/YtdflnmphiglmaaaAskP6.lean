/- Contract of ask.Put: for every request the PDU, or what is wrong with it. -/
import Derived.Test.YtdflnmphiglmaaaAskP4
import Derived.Test.YtdflnmphiglmaaaAskP5
namespace Go.Proofs.Ytdflnmphiglmaaa
set_option linter.unusedVariables false
set_option linter.unusedSimpArgs false
open Go Go.RowKit Go.Out

end Go.Proofs.Ytdflnmphiglmaaa
