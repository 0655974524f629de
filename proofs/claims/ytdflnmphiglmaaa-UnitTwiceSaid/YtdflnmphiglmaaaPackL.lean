/- Contracts of pack.Bits, pack.Unbits and of the document's: what each call returns; nothing that was there turns. -/
import Derived.Test.YtdflnmphiglmaaaPack2
import Derived.Test.YtdflnmphiglmaaaKitL
import Derived.Test.YtdflnmphiglmaaaBitBack
namespace Go.Proofs.Ytdflnmphiglmaaa
set_option linter.unusedVariables false
set_option maxRecDepth 100000
open Go Go.RowKit Go.Out

end Go.Proofs.Ytdflnmphiglmaaa
