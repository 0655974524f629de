/- Contracts of pack.Bits, pack.Unbits and of the document's: what each call returns; nothing that was there turns. -/
import Derived.Test.YtifojmmggcenkaaPack2
import Derived.Test.YtifojmmggcenkaaKitL
import Derived.Test.YtifojmmggcenkaaBitBack
namespace Go.Proofs.Ytifojmmggcenkaa
set_option linter.unusedVariables false
set_option maxRecDepth 100000
open Go Go.RowKit Go.Out

end Go.Proofs.Ytifojmmggcenkaa
