/- Contracts of the kit's functions on words: what each call returns and what it leaves as it was. -/
import Derived.Test.YtifojmmggcenkaaKitA
namespace Go.Proofs.Ytifojmmggcenkaa
set_option linter.unusedVariables false
open Go Go.RowKit Go.Out

end Go.Proofs.Ytifojmmggcenkaa
