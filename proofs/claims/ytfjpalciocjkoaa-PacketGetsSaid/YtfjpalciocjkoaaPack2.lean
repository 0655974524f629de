/- Contracts of functions of the given program, and plain lemmas: what each call returns and what it leaves as it was; used by the claim's last text. -/
import Derived.Test.YtfjpalciocjkoaaPack
namespace Go.Proofs.Ytfjpalciocjkoaa
set_option linter.unusedVariables false
open Go Go.RowKit Go.Out

end Go.Proofs.Ytfjpalciocjkoaa
