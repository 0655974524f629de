/- Contracts of the reference's seals. -/
import Derived.Test.YtdflnmphiglmaaaStreamLaw
import Derived.Test.YtdflnmphiglmaaaSums2
import Derived.StillTailTactics
namespace Go.Proofs.Ytdflnmphiglmaaa
set_option linter.unusedVariables false
open Go Go.RowKit Go.Out

/-- A call that hands back bytes of its own and an error's number. -/
def RetS (w : World) (t : TypeId) (l : List UInt8 × Int) (e : Ending) (w' : World) : Prop :=
  ∃ A n c, e = .returned (.tuple #[.slice A n c, .int .i64 l.2]) ∧ Own w' w.heap.size t IsU8 A n c (l.1.map cB) ∧ Below w.heap.size w w'

end Go.Proofs.Ytdflnmphiglmaaa

namespace Go.Proofs.Ytdflnmphiglmaaa
set_option linter.unusedVariables false
open Go Go.RowKit Go.Out

end Go.Proofs.Ytdflnmphiglmaaa

namespace Go.Proofs.Ytdflnmphiglmaaa
set_option linter.unusedVariables false
open Go Go.RowKit Go.Out

end Go.Proofs.Ytdflnmphiglmaaa
