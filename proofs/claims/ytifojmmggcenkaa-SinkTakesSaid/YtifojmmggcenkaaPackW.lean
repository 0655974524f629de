/- Contracts of pack.Bytes, pack.Words and of the document's: what each call returns; nothing that was there turns. -/
import Derived.Test.YtifojmmggcenkaaPack2
import Derived.Test.YtifojmmggcenkaaKitW
import Derived.Test.YtifojmmggcenkaaBitBack
namespace Go.Proofs.Ytifojmmggcenkaa
set_option linter.unusedVariables false
set_option maxRecDepth 100000
open Go Go.RowKit Go.Out

/-- A call that hands back words of its own and an error's number. -/
def RetW (w : World) (t : TypeId) (l : List UInt16) (err : Int) (e : Ending) (w' : World) : Prop :=
  ∃ A n c, e = .returned (.tuple #[.slice A n c, .int .i64 err]) ∧ Own w' w.heap.size t IsU16 A n c (l.map cW) ∧ Below w.heap.size w w'

end Go.Proofs.Ytifojmmggcenkaa
