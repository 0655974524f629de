/- Contracts of the frames on a line: Rtu, and the reference's. -/
import Derived.Test.YtdflnmphiglmaaaStreamLaw
import Derived.Test.YtdflnmphiglmaaaSums6
namespace Go.Proofs.Ytdflnmphiglmaaa
set_option linter.unusedVariables false
open Go Go.RowKit Go.Out

theorem head_copied (m : Nat) (v z : Value) (l : List Value) :
    (List.take 1 ((Array.replicate (1 + m) z).setIfInBounds 0 v).toList ++ l ++ List.drop (1 + m) ((Array.replicate (1 + m) z).setIfInBounds 0 v).toList) = v :: l := by
  rw [Array.toList_setIfInBounds, Array.toList_replicate, Nat.add_comm 1 m, List.replicate_succ, List.set_cons_zero]
  simp
end Go.Proofs.Ytdflnmphiglmaaa
