/- Contract of reply.Put: rows of files, and whatever the request and the answer. -/
import Derived.Test.YtcnjhjfepojdaaaRepP
import Derived.Test.YtcnjhjfepojdaaaRepK
namespace Go.Proofs.Ytcnjhjfepojdaaa
set_option linter.unusedVariables false
set_option linter.unusedSimpArgs false
set_option maxRecDepth 100000
set_option maxHeartbeats 2000000
open Go Go.RowKit Go.Out

theorem filesB_take {l : List (List UInt16)} {k : Nat} {f : List UInt16} (h : l[k]? = some f) : filesB (l.take (k + 1)) = filesB (l.take k) ++ fileB f := by
  obtain ⟨hk, rfl⟩ := List.getElem?_eq_some_iff.1 h
  unfold filesB
  rw [List.take_succ_eq_append_getElem hk, List.flatMap_append]
  simp
theorem filesB_take_le (l : List (List UInt16)) (k : Nat) : (filesB (l.take k)).length ≤ (filesB l).length := by
  have h := congrArg List.length (congrArg filesB (List.take_append_drop k l))
  unfold filesB at h ⊢
  rw [List.flatMap_append, List.length_append] at h
  omega
end Go.Proofs.Ytcnjhjfepojdaaa
