/- The walk of SumsKnown. (gensumsknown.py prints this.) -/
import Derived.Test.YtcnjhjfepojdaaaSeal3
namespace Go.Proofs.Ytcnjhjfepojdaaa
set_option linter.unusedVariables false
set_option maxRecDepth 100000
open Go Go.RowKit Go.Out

theorem below_of_alloc {w w' : World} {o : Obj} (h : Below (w.alloc o).heap.size (w.alloc o) w') : Below w.heap.size w w' :=
  ((Below.refl _ _).alloc (Nat.le_refl _) _).trans (h.mono (by simp))
theorem le_alloc (w : World) (o : Obj) : w.heap.size ≤ (w.alloc o).heap.size := by simp
theorem k1 : sealF 2 (more16 65535) [1, 3, 0, 0, 0, 10] = [1, 3, 0, 0, 0, 10, 197, 205] := by decide +kernel
theorem k2 : openF 2 (more16 65535) [1, 3, 0, 0, 0, 10, 197, 205] = ([1, 3, 0, 0, 0, 10], 0) := by decide +kernel
theorem k3 : openF 2 (more16 65535) [5] = ([], 1) := by decide +kernel
theorem k4 : openF 2 (more16 65535) [255, 255] = ([], 0) := by decide +kernel
theorem k5 : openF 4 (more32 0) [0, 0, 0, 0] = ([], 0) := by decide +kernel
theorem k6 : openF 4 (more32 0) [0, 0, 0, 1] = ([], 5) := by decide +kernel
theorem k7 : openF 4 (more32 0) [0, 0, 0] = ([], 1) := by decide +kernel
theorem q9 : more16 65535 [] = 65535 := by decide +kernel
theorem q10 : more32 0 [] = 0 := by decide +kernel
theorem q11 : more16 7 [] = 7 := by decide +kernel
theorem q12 : more32 7 [] = 7 := by decide +kernel

end Go.Proofs.Ytcnjhjfepojdaaa
