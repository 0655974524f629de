/- Contract of reply.Check, whatever the request and the answer. -/
import Derived.Test.YtcnjhjfepojdaaaRep
namespace Go.Proofs.Ytcnjhjfepojdaaa
set_option linter.unusedVariables false
set_option linter.unusedSimpArgs false
set_option maxRecDepth 100000
set_option maxHeartbeats 2000000
open Go Go.RowKit Go.Out

theorem ext_pair (w : World) (o1 o2 : Obj) : Ext w ((w.alloc o1).alloc o2) := (Ext.alloc _ _).trans (Ext.alloc _ _)
theorem cells4 {W : World} {g : Nat} {t : TypeId} {v0 v1 v2 v3 : Value} (h : W.heap[g]? = some (.cells #[v0, v1, v2, v3] t (0, 0))) :
    W.cell? ⟨g, 0, none⟩ = some v0 ∧ W.cell? ⟨g, 1, none⟩ = some v1 ∧ W.cell? ⟨g, 2, none⟩ = some v2 ∧ W.cell? ⟨g, 3, none⟩ = some v3 :=
  ⟨cell_of_row _ _ _ _ _ _ h, cell_of_row _ _ _ _ _ _ h, cell_of_row _ _ _ _ _ _ h, cell_of_row _ _ _ _ _ _ h⟩
theorem cells6 {W : World} {g : Nat} {t : TypeId} {v0 v1 v2 v3 v4 v5 : Value} (h : W.heap[g]? = some (.cells #[v0, v1, v2, v3, v4, v5] t (0, 0))) :
    W.cell? ⟨g, 0, none⟩ = some v0 ∧ W.cell? ⟨g, 1, none⟩ = some v1 ∧ W.cell? ⟨g, 2, none⟩ = some v2 ∧ W.cell? ⟨g, 3, none⟩ = some v3 ∧ W.cell? ⟨g, 4, none⟩ = some v4 ∧ W.cell? ⟨g, 5, none⟩ = some v5 :=
  ⟨cell_of_row _ _ _ _ _ _ h, cell_of_row _ _ _ _ _ _ h, cell_of_row _ _ _ _ _ _ h, cell_of_row _ _ _ _ _ _ h, cell_of_row _ _ _ _ _ _ h, cell_of_row _ _ _ _ _ _ h⟩
theorem codeP_of {a : AskD} (h : checkF a = 0) : codeP a.code := by
  unfold checkF at h
  by_cases hp : codeP a.code
  · exact hp
  · rw [if_pos hp] at h; cases h

/-- Both boxes, in every later world. -/
theorem two_boxes (w : World) (va vb : Array Value) (ta tb : TypeId) (W : World) (hX : Ext ((w.alloc (.cells va ta)).alloc (.cells vb tb)) W) :
    W.heap[w.heap.size]? = some (.cells va ta (0, 0)) ∧ W.heap[w.heap.size + 1]? = some (.cells vb tb (0, 0)) :=
  ⟨((Ext.alloc _ _).trans hX).block (heap_alloc_new _ _), hX.block (heap_at _ _ _ (by simp))⟩

end Go.Proofs.Ytcnjhjfepojdaaa
