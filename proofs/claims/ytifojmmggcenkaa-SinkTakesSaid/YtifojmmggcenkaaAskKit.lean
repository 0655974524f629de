/- Contracts of the kit's functions on parts and requests: same, long. -/
import Derived.Test.YtifojmmggcenkaaAsk6
import Derived.Test.YtifojmmggcenkaaKitW
import Derived.Test.YtifojmmggcenkaaKitL
import Derived.Test.YtifojmmggcenkaaBitBack
namespace Go.Proofs.Ytifojmmggcenkaa
set_option linter.unusedVariables false
set_option linter.unusedSimpArgs false
set_option maxRecDepth 100000
set_option maxHeartbeats 2000000
open Go Go.RowKit Go.Out

theorem part_cells {w : World} {A : Option Addr} {n k : Nat} {l : List PartD} (h : RdL partK w A n l) (hk : k < n) :
    ∃ b off p, l[k]? = some p ∧ A = some ⟨b, off, none⟩ ∧ b < w.heap.size ∧ w.cell? ⟨b, off + k * 3, none⟩ = some (.int .i64 p.file) ∧ w.cell? ⟨b, off + k * 3 + 1, none⟩ = some (.int .i64 p.record) ∧ w.cell? ⟨b, off + k * 3 + 2, none⟩ = some (.int .i64 p.len) ∧ i64P p.file ∧ i64P p.record ∧ i64P p.len := by
  obtain ⟨b, off, rfl, hbk, hl', cs, -, hc, hR⟩ := h.at_ hk
  obtain ⟨rfl, -⟩ := id hR
  exact ⟨b, off, l[k], List.getElem?_eq_getElem hl', rfl, hbk, hc 0 _ rfl, hc 1 _ rfl, hc 2 _ rfl, hR.2.1, hR.2.2.1, hR.2.2.2⟩
theorem long_or (a b c : Nat) : (decide ((70000 : Int) < a) || decide ((70000 : Int) < b) || decide ((70000 : Int) < c)) = decide (70000 < a ∨ 70000 < b ∨ 70000 < c) := by
  simp only [Bool.decide_or, Bool.or_assoc]
  congr 1
  · exact decide_eq_decide.2 (by omega)
  · congr 1 <;> exact decide_eq_decide.2 (by omega)
end Go.Proofs.Ytifojmmggcenkaa
