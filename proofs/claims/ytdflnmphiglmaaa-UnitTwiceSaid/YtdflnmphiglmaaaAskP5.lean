/- Contracts of the requests: a request as a PDU: parts of files. -/
import Derived.Test.YtdflnmphiglmaaaAskP
import Derived.Test.YtdflnmphiglmaaaAskKit
import Derived.Deep.RegionHeld3
namespace Go.Proofs.Ytdflnmphiglmaaa
set_option linter.unusedVariables false
set_option linter.unusedSimpArgs false
set_option maxRecDepth 100000
set_option maxHeartbeats 1000000
open Go Go.RowKit Go.Out

theorem part_nat {p : PartD} (h : ¬ badP p) : ∃ F R L : Nat, p.file = F ∧ p.record = R ∧ p.len = L ∧ F < 65536 ∧ R < 65536 ∧ L < 65536 := by
  unfold badP at h
  exact ⟨p.file.toNat, p.record.toNat, p.len.toNat, by omega, by omega, by omega, by omega, by omega, by omega⟩
theorem partsB_take {l : List PartD} {k : Nat} {p : PartD} (h : l[k]? = some p) : partsB (l.take (k + 1)) = partsB (l.take k) ++ partB p := by
  obtain ⟨hk, rfl⟩ := List.getElem?_eq_some_iff.1 h
  unfold partsB
  rw [List.take_succ_eq_append_getElem hk, List.flatMap_append]
  simp

theorem lt_of_cell {w : World} {q off : Nat} {v : Value} (h : w.cell? ⟨q, off, none⟩ = some v) : q < w.heap.size := by
  rcases Nat.lt_or_ge q w.heap.size with h1 | h1
  · exact h1
  · unfold World.cell? at h
    rw [Array.getElem?_eq_none (by simpa using h1)] at h
    cases h
end Go.Proofs.Ytdflnmphiglmaaa
