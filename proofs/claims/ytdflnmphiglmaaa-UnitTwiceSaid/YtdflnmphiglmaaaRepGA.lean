/- Contract of reply.Get, given what reply.read hands back. (genrepget.py prints this.) -/
import Derived.Test.YtdflnmphiglmaaaRepF
import Derived.BigQuiet
import Derived.Deep.QuietTactic
import Derived.Test.YtdflnmphiglmaaaRepR5
namespace Go.Proofs.Ytdflnmphiglmaaa
set_option linter.unusedVariables false
set_option linter.unusedSimpArgs false
set_option maxRecDepth 100000
set_option maxHeartbeats 2000000
open Go Go.RowKit Go.Out

end Go.Proofs.Ytdflnmphiglmaaa

namespace Go.Proofs.Ytdflnmphiglmaaa
set_option linter.unusedVariables false
set_option linter.unusedSimpArgs false
set_option maxRecDepth 100000
set_option maxHeartbeats 1000000
open Go Go.RowKit Go.Out

theorem many_parts {a : AskD} (h : checkF a = 0) : (a.code = 1 ∨ a.code = 2 → 1 ≤ a.count ∧ a.count ≤ 2000) ∧ (a.code = 3 ∨ a.code = 4 → 1 ≤ a.count ∧ a.count ≤ 125) ∧ (a.code = 20 → 1 ≤ a.parts.length ∧ a.parts.length ≤ 35) := by
  obtain ⟨h1, h2, h3, h4, h5, h6, h7, h8⟩ := checkF_parts a h
  refine ⟨fun h => ?_, fun h => ?_, fun h => ?_⟩
  · have h1 : manyF a = a.count := by unfold manyF; rw [if_pos (by unfold isCnt; omega)]
    have h2 : mostF a.code = 2000 := by unfold mostF; rw [if_pos h]
    omega
  · have h1 : manyF a = a.count := by unfold manyF; rw [if_pos (by unfold isCnt; omega)]
    have h2 : mostF a.code = 125 := by unfold mostF; rw [if_neg (by omega), if_pos h]
    omega
  · have h1 : manyF a = a.parts.length := by unfold manyF; rw [if_neg (by unfold isCnt; omega), if_neg (by unfold isOn; omega), if_neg (by unfold isSet; omega)]
    have h2 : mostF a.code = 35 := by unfold mostF; rw [h]; rfl
    omega
end Go.Proofs.Ytdflnmphiglmaaa
