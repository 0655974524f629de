/- Contracts of the kit's functions on bools: what each call returns and what it leaves as it was. -/
import Derived.Test.YtifojmmggcenkaaKitA
namespace Go.Proofs.Ytifojmmggcenkaa
set_option linter.unusedVariables false
open Go Go.RowKit Go.Out

theorem info_bo : (Try.prog.info? 4).map (fun i => (i.zero, i.size, i.bytes)) = some (some (.bool false), 1, 1) := by kernel_rfl

/-- A slice that was lent, as one of the call's own. -/
theorem lentL_own {w : World} {base g n : Nat} {cur : Array Value} {l : List Bool} (hb : base ≤ g) (hh : w.heap[g]? = some (.cells cur 4 (0, 0))) (hcur : cur.toList = l.map cL ++ List.replicate 5 (.bool true)) (hl : l.length = n) (hn : n + 5 ≤ 9223372036854775807) :
    Own w base 4 IsBo (some ⟨g, 0, none⟩) n (n + 5) (l.map cL) := by
  have hs : cur.size = n + 5 := by rw [← Array.length_toList, hcur]; simp [hl]
  have hp : ∀ u ∈ cur.toList, IsBo u := by
    rw [hcur]; intro u hu
    rcases List.mem_append.1 hu with hu | hu
    · exact isBo_map u hu
    · have := List.eq_of_mem_replicate hu
      subst this; exact ⟨true, rfl⟩
  have h := Own.of_heap (p := IsBo) hb hh (off := 0) n (n + 5) (by omega) (by omega) (by unfold maxLen; omega) hp
  rw [List.drop_zero, hcur, List.take_append_of_le_length (by simp [hl]), List.take_of_length_le (by simp [hl])] at h
  exact h

end Go.Proofs.Ytifojmmggcenkaa
