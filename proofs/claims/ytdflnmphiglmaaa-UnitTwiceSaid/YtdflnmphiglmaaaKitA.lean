/- Contracts of functions of the given program, and plain lemmas: what each call returns and what it leaves as it was; used by the claim's last text. -/
import Derived.Test.YtdflnmphiglmaaaChecked
import Derived.Test.YtdflnmphiglmaaaBase
namespace Go.Proofs.Ytdflnmphiglmaaa
set_option linter.unusedVariables false
open Go Go.RowKit Go.Out

theorem info_u8 : (Try.prog.info? 5).map (fun i => (i.zero, i.size, i.bytes)) = some (some (.int .u8 0), 1, 1) := by kernel_rfl

def sl (s : Option Addr × Nat × Nat) : Value := .slice s.1 s.2.1 s.2.2

/-- A slice that was lent, as one of the call's own. -/
theorem lent_own {w : World} {base g n : Nat} {cur : Array Value} {l : List UInt8} (hb : base ≤ g) (hh : w.heap[g]? = some (.cells cur 5 (0, 0))) (hcur : cur.toList = l.map cB ++ List.replicate 5 (.int .u8 165)) (hl : l.length = n) (hn : n + 5 ≤ 9223372036854775807) :
    Own w base 5 IsU8 (some ⟨g, 0, none⟩) n (n + 5) (l.map cB) := by
  have hs : cur.size = n + 5 := by rw [← Array.length_toList, hcur]; simp [hl]
  have hp : ∀ u ∈ cur.toList, IsU8 u := by
    rw [hcur]; intro u hu
    rcases List.mem_append.1 hu with hu | hu
    · exact isU8_map u hu
    · have := List.eq_of_mem_replicate hu
      subst this; exact ⟨165, rfl⟩
  have h := Own.of_heap (p := IsU8) hb hh (off := 0) n (n + 5) (by omega) (by omega) (by unfold maxLen; omega) hp
  rw [List.drop_zero, hcur, List.take_append_of_le_length (by simp [hl]), List.take_of_length_le (by simp [hl])] at h
  exact h

end Go.Proofs.Ytdflnmphiglmaaa
