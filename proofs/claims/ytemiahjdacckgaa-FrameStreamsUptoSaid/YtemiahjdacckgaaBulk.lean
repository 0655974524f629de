/- What the second form's bound gives: a slice's length. -/
import Derived.Test.YtemiahjdacckgaaRows
namespace Go.Proofs.Ytemiahjdacckgaa
set_option linter.unusedVariables false

theorem bulk_pos {H : Type} (d : DataW H) : 1 ≤ Rows.uptoBulk d := by
  cases d with
  | lit l => cases l <;> simp [Rows.uptoBulk]
  | nil => simp [Rows.uptoBulk]
  | ptr d => simp [Rows.uptoBulk]
  | slice a b => simp [Rows.uptoBulk]
  | agg a => simp [Rows.uptoBulk]
  | iface t d => simp [Rows.uptoBulk]
  | map es => simp [Rows.uptoBulk]
  | held h => simp [Rows.uptoBulk]
theorem bulk_mem {H : Type} {d : DataW H} : ∀ {l : List (DataW H)}, d ∈ l → Rows.uptoBulk d ≤ Rows.uptoBulkAll l
  | [], h => by cases h
  | x :: r, h => by
    simp only [Rows.uptoBulkAll]
    rcases List.mem_cons.1 h with rfl | h
    · omega
    · have := bulk_mem h; omega
theorem bulk_length {H : Type} : ∀ (l : List (DataW H)), l.length ≤ Rows.uptoBulkAll l
  | [] => by simp [Rows.uptoBulkAll]
  | x :: r => by have := bulk_pos x; have := bulk_length r; simp only [Rows.uptoBulkAll, List.length_cons]; omega
/-- A slice among the arguments, or one that is one of them, has no more items than the bound says. -/
theorem len_of_bulk {H : Type} {ds : List (DataW H)} (hk : Rows.uptoSmall H ds = true) {d : DataW H} (hd : d ∈ ds) {c n : Nat} (hx : c = 0 ∨ ∃ el sp, d = .slice el sp ∧ el.length + sp.length = c) (hn : n ≤ c) : n ≤ 1048576 := by
  have h : Rows.uptoBulkAll ds ≤ 1048576 := of_decide_eq_true hk
  rcases hx with rfl | ⟨el, sp, rfl, hc⟩
  · omega
  · have h1 := bulk_mem hd
    have h2 := bulk_length el
    have h3 := bulk_length sp
    simp only [Rows.uptoBulk] at h1
    omega
end Go.Proofs.Ytemiahjdacckgaa
