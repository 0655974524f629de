/- Contracts of the requests: what a code's requests are like. -/
import Derived.Test.YtjmddiffeffgnaaAskPure2
import Derived.Test.YtjmddiffeffgnaaList2
import Derived.Test.YtjmddiffeffgnaaKitA
namespace Go.Proofs.Ytjmddiffeffgnaa
set_option linter.unusedVariables false
set_option linter.unusedSimpArgs false
open Go Go.RowKit Go.Out

def shapeV (c : Int) : Value := .agg #[.int .i64 (if codeP c then mostF c else 0), .bool (decide (isCnt c)), .bool (decide (isOn c)), .bool (decide (isSet c)), .bool (decide (c = 20))]
theorem notCode {c : Int} (h : ¬ codeP c) : ¬ c = 1 ∧ ¬ c = 2 ∧ ¬ c = 3 ∧ ¬ c = 4 ∧ ¬ c = 5 ∧ ¬ c = 6 ∧ ¬ c = 15 ∧ ¬ c = 16 ∧ ¬ c = 20 := by
  unfold codeP isCnt isOn isSet at h; omega

theorem shapeOf_any (c : Int) (w : World) :
    Calls Try.prog 94 #[.int .i64 c] w fun e w' => e = .returned (.tuple #[shapeV c, .bool (decide (codeP c))]) ∧ Ext w w' := by
  by_cases hp : codeP c
  · rcases codeP_cases hp with rfl | rfl | rfl | rfl | rfl | rfl | rfl | rfl | rfl
    all_goals
      go_enter Try.func94, Try.ntmps94
      go_wp2_with fail
      exact bodyPost_ret (by simp [results, Try.results94, go_sem]; exact ⟨rfl, hp⟩) rfl ⟨rfl, Ext.alloc _ _⟩
  · obtain ⟨h1, h2, h3, h4, h5, h6, h7, h8, h9⟩ := notCode hp
    have hs : shapeV c = .agg #[.int .i64 0, .bool false, .bool false, .bool false, .bool false] := by
      have hq := hp
      unfold codeP at hq
      simp only [not_or] at hq
      unfold shapeV
      rw [if_neg hp, decide_eq_false hq.1, decide_eq_false hq.2.1, decide_eq_false hq.2.2.1, decide_eq_false hq.2.2.2]
    rw [hs, decide_eq_false hp]
    clear hs
    go_enter Try.func94, Try.ntmps94
    go_wp2_with fail
    exact bodyPost_ret (by simp [results, Try.results94, go_sem]) rfl ⟨rfl, Ext.alloc _ _⟩
theorem known3_any (c : Int) (w : World) :
    Calls Try.prog 98 #[.int .i64 c] w fun e w' => e = .returned (.bool (decide (codeP c))) ∧ w = w' := by
  by_cases hp : codeP c
  · rcases codeP_cases hp with rfl | rfl | rfl | rfl | rfl | rfl | rfl | rfl | rfl
    all_goals
      go_enter Try.func98, Try.ntmps98
      go_wp2_with fail
      go_ret
      exact ⟨rfl, rfl⟩
  · obtain ⟨h1, h2, h3, h4, h5, h6, h7, h8, h9⟩ := notCode hp
    have b7 : (c == 15) = false := by simpa using h7
    have b8 : (c == 16) = false := by simpa using h8
    have b9 : (c == 20) = false := by simpa using h9
    rw [decide_eq_false hp]
    rcases Int.lt_or_le c 1 with hc | hc
    · have hc' : ¬ 1 ≤ c := by omega
      go_enter Try.func98, Try.ntmps98
      go_wp2_with fail
      go_ret
      simp [hc', b7, b8, b9]
    · have hc6 : ¬ c ≤ 6 := by omega
      go_enter Try.func98, Try.ntmps98
      go_wp2_with fail
      go_ret
      simp [hc, hc6, b7, b8, b9]
theorem most3_any (c : Int) (w : World) :
    Calls Try.prog 137 #[.int .i64 c] w fun e w' => e = .returned (.int .i64 (mostF c)) ∧ w = w' := by
  unfold mostF
  by_cases h1 : c = 1 <;> by_cases h2 : c = 2 <;> by_cases h3 : c = 3 <;> by_cases h4 : c = 4 <;> by_cases h5 : c = 15 <;> by_cases h6 : c = 16 <;> by_cases h7 : c = 20
  all_goals first
    | (exfalso; omega)
    | (go_enter Try.func137, Try.ntmps137
       go_wp2_with fail
       go_ret
       simp [h1, h2, h3, h4, h5, h6, h7])
end Go.Proofs.Ytjmddiffeffgnaa
