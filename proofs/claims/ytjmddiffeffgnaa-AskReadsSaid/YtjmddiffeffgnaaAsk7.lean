/- Contracts of the requests: has a field without a meaning something in it, by the reference. -/
import Derived.Test.YtjmddiffeffgnaaAsk6
namespace Go.Proofs.Ytjmddiffeffgnaa
set_option linter.unusedVariables false
set_option linter.unusedSimpArgs false
set_option maxRecDepth 100000
set_option maxHeartbeats 2000000
open Go Go.RowKit Go.Out

theorem field_row (code addr count : Int) (A1 A2 A3 : Option Addr) (n1 c1 n2 c2 n3 c3 : Nat) (K : Bool) (w : World) (hp : codeP code)
    (hK : Hid (K = (!decide (isCnt code) && (count != 0) || !decide (isOn code) && decide (0 < n1) || !decide (isSet code) && decide (0 < n2) || !decide (code = 20) && decide (0 < n3) || decide (code = 20) && (addr != 0)))) :
    Calls Try.prog 135 #[.agg #[.int .i64 code, .int .i64 addr, .int .i64 count, .slice A1 n1 c1, .slice A2 n2 c2, .slice A3 n3 c3]] w (RetQ w K) := by
  rcases codeP_cases hp with rfl | rfl | rfl | rfl | rfl | rfl | rfl | rfl | rfl
  all_goals
    go_enter Try.func135, Try.ntmps135
    go_wp2_with fail
    all_goals
      go_ret
      exact RetQ.of (hK.out.trans (by simp [isCnt, isOn, isSet, *] <;> omega)) (Ext.alloc _ _)
theorem field3_any (a : AskD) (s : AskS) (w : World) (h1 : a.on.length = s.n1) (h2 : a.set.length = s.n2) (h3 : a.parts.length = s.n3) (hp : codeP a.code) :
    Calls Try.prog 135 #[askV a s] w (RetQ w (decide (fieldP a))) := by
  obtain ⟨code, addr, count, on, set, parts⟩ := a
  obtain ⟨A1, n1, c1, A2, n2, c2, A3, n3, c3⟩ := s
  simp only at h1 h2 h3 hp
  refine field_row _ _ _ _ _ _ _ _ _ _ _ _ _ w hp ?_
  show _ = _
  rw [Bool.eq_iff_iff]
  unfold fieldP
  simp [h1, h2, h3, or_assoc]
end Go.Proofs.Ytjmddiffeffgnaa
