/- Contracts of the requests: the reference's Check; Writes, and the reference's. -/
import Derived.Test.YtjmddiffeffgnaaAsk7
import Derived.Test.YtjmddiffeffgnaaAsk8
namespace Go.Proofs.Ytjmddiffeffgnaa
set_option linter.unusedVariables false
set_option linter.unusedSimpArgs false
set_option maxRecDepth 100000
set_option maxHeartbeats 2000000
open Go Go.RowKit Go.Out

theorem refCheck_code (code addr count : Int) (A1 A2 A3 : Option Addr) (n1 c1 n2 c2 n3 c3 : Nat) (w : World) (hp : ¬ codeP code) :
    Calls Try.prog 101 #[.agg #[.int .i64 code, .int .i64 addr, .int .i64 count, .slice A1 n1 c1, .slice A2 n2 c2, .slice A3 n3 c3]] w (RetI w 20) := by
  go_enter Try.func101, Try.ntmps101
  go_wp2_with fail
  refine (known3_any code _).mono ?_
  rintro e w1 ⟨rfl, rfl⟩
  rw [decide_eq_false hp]
  go_wp2_with fail
  go_ret
  exact RetI.of rfl (Ext.alloc _ _)
theorem refCheck_any (a : AskD) (s : AskS) (w : World) (hr : AskRd w a s) : Calls Try.prog 101 #[askV a s] w (RetI w (checkF a)) := by
  have h1 := hr.n1; have h2 := hr.n2; have h3 := hr.n3
  have hpr := hr.parts
  by_cases hp : codeP a.code
  · have hm := fun W => many3_any a s W h1 h2 h3 hp
    have hf := fun W => field3_any a s W h1 h2 h3 hp
    obtain ⟨g1, g2, g3, g4, g5⟩ := check_steps hp (Iff.rfl : fieldP a ↔ fieldP a)
    have h0 : ¬ a.code = 20 → ¬ fieldP a → a.parts.length = 0 := by
      intro hc hn
      unfold fieldP at hn
      have : ¬ (a.code ≠ 20 ∧ 0 < a.parts.length) := fun h => hn (.inr (.inr (.inr (.inl h))))
      omega
    have h35 : a.code = 20 → (mostF a.code = 35 ∧ manyF a = (s.n3 : Int)) := by
      intro hc
      refine ⟨by rw [hc]; rfl, ?_⟩
      unfold manyF isCnt isOn isSet
      rw [hc, ← h3]; rfl
    have nf : decide (fieldP a) = false → ¬ fieldP a := fun h => by simpa using h
    refine refCheck_row _ _ _ _ _ _ _ _ _ _ _ _ _ _ _ _ a.parts w hpr hp hf hm (fun W => most3_any _ W) (shape_kind hp).2.1 h35 (fun h => g1 (by simpa using h)) (fun h => g2 (nf h)) (fun h => g3 (nf h))
      (fun h a b c d => g4 (nf h) a b ⟨c, d⟩) (fun h a b c d => (g5 (nf h) a b (fun x => d x.2)).trans (parts_len0 (h0 c (nf h)))) (fun h a b c => g5 (nf h) a b (fun x => x.1 c))
  · rw [checkF_code hp]
    exact refCheck_code _ _ _ _ _ _ _ _ _ _ _ _ w hp
theorem writes_any (a : AskD) (s : AskS) (w : World) : Calls Try.prog 74 #[askV a s] w (RetQ w (writesF a.code)) := by
  obtain ⟨code, addr, count, on, set, parts⟩ := a
  obtain ⟨A1, n1, c1, A2, n2, c2, A3, n3, c3⟩ := s
  show Calls _ _ #[.agg #[.int .i64 code, .int .i64 addr, .int .i64 count, .slice A1 n1 c1, .slice A2 n2 c2, .slice A3 n3 c3]] _ (RetQ w (writesF code))
  obtain ⟨K, hK⟩ : ∃ K, writesF code = K := ⟨_, rfl⟩
  rw [hK]
  have HK : Hid (K = (code == 5 || code == 6 || code == 15 || code == 16)) := by
    subst hK; show _ = _; rw [Bool.eq_iff_iff]; unfold writesF isOn isSet; simp; omega
  clear hK
  go_enter Try.func74, Try.ntmps74
  go_wp2_with fail
  all_goals
    go_ret
    exact RetQ.of (HK.out.trans (by simp [*])) (Ext.alloc _ _)
theorem refWrites_any (a : AskD) (s : AskS) (w : World) : Calls Try.prog 77 #[askV a s] w (RetQ w (writesF a.code)) := by
  obtain ⟨code, addr, count, on, set, parts⟩ := a
  obtain ⟨A1, n1, c1, A2, n2, c2, A3, n3, c3⟩ := s
  show Calls _ _ #[.agg #[.int .i64 code, .int .i64 addr, .int .i64 count, .slice A1 n1 c1, .slice A2 n2 c2, .slice A3 n3 c3]] _ (RetQ w (writesF code))
  obtain ⟨K, hK⟩ : ∃ K, writesF code = K := ⟨_, rfl⟩
  rw [hK]
  have HK : Hid (K = (code == 5 || code == 6 || code == 15 || code == 16)) := by
    subst hK; show _ = _; rw [Bool.eq_iff_iff]; unfold writesF isOn isSet; simp; omega
  clear hK
  go_enter Try.func77, Try.ntmps77
  go_wp2_with fail
  all_goals
    go_ret
    exact RetQ.of (HK.out.trans (by simp [*])) (Ext.alloc _ _)
end Go.Proofs.Ytjmddiffeffgnaa
