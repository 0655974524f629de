/- Contracts of the requests: what is wrong with a request, by the program and by the reference. -/
import Derived.Test.YtjmddiffeffgnaaAsk4
namespace Go.Proofs.Ytjmddiffeffgnaa
set_option linter.unusedVariables false
set_option linter.unusedSimpArgs false
set_option maxRecDepth 100000
set_option maxHeartbeats 2000000
open Go Go.RowKit Go.Out

theorem shapeV_no {c : Int} (hp : ¬ codeP c) : shapeV c = .agg #[.int .i64 0, .bool false, .bool false, .bool false, .bool false] := by
  have hq := hp
  unfold codeP at hq
  simp only [not_or] at hq
  unfold shapeV
  rw [if_neg hp, decide_eq_false hq.1, decide_eq_false hq.2.1, decide_eq_false hq.2.2.1, decide_eq_false hq.2.2.2]
theorem check_code (code addr count : Int) (A1 A2 A3 : Option Addr) (n1 c1 n2 c2 n3 c3 : Nat) (w : World) (hp : ¬ codeP code) :
    Calls Try.prog 97 #[.agg #[.int .i64 code, .int .i64 addr, .int .i64 count, .slice A1 n1 c1, .slice A2 n2 c2, .slice A3 n3 c3]] w (RetI w 20) := by
  go_enter Try.func97, Try.ntmps97
  go_wp2_with fail
  refine (shapeOf_any code _).mono ?_
  rintro e w1 ⟨rfl, hb⟩
  rw [shapeV_no hp, decide_eq_false hp]
  have HX : Hid (∀ o : Obj, Ext _ (w1.alloc o)) := Lib.hid fun o => hb.trans (Ext.alloc _ o)
  go_wp2_with fail
  go_ret
  exact RetI.of rfl ((Ext.alloc _ _).trans (HX.out _))
theorem parts_len0 {l : List PartD} (h : l.length = 0) : partsF l = 0 := by
  rw [List.eq_nil_of_length_eq_zero h]; exact partsF_nil

theorem check_any (a : AskD) (s : AskS) (w : World) (hr : AskRd w a s) : Calls Try.prog 97 #[askV a s] w (RetI w (checkF a)) := by
  have h1 := hr.n1; have h2 := hr.n2; have h3 := hr.n3
  have hpr := hr.parts
  by_cases hp : codeP a.code
  · have hm := fun W => many_any a s W h1 h2 h3 hp
    obtain ⟨code, addr, count, on, set, parts⟩ := a
    obtain ⟨A1, n1, c1, A2, n2, c2, A3, n3, c3⟩ := s
    simp only at h1 h2 h3 hp hpr hm
    simp only [askV] at hm ⊢
    obtain ⟨hM1, hM, hk⟩ := shape_kind hp
    rcases hk with ⟨k1, k2, k3, k4, hs⟩ | ⟨k1, k2, k3, k4, hs⟩ | ⟨k1, k2, k3, k4, hs⟩ | ⟨k1, k2, k3, k4, k5, hs⟩
    · have hf : fieldP ⟨code, addr, count, on, set, parts⟩ ↔ (0 < n1 ∨ 0 < n2 ∨ 0 < n3) := by
        unfold fieldP; simp only [k1, k2, k3, h1, h2, h3]; simp [k4]
      obtain ⟨g1, g2, g3, g4, g5⟩ := check_steps hp hf
      rw [hs] at hm
      exact check_cnt _ _ _ _ _ _ _ _ _ _ _ _ _ _ _ w hs hp hm hM g1 g2 g3 (fun a b c d => g4 a b c ⟨k4, d⟩) (fun a b c d => (g5 a b c (fun h => d h.2)).trans (parts_len0 (h3.trans (by omega))))
    · by_cases hc0 : count = 0
      · subst hc0
        have hf : fieldP ⟨code, addr, 0, on, set, parts⟩ ↔ (0 < n2 ∨ 0 < n3) := by
          unfold fieldP; simp only [k1, k2, k3, h1, h2, h3]; simp [k4]
        obtain ⟨g1, g2, g3, g4, g5⟩ := check_steps hp hf
        rw [hs] at hm
        exact check_on _ _ _ _ _ _ _ _ _ _ _ _ _ _ w hs hp hm hM g1 g2 g3 (fun a b c d => g4 a b c ⟨k4, d⟩) (fun a b c d => (g5 a b c (fun h => d h.2)).trans (parts_len0 (h3.trans (by omega))))
      · have hf : fieldP ⟨code, addr, count, on, set, parts⟩ ↔ True := by
          unfold fieldP; simp [k1, hc0]
        rw [(check_steps hp hf).1 trivial]
        exact check_count _ _ _ _ _ _ _ _ _ _ _ _ _ _ _ _ w hs hp hc0
    · by_cases hc0 : count = 0
      · subst hc0
        have hf : fieldP ⟨code, addr, 0, on, set, parts⟩ ↔ (0 < n1 ∨ 0 < n3) := by
          unfold fieldP; simp only [k1, k2, k3, h1, h2, h3]; simp [k4]
        obtain ⟨g1, g2, g3, g4, g5⟩ := check_steps hp hf
        rw [hs] at hm
        exact check_set _ _ _ _ _ _ _ _ _ _ _ _ _ _ w hs hp hm hM g1 g2 g3 (fun a b c d => g4 a b c ⟨k4, d⟩) (fun a b c d => (g5 a b c (fun h => d h.2)).trans (parts_len0 (h3.trans (by omega))))
      · have hf : fieldP ⟨code, addr, count, on, set, parts⟩ ↔ True := by
          unfold fieldP; simp [k1, hc0]
        rw [(check_steps hp hf).1 trivial]
        exact check_count _ _ _ _ _ _ _ _ _ _ _ _ _ _ _ _ w hs hp hc0
    · by_cases hc0 : count = 0
      · subst hc0
        by_cases ha0 : addr = 0
        · subst ha0
          have hf : fieldP ⟨code, 0, 0, on, set, parts⟩ ↔ (0 < n1 ∨ 0 < n2) := by
            unfold fieldP; simp only [k1, k2, k3, h1, h2, h3]; simp [k4]
          obtain ⟨g1, g2, g3, g4, g5⟩ := check_steps hp hf
          have hmf : manyF ⟨code, 0, 0, on, set, parts⟩ = n3 := by unfold manyF; rw [if_neg k1, if_neg k2, if_neg k3, h3]
          simp only at g2 g3 g4 g5
          rw [hmf, k5] at g3 g5
          rw [hs] at hm
          simp only [hmf] at hm
          exact check_file _ _ _ _ _ _ _ _ _ _ _ parts w hpr hs hp hm g1 (fun _ => rfl) (fun a b => g3 a (by omega) b) (fun a b => g5 a (by omega) b (fun h => h.1 k4))
        · have hf : fieldP ⟨code, addr, 0, on, set, parts⟩ ↔ True := by
            unfold fieldP; simp [k4, ha0]
          rw [(check_steps hp hf).1 trivial]
          exact check_addr _ _ _ _ _ _ _ _ _ _ _ _ w hs hp ha0
      · have hf : fieldP ⟨code, addr, count, on, set, parts⟩ ↔ True := by
          unfold fieldP; simp [k1, hc0]
        rw [(check_steps hp hf).1 trivial]
        exact check_count _ _ _ _ _ _ _ _ _ _ _ _ _ _ _ _ w hs hp hc0
  · rw [checkF_code hp]
    exact check_code _ _ _ _ _ _ _ _ _ _ _ _ w hp
end Go.Proofs.Ytjmddiffeffgnaa
