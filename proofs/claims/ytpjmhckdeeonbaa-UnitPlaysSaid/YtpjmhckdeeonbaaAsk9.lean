/- Contracts of the requests: has a field without a meaning something in it, by the reference. -/
import Derived.Test.YtpjmhckdeeonbaaAsk6
namespace Go.Proofs.Ytpjmhckdeeonbaa
set_option linter.unusedVariables false
set_option linter.unusedSimpArgs false
set_option maxRecDepth 100000
set_option maxHeartbeats 2000000
open Go Go.RowKit Go.Out

theorem field_row (code addr count : Int) (A1 A2 A3 : Option Addr) (n1 c1 n2 c2 n3 c3 : Nat) (K : Bool) (w : World) (hp : codeP code)
    (hK : Hid (K = (!decide (isCnt code) && (count != 0) || !decide (isOn code) && decide (0 < n1) || !decide (isSet code) && decide (0 < n2) || !decide (code = 20) && decide (0 < n3) || decide (code = 20) && (addr != 0)))) :
    Calls Try.prog 99 #[.agg #[.int .i64 code, .int .i64 addr, .int .i64 count, .slice A1 n1 c1, .slice A2 n2 c2, .slice A3 n3 c3]] w (RetQ w K) := by
  rcases codeP_cases hp with rfl | rfl | rfl | rfl | rfl | rfl | rfl | rfl | rfl
  all_goals
    go_enter Try.func99, Try.ntmps99
    go_wp2_with fail
    all_goals
      go_ret
      exact RetQ.of (hK.out.trans (by simp [isCnt, isOn, isSet, *] <;> omega)) (Ext.alloc _ _)
theorem field3_any (a : AskD) (s : AskS) (w : World) (h1 : a.on.length = s.n1) (h2 : a.set.length = s.n2) (h3 : a.parts.length = s.n3) (hp : codeP a.code) :
    Calls Try.prog 99 #[askV a s] w (RetQ w (decide (fieldP a))) := by
  obtain ⟨code, addr, count, on, set, parts⟩ := a
  obtain ⟨A1, n1, c1, A2, n2, c2, A3, n3, c3⟩ := s
  simp only at h1 h2 h3 hp
  refine field_row _ _ _ _ _ _ _ _ _ _ _ _ _ w hp ?_
  show _ = _
  rw [Bool.eq_iff_iff]
  unfold fieldP
  simp [h1, h2, h3, or_assoc]
end Go.Proofs.Ytpjmhckdeeonbaa

namespace Go.Proofs.Ytpjmhckdeeonbaa
set_option linter.unusedVariables false
set_option linter.unusedSimpArgs false
set_option maxRecDepth 100000
set_option maxHeartbeats 2000000
open Go Go.RowKit Go.Out

theorem refCheck_row (code addr count : Int) (A1 A2 A3 : Option Addr) (n1 c1 n2 c2 n3 c3 : Nat) (M N K : Int) (fb : Bool) (l : List PartD) (w : World) (hr : RdL partK w A3 n3 l) (hp : codeP code)
    (hfd : ∀ W : World, Calls Try.prog 99 #[.agg #[.int .i64 code, .int .i64 addr, .int .i64 count, .slice A1 n1 c1, .slice A2 n2 c2, .slice A3 n3 c3]] W (RetQ W fb))
    (hmn : ∀ W : World, Calls Try.prog 100 #[.agg #[.int .i64 code, .int .i64 addr, .int .i64 count, .slice A1 n1 c1, .slice A2 n2 c2, .slice A3 n3 c3]] W fun e w' => e = .returned (.int .i64 N) ∧ Ext W w')
    (hms : ∀ W : World, Calls Try.prog 101 #[.int .i64 code] W fun e w' => e = .returned (.int .i64 M) ∧ W = w')
    (hM : M ≤ 2000) (h35 : Hid (code = 20 → (M = 35 ∧ N = n3)))
    (f1 : Hid (fb = true → K = 23)) (f2 : Hid (fb = false → (addr < 0 ∨ 65535 < addr) → K = 21)) (f3 : Hid (fb = false → ¬ (addr < 0 ∨ 65535 < addr) → (N < 1 ∨ M < N) → K = 22))
    (f4 : Hid (fb = false → ¬ (addr < 0 ∨ 65535 < addr) → ¬ (N < 1 ∨ M < N) → ¬ code = 20 → 65536 < addr + N → K = 21)) (f5 : Hid (fb = false → ¬ (addr < 0 ∨ 65535 < addr) → ¬ (N < 1 ∨ M < N) → ¬ code = 20 → ¬ 65536 < addr + N → K = 0))
    (f6 : Hid (fb = false → ¬ (addr < 0 ∨ 65535 < addr) → ¬ (N < 1 ∨ M < N) → code = 20 → K = partsF l)) :
    Calls Try.prog 55 #[.agg #[.int .i64 code, .int .i64 addr, .int .i64 count, .slice A1 n1 c1, .slice A2 n2 c2, .slice A3 n3 c3]] w (RetI w K) := by
  have Hr := Lib.hid hr; clear hr
  cases fb
  · have g2 := Lib.hid (f2.out rfl); have g3 := Lib.hid (f3.out rfl); have g4 := Lib.hid (f4.out rfl); have g5 := Lib.hid (f5.out rfl); have g6 := Lib.hid (f6.out rfl)
    clear f1 f2 f3 f4 f5 f6
    go_enter Try.func55, Try.ntmps55
    go_wp2_with fail
    refine (known3_any code _).mono ?_
    rintro e w1 ⟨rfl, rfl⟩
    rw [decide_eq_true hp]
    go_wp2_with fail
    refine (hfd _).mono ?_
    rintro e w2 ⟨rfl, hb2⟩
    obtain ⟨d0, d1, d2, d3, d4, d5⟩ := ask_cells _ hb2
    have HX : Hid (Ext w w2) := Lib.hid ((Ext.alloc _ _).trans hb2)
    have HB := Lib.hid hb2; clear hb2
    go_wp2_with fail
    all_goals first
      | go_ret
        exact RetI.of (g2.out (by omega)) HX.out
      | skip
    refine (hmn _).mono ?_
    rintro e w3 ⟨rfl, hb3⟩
    obtain ⟨d0, d1, d2, d3, d4, d5⟩ := ask_cells _ (HB.out.trans hb3)
    have HY : Hid (Ext w w3) := Lib.hid (HX.out.trans hb3)
    clear hb3 HX HB g2
    rcases Int.lt_or_le N 1 with hN | hN
    · go_wp2_with fail
      go_ret
      exact RetI.of (g3.out (by omega) (by omega)) HY.out
    · have hd : decide (N < 1) = false := by simp; omega
      go_wp2_with fail
      refine (hms _).mono ?_
      rintro e w4 ⟨rfl, rfl⟩
      by_cases h20 : code = 20
      · subst h20
        obtain ⟨rfl, rfl⟩ := h35.out rfl
        go_wp2_with fail
        all_goals first
          | go_ret
            exact RetI.of (g3.out (by omega) (by omega)) HY.out
          | skip
        refine (parts3_any l A3 n3 c3 _ (Hr.out.ext HY.out) (by omega)).mono ?_
        rintro e w5 ⟨rfl, hx5⟩
        have HZ : Hid (Ext w w5) := Lib.hid (HY.out.trans hx5)
        have Hk := Lib.hid (g6.out (by omega) (by omega) (by first | rfl | trivial))
        clear hx5 g3 g4 g5 g6
        go_wp2_with fail
        go_ret
        exact RetI.of Hk.out HZ.out
      · have h20b : (code == 20) = false := by simpa using h20
        go_wp2_with fail
        all_goals
          go_ret
          first
            | exact RetI.of (g3.out (by omega) (by omega)) HY.out
            | exact RetI.of (g4.out (by omega) (by omega) h20 (by omega)) HY.out
            | exact RetI.of (g5.out (by omega) (by omega) h20 (by omega)) HY.out
  · have g1 := Lib.hid (f1.out rfl)
    clear f1 f2 f3 f4 f5 f6
    go_enter Try.func55, Try.ntmps55
    go_wp2_with fail
    refine (known3_any code _).mono ?_
    rintro e w1 ⟨rfl, rfl⟩
    rw [decide_eq_true hp]
    go_wp2_with fail
    refine (hfd _).mono ?_
    rintro e w2 ⟨rfl, hb2⟩
    have HX : Hid (Ext w w2) := Lib.hid ((Ext.alloc _ _).trans hb2)
    clear hb2
    go_wp2_with fail
    go_ret
    exact RetI.of g1.out HX.out
end Go.Proofs.Ytpjmhckdeeonbaa

namespace Go.Proofs.Ytpjmhckdeeonbaa
set_option linter.unusedVariables false
set_option linter.unusedSimpArgs false
set_option maxRecDepth 100000
set_option maxHeartbeats 2000000
open Go Go.RowKit Go.Out

theorem refCheck_code (code addr count : Int) (A1 A2 A3 : Option Addr) (n1 c1 n2 c2 n3 c3 : Nat) (w : World) (hp : ¬ codeP code) :
    Calls Try.prog 55 #[.agg #[.int .i64 code, .int .i64 addr, .int .i64 count, .slice A1 n1 c1, .slice A2 n2 c2, .slice A3 n3 c3]] w (RetI w 20) := by
  go_enter Try.func55, Try.ntmps55
  go_wp2_with fail
  refine (known3_any code _).mono ?_
  rintro e w1 ⟨rfl, rfl⟩
  rw [decide_eq_false hp]
  go_wp2_with fail
  go_ret
  exact RetI.of rfl (Ext.alloc _ _)
theorem refCheck_any (a : AskD) (s : AskS) (w : World) (hr : AskRd w a s) : Calls Try.prog 55 #[askV a s] w (RetI w (checkF a)) := by
  have h1 := hr.n1; have h2 := hr.n2; have h3 := hr.n3
  have hpr := hr.parts
  by_cases hp : codeP a.code
  · have hm := fun W => many3_any a s W h1 h2 h3 hp
    have hf := fun W => field3_any a s W h1 h2 h3 hp
    obtain ⟨g1, g2, g3, g4, g5⟩ := check_steps hp (Iff.rfl : fieldP a ↔ fieldP a)
    have h0 : ¬ a.code = 20 → ¬ fieldP a → a.parts.length = 0 := by
      intro hc hn
      unfold fieldP at hn
      have : ¬ (a.code ≠ 20 ∧ 0 < a.parts.length) := fun h => hn (.inr (.inr (.inr (.inl h))))
      omega
    have h35 : a.code = 20 → (mostF a.code = 35 ∧ manyF a = (s.n3 : Int)) := by
      intro hc
      refine ⟨by rw [hc]; rfl, ?_⟩
      unfold manyF isCnt isOn isSet
      rw [hc, ← h3]; rfl
    have nf : decide (fieldP a) = false → ¬ fieldP a := fun h => by simpa using h
    refine refCheck_row _ _ _ _ _ _ _ _ _ _ _ _ _ _ _ _ a.parts w hpr hp hf hm (fun W => most3_any _ W) (shape_kind hp).2.1 h35 (fun h => g1 (by simpa using h)) (fun h => g2 (nf h)) (fun h => g3 (nf h))
      (fun h a b c d => g4 (nf h) a b ⟨c, d⟩) (fun h a b c d => (g5 (nf h) a b (fun x => d x.2)).trans (parts_len0 (h0 c (nf h)))) (fun h a b c => g5 (nf h) a b (fun x => x.1 c))
  · rw [checkF_code hp]
    exact refCheck_code _ _ _ _ _ _ _ _ _ _ _ _ w hp
theorem refWrites_any (a : AskD) (s : AskS) (w : World) : Calls Try.prog 119 #[askV a s] w (RetQ w (writesF a.code)) := by
  obtain ⟨code, addr, count, on, set, parts⟩ := a
  obtain ⟨A1, n1, c1, A2, n2, c2, A3, n3, c3⟩ := s
  show Calls _ _ #[.agg #[.int .i64 code, .int .i64 addr, .int .i64 count, .slice A1 n1 c1, .slice A2 n2 c2, .slice A3 n3 c3]] _ (RetQ w (writesF code))
  obtain ⟨K, hK⟩ : ∃ K, writesF code = K := ⟨_, rfl⟩
  rw [hK]
  have HK : Hid (K = (code == 5 || code == 6 || code == 15 || code == 16)) := by
    subst hK; show _ = _; rw [Bool.eq_iff_iff]; unfold writesF isOn isSet; simp; omega
  clear hK
  go_enter Try.func119, Try.ntmps119
  go_wp2_with fail
  all_goals
    go_ret
    exact RetQ.of (HK.out.trans (by simp [*])) (Ext.alloc _ _)
end Go.Proofs.Ytpjmhckdeeonbaa
