/- Contracts of the requests: what is wrong with a request, by the reference. -/
import Derived.Test.YtjmddiffeffgnaaAsk6
namespace Go.Proofs.Ytjmddiffeffgnaa
set_option linter.unusedVariables false
set_option linter.unusedSimpArgs false
set_option maxRecDepth 100000
set_option maxHeartbeats 2000000
open Go Go.RowKit Go.Out

theorem refCheck_row (code addr count : Int) (A1 A2 A3 : Option Addr) (n1 c1 n2 c2 n3 c3 : Nat) (M N K : Int) (fb : Bool) (l : List PartD) (w : World) (hr : RdL partK w A3 n3 l) (hp : codeP code)
    (hfd : ∀ W : World, Calls Try.prog 135 #[.agg #[.int .i64 code, .int .i64 addr, .int .i64 count, .slice A1 n1 c1, .slice A2 n2 c2, .slice A3 n3 c3]] W (RetQ W fb))
    (hmn : ∀ W : World, Calls Try.prog 136 #[.agg #[.int .i64 code, .int .i64 addr, .int .i64 count, .slice A1 n1 c1, .slice A2 n2 c2, .slice A3 n3 c3]] W fun e w' => e = .returned (.int .i64 N) ∧ Ext W w')
    (hms : ∀ W : World, Calls Try.prog 137 #[.int .i64 code] W fun e w' => e = .returned (.int .i64 M) ∧ W = w')
    (hM : M ≤ 2000) (h35 : Hid (code = 20 → (M = 35 ∧ N = n3)))
    (f1 : Hid (fb = true → K = 23)) (f2 : Hid (fb = false → (addr < 0 ∨ 65535 < addr) → K = 21)) (f3 : Hid (fb = false → ¬ (addr < 0 ∨ 65535 < addr) → (N < 1 ∨ M < N) → K = 22))
    (f4 : Hid (fb = false → ¬ (addr < 0 ∨ 65535 < addr) → ¬ (N < 1 ∨ M < N) → ¬ code = 20 → 65536 < addr + N → K = 21)) (f5 : Hid (fb = false → ¬ (addr < 0 ∨ 65535 < addr) → ¬ (N < 1 ∨ M < N) → ¬ code = 20 → ¬ 65536 < addr + N → K = 0))
    (f6 : Hid (fb = false → ¬ (addr < 0 ∨ 65535 < addr) → ¬ (N < 1 ∨ M < N) → code = 20 → K = partsF l)) :
    Calls Try.prog 101 #[.agg #[.int .i64 code, .int .i64 addr, .int .i64 count, .slice A1 n1 c1, .slice A2 n2 c2, .slice A3 n3 c3]] w (RetI w K) := by
  have Hr := Lib.hid hr; clear hr
  cases fb
  · have g2 := Lib.hid (f2.out rfl); have g3 := Lib.hid (f3.out rfl); have g4 := Lib.hid (f4.out rfl); have g5 := Lib.hid (f5.out rfl); have g6 := Lib.hid (f6.out rfl)
    clear f1 f2 f3 f4 f5 f6
    go_enter Try.func101, Try.ntmps101
    go_wp2_with fail
    refine (known3_any code _).mono ?_
    rintro e w1 ⟨rfl, rfl⟩
    rw [decide_eq_true hp]
    go_wp2_with fail
    refine (hfd _).mono ?_
    rintro e w2 ⟨rfl, hb2⟩
    obtain ⟨d0, d1, d2, d3, d4, d5⟩ := ask_cells _ hb2
    have HX : Hid (Ext w w2) := Lib.hid ((Ext.alloc _ _).trans hb2)
    have HB := Lib.hid hb2; clear hb2
    go_wp2_with fail
    all_goals first
      | go_ret
        exact RetI.of (g2.out (by omega)) HX.out
      | skip
    refine (hmn _).mono ?_
    rintro e w3 ⟨rfl, hb3⟩
    obtain ⟨d0, d1, d2, d3, d4, d5⟩ := ask_cells _ (HB.out.trans hb3)
    have HY : Hid (Ext w w3) := Lib.hid (HX.out.trans hb3)
    clear hb3 HX HB g2
    rcases Int.lt_or_le N 1 with hN | hN
    · go_wp2_with fail
      go_ret
      exact RetI.of (g3.out (by omega) (by omega)) HY.out
    · have hd : decide (N < 1) = false := by simp; omega
      go_wp2_with fail
      refine (hms _).mono ?_
      rintro e w4 ⟨rfl, rfl⟩
      by_cases h20 : code = 20
      · subst h20
        obtain ⟨rfl, rfl⟩ := h35.out rfl
        go_wp2_with fail
        all_goals first
          | go_ret
            exact RetI.of (g3.out (by omega) (by omega)) HY.out
          | skip
        refine (parts3_any l A3 n3 c3 _ (Hr.out.ext HY.out) (by omega)).mono ?_
        rintro e w5 ⟨rfl, hx5⟩
        have HZ : Hid (Ext w w5) := Lib.hid (HY.out.trans hx5)
        have Hk := Lib.hid (g6.out (by omega) (by omega) (by first | rfl | trivial))
        clear hx5 g3 g4 g5 g6
        go_wp2_with fail
        go_ret
        exact RetI.of Hk.out HZ.out
      · have h20b : (code == 20) = false := by simpa using h20
        go_wp2_with fail
        all_goals
          go_ret
          first
            | exact RetI.of (g3.out (by omega) (by omega)) HY.out
            | exact RetI.of (g4.out (by omega) (by omega) h20 (by omega)) HY.out
            | exact RetI.of (g5.out (by omega) (by omega) h20 (by omega)) HY.out
  · have g1 := Lib.hid (f1.out rfl)
    clear f1 f2 f3 f4 f5 f6
    go_enter Try.func101, Try.ntmps101
    go_wp2_with fail
    refine (known3_any code _).mono ?_
    rintro e w1 ⟨rfl, rfl⟩
    rw [decide_eq_true hp]
    go_wp2_with fail
    refine (hfd _).mono ?_
    rintro e w2 ⟨rfl, hb2⟩
    have HX : Hid (Ext w w2) := Lib.hid ((Ext.alloc _ _).trans hb2)
    clear hb2
    go_wp2_with fail
    go_ret
    exact RetI.of g1.out HX.out
end Go.Proofs.Ytjmddiffeffgnaa
