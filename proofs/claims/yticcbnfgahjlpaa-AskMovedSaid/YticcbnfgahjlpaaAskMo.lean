/- The walk of AskMoved: for every input true. -/
import Derived.Test.YticcbnfgahjlpaaAskM
namespace Go.Proofs.Yticcbnfgahjlpaa
set_option linter.unusedVariables false
set_option linter.unusedSimpArgs false
set_option maxRecDepth 100000
set_option maxHeartbeats 1000000
open Go Go.RowKit Go.Out

theorem lawAskMoved (a : AskD) (s : AskS) (to : Int) (w : World) (hr : AskRd w a s) (wf : (Lit.int .i64 to).wf = true) : Calls Try.prog 7 #[askV a s, .int .i64 to] w (RetQ w true) := by
  have e1 := hr.n1; have e2 := hr.n2; have e3 := hr.n3
  have hl1 := hr.cap1; have hl2 := hr.cap2; have hl3 := hr.cap3
  have hto := bounds_i64 wf
  have HL := Lib.hid (fun W => longAsk_any a s W)
  have HC := Lib.hid (fun W (hX : Ext w W) => check_any a s W (hr.ext hX))
  clear wf
  by_cases hbig : 70000 < s.n1 ∨ 70000 < s.n2 ∨ 70000 < s.n3
  · rw [decide_eq_true hbig] at HL
    clear hr hbig e1 e2 e3
    obtain ⟨code, addr, count, on, set, parts⟩ := a
    obtain ⟨A1, n1, c1, A2, n2, c2, A3, n3, c3⟩ := s
    simp only [askV] at HL ⊢
    go_enter Try.func7, Try.ntmps7
    go_wp2_with fail
    refine (HL.out _).mono ?_
    rintro e w1 ⟨rfl, hx1⟩
    go_wp2_with fail
    refine (known_any _).mono ?_
    rintro e w2 ⟨rfl, hx2⟩
    go_wp2_with fail
    go_ret
    exact ⟨rfl, (Ext.alloc _ _).trans (hx1.trans hx2)⟩
  · rw [decide_eq_false hbig] at HL
    by_cases h20 : a.code = 20
    · have hc20 : (a.code == 20) = true := by simpa using h20
      clear hr hbig e1 e2 e3 HC h20
      obtain ⟨code, addr, count, on, set, parts⟩ := a
      obtain ⟨A1, n1, c1, A2, n2, c2, A3, n3, c3⟩ := s
      simp only [askV] at HL hc20 ⊢
      go_enter Try.func7, Try.ntmps7
      go_wp2_with fail
      refine (HL.out _).mono ?_
      rintro e w1 ⟨rfl, hx1⟩
      obtain ⟨d0, d1, d2, d3, d4, d5⟩ := ask_cells _ hx1
      have X1 := Lib.hid ((Ext.alloc _ _).trans hx1)
      clear hx1
      go_wp2_with fail
      refine (known_any _).mono ?_
      rintro e w2 ⟨rfl, hx2⟩
      go_wp2_with fail
      go_ret
      exact ⟨rfl, X1.out.trans hx2⟩
    · have hc20 : (a.code == 20) = false := by simpa using h20
      by_cases hK : checkF a = 0
      · obtain ⟨hm1, hm2, hm3⟩ := checkF_moved hK h20 to
        have hp0 : a.parts = [] := by
          rcases Go.Out.ask_cases hK with ⟨c, A, n, g1, g2, g3, g4, g5, rfl⟩ | ⟨A, x, g3, rfl⟩ | ⟨A, v, g3, rfl⟩ | ⟨A, l, g3, g4, g5, rfl⟩ | ⟨A, l, g3, g4, g5, rfl⟩ | ⟨l, g4, g5, g6, rfl⟩
          all_goals first | rfl | exact absurd rfl h20
        have hn30 : s.n3 = 0 := by rw [← e3, hp0]; rfl
        have hmo : manyF a ≤ 2000 := by
          have := (checkF_parts a hK).2.2.2.2.2.1
          have h2 : mostF a.code ≤ 2000 := by unfold mostF; repeat' split <;> omega
          omega
        rw [hK] at HC
        rw [e1, e2] at hm1
        have HCP := Lib.hid (fun (W : World) (hX : Ext w W) => copyAsk_any a s W (hr.ext hX) hn30 (by omega) (by omega))
        have HCK := Lib.hid (fun (W : World) (t : AskS) (h : AskRd W a t) => check_any { a with addr := to } t W ⟨h.on, h.set, h.parts, h.code, hto, h.count, h.cap1, h.cap2, h.cap3⟩)
        rw [hm3] at HCK
        generalize manyF a = N at *
        clear hr hbig e1 e2 e3 h20 hK hm3 hp0 hn30
        obtain ⟨code, addr, count, on, set, parts⟩ := a
        obtain ⟨A1, n1, c1, A2, n2, c2, A3, n3, c3⟩ := s
        simp only [askV] at HL HC HCP HCK hc20 hm1 ⊢
        have hcs : (count < n1 ∧ n2 ≤ n1 ∧ N = n1) ∨ (count < n1 ∧ ¬ n2 ≤ n1 ∧ N = n2) ∨ (¬ count < n1 ∧ (n2 : Int) ≤ count ∧ N = count) ∨ (¬ count < n1 ∧ ¬ (n2 : Int) ≤ count ∧ N = n2) := by omega
        clear hm1
        have hts : (to < 0 ∧ (to < 0 ∨ 65536 - N < to)) ∨ (¬ to < 0 ∧ 65536 - N < to ∧ (to < 0 ∨ 65536 - N < to)) ∨ (¬ to < 0 ∧ ¬ 65536 - N < to ∧ ¬ (to < 0 ∨ 65536 - N < to)) := by omega
        have hwN : IntKind.i64.wrap (65536 - N) = 65536 - N := IntWalk.i64_in _ (by omega)
        rcases hcs with ⟨q1, q2, rfl⟩ | ⟨q1, q2, rfl⟩ | ⟨q1, q2, rfl⟩ | ⟨q1, q2, rfl⟩
        all_goals
          rcases hts with ⟨t1, hR⟩ | ⟨t1, t2, hR⟩ | ⟨t1, t2, hR⟩
        all_goals
          first | rw [if_pos hR] at HCK | rw [if_neg hR] at HCK
          clear hR
          go_enter Try.func7, Try.ntmps7
          go_wp2_with fail
          refine (HL.out _).mono ?_
          rintro e w1 ⟨rfl, hx1⟩
          obtain ⟨d0, d1, d2, d3, d4, d5⟩ := ask_cells _ hx1
          have Y1 := Lib.hid hx1
          have X1 := Lib.hid ((Ext.alloc _ _).trans hx1)
          clear hx1
          go_wp2_with fail
          refine (HC.out _ X1.out).mono ?_
          rintro e w2 ⟨rfl, hx2⟩
          clear d0 d1 d2 d3 d4 d5
          obtain ⟨d0, d1, d2, d3, d4, d5⟩ := ask_cells _ (Y1.out.trans hx2)
          have X2 := Lib.hid (X1.out.trans hx2)
          clear hx2
          go_wp2_with fail
          refine (HCP.out _ X2.out).mono ?_
          rintro e w3 ⟨⟨B1, m1, k1, B2, m2, k2, B3, m3, k3⟩, rfl, hrd, hx3⟩
          have HRD := Lib.hid hrd
          have X3 := Lib.hid (X2.out.trans hx3)
          clear hrd hx3 d0 d1 d2 d3 d4 d5
          go_wp2_with fail
          refine (HCK.out _ ⟨B1, m1, k1, B2, m2, k2, B3, m3, k3⟩ (HRD.out.ext (Ext.alloc _ _))).mono ?_
          rintro e w4 ⟨rfl, hx4⟩
          have X4 := Lib.hid (X3.out.trans ((Ext.alloc _ _).trans hx4))
          clear hx4
          go_wp2_with fail
          refine (known_any _).mono ?_
          rintro e w5 ⟨rfl, hx5⟩
          go_wp2_with fail
          go_ret
          exact ⟨rfl, X4.out.trans hx5⟩
      · obtain ⟨K, hK2⟩ : ∃ K, checkF a = K := ⟨_, rfl⟩
        rw [hK2] at HC hK
        have hne : (K != 0) = true := by simpa using hK
        clear hr hbig e1 e2 e3 hK2 h20
        obtain ⟨code, addr, count, on, set, parts⟩ := a
        obtain ⟨A1, n1, c1, A2, n2, c2, A3, n3, c3⟩ := s
        simp only [askV] at HL HC hc20 ⊢
        go_enter Try.func7, Try.ntmps7
        go_wp2_with fail
        refine (HL.out _).mono ?_
        rintro e w1 ⟨rfl, hx1⟩
        obtain ⟨d0, d1, d2, d3, d4, d5⟩ := ask_cells _ hx1
        have X1 := Lib.hid ((Ext.alloc _ _).trans hx1)
        clear hx1
        go_wp2_with fail
        refine (HC.out _ X1.out).mono ?_
        rintro e w2 ⟨rfl, hx2⟩
        have X2 := Lib.hid (X1.out.trans hx2)
        clear hx2
        go_wp2_with fail
        refine (known_any _).mono ?_
        rintro e w6 ⟨rfl, hx6⟩
        go_wp2_with fail
        go_ret
        exact ⟨rfl, X2.out.trans hx6⟩
end Go.Proofs.Yticcbnfgahjlpaa
