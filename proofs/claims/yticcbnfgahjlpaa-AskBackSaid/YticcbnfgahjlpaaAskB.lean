/- The walk of AskBack: for every input true. -/
import Derived.Test.YticcbnfgahjlpaaAskN
namespace Go.Proofs.Yticcbnfgahjlpaa
set_option linter.unusedVariables false
set_option linter.unusedSimpArgs false
set_option maxRecDepth 100000
set_option maxHeartbeats 1000000
open Go Go.RowKit Go.Out

theorem lawAskBack (a : AskD) (s : AskS) (w : World) (hr : AskRd w a s) : Calls Try.prog 4 #[askV a s] w (RetQ w true) := by
  have e1 := hr.n1; have e2 := hr.n2; have e3 := hr.n3
  have hl1 := hr.cap1; have hl2 := hr.cap2; have hl3 := hr.cap3
  have HL := Lib.hid (fun W => longAsk_any a s W)
  have HC := Lib.hid (fun W (hX : Ext w W) => check_any a s W (hr.ext hX))
  have HP := Lib.hid (fun W (hX : Ext w W) => askPut_any a s W (hr.ext hX))
  have HRD := Lib.hid hr
  by_cases hbig : 70000 < s.n1 ∨ 70000 < s.n2 ∨ 70000 < s.n3
  · rw [decide_eq_true hbig] at HL
    clear hr hbig e1 e2 e3
    obtain ⟨code, addr, count, on, set, parts⟩ := a
    obtain ⟨A1, n1, c1, A2, n2, c2, A3, n3, c3⟩ := s
    simp only [askV] at HL ⊢
    go_enter Try.func4, Try.ntmps4
    go_wp2_with fail
    refine (HL.out _).mono ?_
    rintro e w1 ⟨rfl, hx1⟩
    go_wp2_with fail
    refine (known_any _).mono ?_
    rintro e w2 ⟨rfl, hx2⟩
    go_wp2_with fail
    go_ret
    exact ⟨rfl, (Ext.alloc _ _).trans (hx1.trans hx2)⟩
  · rw [decide_eq_false hbig] at HL
    have hn3 : s.n3 ≤ 4398046511104 := by omega
    by_cases hK : checkF a = 0
    · obtain ⟨h1, h2, h3⟩ := getA_put hK
      have hp2 : (putA a).2 = 0 := by rw [putA_ok hK]
      rw [hK] at HC
      rw [hp2] at HP
      generalize (putA a).1 = xs at *
      have HG := Lib.hid h1
      have hsame := fun (W : World) (t : AskS) (h : Ext w W) (h' : AskRd W a t) => sameAsk_eq a s t W (hr.ext h) h' (by omega) (by omega) hn3
      have HSM := Lib.hid hsame
      clear hr hbig e1 e2 e3 hsame hn3 hp2 hK h1
      obtain ⟨code, addr, count, on, set, parts⟩ := a
      obtain ⟨A1, n1, c1, A2, n2, c2, A3, n3, c3⟩ := s
      simp only [askV] at HL HC HP HSM ⊢
      go_enter Try.func4, Try.ntmps4
      go_wp2_with fail
      refine (HL.out _).mono ?_
      rintro e w1 ⟨rfl, hx1⟩
      obtain ⟨d0, d1, d2, d3, d4, d5⟩ := ask_cells _ hx1
      have Y1 := Lib.hid hx1
      have X1 := Lib.hid ((Ext.alloc _ _).trans hx1)
      clear hx1
      go_wp2_with fail
      refine (HC.out _ X1.out).mono ?_
      rintro e w2 ⟨rfl, hx2⟩
      clear d0 d1 d2 d3 d4 d5
      obtain ⟨d0, d1, d2, d3, d4, d5⟩ := ask_cells _ (Y1.out.trans hx2)
      have Y2 := Lib.hid (Y1.out.trans hx2)
      have X2 := Lib.hid (X1.out.trans hx2)
      clear hx2
      go_wp2_with fail
      refine (HP.out _ X2.out).mono ?_
      rintro e w3 ⟨P1, n, c, rfl, ho, hx3⟩
      obtain rfl : xs.length = n := by have := ho.len; simpa using this
      have HO := Lib.hid ho
      have Y3 := Lib.hid (Y2.out.trans hx3)
      have X3 := Lib.hid (X2.out.trans hx3)
      clear ho hx3 d0 d1 d2 d3 d4 d5
      go_wp2_with fail
      refine (askGet_any xs _ _ _ _ HO.out.rd HO.out.cap HO.out.capLe (by omega)).mono ?_
      rw [HG.out]
      rintro e w4 ⟨⟨B1, m1, k1, B2, m2, k2, B3, m3, k3⟩, rfl, hw, hx4⟩
      have HR := Lib.hid hw.rd
      have Y4 := Lib.hid (Y3.out.trans hx4)
      have X4 := Lib.hid (X3.out.trans hx4)
      have D := fun o : Obj => ask_cells _ (Y4.out.trans (Ext.alloc _ o))
      have d0 := fun o => (D o).1
      have d1 := fun o => (D o).2.1
      have d2 := fun o => (D o).2.2.1
      have d3 := fun o => (D o).2.2.2.1
      have d4 := fun o => (D o).2.2.2.2.1
      have d5 := fun o => (D o).2.2.2.2.2
      clear hw hx4 D
      simp only [askV]
      go_wp2_with fail
      refine (HSM.out _ ⟨B1, m1, k1, B2, m2, k2, B3, m3, k3⟩ (X4.out.trans (Ext.alloc _ _)) (HR.out.ext (Ext.alloc _ _))).mono ?_
      rintro e w5 ⟨rfl, hx5⟩
      have X5 := Lib.hid (X4.out.trans ((Ext.alloc _ _).trans hx5))
      clear hx5
      go_wp2_with fail
      refine (known_any _).mono ?_
      rintro e w6 ⟨rfl, hx6⟩
      go_wp2_with fail
      go_ret
      exact ⟨rfl, X5.out.trans hx6⟩
    · rw [putA_no hK] at HP
      obtain ⟨K, hK2⟩ : ∃ K, checkF a = K := ⟨_, rfl⟩
      rw [hK2] at HC HP hK
      have hne : (K != 0) = true := by simpa using hK
      simp only at HP
      clear hr hbig e1 e2 e3 hn3 hK2
      obtain ⟨code, addr, count, on, set, parts⟩ := a
      obtain ⟨A1, n1, c1, A2, n2, c2, A3, n3, c3⟩ := s
      simp only [askV] at HL HC HP ⊢
      go_enter Try.func4, Try.ntmps4
      go_wp2_with fail
      refine (HL.out _).mono ?_
      rintro e w1 ⟨rfl, hx1⟩
      obtain ⟨d0, d1, d2, d3, d4, d5⟩ := ask_cells _ hx1
      have Y1 := Lib.hid hx1
      have X1 := Lib.hid ((Ext.alloc _ _).trans hx1)
      clear hx1
      go_wp2_with fail
      refine (HC.out _ X1.out).mono ?_
      rintro e w2 ⟨rfl, hx2⟩
      clear d0 d1 d2 d3 d4 d5
      obtain ⟨d0, d1, d2, d3, d4, d5⟩ := ask_cells _ (Y1.out.trans hx2)
      have X2 := Lib.hid (X1.out.trans hx2)
      clear hx2
      go_wp2_with fail
      refine (HP.out _ X2.out).mono ?_
      rintro e w3 ⟨P1, n, c, rfl, ho, hx3⟩
      obtain rfl : 0 = n := by have := ho.len; simpa using this
      have X3 := Lib.hid (X2.out.trans hx3)
      clear ho hx3 d0 d1 d2 d3 d4 d5
      go_wp2_with fail
      refine (known_any _).mono ?_
      rintro e w6 ⟨rfl, hx6⟩
      go_wp2_with fail
      go_ret
      exact ⟨rfl, X3.out.trans hx6⟩
end Go.Proofs.Yticcbnfgahjlpaa
