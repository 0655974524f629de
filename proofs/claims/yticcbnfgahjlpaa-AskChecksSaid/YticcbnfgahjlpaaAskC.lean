/- The walk of AskChecks: for every input true. -/
import Derived.Test.YticcbnfgahjlpaaAskN
import Derived.Test.YticcbnfgahjlpaaAskL
import Derived.Test.YticcbnfgahjlpaaAskRP3
import Derived.Deep.RegionHeld3
namespace Go.Proofs.Yticcbnfgahjlpaa
set_option linter.unusedVariables false
set_option linter.unusedSimpArgs false
set_option maxRecDepth 100000
set_option maxHeartbeats 2000000
open Go Go.RowKit Go.Out

theorem lawAskChecks (a : AskD) (s : AskS) (w : World) (hr : AskRd w a s) : Calls Try.prog 9 #[askV a s] w (RetQ w true) := by
  have e1 := hr.n1; have e2 := hr.n2; have e3 := hr.n3
  have HL := Lib.hid (fun W => longAsk_any a s W)
  by_cases hbig : 70000 < s.n1 ∨ 70000 < s.n2 ∨ 70000 < s.n3
  · rw [decide_eq_true hbig] at HL
    clear hr hbig e1 e2 e3
    obtain ⟨code, addr, count, on, set, parts⟩ := a
    obtain ⟨A1, n1, c1, A2, n2, c2, A3, n3, c3⟩ := s
    simp only [askV] at HL ⊢
    go_enter Try.func9, Try.ntmps9
    go_wp2_with fail
    refine (HL.out _).mono ?_
    rintro e w1 ⟨rfl, hx1⟩
    go_wp2_with fail
    refine (known_any _).mono ?_
    rintro e w2 ⟨rfl, hx2⟩
    go_wp2_with fail
    go_ret
    exact ⟨rfl, (Ext.alloc _ _).trans (hx1.trans hx2)⟩
  · rw [decide_eq_false hbig] at HL
    have b1 : s.n1 ≤ 70000 := by omega
    have b2 : s.n2 ≤ 70000 := by omega
    have b3 : s.n3 ≤ 70000 := by omega
    have HLN := Lib.hid (fun (W : World) (hX : Ext w W) => lentAsk_any a s W (hr.ext hX) b1 b2 b3)
    have HLR := Lib.hid (fun (W : World) (base : Nat) (t : AskS) (h : AskLent W base a s t) => h.rd hr b1 b2 b3)
    have HCK := Lib.hid (fun (W : World) (t : AskS) (h : AskRd W a t) => check_any a t W h)
    have HP := Lib.hid (fun (W : World) (t : AskS) (h : AskRd W a t) => askPut_any a t W h)
    have HP3 := Lib.hid (fun (W : World) (hX : Ext w W) => ref3Put_any a s W (hr.ext hX))
    have HW := Lib.hid (fun (W : World) (t : AskS) => writes_any a t W)
    have HW3 := Lib.hid (fun (W : World) => refWrites_any a s W)
    have HC3 := Lib.hid (fun (W : World) (hX : Ext w W) => refCheck_any a s W (hr.ext hX))
    have HKP := Lib.hid (fun (W : World) (base : Nat) (t : AskS) (hX : Ext w W) (h : AskLent W base a s t) => keptAsk_any a s t base W (hr.ext hX) h b1 b2 b3)
    have hlen : (putA a).1.length ≤ 300 := by
      by_cases hK : checkF a = 0
      · have := (getA_put hK).2.2; omega
      · rw [putA_no hK]; simp
    generalize checkF a = K at *
    generalize writesF a.code = V at *
    generalize putA a = PP at *
    obtain ⟨xs, E⟩ := PP
    simp only at HP HP3 hlen
    clear hr hbig e1 e2 e3
    obtain ⟨code, addr, count, on, set, parts⟩ := a
    obtain ⟨A1, n1, c1, A2, n2, c2, A3, n3, c3⟩ := s
    simp only [askV] at HL HLN HCK HP HP3 HW HW3 HC3 HKP ⊢
    go_enter Try.func9, Try.ntmps9
    go_wp2_with fail
    refine (HL.out _).mono ?_
    rintro e w1 ⟨rfl, hx1⟩
    obtain ⟨d0, d1, d2, d3, d4, d5⟩ := ask_cells _ hx1
    have Y1 := Lib.hid hx1
    have X1 := Lib.hid ((Ext.alloc _ _).trans hx1)
    clear hx1
    go_wp2_with fail
    refine (HLN.out _ X1.out).mono ?_
    rintro e w2 ⟨t, rfl, hlent, hx2⟩
    have HLT := Lib.hid hlent
    have HRT := Lib.hid (HLR.out _ _ _ hlent)
    have Y2 := Lib.hid (Y1.out.trans hx2)
    have X2 := Lib.hid (X1.out.trans hx2)
    clear hlent hx2 d0 d1 d2 d3 d4 d5
    obtain ⟨B1, m1, k1, B2, m2, k2, B3, m3, k3⟩ := t
    simp only
    go_wp2_with fail
    refine (HCK.out _ ⟨B1, m1, k1, B2, m2, k2, B3, m3, k3⟩ (HRT.out.ext (Ext.alloc _ _))).mono ?_
    rintro e w3 ⟨rfl, hx3⟩
    obtain ⟨f0, f1, f2, f3, f4, f5⟩ := ask_cells _ hx3
    have Z3 := Lib.hid hx3
    clear hx3
    go_wp2_with fail
    refine (HP.out _ ⟨B1, m1, k1, B2, m2, k2, B3, m3, k3⟩ (HRT.out.ext ((Ext.alloc _ _).trans Z3.out))).mono ?_
    rintro e w4 ⟨P1, n, k, rfl, ho, hx4⟩
    obtain rfl : xs.length = n := by have := ho.len; simpa using this
    have HO := Lib.hid ho
    have Z4 := Lib.hid (Z3.out.trans hx4)
    clear ho hx4 f0 f1 f2 f3 f4 f5
    obtain ⟨d0, d1, d2, d3, d4, d5⟩ := ask_cells _ (Y2.out.trans ((Ext.alloc _ _).trans Z4.out))
    go_wp2_with fail
    refine (HP3.out _ (X2.out.trans ((Ext.alloc _ _).trans Z4.out))).mono ?_
    rintro e w5 ⟨P2, n', k', rfl, ho, hx5⟩
    obtain rfl : xs.length = n' := by have := ho.len; simpa using this
    have HO2 := Lib.hid ho
    have HO1 := Lib.hid (HO.out.ext hx5)
    have Z5 := Lib.hid (Z4.out.trans hx5)
    clear ho hx5 d0 d1 d2 d3 d4 d5
    obtain ⟨d0, d1, d2, d3, d4, d5⟩ := ask_cells _ (Y2.out.trans ((Ext.alloc _ _).trans Z5.out))
    obtain ⟨f0, f1, f2, f3, f4, f5⟩ := ask_cells _ Z5.out
    have HSS : Hid (∀ W, Ext w5 W → (W.cell? ⟨w.heap.size, 0, none⟩ = some (.int .i64 code) ∧ W.cell? ⟨w.heap.size, 1, none⟩ = some (.int .i64 addr) ∧ W.cell? ⟨w.heap.size, 2, none⟩ = some (.int .i64 count) ∧ W.cell? ⟨w.heap.size, 3, none⟩ = some (.slice A1 n1 c1) ∧ W.cell? ⟨w.heap.size, 4, none⟩ = some (.slice A2 n2 c2) ∧ W.cell? ⟨w.heap.size, 5, none⟩ = some (.slice A3 n3 c3)) ∧
        (W.cell? ⟨w2.heap.size, 0, none⟩ = some (.int .i64 code) ∧ W.cell? ⟨w2.heap.size, 1, none⟩ = some (.int .i64 addr) ∧ W.cell? ⟨w2.heap.size, 2, none⟩ = some (.int .i64 count) ∧ W.cell? ⟨w2.heap.size, 3, none⟩ = some (.slice B1 m1 k1) ∧ W.cell? ⟨w2.heap.size, 4, none⟩ = some (.slice B2 m2 k2) ∧ W.cell? ⟨w2.heap.size, 5, none⟩ = some (.slice B3 m3 k3))) :=
      fun W hX => ⟨ask_cells _ (Y2.out.trans ((Ext.alloc _ _).trans (Z5.out.trans hX))), ask_cells _ (Z5.out.trans hX)⟩
    have hz1 : w.heap.size < w5.heap.size := by have := (Y2.out.trans ((Ext.alloc _ _).trans Z5.out)).size; simp at this; omega
    have hz2 : w2.heap.size < w5.heap.size := by have := Z5.out.size; simp at this; omega
    go_wp2_with fail
    go_region_held3 (fun W => (W.cell? ⟨w.heap.size, 0, none⟩ = some (.int .i64 code) ∧ W.cell? ⟨w.heap.size, 1, none⟩ = some (.int .i64 addr) ∧ W.cell? ⟨w.heap.size, 2, none⟩ = some (.int .i64 count) ∧ W.cell? ⟨w.heap.size, 3, none⟩ = some (.slice A1 n1 c1) ∧ W.cell? ⟨w.heap.size, 4, none⟩ = some (.slice A2 n2 c2) ∧ W.cell? ⟨w.heap.size, 5, none⟩ = some (.slice A3 n3 c3)) ∧
        (W.cell? ⟨w2.heap.size, 0, none⟩ = some (.int .i64 code) ∧ W.cell? ⟨w2.heap.size, 1, none⟩ = some (.int .i64 addr) ∧ W.cell? ⟨w2.heap.size, 2, none⟩ = some (.int .i64 count) ∧ W.cell? ⟨w2.heap.size, 3, none⟩ = some (.slice B1 m1 k1) ∧ W.cell? ⟨w2.heap.size, 4, none⟩ = some (.slice B2 m2 k2) ∧ W.cell? ⟨w2.heap.size, 5, none⟩ = some (.slice B3 m3 k3))) (first | go_keep | exact HSS.out _ X6.out | exact HSS.out _ X7.out) ((first
      | (go_at_call 28
         with_reducible refine Calls.mono (HW.out _ ⟨B1, m1, k1, B2, m2, k2, B3, m3, k3⟩) ?_
         rintro e w6 ⟨rfl, hx6⟩
         have X6 := Lib.hid ((Ext.draw w5).trans hx6)
         clear hx6)
      | (go_at_call 29
         with_reducible refine Calls.mono (HW3.out _) ?_
         rintro e w7 ⟨rfl, hx7⟩
         have X7 := Lib.hid (X6.out.trans hx7)
         clear hx7)))
    clear d0 d1 d2 d3 d4 d5 f0 f1 f2 f3 f4 f5
    obtain ⟨⟨d0, d1, d2, d3, d4, d5⟩, f0, f1, f2, f3, f4, f5⟩ := HSS.out _ X7.out
    go_wp2_with fail
    have Z7 := Lib.hid (Z5.out.trans X7.out)
    refine (HC3.out _ (X2.out.trans ((Ext.alloc _ _).trans Z7.out))).mono ?_
    rintro e w8 ⟨rfl, hx8⟩
    clear d0 d1 d2 d3 d4 d5 f0 f1 f2 f3 f4 f5
    have X8 := Lib.hid (X7.out.trans hx8)
    clear hx8
    go_wp2_with fail
    refine (same_any xs xs _ _ _ _ _ _ _ (HO1.out.rd.ext X8.out) (HO2.out.rd.ext X8.out) (by unfold maxLen; omega)).mono ?_
    rintro e w9 ⟨rfl, hb9⟩
    rw [decide_eq_true rfl]
    have X9 := Lib.hid (X8.out.trans (Ext.of hb9))
    clear hb9
    obtain ⟨⟨d0, d1, d2, d3, d4, d5⟩, f0, f1, f2, f3, f4, f5⟩ := HSS.out _ X9.out
    have Z9 := Lib.hid ((Ext.alloc w2 _).trans (Z5.out.trans X9.out))
    go_wp2_with fail
    refine (HKP.out _ _ ⟨B1, m1, k1, B2, m2, k2, B3, m3, k3⟩ (X2.out.trans Z9.out) (HLT.out.ext Z9.out)).mono ?_
    rintro e w10 ⟨rfl, hx10⟩
    go_wp2_with fail
    go_ret
    exact ⟨rfl, X2.out.trans (Z9.out.trans hx10)⟩
end Go.Proofs.Yticcbnfgahjlpaa
