/- The walk of AskEnds: for every input true. -/
import Derived.Test.YticcbnfgahjlpaaAskN
import Derived.Test.YticcbnfgahjlpaaPick
namespace Go.Proofs.Yticcbnfgahjlpaa
set_option linter.unusedVariables false
set_option linter.unusedSimpArgs false
set_option maxRecDepth 100000
set_option maxHeartbeats 1000000
open Go Go.RowKit Go.Out

theorem lawAskEnds (a : AskD) (s : AskS) (b : List UInt8) (A : Option Addr) (m c : Nat) (cut : Int) (w : World) (hr : AskRd w a s) (hb : Rd w A m (b.map cB)) (hc : m ≤ c) (hm : c ≤ 9223372036854775807) (hbc : c * 1 ≤ 140737488351232) (wf : (Lit.int .i64 cut).wf = true) :
    Calls Try.prog 6 #[askV a s, .slice A m c, .int .i64 cut] w (RetQ w true) := by
  have e1 := hr.n1; have e2 := hr.n2; have e3 := hr.n3
  have hl1 := hr.cap1; have hl2 := hr.cap2; have hl3 := hr.cap3
  have HL := Lib.hid (fun W => longAsk_any a s W)
  have HP := Lib.hid (fun W (hX : Ext w W) => askPut_any a s W (hr.ext hX))
  have HBR := Lib.hid hb
  clear wf
  by_cases hbig : (70000 < s.n1 ∨ 70000 < s.n2 ∨ 70000 < s.n3)
  · rw [decide_eq_true hbig] at HL
    clear hr hbig e1 e2 e3 hb
    obtain ⟨code, addr, count, on, set, parts⟩ := a
    obtain ⟨A1, n1, c1, A2, n2, c2, A3, n3, c3⟩ := s
    simp only [askV] at HL ⊢
    go_enter Try.func6, Try.ntmps6
    go_wp2_with fail
    refine (HL.out _).mono ?_
    rintro e w1 ⟨rfl, hx1⟩
    go_wp2_with fail
    refine (known_any _).mono ?_
    rintro e w2 ⟨rfl, hx2⟩
    go_wp2_with fail
    go_ret
    exact ⟨rfl, (Ext.alloc _ _).trans (hx1.trans hx2)⟩
  · rw [decide_eq_false hbig] at HL
    have hn3 : s.n3 ≤ 4398046511104 := by omega
    rcases Nat.lt_or_ge 65536 m with hmb | hmb
    · clear hr hbig e1 e2 e3 hb hn3
      obtain ⟨code, addr, count, on, set, parts⟩ := a
      obtain ⟨A1, n1, c1, A2, n2, c2, A3, n3, c3⟩ := s
      simp only [askV] at HL ⊢
      go_enter Try.func6, Try.ntmps6
      go_wp2_with fail
      refine (HL.out _).mono ?_
      rintro e w1 ⟨rfl, hx1⟩
      go_wp2_with fail
      refine (known_any _).mono ?_
      rintro e w2 ⟨rfl, hx2⟩
      go_wp2_with fail
      go_ret
      exact ⟨rfl, (Ext.alloc _ _).trans (hx1.trans hx2)⟩
    · by_cases hK : checkF a = 0
      · obtain ⟨h1, h2, h3⟩ := getA_put hK
        have hp2 : (putA a).2 = 0 := by rw [putA_ok hK]
        have hg0 : (getA (putA a).1).2 = 0 := by rw [h1]
        have HT := Lib.hid (fun k hk => getA_take (k := k) hg0 hk)
        have HM := Lib.hid (fun hm => getA_more b hg0 hm)
        rw [hp2] at HP
        have HG := Lib.hid h1
        generalize (putA a).1 = xs at *
        have hsame := fun (W : World) (t : AskS) (h : Ext w W) (h' : AskRd W a t) => sameAsk_eq a s t W (hr.ext h) h' (by omega) (by omega) hn3
        have HSM := Lib.hid hsame
        have hbl := hb.length
        have HBL := Lib.hid hbl
        clear hr hbig e1 e2 e3 hsame hn3 hp2 hK h1 hg0 hb hbl
        obtain ⟨code, addr, count, on, set, parts⟩ := a
        obtain ⟨A1, n1, c1, A2, n2, c2, A3, n3, c3⟩ := s
        simp only [askV] at HL HP HSM ⊢
        obtain ⟨N, hN⟩ : ∃ N, xs.length = N := ⟨_, rfl⟩
        rw [hN] at h2 h3
        have HN := Lib.hid hN; clear hN
        have i0 : i64P 0 := by unfold i64P; omega
        rcases Nat.eq_zero_or_pos m with hm0 | hm0
        · subst hm0
          have hxb : xs ++ b = xs := by rw [List.length_eq_zero_iff.1 HBL.out, List.append_nil]
          have HXB := Lib.hid hxb; clear hxb
          go_enter Try.func6, Try.ntmps6
          go_wp2_with fail
          refine (HL.out _).mono ?_
          rintro e w1 ⟨rfl, hx1⟩
          obtain ⟨d0, d1, d2, d3, d4, d5⟩ := ask_cells _ hx1
          have Y1 := Lib.hid hx1
          have X1 := Lib.hid ((Ext.alloc _ _).trans hx1)
          clear hx1
          go_wp2_with fail
          refine (HP.out _ X1.out).mono ?_
          rintro e w2 ⟨P1, n, k, rfl, ho, hx2⟩
          obtain rfl : n = N := by have h1 := ho.len; have h2 := HN.out; simp at h1; omega
          have HO := Lib.hid ho
          have Y2 := Lib.hid (Y1.out.trans hx2)
          have X2 := Lib.hid (X1.out.trans hx2)
          have hk := ho.cap
          have hk2 := ho.capLe
          clear ho hx2 d0 d1 d2 d3 d4 d5
          go_wp2_with fail
          refine (pick_any cut n _ (by omega) (by omega)).mono ?_
          rintro e w3 ⟨r, hrn, rfl, rfl⟩
          have hr2 : (r : Int) ≤ (k : Int) := by omega
          have HRT := Lib.hid (show Rd w2 P1 r ((xs.take r).map cB) by rw [List.map_take]; exact HO.out.rd.take (by omega))
          have HT2 := Lib.hid (HT.out r (by have := HN.out; omega))
          go_wp2_with fail
          refine (askGet_any (xs.take r) _ _ _ _ HRT.out (by omega) hk2 (by omega)).mono ?_
          rw [HT2.out]
          rintro e w4 ⟨⟨E1, f1, g1, E2, f2, g2, E3, f3, g3⟩, rfl, hw4, hx4⟩
          have X4 := Lib.hid (fun o => X2.out.trans (hx4.trans (Ext.alloc w4 o)))
          have Y4 := Lib.hid (fun o => Y2.out.trans (hx4.trans (Ext.alloc w4 o)))
          have Z4 := Lib.hid (fun o => hx4.trans (Ext.alloc w4 o))
          clear hw4 hx4
          simp only [askV, ask0]
          go_wp2_with fail
          refine (copy_any xs _ _ _ _ (HO.out.rd.ext (Z4.out _)) (by omega)).mono ?_
          rintro e w5 ⟨A5, c5, rfl, ho5, hb5⟩
          have HO5 := Lib.hid ho5
          have X5 := Lib.hid ((X4.out _).trans (Ext.of hb5))
          have Y5 := Lib.hid ((Y4.out _).trans (Ext.of hb5))
          have Z5 := Lib.hid (Ext.of hb5)
          clear ho5 hb5
          go_wp2_with (at_builtin
                       go_must (refine app_u8 _ rfl (.tmp 41) (.tmp 42) rfl rfl HO5.out rfl (HBR.out.ext X5.out) isU8_map (by omega) Z5.out.size ?_)
                       intro A6 c6 w6 hown hg hbk
                       rw [← List.map_append] at hown
                       have HO6 := Lib.hid hown
                       have X6 := Lib.hid (X5.out.grown' hg (fun g hg => Nat.le_trans (X4.out _).size (HO5.out.lt g hg).1))
                       have Y6 := Lib.hid (Y5.out.grown' hg (fun g hg => Nat.le_trans (Y4.out _).size (HO5.out.lt g hg).1))
                       clear hown hg hbk)
          refine (askGet_any (xs ++ b) _ _ _ _ HO6.out.rd HO6.out.cap HO6.out.capLe (by omega)).mono ?_
          rw [HXB.out, HG.out]
          rintro e w7 ⟨⟨E1, f1, g1, E2, f2, g2, E3, f3, g3⟩, rfl, hw7, hx7⟩
          have HR := Lib.hid hw7.rd
          have X7 := Lib.hid (fun o => X6.out.trans (hx7.trans (Ext.alloc w7 o)))
          have Y7 := Lib.hid (fun o => Y6.out.trans (hx7.trans (Ext.alloc w7 o)))
          clear hw7 hx7
          have D := fun o : Obj => ask_cells _ (Y7.out o)
          have d0 := fun o => (D o).1
          have d1 := fun o => (D o).2.1
          have d2 := fun o => (D o).2.2.1
          have d3 := fun o => (D o).2.2.2.1
          have d4 := fun o => (D o).2.2.2.2.1
          have d5 := fun o => (D o).2.2.2.2.2
          clear D
          simp only [askV, ask0]
          go_wp2_with fail
          refine (HSM.out _ ⟨E1, f1, g1, E2, f2, g2, E3, f3, g3⟩ (X7.out _) (HR.out.ext (Ext.alloc _ _))).mono ?_
          rintro e w8 ⟨rfl, hx8⟩
          have X8 := Lib.hid ((X7.out _).trans hx8)
          clear hx8
          go_wp2_with fail
          refine (known_any _).mono ?_
          rintro e w9 ⟨rfl, hx9⟩
          go_wp2_with fail
          go_ret
          exact ⟨rfl, X8.out.trans hx9⟩
        · have hm00 : ((m : Int) == 0) = false := by simp; omega
          have HM2 := Lib.hid (HM.out (by intro e; subst e; have := HBL.out; simp at this; omega))
          go_enter Try.func6, Try.ntmps6
          go_wp2_with fail
          refine (HL.out _).mono ?_
          rintro e w1 ⟨rfl, hx1⟩
          obtain ⟨d0, d1, d2, d3, d4, d5⟩ := ask_cells _ hx1
          have Y1 := Lib.hid hx1
          have X1 := Lib.hid ((Ext.alloc _ _).trans hx1)
          clear hx1
          go_wp2_with fail
          refine (HP.out _ X1.out).mono ?_
          rintro e w2 ⟨P1, n, k, rfl, ho, hx2⟩
          obtain rfl : n = N := by have h1 := ho.len; have h2 := HN.out; simp at h1; omega
          have HO := Lib.hid ho
          have Y2 := Lib.hid (Y1.out.trans hx2)
          have X2 := Lib.hid (X1.out.trans hx2)
          have hk := ho.cap
          have hk2 := ho.capLe
          clear ho hx2 d0 d1 d2 d3 d4 d5
          go_wp2_with fail
          refine (pick_any cut n _ (by omega) (by omega)).mono ?_
          rintro e w3 ⟨r, hrn, rfl, rfl⟩
          have hr2 : (r : Int) ≤ (k : Int) := by omega
          have HRT := Lib.hid (show Rd w2 P1 r ((xs.take r).map cB) by rw [List.map_take]; exact HO.out.rd.take (by omega))
          have HT2 := Lib.hid (HT.out r (by have := HN.out; omega))
          go_wp2_with fail
          refine (askGet_any (xs.take r) _ _ _ _ HRT.out (by omega) hk2 (by omega)).mono ?_
          rw [HT2.out]
          rintro e w4 ⟨⟨E1, f1, g1, E2, f2, g2, E3, f3, g3⟩, rfl, hw4, hx4⟩
          have X4 := Lib.hid (fun o => X2.out.trans (hx4.trans (Ext.alloc w4 o)))
          have Y4 := Lib.hid (fun o => Y2.out.trans (hx4.trans (Ext.alloc w4 o)))
          have Z4 := Lib.hid (fun o => hx4.trans (Ext.alloc w4 o))
          clear hw4 hx4
          simp only [askV, ask0]
          go_wp2_with fail
          refine (copy_any xs _ _ _ _ (HO.out.rd.ext (Z4.out _)) (by omega)).mono ?_
          rintro e w5 ⟨A5, c5, rfl, ho5, hb5⟩
          have HO5 := Lib.hid ho5
          have X5 := Lib.hid ((X4.out _).trans (Ext.of hb5))
          have Y5 := Lib.hid ((Y4.out _).trans (Ext.of hb5))
          have Z5 := Lib.hid (Ext.of hb5)
          clear ho5 hb5
          go_wp2_with (at_builtin
                       go_must (refine app_u8 _ rfl (.tmp 41) (.tmp 42) rfl rfl HO5.out rfl (HBR.out.ext X5.out) isU8_map (by omega) Z5.out.size ?_)
                       intro A6 c6 w6 hown hg hbk
                       rw [← List.map_append] at hown
                       have HO6 := Lib.hid hown
                       have X6 := Lib.hid (X5.out.grown' hg (fun g hg => Nat.le_trans (X4.out _).size (HO5.out.lt g hg).1))
                       have Y6 := Lib.hid (Y5.out.grown' hg (fun g hg => Nat.le_trans (Y4.out _).size (HO5.out.lt g hg).1))
                       clear hown hg hbk)
          refine (askGet_any (xs ++ b) _ _ _ _ HO6.out.rd HO6.out.cap HO6.out.capLe (by omega)).mono ?_
          rw [HM2.out]
          rintro e w7 ⟨⟨E1, f1, g1, E2, f2, g2, E3, f3, g3⟩, rfl, hw7, hx7⟩
          have HR := Lib.hid hw7.rd
          have X7 := Lib.hid (fun o => X6.out.trans (hx7.trans (Ext.alloc w7 o)))
          have Y7 := Lib.hid (fun o => Y6.out.trans (hx7.trans (Ext.alloc w7 o)))
          clear hw7 hx7
          have D := fun o : Obj => ask_cells _ (Y7.out o)
          have d0 := fun o => (D o).1
          have d1 := fun o => (D o).2.1
          have d2 := fun o => (D o).2.2.1
          have d3 := fun o => (D o).2.2.2.1
          have d4 := fun o => (D o).2.2.2.2.1
          have d5 := fun o => (D o).2.2.2.2.2
          clear D
          simp only [askV, ask0]
          go_wp2_with fail
          refine (sameAsk_eq ask0 ⟨E1, f1, g1, E2, f2, g2, E3, f3, g3⟩ askS0 _ (HR.out.ext (Ext.alloc _ _)) (askRd0 _ _ _ _ i0 i0 i0) (by have := HR.out.n1; simp [ask0] at this ⊢; omega) (by have := HR.out.n2; simp [ask0] at this ⊢; omega) (by have := HR.out.n3; simp [ask0] at this ⊢; omega)).mono ?_
          rintro e w8 ⟨rfl, hx8⟩
          have X8 := Lib.hid ((X7.out _).trans hx8)
          clear hx8
          go_wp2_with fail
          refine (known_any _).mono ?_
          rintro e w9 ⟨rfl, hx9⟩
          go_wp2_with fail
          go_ret
          exact ⟨rfl, X8.out.trans hx9⟩
      · rw [putA_no hK] at HP
        obtain ⟨K, hK2⟩ : ∃ K, checkF a = K := ⟨_, rfl⟩
        rw [hK2] at HP hK
        have hne : (K != 0) = true := by simpa using hK
        simp only at HP
        clear hr hbig e1 e2 e3 hn3 hK2 hb
        obtain ⟨code, addr, count, on, set, parts⟩ := a
        obtain ⟨A1, n1, c1, A2, n2, c2, A3, n3, c3⟩ := s
        simp only [askV] at HL HP ⊢
        go_enter Try.func6, Try.ntmps6
        go_wp2_with fail
        refine (HL.out _).mono ?_
        rintro e w1 ⟨rfl, hx1⟩
        obtain ⟨d0, d1, d2, d3, d4, d5⟩ := ask_cells _ hx1
        have X1 := Lib.hid ((Ext.alloc _ _).trans hx1)
        clear hx1
        go_wp2_with fail
        refine (HP.out _ X1.out).mono ?_
        rintro e w3 ⟨P1, n, k, rfl, ho, hx3⟩
        have X3 := Lib.hid (X1.out.trans hx3)
        clear ho hx3 d0 d1 d2 d3 d4 d5
        go_wp2_with fail
        refine (known_any _).mono ?_
        rintro e w6 ⟨rfl, hx6⟩
        go_wp2_with fail
        go_ret
        exact ⟨rfl, X3.out.trans hx6⟩
end Go.Proofs.Yticcbnfgahjlpaa
