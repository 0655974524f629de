/- The walk of AskOnly: for every input true. -/
import Derived.Test.YticcbnfgahjlpaaAskN
namespace Go.Proofs.Yticcbnfgahjlpaa
set_option linter.unusedVariables false
set_option linter.unusedSimpArgs false
set_option maxRecDepth 100000
set_option maxHeartbeats 1000000
open Go Go.RowKit Go.Out

theorem lawAskOnly (b : List UInt8) (A : Option Addr) (m c : Nat) (w : World) (hr : Rd w A m (b.map cB)) (hc : m ≤ c) (hm : c ≤ 9223372036854775807) (hb : c * 1 ≤ 140737488351232) : Calls Try.prog 5 #[.slice A m c] w (RetQ w true) := by
  have HG := Lib.hid (askGet_any b A m c w hr hc hm (by omega))
  have HRD := Lib.hid hr
  have HB := Lib.hid (show m ≤ 140737488351232 by omega)
  by_cases hK : (getA b).2 = 0
  · obtain ⟨-, -, -, -, hck⟩ := getA_zero hK
    have hput := putA_get hK
    have HP := Lib.hid (fun W t (h : AskRd W (getA b).1 t) => askPut_any (getA b).1 t W h)
    have HC := Lib.hid (fun W t (h : AskRd W (getA b).1 t) => check_any (getA b).1 t W h)
    rw [hput] at HP
    rw [hck] at HC
    generalize getA b = r at *
    obtain ⟨a, E⟩ := r
    simp only at hK HP HC
    subst hK
    clear hck hput hr hc hm hb
    go_enter Try.func5, Try.ntmps5
    go_wp2_with fail
    refine (HG.out).mono ?_
    rintro e w1 ⟨⟨B1, m1, k1, B2, m2, k2, B3, m3, k3⟩, rfl, hw, hx1⟩
    have HP2 := Lib.hid (fun W (hX : Ext w1 W) => HP.out W ⟨B1, m1, k1, B2, m2, k2, B3, m3, k3⟩ (hw.rd.ext hX))
    have HC2 := Lib.hid (fun W (hX : Ext w1 W) => HC.out W ⟨B1, m1, k1, B2, m2, k2, B3, m3, k3⟩ (hw.rd.ext hX))
    obtain ⟨code, addr, count, on, set, parts⟩ := a
    simp only [askV] at HP2 HC2 ⊢
    have X1 := Lib.hid hx1
    clear hw hx1 HG HP HC
    go_wp2_with fail
    refine (HP2.out _ (Ext.alloc _ _)).mono ?_
    rintro e w2 ⟨P1, n, k, rfl, ho, hx2⟩
    have HO := Lib.hid ho
    have Y2 := Lib.hid hx2
    obtain ⟨d0, d1, d2, d3, d4, d5⟩ := ask_cells _ hx2
    clear ho hx2
    go_wp2_with fail
    refine (HC2.out _ ((Ext.alloc _ _).trans Y2.out)).mono ?_
    rintro e w3 ⟨rfl, hx3⟩
    have X3 := Lib.hid (X1.out.trans ((Ext.alloc _ _).trans (Y2.out.trans hx3)))
    have HO3 := Lib.hid (HO.out.ext hx3)
    clear hx3 d0 d1 d2 d3 d4 d5
    go_wp2_with fail
    refine (same_any b b _ _ _ _ _ _ _ (HRD.out.ext X3.out) HO3.out.rd (by have := HB.out; unfold maxLen; omega)).mono ?_
    rintro e w4 ⟨rfl, hb4⟩
    rw [decide_eq_true rfl]
    have X4 := Lib.hid (X3.out.trans (Ext.of hb4))
    clear hb4
    go_wp2_with fail
    refine (known_any _).mono ?_
    rintro e w6 ⟨rfl, hx6⟩
    go_wp2_with fail
    go_ret
    exact ⟨rfl, X4.out.trans hx6⟩
  · have h0 := getA_err hK
    generalize getA b = r at *
    obtain ⟨a, E⟩ := r
    simp only at hK h0
    subst h0
    have hne : (E != 0) = true := by simpa using hK
    clear hr hc hm hb
    go_enter Try.func5, Try.ntmps5
    go_wp2_with fail
    refine (HG.out).mono ?_
    rintro e w1 ⟨⟨B1, m1, k1, B2, m2, k2, B3, m3, k3⟩, rfl, hw, hx1⟩
    have HR := Lib.hid hw.rd
    have i0 : i64P 0 := by unfold i64P; omega
    have HSM := Lib.hid (fun W (hX : Ext w1 W) => sameAsk_eq ask0 ⟨B1, m1, k1, B2, m2, k2, B3, m3, k3⟩ askS0 W (HR.out.ext hX) (askRd0 _ _ _ _ i0 i0 i0) (by have := HR.out.n1; simp [ask0] at this ⊢; omega) (by have := HR.out.n2; simp [ask0] at this ⊢; omega) (by have := HR.out.n3; simp [ask0] at this ⊢; omega))
    have X1 := Lib.hid hx1
    clear hw hx1 HG
    simp only [askV, ask0, askS0] at HSM ⊢
    go_wp2_with fail
    refine (HSM.out _ (Ext.alloc _ _)).mono ?_
    rintro e w2 ⟨rfl, hx2⟩
    have X2 := Lib.hid (X1.out.trans ((Ext.alloc _ _).trans hx2))
    clear hx2
    go_wp2_with fail
    refine (known_any _).mono ?_
    rintro e w6 ⟨rfl, hx6⟩
    go_wp2_with fail
    go_ret
    exact ⟨rfl, X2.out.trans hx6⟩
end Go.Proofs.Yticcbnfgahjlpaa
