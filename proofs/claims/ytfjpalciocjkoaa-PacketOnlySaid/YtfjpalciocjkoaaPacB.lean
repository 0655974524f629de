/- The walks of PacketBack and PacketOnly: for every input true. -/
import Derived.Test.YtfjpalciocjkoaaPac7
namespace Go.Proofs.Ytfjpalciocjkoaa
set_option linter.unusedVariables false
set_option linter.unusedSimpArgs false
set_option maxRecDepth 100000
set_option maxHeartbeats 2000000
open Go Go.RowKit Go.Out

theorem lawPacketBack (p : PacD) (A : Option Addr) (n c : Nat) (w : World) (hr : PacRd w p A n c) (_hb : c * 1 ≤ 140737488351232) : Calls Try.prog 5 #[pacV p A n c] w (RetQ w true) := by
  have HC := Lib.hid (fun W (hX : Ext w W) => pacCheck_any p A n c W (hr.ext hX))
  have HP := Lib.hid (fun W (hX : Ext w W) => pacPut_any p A n c W (hr.ext hX))
  clear _hb
  by_cases hK : checkP p = 0
  · obtain ⟨h1, h2, h3⟩ := getP_putP hK
    have hp2 : (putP p).2 = 0 := by rw [putP_ok hK]
    rw [hK] at HC
    rw [hp2] at HP
    have HSM := Lib.hid (fun (W : World) (B : Option Addr) (m cb : Nat) (hX : Ext w W) (hb : PacRd W p B m cb) => samePac_eq p A B n m c cb W (hr.ext hX) hb)
    generalize (putP p).1 = xs at *
    have HG := Lib.hid h1
    obtain ⟨N, hN⟩ : ∃ N, xs.length = N := ⟨_, rfl⟩
    rw [hN] at h2 h3
    have HN := Lib.hid hN
    clear hr hK hp2 h1 hN
    obtain ⟨kd, ep, sq, id, cd, l⟩ := p
    simp only [pacV] at HC HP HSM ⊢
    have q1 : (14 : Int) ≤ (N : Int) := by omega
    have q2 : (N : Int) ≤ 1045 := by omega
    go_enter Try.func5, Try.ntmps5
    go_wp2_with fail
    refine (HC.out _ (Ext.alloc _ _)).mono ?_
    rintro e w1 ⟨rfl, hx1⟩
    obtain ⟨d0, d1, d2, d3, d4, d5, -⟩ := box6 (hx1.block (heap_alloc_new w _))
    have Y1 := Lib.hid hx1
    have X1 := Lib.hid ((Ext.alloc _ _).trans hx1)
    clear hx1
    go_wp2_with fail
    refine (HP.out _ X1.out).mono ?_
    rintro e w2 ⟨P1, m, k, rfl, ho, hx2⟩
    obtain rfl : m = N := by have h1 := ho.len; have h2 := HN.out; simp at h1; omega
    have HO := Lib.hid ho
    have hk := ho.cap
    have hk2 := ho.capLe
    have Y2 := Lib.hid (Y1.out.trans hx2)
    have X2 := Lib.hid (X1.out.trans hx2)
    clear ho hx2 d0 d1 d2 d3 d4 d5
    go_wp2_with fail
    refine (pacGet_any xs _ _ _ _ HO.out.rd hk (by omega)).mono ?_
    rw [HG.out]
    rintro e w3 ⟨A2, n2, c2, rfl, hp, hx3⟩
    have HR := Lib.hid hp.rd
    have X3 := Lib.hid (fun o => X2.out.trans (hx3.trans (Ext.alloc w3 o)))
    have DD := fun o : Obj => box6 ((Y2.out.trans (hx3.trans (Ext.alloc w3 o))).block (heap_alloc_new w _))
    have d0 := fun o => (DD o).1
    have d1 := fun o => (DD o).2.1
    have d2 := fun o => (DD o).2.2.1
    have d3 := fun o => (DD o).2.2.2.1
    have d4 := fun o => (DD o).2.2.2.2.1
    have d5 := fun o => (DD o).2.2.2.2.2.1
    clear hp hx3 DD
    simp only [pacV]
    go_wp2_with fail
    refine (HSM.out _ A2 n2 c2 (X3.out _) (HR.out.ext (Ext.alloc _ _))).mono ?_
    rintro e w4 ⟨rfl, hx4⟩
    have X4 := Lib.hid ((X3.out _).trans hx4)
    clear hx4
    go_wp2_with fail
    refine (known21_any _).mono ?_
    rintro e w5 ⟨rfl, hx5⟩
    go_wp2_with fail
    go_ret
    exact ⟨rfl, X4.out.trans hx5⟩
  · rw [putP_no hK] at HP
    obtain ⟨K, hK2⟩ : ∃ K, checkP p = K := ⟨_, rfl⟩
    rw [hK2] at HC HP hK
    have hne : (K != 0) = true := by simpa using hK
    have heq : (K != K) = false := by simp
    simp only at HP
    clear hr hK2
    obtain ⟨kd, ep, sq, id, cd, l⟩ := p
    simp only [pacV] at HC HP ⊢
    go_enter Try.func5, Try.ntmps5
    go_wp2_with fail
    refine (HC.out _ (Ext.alloc _ _)).mono ?_
    rintro e w1 ⟨rfl, hx1⟩
    obtain ⟨d0, d1, d2, d3, d4, d5, -⟩ := box6 (hx1.block (heap_alloc_new w _))
    have X1 := Lib.hid ((Ext.alloc _ _).trans hx1)
    clear hx1
    go_wp2_with fail
    refine (HP.out _ X1.out).mono ?_
    rintro e w2 ⟨P1, m, k, rfl, ho, hx2⟩
    obtain rfl : 0 = m := by have := ho.len; simpa using this
    have X2 := Lib.hid (X1.out.trans hx2)
    clear ho hx2 d0 d1 d2 d3 d4 d5
    go_wp2_with fail
    refine (known21_any _).mono ?_
    rintro e w5 ⟨rfl, hx5⟩
    go_wp2_with fail
    go_ret
    exact ⟨rfl, X2.out.trans hx5⟩

theorem lawPacketOnly (b : List UInt8) (A : Option Addr) (m c : Nat) (w : World) (hb : Rd w A m (b.map cB)) (hc : m ≤ c) (hm : c ≤ 9223372036854775807) (hbc : c * 1 ≤ 140737488351232) : Calls Try.prog 6 #[.slice A m c] w (RetQ w true) := by
  have HG := Lib.hid (pacGet_any b A m c w hb hc (by omega))
  have HB := Lib.hid hb
  have hl := hb.length
  clear hb
  by_cases hK : (getP b).2 = 0
  · obtain ⟨h1, h2⟩ := putP_getP hK
    have hg : getP b = ((getP b).1, 0) := by rw [← hK]
    rw [hg] at HG
    have HK := Lib.hid (Lib.hid (And.intro h1 h2))
    generalize (getP b).1 = p at *
    have HC := Lib.hid (fun (W : World) (B : Option Addr) (n k : Nat) (h : PacRd W p B n k) => by
      have hh := pacCheck_any p B n k W h
      rw [h2] at hh
      exact hh)
    have HP := Lib.hid (fun (W : World) (B : Option Addr) (n k : Nat) (h : PacRd W p B n k) => by
      have hh := pacPut_any p B n k W h
      rw [h1] at hh
      exact hh)
    clear hK h1 h2 hg HK
    obtain ⟨kd, ep, sq, id, cd, l⟩ := p
    simp only [pacV] at HC HP
    go_enter Try.func6, Try.ntmps6
    go_wp2_with fail
    refine HG.out.mono ?_
    rintro e w1 ⟨A1, n1, c1, rfl, hp, hx1⟩
    have HR := Lib.hid hp.rd
    have X1 := Lib.hid hx1
    clear hp hx1
    simp only [pacV]
    go_wp2_with fail
    refine (HP.out _ A1 n1 c1 (HR.out.ext (Ext.alloc _ _))).mono ?_
    rintro e w2 ⟨P1, n, k, rfl, ho, hx2⟩
    obtain rfl : n = m := by have h1 := ho.len; simp at h1; omega
    obtain ⟨d0, d1, d2, d3, d4, d5, -⟩ := box6 (hx2.block (heap_alloc_new w1 _))
    have HO := Lib.hid ho
    have X2 := Lib.hid ((Ext.alloc _ _).trans hx2)
    clear ho hx2
    go_wp2_with fail
    refine (HC.out _ A1 n1 c1 (HR.out.ext X2.out)).mono ?_
    rintro e w3 ⟨rfl, hx3⟩
    have X3 := Lib.hid hx3
    clear hx3 d0 d1 d2 d3 d4 d5
    go_wp2_with fail
    refine (same_any b b _ _ _ _ _ _ _ (HB.out.ext (X1.out.trans (X2.out.trans X3.out))) (HO.out.rd.ext X3.out) (by unfold maxLen; omega)).mono ?_
    rintro e w4 ⟨rfl, hb4⟩
    rw [decide_eq_true rfl]
    have X4 := Lib.hid (Ext.of hb4)
    clear hb4
    go_wp2_with fail
    refine (known21_any _).mono ?_
    rintro e w5 ⟨rfl, hx5⟩
    go_wp2_with fail
    go_ret
    exact ⟨rfl, X1.out.trans (X2.out.trans (X3.out.trans (X4.out.trans hx5)))⟩
  · obtain ⟨K, hK2⟩ : ∃ K, (getP b).2 = K := ⟨_, rfl⟩
    have hg : getP b = (pac0, K) := by rw [← getP_err hK, ← hK2]
    rw [hg] at HG
    rw [hK2] at hK
    have hne : (K != 0) = true := by simpa using hK
    clear hK hK2 hg
    go_enter Try.func6, Try.ntmps6
    go_wp2_with fail
    refine HG.out.mono ?_
    rintro e w1 ⟨A1, n1, c1, rfl, hp, hx1⟩
    have HR := Lib.hid hp.rd
    have X1 := Lib.hid hx1
    clear hp hx1
    simp only [pacV, pac0]
    go_wp2_with fail
    refine (samePac_eq pac0 A1 none n1 0 c1 0 _ (HR.out.ext (Ext.alloc _ _)) (pacOw0 _ 0).rd).mono ?_
    rintro e w2 ⟨rfl, hx2⟩
    have X2 := Lib.hid ((Ext.alloc _ _).trans hx2)
    clear hx2
    go_wp2_with fail
    refine (known21_any _).mono ?_
    rintro e w5 ⟨rfl, hx5⟩
    go_wp2_with fail
    go_ret
    exact ⟨rfl, X1.out.trans (X2.out.trans hx5)⟩
end Go.Proofs.Ytfjpalciocjkoaa
