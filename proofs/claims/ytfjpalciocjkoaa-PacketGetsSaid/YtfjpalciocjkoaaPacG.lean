/- outstationref21.Get, whole. -/
import Derived.Test.YtfjpalciocjkoaaPacR6
namespace Go.Proofs.Ytfjpalciocjkoaa
set_option linter.unusedVariables false
set_option linter.unusedSimpArgs false
set_option maxRecDepth 100000
set_option maxHeartbeats 2000000
open Go Go.RowKit Go.Out
theorem rpacGet_any (b : List UInt8) (A : Option Addr) (m c : Nat) (w : World) (hr : Rd w A m (b.map cB)) (hc : m ≤ c) (hm : m ≤ 140737488355300) :
    Calls Try.prog 13 #[.slice A m c] w (RetGP w (getP b)) := by
  have hl := hr.length
  unfold getP
  by_cases h5 : b.length < 5
  · rw [if_pos h5]; exact rget_short A m c w (by omega)
  · rw [if_neg h5]
    by_cases he : (openF 4 (more32 0) b).2 ≠ 0
    · rw [if_pos he]; exact rget_open b A m c w hr hc hm (by omega) he
    · rw [if_neg he]
      have he0 : (openF 4 (more32 0) b).2 = 0 := by simpa using he
      have hs := openF_zero he0
      have ho : openF 4 (more32 0) b = ((openF 4 (more32 0) b).1, 0) := by rw [← he0]
      have hin : 1 ≤ (openF 4 (more32 0) b).1.length := by
        have := congrArg List.length hs
        rw [sealF_length] at this
        omega
      generalize (openF 4 (more32 0) b).1 = inn at *
      unfold inP
      by_cases hk : ¬ (1 ≤ kindN inn ∧ kindN inn ≤ 4)
      · rw [if_pos hk]; exact rget_kind (kindN inn) b inn A m c w hr hc hm (by omega) ho hin rfl (by omega)
      · rw [if_neg hk]
        have hks : kindN inn = 1 ∨ kindN inn = 2 ∨ kindN inn = 3 ∨ kindN inn = 4 := by omega
        rcases hks with hk1 | hk1 | hk1 | hk1
        · have e : readP inn = ⟨1, numAt inn 1, numAt inn 9, 0, 0, inn.drop 17⟩ := by unfold readP; rw [hk1, if_pos rfl]
          rw [e, hk1]
          by_cases hh : inn.length < 17
          · rw [if_pos (by simpa [headN] using hh)]; exact rget_few1 b inn A m c w hr hc hm (by omega) ho hin hk1 hh
          · rw [if_neg (by simpa [headN] using hh), if_neg (by simp [fullP])]
            exact rget_k1 b inn A m c w hr hc hm (by omega) ho hin hk1 (by omega)
        · have e : readP inn = ⟨2, numAt inn 1, numAt inn 9, 0, 0, []⟩ := by unfold readP; rw [hk1, if_neg (by omega), if_pos rfl]
          rw [e, hk1]
          by_cases hh : inn.length < 17
          · rw [if_pos (by simpa [headN] using hh)]; exact rget_few2 b inn A m c w hr hc hm (by omega) ho hin hk1 hh
          · rw [if_neg (by simpa [headN] using hh)]
            by_cases hh2 : 17 < inn.length
            · rw [if_pos (by simpa [headN, fullP] using hh2)]; exact rget_long2 b inn A m c w hr hc hm (by omega) ho hin hk1 hh2
            · rw [if_neg (by simp [headN, fullP]; omega)]; exact rget_k2 b inn A m c w hr hc hm (by omega) ho hin hk1 (by omega)
        · have e : readP inn = ⟨3, 0, 0, numAt inn 1, 0, inn.drop 9⟩ := by unfold readP; rw [hk1, if_neg (by omega), if_neg (by omega), if_pos rfl]
          rw [e, hk1]
          by_cases hh : inn.length < 9
          · rw [if_pos (by simpa [headN] using hh)]; exact rget_few3 b inn A m c w hr hc hm (by omega) ho hin hk1 hh
          · rw [if_neg (by simpa [headN] using hh), if_neg (by simp [fullP])]
            exact rget_k3 b inn A m c w hr hc hm (by omega) ho hin hk1 (by omega)
        · have e : readP inn = ⟨4, 0, 0, numAt inn 1, ((inn.getD 9 0).toNat : Int), []⟩ := by unfold readP; rw [hk1, if_neg (by omega), if_neg (by omega), if_neg (by omega)]
          rw [e, hk1]
          by_cases hh : inn.length < 10
          · rw [if_pos (by simpa [headN] using hh)]; exact rget_few4 b inn A m c w hr hc hm (by omega) ho hin hk1 hh
          · rw [if_neg (by simpa [headN] using hh)]
            by_cases hh2 : 10 < inn.length
            · rw [if_pos (by simpa [headN, fullP] using hh2)]; exact rget_long4 b inn A m c w hr hc hm (by omega) ho hin hk1 hh2
            · rw [if_neg (by simp [headN, fullP]; omega)]; exact rget_k4 b inn A m c w hr hc hm (by omega) ho hin hk1 (by omega)

end Go.Proofs.Ytfjpalciocjkoaa

namespace Go.Proofs.Ytfjpalciocjkoaa
set_option linter.unusedVariables false
set_option linter.unusedSimpArgs false
set_option maxRecDepth 100000
set_option maxHeartbeats 1000000
open Go Go.RowKit Go.Out

theorem lawPacketGets (b : List UInt8) (A : Option Addr) (n c : Nat) (w : World) (hr : Rd w A n (b.map cB)) (hnc : n ≤ c) (_hm : c ≤ 9223372036854775807) (hb : c * 1 ≤ 140737488351232) : Calls Try.prog 3 #[.slice A n c] w (RetQ w true) := by
  have Hr := Lib.hid hr; clear hr
  obtain ⟨U, hG⟩ : ∃ U, getP b = U := ⟨_, rfl⟩
  obtain ⟨⟨kd, ep, sq, id, cd, l⟩, E⟩ := U
  have hee : (E != E) = false := by simp
  have HG := Lib.hid hG; clear hG
  go_enter Try.func3, Try.ntmps3
  go_wp2_with fail
  refine (lent_any b _ _ _ _ Hr.out (by omega)).mono ?_
  rintro e w1 ⟨gx, curx, rfl, hgx, hhx, hcurx, hb1⟩
  have Hox := Lib.hid (lent_own hgx hhx hcurx Hr.out.length (by omega))
  have hgxl := lt_of_heap hhx
  have Hhx := Lib.hid hhx; have Hcx := Lib.hid hcurx
  have X1 := Lib.hid (Ext.of hb1)
  clear hhx hcurx hb1
  go_wp2_with fail
  have hc1 := pacGet_any b (some ⟨gx, 0, none⟩) n (n + 5) w1 Hox.out.rd (by omega) (by omega)
  rw [HG.out] at hc1
  refine hc1.mono ?_
  clear hc1
  rintro e w2 ⟨A2, n2, c2, rfl, hp2, hx2⟩
  simp only at hp2
  have HP2 := Lib.hid hp2; have X2 := Lib.hid hx2
  clear hp2 hx2
  have HR2 := Lib.hid (fun W (hX : Ext w2 W) => (by
    have h := rpacGet_any b A n c W (Hr.out.ext (X1.out.trans (X2.out.trans hX))) hnc (by omega)
    rw [HG.out] at h
    exact h : Calls Try.prog 13 #[.slice A n c] W (RetGP W (⟨kd, ep, sq, id, cd, l⟩, E))))
  simp only [pacV]
  go_wp2_with fail
  refine (HR2.out _ (Ext.alloc _ _)).mono ?_
  rintro e w3 ⟨A3, n3, c3, rfl, hp3, hx3⟩
  simp only at hp3
  have HP3 := Lib.hid hp3; have X3 := Lib.hid hx3
  clear hp3 hx3
  obtain ⟨d0, d1, d2, d3, d4, d5, -⟩ := box6 (X3.out.block (heap_alloc_new w2 _))
  have D := fun o : Obj => box6 ((X3.out.trans (Ext.alloc w3 o)).block (heap_alloc_new w2 _))
  have D0 := fun o => (D o).1
  have D1 := fun o => (D o).2.1
  have D2 := fun o => (D o).2.2.1
  have D3 := fun o => (D o).2.2.2.1
  have D4 := fun o => (D o).2.2.2.2.1
  have D5 := fun o => (D o).2.2.2.2.2.1
  have HS := Lib.hid (fun o => samePac_eq ⟨kd, ep, sq, id, cd, l⟩ A2 A3 n2 n3 c2 c3 (w3.alloc o) (HP2.out.rd.ext ((Ext.alloc _ _).trans (X3.out.trans (Ext.alloc _ _)))) (HP3.out.rd.ext (Ext.alloc _ _)))
  have X23 := Lib.hid (fun o => ((Ext.alloc _ _).trans X3.out).trans (Ext.alloc w3 o))
  have HDD := Lib.hid (fun (o : Obj) (W : World) (h : Ext (w3.alloc o) W) => box6 (((X3.out.trans (Ext.alloc w3 o)).trans h).block (heap_alloc_new w2 _)))
  clear D
  simp only [pacV] at HS ⊢
  go_wp2_with fail
  refine (HS.out _).mono ?_
  rintro e w4 ⟨rfl, hx4⟩
  have X4 := Lib.hid ((X23.out _).trans hx4)
  obtain ⟨g0, g1, g2, g3, g4, g5, -⟩ := HDD.out _ _ hx4
  clear d0 d1 d2 d3 d4 d5 D0 D1 D2 D3 D4 D5 hx4
  go_wp2_with fail
  have hsp := spoil_any _ _ _ _ _ _ (HP2.out.body.ext X4.out)
  refine hsp.mono ?_
  clear hsp
  rintro e w5 ⟨rfl, ho5, hg5⟩
  clear ho5
  have hlt2 := fun g hg => (HP2.out.body.lt g hg)
  have hz := X2.out.size
  have hz4 := X4.out.size
  have hz1 := X1.out.size
  have X5 := Lib.hid ((X1.out.trans (X2.out.trans X4.out)).grown' hg5 (fun g hg => by have := (hlt2 g hg).1; omega))
  have hh5 : w5.heap[gx]? = some (.cells curx 5 (0, 0)) := (hg5.block gx (by omega) (fun e => by have := (hlt2 gx e.symm).1; omega)).trans ((X2.out.trans X4.out).block Hhx.out)
  have Hh5 := Lib.hid hh5
  clear hg5 hlt2 hh5 g0 g1 g2 g3 g4 g5
  go_wp2_with fail
  refine (kept_any b _ _ _ gx curx _ (Hr.out.ext X5.out) Hh5.out Hcx.out (by omega)).mono ?_
  rintro e w6 ⟨rfl, hb6⟩
  have X6 := Lib.hid (X5.out.trans (Ext.of hb6))
  clear hb6
  go_wp2_with fail
  go_ret
  exact ⟨rfl, X6.out⟩
end Go.Proofs.Ytfjpalciocjkoaa
