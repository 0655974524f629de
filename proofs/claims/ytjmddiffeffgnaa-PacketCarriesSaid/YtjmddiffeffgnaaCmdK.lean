/- Contract of sameCommand; the walk of PacketCarries: for every input true. -/
import Derived.Test.YtjmddiffeffgnaaCmdC
import Derived.Test.YtjmddiffeffgnaaGetC
namespace Go.Proofs.Ytjmddiffeffgnaa
set_option linter.unusedVariables false
set_option linter.unusedSimpArgs false
set_option maxRecDepth 100000
set_option maxHeartbeats 1000000
open Go Go.RowKit Go.Out

theorem sameCommand_eq (id unit : Int) (a : AskD) (s t : AskS) (w : World) (ha : AskRd w a s) (hb : AskRd w a t) (h3 : a.parts.length ≤ 4398046511104) :
    Calls Try.prog 30 #[cmdV id unit a s, cmdV id unit a t] w (RetQ w true) := by
  have HS := Lib.hid (fun W (hX : Ext w W) => sameAsk_eq a s t W (ha.ext hX) (hb.ext hX) (by have := ha.cap1; omega) (by have := ha.cap2; omega) (by have := ha.n3; omega))
  clear ha hb h3
  obtain ⟨code, addr, count, on, set, parts⟩ := a
  obtain ⟨A1, n1, c1, A2, n2, c2, A3, n3, c3⟩ := s
  obtain ⟨B1, m1, k1, B2, m2, k2, B3, m3, k3⟩ := t
  simp only [askV] at HS
  simp only [cmdV]
  go_enter Try.func30, Try.ntmps30
  go_wp2_with fail
  refine (HS.out _ (Ext.duo _ _ _)).mono ?_
  rintro e w1 ⟨rfl, hx1⟩
  go_wp2_with fail
  go_ret
  exact ⟨rfl, (Ext.duo _ _ _).trans hx1⟩
theorem getA_parts (b : List UInt8) : (getA b).1.parts.length ≤ 35 := by
  by_cases h : (getA b).2 = 0
  · obtain ⟨-, -, -, -, hck⟩ := getA_zero h
    rcases Go.Out.ask_cases hck with ⟨_, _, _, _, _, _, _, _, e⟩ | ⟨_, _, _, e⟩ | ⟨_, _, _, e⟩ | ⟨_, _, _, _, _, e⟩ | ⟨_, _, _, _, _, e⟩ | ⟨l, _, hl, _, e⟩
    all_goals (rw [e]; simp only [List.length_nil]; omega)
  · rw [getA_err h]; simp [ask0]
theorem getC_parts (p : PacD) : (getC p).1.2.2.parts.length ≤ 35 := by
  unfold getC
  repeat' split
  all_goals first
    | exact getA_parts _
    | simp [ask0]

/-- What PutCommand takes is a right packet, whose command it is. -/
theorem putC_ok {id unit : Int} {a : AskD} (h : (putC id unit a).2 = 0) : 1 ≤ id ∧ 1 ≤ unit ∧ unit ≤ 247 ∧ checkP (putC id unit a).1 = 0 ∧ getC (putC id unit a).1 = ((id, unit, a), 0) ∧ checkF a = 0 := by
  unfold putC at h ⊢
  by_cases h1 : id < 1 ∨ 1099511627776 < id
  · rw [if_pos h1] at h; simp at h
  · rw [if_neg h1] at h ⊢
    by_cases h2 : unit < 1 ∨ 247 < unit
    · rw [if_pos h2] at h; simp at h
    · rw [if_neg h2] at h ⊢
      by_cases h3 : checkF a ≠ 0
      · rw [if_pos h3] at h; exact absurd h h3
      · rw [if_neg h3] at h ⊢
        have h3' : checkF a = 0 := by simpa using h3
        by_cases h4 : writesF a.code = false
        · rw [if_pos h4] at h; simp at h
        · rw [if_neg h4]
          obtain ⟨q1, q2, q3⟩ := getA_put h3'
          obtain ⟨U, rfl⟩ := Int.eq_ofNat_of_zero_le (show 0 ≤ unit by omega)
          obtain ⟨I, rfl⟩ := Int.eq_ofNat_of_zero_le (show 0 ≤ id by omega)
          have hU : ((U : Int)).toNat = U := by omega
          rw [hU]
          have hck : checkP ⟨3, 0, 0, (I : Int), 0, UInt8.ofNat U :: (putA a).1⟩ = 0 := by
            refine checkP_one _ ⟨by simp, by simp⟩ ?_ ?_ ?_ ?_
            · simp [fieldPP, runsP, fullP]
            · simp [rangeP, runsP]; omega
            · simp [leastF]; omega
            · simp [mostFP]; omega
          refine ⟨by omega, by omega, by omega, hck, ?_, h3'⟩
          have hU8 : (UInt8.ofNat U).toNat = U := by simp; omega
          unfold getC
          rw [if_neg (by simpa using hck), if_neg (by simp)]
          simp only [List.getD_cons_zero, List.drop_succ_cons, List.drop_zero, hU8]
          rw [if_neg (by omega), q1]
          simp only [ne_eq, not_true_eq_false, if_false]
          rw [if_neg h4]

theorem putC_err {id unit : Int} {a : AskD} (h : (putC id unit a).2 ≠ 0) : (putC id unit a).1 = pac0 := by
  unfold putC at h ⊢
  repeat' split
  all_goals first
    | rfl
    | simp_all

theorem lawPacketCarries (id unit : Int) (a : AskD) (s : AskS) (w : World) (hr : AskRd w a s) (hid : i64P id) (hun : i64P unit) : Calls Try.prog 5 #[cmdV id unit a s] w (RetQ w true) := by
  have HL := Lib.hid (fun W => longAsk_any a s W)
  have HRD := Lib.hid hr
  have HPC := Lib.hid (fun (W : World) (hX : Ext w W) => putCommand_any id unit a s W (hr.ext hX))
  have hbc := heap_alloc_new w (.cells #[.int .i64 id, .int .i64 unit, .int .i64 a.code, .int .i64 a.addr, .int .i64 a.count, .slice s.A1 s.n1 s.c1, .slice s.A2 s.n2 s.c2, .slice s.A3 s.n3 s.c3] 28)
  have HBC := Lib.hid hbc
  clear hbc
  by_cases hbig : 70000 < s.n1 ∨ 70000 < s.n2 ∨ 70000 < s.n3
  · rw [decide_eq_true hbig] at HL
    clear hr hbig
    obtain ⟨code, addr, count, on, set, parts⟩ := a
    obtain ⟨A1, n1, c1, A2, n2, c2, A3, n3, c3⟩ := s
    simp only [askV] at HL
    simp only [cmdV]
    go_enter Try.func5, Try.ntmps5
    go_wp2_with fail
    refine (HL.out _).mono ?_
    rintro e w1 ⟨rfl, hx1⟩
    go_wp2_with fail
    refine (known21_any _).mono ?_
    rintro e w2 ⟨rfl, hx2⟩
    go_wp2_with fail
    go_ret
    exact ⟨rfl, (Ext.alloc _ _).trans (hx1.trans hx2)⟩
  · rw [decide_eq_false hbig] at HL
    have e3 := hr.n3
    have HPL := Lib.hid (show a.parts.length ≤ 4398046511104 by omega)
    clear hr hbig e3
    by_cases hE : (putC id unit a).2 = 0
    · obtain ⟨hi1, hu1, hu2, hck, hget, -⟩ := putC_ok hE
      have hpp := (getP_putP hck).1
      have hpo : (putP (putC id unit a).1).2 = 0 := by rw [putP_ok hck]
      generalize hU : putC id unit a = U at *
      obtain ⟨⟨kd, ep, sq, pid, cd, l⟩, E⟩ := U
      simp only at hE hck hpp hget hpo
      subst hE
      have HPP := Lib.hid (fun (W : World) A n c (h : PacRd W ⟨kd, ep, sq, pid, cd, l⟩ A n c) => pacPut_any ⟨kd, ep, sq, pid, cd, l⟩ A n c W h)
      rw [hpo] at HPP
      have hBl := (getP_putP hck).2.2
      generalize (putP ⟨kd, ep, sq, pid, cd, l⟩).1 = B at *
      have HGB := Lib.hid (fun (W : World) A n c (h : Rd W A n (B.map cB)) (hc : n ≤ c) (hcm : c ≤ 9223372036854775807) (hm : n ≤ 140737488355300) => pacGet_any B A n c W h hc hm)
      rw [hpp] at HGB
      have HGC := Lib.hid (fun (W : World) A n c (h : PacRd W ⟨kd, ep, sq, pid, cd, l⟩ A n c) => getCommand_any ⟨kd, ep, sq, pid, cd, l⟩ A n c W h)
      rw [hget] at HGC
      have HSC := Lib.hid (fun (W : World) (t : AskS) (hX : Ext w W) (h : AskRd W a t) => sameCommand_eq id unit a s t W (HRD.out.ext hX) h HPL.out)
      clear hck hpp hget hpo hU hid hun HRD HPL
      obtain ⟨code, addr, count, on, set, parts⟩ := a
      obtain ⟨A1, n1, c1, A2, n2, c2, A3, n3, c3⟩ := s
      simp only [askV, cmdV] at HL HPC HBC HSC
      simp only [pacV] at HPC HPP HGB HGC
      simp only [cmdV] at HGC ⊢
      go_enter Try.func5, Try.ntmps5
      go_wp2_with fail
      refine (HL.out _).mono ?_
      rintro e w1 ⟨rfl, hx1⟩
      have HBB := Lib.hid (fun (W : World) (hX : Ext w1 W) => (hx1.trans hX).block HBC.out)
      obtain ⟨d0, d1, d2, d3, d4, d5, d6, d7⟩ := box8 (HBB.out _ (Ext.refl _))
      have X1 := Lib.hid ((Ext.alloc _ _).trans hx1)
      clear hx1
      go_wp2_with fail
      refine (HPC.out _ X1.out).mono ?_
      rintro e w2 ⟨A4, n4, c4, rfl, hp2, hx2⟩
      simp only at hp2
      have HP2 := Lib.hid hp2
      have X2 := Lib.hid hx2
      clear hp2 hx2 d0 d1 d2 d3 d4 d5 d6 d7
      simp only [pacV]
      go_wp2_with fail
      refine (HPP.out _ A4 n4 c4 (HP2.out.rd.ext (Ext.alloc _ _))).mono ?_
      rintro e w3 ⟨A5, n5, c5, rfl, ho3, hx3⟩
      have hn5 : n5 ≤ 1045 := by have h5 := ho3.len; rw [List.length_map] at h5; omega
      have HO3 := Lib.hid ho3
      have X3 := Lib.hid ((Ext.alloc _ _).trans hx3)
      clear ho3 hx3
      go_wp2_with fail
      refine (HGB.out _ A5 n5 c5 HO3.out.rd HO3.out.cap HO3.out.capLe (by omega)).mono ?_
      rintro e w4 ⟨A6, n6, c6, rfl, hp4, hx4⟩
      simp only at hp4
      have HP4 := Lib.hid hp4
      have X4 := Lib.hid hx4
      clear hp4 hx4
      simp only [pacV]
      go_wp2_with fail
      refine (HGC.out _ A6 n6 c6 (HP4.out.rd.ext (Ext.alloc _ _))).mono ?_
      rintro e w5 ⟨⟨B1, m1, k1, B2, m2, k2, B3, m3, k3⟩, rfl, hw5, hx5⟩
      simp only [cmdV] at hw5 ⊢
      have HW5 := Lib.hid hw5
      have X5 := Lib.hid (X2.out.trans (X3.out.trans (X4.out.trans ((Ext.alloc _ _).trans hx5))))
      clear hw5 hx5
      have DD := fun o : Obj => box8 (HBB.out _ (X5.out.trans (Ext.alloc w5 o)))
      have d0 := fun o => (DD o).1
      have d1 := fun o => (DD o).2.1
      have d2 := fun o => (DD o).2.2.1
      have d3 := fun o => (DD o).2.2.2.1
      have d4 := fun o => (DD o).2.2.2.2.1
      have d5 := fun o => (DD o).2.2.2.2.2.1
      have d6 := fun o => (DD o).2.2.2.2.2.2.1
      have d7 := fun o => (DD o).2.2.2.2.2.2.2
      have HSC2 := Lib.hid (fun o => HSC.out (w5.alloc o) ⟨B1, m1, k1, B2, m2, k2, B3, m3, k3⟩ (X1.out.trans (X5.out.trans (Ext.alloc w5 o))) (HW5.out.rd.ext (Ext.alloc w5 o)))
      have X5o := Lib.hid (fun o => X5.out.trans (Ext.alloc w5 o))
      simp only at HSC2
      clear DD HSC
      go_wp2_with fail
      refine (HSC2.out _).mono ?_
      rintro e w6 ⟨rfl, hx6⟩
      have X6 := Lib.hid ((X5o.out _).trans hx6)
      clear hx6 d0 d1 d2 d3 d4 d5 d6 d7
      obtain ⟨d0, d1, d2, d3, d4, d5, d6, d7⟩ := box8 (HBB.out _ X6.out)
      go_wp2_with fail
      refine (known21_any _).mono ?_
      rintro e w7 ⟨rfl, hx7⟩
      go_wp2_with fail
      go_ret
      exact ⟨rfl, X1.out.trans (X6.out.trans hx7)⟩
    · have h0 := putC_err hE
      generalize hU : putC id unit a = U at *
      obtain ⟨q, E⟩ := U
      simp only at hE h0
      subst h0
      have ht : (E != 0) = true := by simpa using hE
      clear hU hE HRD HPL hid hun
      obtain ⟨code, addr, count, on, set, parts⟩ := a
      obtain ⟨A1, n1, c1, A2, n2, c2, A3, n3, c3⟩ := s
      simp only [askV, cmdV] at HL HPC HBC
      simp only [pacV, pac0] at HPC
      simp only [cmdV] at *
      go_enter Try.func5, Try.ntmps5
      go_wp2_with fail
      refine (HL.out _).mono ?_
      rintro e w1 ⟨rfl, hx1⟩
      obtain ⟨d0, d1, d2, d3, d4, d5, d6, d7⟩ := box8 (hx1.block HBC.out)
      have X1 := Lib.hid ((Ext.alloc _ _).trans hx1)
      clear hx1
      go_wp2_with fail
      refine (HPC.out _ X1.out).mono ?_
      rintro e w2 ⟨A4, n4, c4, rfl, hp2, hx2⟩
      simp only at hp2
      have HP2 := Lib.hid hp2
      have X2 := Lib.hid hx2
      have HS := Lib.hid (fun o => samePac_eq pac0 A4 none n4 0 c4 0 (w2.alloc o) (HP2.out.rd.ext (Ext.alloc _ _)) (pacOw0 _ 0).rd)
      clear hp2 hx2 d0 d1 d2 d3 d4 d5 d6 d7
      simp only [pacV, pac0] at HS ⊢
      go_wp2_with fail
      refine (HS.out _).mono ?_
      rintro e w3 ⟨rfl, hx3⟩
      go_wp2_with fail
      refine (known21_any _).mono ?_
      rintro e w4 ⟨rfl, hx4⟩
      go_wp2_with fail
      go_ret
      exact ⟨rfl, X1.out.trans (X2.out.trans ((Ext.alloc _ _).trans (hx3.trans hx4)))⟩
end Go.Proofs.Ytjmddiffeffgnaa
