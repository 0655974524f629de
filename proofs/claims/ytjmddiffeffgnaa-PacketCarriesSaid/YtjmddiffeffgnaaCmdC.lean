/- The walk of PacketCommands: for every input true. -/
import Derived.Test.YtjmddiffeffgnaaCmdR
import Derived.Test.YtjmddiffeffgnaaAskL
import Derived.Deep.RegionHeld3
import Derived.Deep.DeepCutAuto
namespace Go.Proofs.Ytjmddiffeffgnaa
set_option linter.unusedVariables false
set_option linter.unusedSimpArgs false
set_option maxRecDepth 100000
set_option maxHeartbeats 1000000
open Go Go.RowKit Go.Out

theorem AskLent.mono {w : World} {base base' : Nat} {a : AskD} {s t : AskS} (h : AskLent w base a s t) (hb : base' ≤ base) : AskLent w base' a s t := by
  obtain ⟨⟨g1, c1, q1, q2, q3, q4, q5⟩, ⟨g2, c2, r1, r2, r3, r4, r5⟩, ⟨g3, c3, s1, s2, s3, s4, s5⟩⟩ := h
  exact ⟨⟨g1, c1, q1, q2, q3, by omega, q5⟩, ⟨g2, c2, r1, r2, r3, by omega, r5⟩, ⟨g3, c3, s1, s2, s3, by omega, s5⟩⟩
theorem AskLent.set_below {w : World} {base : Nat} {a : AskD} {s t : AskS} (h : AskLent w base a s t) {q : Addr} (hq : q.block < base) (u : Value) : AskLent (w.setCell q u) base a s t := by
  obtain ⟨⟨g1, c1, q1, q2, q3, q4, q5, q6⟩, ⟨g2, c2, r1, r2, r3, r4, r5, r6⟩, ⟨g3, c3, s1, s2, s3, s4, s5, s6⟩⟩ := h
  exact ⟨⟨g1, c1, q1, q2, q3, q4, (Below.heap_setCell w q u g1 (by omega)).trans q5, q6⟩, ⟨g2, c2, r1, r2, r3, r4, (Below.heap_setCell w q u g2 (by omega)).trans r5, r6⟩, ⟨g3, c3, s1, s2, s3, s4, (Below.heap_setCell w q u g3 (by omega)).trans s5, s6⟩⟩

theorem lawPacketCommands (id unit : Int) (a : AskD) (s : AskS) (w : World) (hr : AskRd w a s) (hid : i64P id) (hun : i64P unit) : Calls Try.prog 3 #[cmdV id unit a s] w (RetQ w true) := by
  have e1 := hr.n1; have e2 := hr.n2; have e3 := hr.n3
  have HL := Lib.hid (fun W => longAsk_any a s W)
  have HLE := Lib.hid (fun W (hX : Ext w W) => lentAsk_any a s W (hr.ext hX))
  have HRD := Lib.hid hr
  have HPC := Lib.hid (fun (W : World) (t : AskS) (h : AskRd W a t) => putCommand_any id unit a t W h)
  have HRC := Lib.hid (fun (W : World) (hX : Ext w W) => rputCommand_any id unit a s W (hr.ext hX))
  have HKP := Lib.hid (fun (W : World) (t : AskS) (base : Nat) (hX : Ext w W) (hl : AskLent W base a s t) => keptAsk_any a s t base W (hr.ext hX) hl)
  have hbc := heap_alloc_new w (.cells #[.int .i64 id, .int .i64 unit, .int .i64 a.code, .int .i64 a.addr, .int .i64 a.count, .slice s.A1 s.n1 s.c1, .slice s.A2 s.n2 s.c2, .slice s.A3 s.n3 s.c3] 28)
  by_cases hbig : 70000 < s.n1 ∨ 70000 < s.n2 ∨ 70000 < s.n3
  · rw [decide_eq_true hbig] at HL
    clear hr hbig e1 e2 e3 hbc
    obtain ⟨code, addr, count, on, set, parts⟩ := a
    obtain ⟨A1, n1, c1, A2, n2, c2, A3, n3, c3⟩ := s
    simp only [askV] at HL
    simp only [cmdV]
    go_enter Try.func3, Try.ntmps3
    go_wp2_with fail
    refine (HL.out _).mono ?_
    rintro e w1 ⟨rfl, hx1⟩
    go_wp2_with fail
    refine (known21_any _).mono ?_
    rintro e w2 ⟨rfl, hx2⟩
    go_wp2_with fail
    go_ret
    exact ⟨rfl, (Ext.alloc _ _).trans (hx1.trans hx2)⟩
  · rw [decide_eq_false hbig] at HL
    have HN := Lib.hid (show s.n1 ≤ 70000 ∧ s.n2 ≤ 70000 ∧ s.n3 ≤ 70000 by omega)
    clear hr hbig e1 e2 e3
    obtain ⟨U, hU⟩ : ∃ U, putC id unit a = U := ⟨_, rfl⟩
    rw [hU] at HPC HRC
    clear hU
    obtain ⟨⟨kd, ep, sq, pid, cd, l⟩, E⟩ := U
    have hee : (E == E) = true := by simp
    have HBC := Lib.hid hbc
    clear hbc
    obtain ⟨code, addr, count, on, set, parts⟩ := a
    obtain ⟨A1, n1, c1, A2, n2, c2, A3, n3, c3⟩ := s
    simp only [askV, cmdV] at HL HLE HPC HRC HKP HBC
    simp only [cmdV]
    go_enter Try.func3, Try.ntmps3
    go_wp2_with fail
    refine (HL.out _).mono ?_
    rintro e w1 ⟨rfl, hx1⟩
    have HB1 := Lib.hid (hx1.block HBC.out)
    obtain ⟨d0, d1, d2, d3, d4, d5, d6, d7⟩ := box8 HB1.out
    have X1 := Lib.hid ((Ext.alloc _ _).trans hx1)
    clear hx1
    go_upto_region 3 with fail
    go_cut [3] (fun v wx => ∃ (g : Nat) (t : AskS), v = .pointer (some ⟨g, 0, none⟩) ∧ wx.heap[g]? = some (.cells #[.int .i64 id, .int .i64 unit, .int .i64 code, .int .i64 addr, .int .i64 count, .slice t.A1 t.n1 t.c1, .slice t.A2 t.n2 t.c2, .slice t.A3 t.n3 t.c3] 28 (0, 0)) ∧ Hid (AskLent wx w.heap.size ⟨code, addr, count, on, set, parts⟩ ⟨A1, n1, c1, A2, n2, c2, A3, n3, c3⟩ t) ∧ Ext w1 wx)
    case first =>
      have hz1 : w.heap.size < w1.heap.size := lt_of_heap HB1.out
      have hne : ¬ w.heap.size = w1.heap.size := by omega
      have hne' : ¬ w1.heap.size = w.heap.size := by omega
      have HLE1 := Lib.hid (fun W (hX : Ext w1 W) => HLE.out W (X1.out.trans hX))
      go_region_held3 (fun W => W.cell? ⟨w.heap.size, 0, none⟩ = some (.int .i64 id) ∧ W.cell? ⟨w.heap.size, 1, none⟩ = some (.int .i64 unit) ∧ W.cell? ⟨w.heap.size, 2, none⟩ = some (.int .i64 code) ∧ W.cell? ⟨w.heap.size, 3, none⟩ = some (.int .i64 addr) ∧ W.cell? ⟨w.heap.size, 4, none⟩ = some (.int .i64 count) ∧ W.cell? ⟨w.heap.size, 5, none⟩ = some (.slice A1 n1 c1) ∧ W.cell? ⟨w.heap.size, 6, none⟩ = some (.slice A2 n2 c2) ∧ W.cell? ⟨w.heap.size, 7, none⟩ = some (.slice A3 n3 c3)) (go_keep) ((
        go_at_call 17
        with_reducible refine Calls.mono (HLE1.out _ ?_ HN.out.1 HN.out.2.1 HN.out.2.2) ?_
        · repeat' (first | with_reducible exact Ext.refl _ | with_reducible refine Ext.drew' ?_ | with_reducible refine Ext.alloc' ?_ _)
        rintro e w2 ⟨⟨B1, m1, k1, B2, m2, k2, B3, m3, k3⟩, rfl, hl2, hx2⟩
        have HL2 := Lib.hid hl2
        have hx12 : Ext w1 w2 := Ext.trans (by repeat' (first | with_reducible exact Ext.refl _ | with_reducible refine Ext.drew' ?_ | with_reducible refine Ext.alloc' ?_ _)) hx2
        have X12 := Lib.hid hx12
        obtain ⟨d0, d1, d2, d3, d4, d5, d6, d7⟩ := box8 (hx12.block HB1.out)
        first
          | have hb12 := hx2.block (heap_alloc_new _ _)
            have HB12 := Lib.hid hb12
            have f0 := frozen_of_row _ _ 0 _ _ hb12; have f1 := frozen_of_row _ _ 1 _ _ hb12; have f2 := frozen_of_row _ _ 2 _ _ hb12; have f3 := frozen_of_row _ _ 3 _ _ hb12; have f4 := frozen_of_row _ _ 4 _ _ hb12; have f5 := frozen_of_row _ _ 5 _ _ hb12; have f6 := frozen_of_row _ _ 6 _ _ hb12; have f7 := frozen_of_row _ _ 7 _ _ hb12
            obtain ⟨e0, e1, e2, e3, e4, e5, e6, e7⟩ := box8 hb12
            clear hb12
          | have tok : True := trivial
        clear hl2 hx2 hx12))
      · go_wp2_with fail
        go_meet
        case rel => exact ⟨_, ⟨B1, m1, k1, B2, m2, k2, B3, m3, k3⟩, rfl, heap_alloc_new _ _, Lib.hid ((HL2.out.mono (Nat.le_of_lt hz1)).ext (Ext.alloc _ _)), X12.out.trans (Ext.alloc _ _)⟩
      · go_wp2_with fail
        go_meet
        case rel => exact ⟨_, ⟨B1, m1, k1, B2, m2, k2, B3, m3, k3⟩, rfl, heap_setCell_same _ _ _ _ _ _ (heap_setCell_same _ _ _ _ _ _ (heap_setCell_same _ _ _ _ _ _ (heap_setCell_same _ _ _ _ _ _ (heap_setCell_same _ _ _ _ _ _ (heap_setCell_same _ _ _ _ _ _ (heap_setCell_same _ _ _ _ _ _ (heap_setCell_same _ _ _ _ _ _ HB12.out))))))), Lib.hid (by
          refine AskLent.mono (base := w1.heap.size + 1) ?_ (by omega)
          repeat' (first | with_reducible exact HL2.out.mono (by simp) | with_reducible refine AskLent.set_below ?_ (by simp) _)), by
          repeat' (first | with_reducible exact X12.out | with_reducible refine Ext.set' ?_ (by simp) _)⟩
    case rest =>
      obtain ⟨g, ⟨B1, m1, k1, B2, m2, k2, B3, m3, k3⟩, rfl, hin, HLT, hx⟩ := hcut
      simp only at hin
      have HRT := Lib.hid (HLT.out.rd HRD.out HN.out.1 HN.out.2.1 HN.out.2.2)
      obtain ⟨j0, j1, j2, j3, j4, j5, j6, j7⟩ := box8 hin
      have HIN := Lib.hid hin
      have XB := Lib.hid (X1.out.trans hx)
      have HBW := Lib.hid (hx.block HB1.out)
      have HPC2 := Lib.hid (HPC.out _ _ HRT.out)
      have HKP2 := Lib.hid (fun (W : World) (hX : Ext wc W) => HKP.out W _ w.heap.size (XB.out.trans hX) (HLT.out.ext hX) HN.out.1 HN.out.2.1 HN.out.2.2)
      have HRC2 := Lib.hid (fun (W : World) (hX : Ext wc W) => HRC.out W (XB.out.trans hX))
      simp only at HPC2 HKP2
      clear hin hx d0 d1 d2 d3 d4 d5 d6 d7 HPC HKP HRC HLE HL HB1 X1
      go_wp2_with fail
      refine HPC2.out.mono ?_
      rintro e w2 ⟨A4, n4, c4, rfl, hp2, hx2⟩
      simp only at hp2
      have HP2 := Lib.hid hp2
      have X2 := Lib.hid hx2
      have DD := fun o : Obj => box8 ((hx2.trans (Ext.alloc w2 o)).block HBW.out)
      have d0 := fun o => (DD o).1
      have d1 := fun o => (DD o).2.1
      have d2 := fun o => (DD o).2.2.1
      have d3 := fun o => (DD o).2.2.2.1
      have d4 := fun o => (DD o).2.2.2.2.1
      have d5 := fun o => (DD o).2.2.2.2.2.1
      have d6 := fun o => (DD o).2.2.2.2.2.2.1
      have d7 := fun o => (DD o).2.2.2.2.2.2.2
      clear hp2 hx2 DD j0 j1 j2 j3 j4 j5 j6 j7
      simp only [pacV]
      go_wp2_with fail
      refine (HRC2.out _ (X2.out.trans (Ext.alloc _ _))).mono ?_
      rintro e w3 ⟨A5, n5, c5, rfl, hp3, hx3⟩
      simp only at hp3
      have HP3 := Lib.hid hp3
      have X3 := Lib.hid hx3
      have DD := fun o : Obj => box6 ((hx3.trans (Ext.alloc w3 o)).block (heap_alloc_new w2 _))
      have e0 := fun o => (DD o).1
      have e1 := fun o => (DD o).2.1
      have e2 := fun o => (DD o).2.2.1
      have e3 := fun o => (DD o).2.2.2.1
      have e4 := fun o => (DD o).2.2.2.2.1
      have e5 := fun o => (DD o).2.2.2.2.2.1
      have HS := Lib.hid (fun o => samePac_eq ⟨kd, ep, sq, pid, cd, l⟩ A4 A5 n4 n5 c4 c5 (w3.alloc o) (HP2.out.rd.ext ((Ext.alloc _ _).trans (X3.out.trans (Ext.alloc _ _)))) (HP3.out.rd.ext (Ext.alloc _ _)))
      clear hp3 hx3 DD d0 d1 d2 d3 d4 d5 d6 d7
      simp only [pacV] at HS ⊢
      go_wp2_with fail
      refine (HS.out _).mono ?_
      rintro e w4 ⟨rfl, hx4⟩
      have X4 := Lib.hid (X2.out.trans ((Ext.alloc _ _).trans (X3.out.trans ((Ext.alloc _ _).trans hx4))))
      obtain ⟨d0, d1, d2, d3, d4, d5, d6, d7⟩ := box8 (X4.out.block HBW.out)
      obtain ⟨j0, j1, j2, j3, j4, j5, j6, j7⟩ := box8 (X4.out.block HIN.out)
      clear hx4 e0 e1 e2 e3 e4 e5
      go_wp2_with fail
      refine (HKP2.out _ X4.out).mono ?_
      rintro e w5 ⟨rfl, hx5⟩
      go_wp2_with fail
      go_ret
      exact ⟨rfl, XB.out.trans (X4.out.trans hx5)⟩
end Go.Proofs.Ytjmddiffeffgnaa
