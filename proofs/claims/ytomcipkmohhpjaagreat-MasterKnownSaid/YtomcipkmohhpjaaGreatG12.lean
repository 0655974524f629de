/- The document's master: Hear. (genrem.py h prints this.) -/
import Derived.Test.YtomcipkmohhpjaaGreatMasC
import Derived.Test.YtomcipkmohhpjaaGreatG10
namespace Go.Proofs.YtomcipkmohhpjaaGreat
set_option linter.unusedVariables false
set_option linter.unusedSimpArgs false
set_option maxRecDepth 100000
set_option maxHeartbeats 2000000
open Go Go.RowKit Go.Out

theorem rem_hear_idle (b : List UInt8) (A : Option Addr) (n c : Nat) (w : World) (p : Nat) (F : Nat → Prop) (d : MasD) (h : RemAt w p F d) (hb : Rd w A n (b.map cB)) (hc : n ≤ c ∧ c ≤ 9223372036854775807) (hn : n ≤ 140737488355328) (hu : d.under = false) :
    Calls Tryz.prog 56 #[pM p, .slice A n c] w (RetHear RemAt w p F d out0 false) := by
  have HM := Lib.hid h
  have HOR := Lib.hid (fun W (hX : Ext w W) => refOpenRtu_any b A n c W (hb.ext hX) hc.1)
  have HLT := Lib.hid h.lt
  have HFP := Lib.hid h.foot
  have HC2 := Lib.hid (fun W (hX : Ext w W) => (show W.cell? ⟨p, 2, none⟩ = some (.bool d.under) ∧ W.cell? ⟨p, 3, none⟩ = some (.int .i64 (d.unit : Int)) ∧ W.cell? ⟨p, 4, none⟩ = some (.int .i64 (d.tries : Int)) ∧ W.frozen? ⟨p, 2, none⟩ = false from by
    obtain ⟨s, A9, n9, c9, h1, -⟩ := HM.out
    unfold remRow at h1
    exact ⟨(cells13 (hX.block h1)).2.2.1, (cells13 (hX.block h1)).2.2.2.1, (cells13 (hX.block h1)).2.2.2.2.1, frozen_of_row _ _ 2 _ _ (hX.block h1)⟩))
  rw [hu] at HC2
  clear h hb hc hn hu HOR
  unfold pM
  go_enter Tryz.func56, Tryz.ntmps56
  have HZ1 := Lib.hid (heap_alloc_new w (.cells #[.int .i64 0, .int .i64 0, .slice none 0 0, .slice none 0 0, .slice none 0 0, .int .i64 0] 59))
  have X1 := Lib.hid (Ext.alloc w (.cells #[.int .i64 0, .int .i64 0, .slice none 0 0, .slice none 0 0, .slice none 0 0, .int .i64 0] 59))
  obtain ⟨x2, -⟩ := HC2.out _ X1.out
  obtain ⟨v0, v1, v2, v3, v4, v5⟩ := cells6 HZ1.out
  have y0 := frozen_of_row _ _ 0 _ _ HZ1.out
  have y1 := frozen_of_row _ _ 1 _ _ HZ1.out
  have y2 := frozen_of_row _ _ 2 _ _ HZ1.out
  have y3 := frozen_of_row _ _ 3 _ _ HZ1.out
  have y4 := frozen_of_row _ _ 4 _ _ HZ1.out
  have y5 := frozen_of_row _ _ 5 _ _ HZ1.out
  have ty0 := frozen_of_row _ _ 0 _ _ HZ1.out
  have Ft0 := heap_setCell_same _ w.heap.size 0 _ _ (.int .i64 0) HZ1.out
  have Ft1 := heap_setCell_same _ w.heap.size 1 _ _ (.int .i64 0) Ft0
  have Ft2 := heap_setCell_same _ w.heap.size 2 _ _ (.slice none 0 0) Ft1
  have Ft3 := heap_setCell_same _ w.heap.size 3 _ _ (.slice none 0 0) Ft2
  have Ft4 := heap_setCell_same _ w.heap.size 4 _ _ (.slice none 0 0) Ft3
  have Ft5 := heap_setCell_same _ w.heap.size 5 _ _ (.int .i64 0) Ft4
  have F0 := Lib.hid ((cell_of_row _ _ 0 _ _ _ Ft0).trans (show _ = some (.int .i64 0) by simp))
  have F1 := Lib.hid ((cell_of_row _ _ 1 _ _ _ Ft1).trans (show _ = some (.int .i64 0) by simp))
  have F2 := Lib.hid ((cell_of_row _ _ 2 _ _ _ Ft2).trans (show _ = some (.slice none 0 0) by simp))
  have F3 := Lib.hid ((cell_of_row _ _ 3 _ _ _ Ft3).trans (show _ = some (.slice none 0 0) by simp))
  have F4 := Lib.hid ((cell_of_row _ _ 4 _ _ _ Ft4).trans (show _ = some (.slice none 0 0) by simp))
  have F5 := Lib.hid ((cell_of_row _ _ 5 _ _ _ Ft5).trans (show _ = some (.int .i64 0) by simp))
  clear ty0 Ft0 Ft1 Ft2 Ft3 Ft4 Ft5
  go_wp2_with fail
  all_goals
    refine bodyPost_ret (v := .tuple #[.agg #[.int .i64 0, .int .i64 0, .slice none 0 0, .slice none 0 0, .slice none 0 0, .int .i64 0], .bool false]) (by simp [results, Tryz.results56, go_sem, F0.out, F1.out, F2.out, F3.out, F4.out, F5.out]) rfl ⟨repS0, rfl, ?_, ?_, ?_⟩
    · repeat' (first | with_reducible exact (HM.out.ext X1.out) | with_reducible refine RemAt.set_far ?_ (fun h => by have := HLT.out _ h; simp only at this; omega) _)
    · repeat' (first | with_reducible exact (Only.of_ext X1.out) | with_reducible refine Only.set_new ?_ (by simp only; omega) _)
    · exact rep0_ow _ _
theorem rem_hear_bad (b : List UInt8) (A : Option Addr) (n c : Nat) (w : World) (p : Nat) (F : Nat → Prop) (d : MasD) (h : RemAt w p F d) (hb : Rd w A n (b.map cB)) (hc : n ≤ c ∧ c ≤ 9223372036854775807) (hn : n ≤ 140737488355328) (hu : d.under = true) (U : UInt8) (D : List UInt8) (E : Int) (hR : openRtuF b = (U, D, E)) (he : E ≠ 0) :
    Calls Tryz.prog 56 #[pM p, .slice A n c] w (RetHear RemAt w p F d out0 false) := by
  have HM := Lib.hid h
  have HOR := Lib.hid (fun W (hX : Ext w W) => refOpenRtu_any b A n c W (hb.ext hX) hc.1)
  have HLT := Lib.hid h.lt
  have HFP := Lib.hid h.foot
  have HC2 := Lib.hid (fun W (hX : Ext w W) => (show W.cell? ⟨p, 2, none⟩ = some (.bool d.under) ∧ W.cell? ⟨p, 3, none⟩ = some (.int .i64 (d.unit : Int)) ∧ W.cell? ⟨p, 4, none⟩ = some (.int .i64 (d.tries : Int)) ∧ W.frozen? ⟨p, 2, none⟩ = false from by
    obtain ⟨s, A9, n9, c9, h1, -⟩ := HM.out
    unfold remRow at h1
    exact ⟨(cells13 (hX.block h1)).2.2.1, (cells13 (hX.block h1)).2.2.2.1, (cells13 (hX.block h1)).2.2.2.2.1, frozen_of_row _ _ 2 _ _ (hX.block h1)⟩))
  rw [hu] at HC2
  have hDl : (openRtuF b).2.1.length ≤ b.length := openRtuF_lenH b
  rw [hR] at HOR hDl
  have hbl := hb.length
  have hwU : IntKind.i64.wrap (U.toNat : Int) = (U.toNat : Int) := IntWalk.i64_in _ (by have := U.toNat_lt; omega)
  have t3 : (E != 0) = true := by simp [he]
  clear h hb hc hn hu hR he hDl hbl
  unfold pM
  go_enter Tryz.func56, Tryz.ntmps56
  have HZ1 := Lib.hid (heap_alloc_new w (.cells #[.int .i64 0, .int .i64 0, .slice none 0 0, .slice none 0 0, .slice none 0 0, .int .i64 0] 59))
  have X1 := Lib.hid (Ext.alloc w (.cells #[.int .i64 0, .int .i64 0, .slice none 0 0, .slice none 0 0, .slice none 0 0, .int .i64 0] 59))
  obtain ⟨x2, -⟩ := HC2.out _ X1.out
  go_wp2_with fail
  refine (HOR.out _ X1.out).mono ?_
  rintro e2 w2 ⟨A2, n2, c2, rfl, ho2, hx2⟩
  have X2 := Lib.hid (X1.out.trans (Ext.of hx2))
  have HZ2 := Lib.hid ((Ext.of hx2).block HZ1.out)
  have HO2 := Lib.hid ho2
  obtain ⟨-, x3, -⟩ := HC2.out _ X2.out
  clear ho2 hx2 HOR HZ1 X1 x2
  obtain ⟨v0, v1, v2, v3, v4, v5⟩ := cells6 HZ2.out
  have y0 := frozen_of_row _ _ 0 _ _ HZ2.out
  have y1 := frozen_of_row _ _ 1 _ _ HZ2.out
  have y2 := frozen_of_row _ _ 2 _ _ HZ2.out
  have y3 := frozen_of_row _ _ 3 _ _ HZ2.out
  have y4 := frozen_of_row _ _ 4 _ _ HZ2.out
  have y5 := frozen_of_row _ _ 5 _ _ HZ2.out
  have ty0 := frozen_of_row _ _ 0 _ _ HZ2.out
  have Ft0 := heap_setCell_same _ w.heap.size 0 _ _ (.int .i64 0) HZ2.out
  have Ft1 := heap_setCell_same _ w.heap.size 1 _ _ (.int .i64 0) Ft0
  have Ft2 := heap_setCell_same _ w.heap.size 2 _ _ (.slice none 0 0) Ft1
  have Ft3 := heap_setCell_same _ w.heap.size 3 _ _ (.slice none 0 0) Ft2
  have Ft4 := heap_setCell_same _ w.heap.size 4 _ _ (.slice none 0 0) Ft3
  have Ft5 := heap_setCell_same _ w.heap.size 5 _ _ (.int .i64 0) Ft4
  have F0 := Lib.hid ((cell_of_row _ _ 0 _ _ _ Ft0).trans (show _ = some (.int .i64 0) by simp))
  have F1 := Lib.hid ((cell_of_row _ _ 1 _ _ _ Ft1).trans (show _ = some (.int .i64 0) by simp))
  have F2 := Lib.hid ((cell_of_row _ _ 2 _ _ _ Ft2).trans (show _ = some (.slice none 0 0) by simp))
  have F3 := Lib.hid ((cell_of_row _ _ 3 _ _ _ Ft3).trans (show _ = some (.slice none 0 0) by simp))
  have F4 := Lib.hid ((cell_of_row _ _ 4 _ _ _ Ft4).trans (show _ = some (.slice none 0 0) by simp))
  have F5 := Lib.hid ((cell_of_row _ _ 5 _ _ _ Ft5).trans (show _ = some (.int .i64 0) by simp))
  clear ty0 Ft0 Ft1 Ft2 Ft3 Ft4 Ft5
  go_wp2_with fail
  all_goals
    refine bodyPost_ret (v := .tuple #[.agg #[.int .i64 0, .int .i64 0, .slice none 0 0, .slice none 0 0, .slice none 0 0, .int .i64 0], .bool false]) (by simp [results, Tryz.results56, go_sem, F0.out, F1.out, F2.out, F3.out, F4.out, F5.out]) rfl ⟨repS0, rfl, ?_, ?_, ?_⟩
    · repeat' (first | with_reducible exact (HM.out.ext X2.out) | with_reducible refine RemAt.set_far ?_ (fun h => by have := HLT.out _ h; simp only at this; omega) _)
    · repeat' (first | with_reducible exact (Only.of_ext X2.out) | with_reducible refine Only.set_new ?_ (by simp only; omega) _)
    · exact rep0_ow _ _
theorem rem_hear_unit (b : List UInt8) (A : Option Addr) (n c : Nat) (w : World) (p : Nat) (F : Nat → Prop) (d : MasD) (h : RemAt w p F d) (hb : Rd w A n (b.map cB)) (hc : n ≤ c ∧ c ≤ 9223372036854775807) (hn : n ≤ 140737488355328) (hu : d.under = true) (U : UInt8) (D : List UInt8) (hR : openRtuF b = (U, D, 0)) (he : U.toNat ≠ d.unit) :
    Calls Tryz.prog 56 #[pM p, .slice A n c] w (RetHear RemAt w p F d out0 false) := by
  have HM := Lib.hid h
  have HOR := Lib.hid (fun W (hX : Ext w W) => refOpenRtu_any b A n c W (hb.ext hX) hc.1)
  have HLT := Lib.hid h.lt
  have HFP := Lib.hid h.foot
  have HC2 := Lib.hid (fun W (hX : Ext w W) => (show W.cell? ⟨p, 2, none⟩ = some (.bool d.under) ∧ W.cell? ⟨p, 3, none⟩ = some (.int .i64 (d.unit : Int)) ∧ W.cell? ⟨p, 4, none⟩ = some (.int .i64 (d.tries : Int)) ∧ W.frozen? ⟨p, 2, none⟩ = false from by
    obtain ⟨s, A9, n9, c9, h1, -⟩ := HM.out
    unfold remRow at h1
    exact ⟨(cells13 (hX.block h1)).2.2.1, (cells13 (hX.block h1)).2.2.2.1, (cells13 (hX.block h1)).2.2.2.2.1, frozen_of_row _ _ 2 _ _ (hX.block h1)⟩))
  rw [hu] at HC2
  have hDl : (openRtuF b).2.1.length ≤ b.length := openRtuF_lenH b
  rw [hR] at HOR hDl
  have hbl := hb.length
  have hwU : IntKind.i64.wrap (U.toNat : Int) = (U.toNat : Int) := IntWalk.i64_in _ (by have := U.toNat_lt; omega)
  have t3 : ((U.toNat : Int) != (d.unit : Int)) = true := by simp; omega
  clear h hb hc hn hu hR he hDl hbl
  unfold pM
  go_enter Tryz.func56, Tryz.ntmps56
  have HZ1 := Lib.hid (heap_alloc_new w (.cells #[.int .i64 0, .int .i64 0, .slice none 0 0, .slice none 0 0, .slice none 0 0, .int .i64 0] 59))
  have X1 := Lib.hid (Ext.alloc w (.cells #[.int .i64 0, .int .i64 0, .slice none 0 0, .slice none 0 0, .slice none 0 0, .int .i64 0] 59))
  obtain ⟨x2, -⟩ := HC2.out _ X1.out
  go_wp2_with fail
  refine (HOR.out _ X1.out).mono ?_
  rintro e2 w2 ⟨A2, n2, c2, rfl, ho2, hx2⟩
  have X2 := Lib.hid (X1.out.trans (Ext.of hx2))
  have HZ2 := Lib.hid ((Ext.of hx2).block HZ1.out)
  have HO2 := Lib.hid ho2
  obtain ⟨-, x3, -⟩ := HC2.out _ X2.out
  clear ho2 hx2 HOR HZ1 X1 x2
  obtain ⟨v0, v1, v2, v3, v4, v5⟩ := cells6 HZ2.out
  have y0 := frozen_of_row _ _ 0 _ _ HZ2.out
  have y1 := frozen_of_row _ _ 1 _ _ HZ2.out
  have y2 := frozen_of_row _ _ 2 _ _ HZ2.out
  have y3 := frozen_of_row _ _ 3 _ _ HZ2.out
  have y4 := frozen_of_row _ _ 4 _ _ HZ2.out
  have y5 := frozen_of_row _ _ 5 _ _ HZ2.out
  have ty0 := frozen_of_row _ _ 0 _ _ HZ2.out
  have Ft0 := heap_setCell_same _ w.heap.size 0 _ _ (.int .i64 0) HZ2.out
  have Ft1 := heap_setCell_same _ w.heap.size 1 _ _ (.int .i64 0) Ft0
  have Ft2 := heap_setCell_same _ w.heap.size 2 _ _ (.slice none 0 0) Ft1
  have Ft3 := heap_setCell_same _ w.heap.size 3 _ _ (.slice none 0 0) Ft2
  have Ft4 := heap_setCell_same _ w.heap.size 4 _ _ (.slice none 0 0) Ft3
  have Ft5 := heap_setCell_same _ w.heap.size 5 _ _ (.int .i64 0) Ft4
  have F0 := Lib.hid ((cell_of_row _ _ 0 _ _ _ Ft0).trans (show _ = some (.int .i64 0) by simp))
  have F1 := Lib.hid ((cell_of_row _ _ 1 _ _ _ Ft1).trans (show _ = some (.int .i64 0) by simp))
  have F2 := Lib.hid ((cell_of_row _ _ 2 _ _ _ Ft2).trans (show _ = some (.slice none 0 0) by simp))
  have F3 := Lib.hid ((cell_of_row _ _ 3 _ _ _ Ft3).trans (show _ = some (.slice none 0 0) by simp))
  have F4 := Lib.hid ((cell_of_row _ _ 4 _ _ _ Ft4).trans (show _ = some (.slice none 0 0) by simp))
  have F5 := Lib.hid ((cell_of_row _ _ 5 _ _ _ Ft5).trans (show _ = some (.int .i64 0) by simp))
  clear ty0 Ft0 Ft1 Ft2 Ft3 Ft4 Ft5
  go_wp2_with fail
  all_goals
    refine bodyPost_ret (v := .tuple #[.agg #[.int .i64 0, .int .i64 0, .slice none 0 0, .slice none 0 0, .slice none 0 0, .int .i64 0], .bool false]) (by simp [results, Tryz.results56, go_sem, F0.out, F1.out, F2.out, F3.out, F4.out, F5.out]) rfl ⟨repS0, rfl, ?_, ?_, ?_⟩
    · repeat' (first | with_reducible exact (HM.out.ext X2.out) | with_reducible refine RemAt.set_far ?_ (fun h => by have := HLT.out _ h; simp only at this; omega) _)
    · repeat' (first | with_reducible exact (Only.of_ext X2.out) | with_reducible refine Only.set_new ?_ (by simp only; omega) _)
    · exact rep0_ow _ _
theorem rem_get (D : List UInt8) (w w2 : World) (p : Nat) (F : Nat → Prop) (d : MasD) (h : RemAt w p F d) (hx : Ext w w2) (A2 : Option Addr) (n2 c2 : Nat) (hD : Rd w2 A2 n2 (D.map cB)) (hc : n2 ≤ c2 ∧ c2 ≤ 9223372036854775807) (hn : n2 ≤ 140737488355328) :
    ∃ s : AskS, (w2.cell? ⟨p, 6, none⟩ = some (.int .i64 d.ask.code) ∧ w2.cell? ⟨p, 7, none⟩ = some (.int .i64 d.ask.addr) ∧ w2.cell? ⟨p, 8, none⟩ = some (.int .i64 d.ask.count) ∧ w2.cell? ⟨p, 9, none⟩ = some (.slice s.A1 s.n1 s.c1) ∧ w2.cell? ⟨p, 10, none⟩ = some (.slice s.A2 s.n2 s.c2) ∧ w2.cell? ⟨p, 11, none⟩ = some (.slice s.A3 s.n3 s.c3)) ∧
      Calls Tryz.prog 96 #[askV d.ask s, .slice A2 n2 c2] w2 (RetGR w2 (getR d.ask D)) := by
  obtain ⟨s, A9, n9, c9, h1, h2, -, -, -, h6⟩ := h
  unfold remRow at h1
  obtain ⟨-, -, -, -, -, -, k5, k6, k7, k8, k9, k10, -⟩ := cells13 (hx.block h1)
  exact ⟨s, ⟨k5, k6, k7, k8, k9, k10⟩, ref04Get_any d.ask D s A2 n2 c2 w2 (h2 w2 ⟨hx.size, fun k hk => Below.block hx k (h6 k hk.1)⟩).1 hD hc hn⟩
theorem rem_hear_err (b : List UInt8) (A : Option Addr) (n c : Nat) (w : World) (p : Nat) (F : Nat → Prop) (d : MasD) (h : RemAt w p F d) (hb : Rd w A n (b.map cB)) (hc : n ≤ c ∧ c ≤ 9223372036854775807) (hn : n ≤ 140737488355328) (hu : d.under = true) (U : UInt8) (D : List UInt8) (hR : openRtuF b = (U, D, 0)) (hU : U.toNat = d.unit) (he : (getR d.ask D).2 ≠ 0) :
    Calls Tryz.prog 56 #[pM p, .slice A n c] w (RetHear RemAt w p F d out0 false) := by
  have HM := Lib.hid h
  have HOR := Lib.hid (fun W (hX : Ext w W) => refOpenRtu_any b A n c W (hb.ext hX) hc.1)
  have HLT := Lib.hid h.lt
  have HFP := Lib.hid h.foot
  have HC2 := Lib.hid (fun W (hX : Ext w W) => (show W.cell? ⟨p, 2, none⟩ = some (.bool d.under) ∧ W.cell? ⟨p, 3, none⟩ = some (.int .i64 (d.unit : Int)) ∧ W.cell? ⟨p, 4, none⟩ = some (.int .i64 (d.tries : Int)) ∧ W.frozen? ⟨p, 2, none⟩ = false from by
    obtain ⟨s, A9, n9, c9, h1, -⟩ := HM.out
    unfold remRow at h1
    exact ⟨(cells13 (hX.block h1)).2.2.1, (cells13 (hX.block h1)).2.2.2.1, (cells13 (hX.block h1)).2.2.2.2.1, frozen_of_row _ _ 2 _ _ (hX.block h1)⟩))
  rw [hu] at HC2
  have hDl : (openRtuF b).2.1.length ≤ b.length := openRtuF_lenH b
  rw [hR] at HOR hDl
  have hbl := hb.length
  have hwU : IntKind.i64.wrap (U.toNat : Int) = (U.toNat : Int) := IntWalk.i64_in _ (by have := U.toNat_lt; omega)
  have t3 : ((U.toNat : Int) != (d.unit : Int)) = false := by simp; omega
  have t5 : ((getR d.ask D).2 != 0) = true := by simp [he]
  have hDn : D.length ≤ 140737488355328 := Nat.le_trans hDl (by omega)
  clear h hb hc hn hu hR hU hDl hbl he
  unfold pM
  go_enter Tryz.func56, Tryz.ntmps56
  have HZ1 := Lib.hid (heap_alloc_new w (.cells #[.int .i64 0, .int .i64 0, .slice none 0 0, .slice none 0 0, .slice none 0 0, .int .i64 0] 59))
  have X1 := Lib.hid (Ext.alloc w (.cells #[.int .i64 0, .int .i64 0, .slice none 0 0, .slice none 0 0, .slice none 0 0, .int .i64 0] 59))
  obtain ⟨x2, -⟩ := HC2.out _ X1.out
  go_wp2_with fail
  refine (HOR.out _ X1.out).mono ?_
  rintro e2 w2 ⟨A2, n2, c2, rfl, ho2, hx2⟩
  have X2 := Lib.hid (X1.out.trans (Ext.of hx2))
  have HZ2 := Lib.hid ((Ext.of hx2).block HZ1.out)
  have HO2 := Lib.hid ho2
  obtain ⟨-, x3, -⟩ := HC2.out _ X2.out
  clear ho2 hx2 HOR HZ1 X1 x2
  obtain ⟨s, ⟨x5, x6, x7, x8, x9, x10⟩, hg⟩ := rem_get D w w2 p F d HM.out X2.out A2 n2 c2 HO2.out.rd ⟨HO2.out.cap, HO2.out.capLe⟩ (by have := HO2.out.len; simp only [List.length_map] at this; omega)
  have HG := Lib.hid hg
  clear hg
  generalize getR d.ask D = gr at *
  obtain ⟨rr, ge⟩ := gr
  obtain ⟨exc, ron, rset, rfiles⟩ := rr
  unfold askV at HG
  go_wp2_with fail
  refine HG.out.mono ?_
  rintro e3 w3 ⟨⟨B1, m1, k1, B2, m2, k2, B3, m3, k3⟩, rfl, ht, hx3⟩
  have HT3 := Lib.hid ht
  have X3 := Lib.hid (X2.out.trans hx3)
  have HZ3 := Lib.hid (hx3.block HZ2.out)
  have hlt3 := lt_of_heap HZ3.out
  have hlt2 := lt_of_heap HZ2.out
  clear ht hx3 HG HZ2 x3 x5 x6 x7 x8 x9 x10
  simp only [repV]
  obtain ⟨v0, v1, v2, v3, v4, v5⟩ := cells6 HZ3.out
  have y0 := frozen_of_row _ _ 0 _ _ HZ3.out
  have y1 := frozen_of_row _ _ 1 _ _ HZ3.out
  have y2 := frozen_of_row _ _ 2 _ _ HZ3.out
  have y3 := frozen_of_row _ _ 3 _ _ HZ3.out
  have y4 := frozen_of_row _ _ 4 _ _ HZ3.out
  have y5 := frozen_of_row _ _ 5 _ _ HZ3.out
  have hs6 : ((((((w3.setCell ⟨w.heap.size, 0, none⟩ (.int .i64 0)).setCell ⟨w.heap.size, 1, none⟩ (.int .i64 0)).setCell ⟨w.heap.size, 2, none⟩ (.slice none 0 0)).setCell ⟨w.heap.size, 3, none⟩ (.slice none 0 0)).setCell ⟨w.heap.size, 4, none⟩ (.slice none 0 0)).setCell ⟨w.heap.size, 5, none⟩ (.int .i64 0)).heap[w.heap.size]? = some (.cells #[.int .i64 0, .int .i64 0, .slice none 0 0, .slice none 0 0, .slice none 0 0, .int .i64 0] 59 (0, 0)) := by
    have st0 := heap_setCell_same _ w.heap.size 0 _ _ (.int .i64 0) HZ3.out
    have st1 := heap_setCell_same _ w.heap.size 1 _ _ (.int .i64 0) st0
    have st2 := heap_setCell_same _ w.heap.size 2 _ _ (.slice none 0 0) st1
    have st3 := heap_setCell_same _ w.heap.size 3 _ _ (.slice none 0 0) st2
    have st4 := heap_setCell_same _ w.heap.size 4 _ _ (.slice none 0 0) st3
    have st5 := heap_setCell_same _ w.heap.size 5 _ _ (.int .i64 0) st4
    exact st5.trans (by simp)
  have G6 := fun o => cells6 ((Ext.alloc _ o).block hs6)
  have F0 := Lib.hid (fun o => (G6 o).1)
  have F1 := Lib.hid (fun o => (G6 o).2.1)
  have F2 := Lib.hid (fun o => (G6 o).2.2.1)
  have F3 := Lib.hid (fun o => (G6 o).2.2.2.1)
  have F4 := Lib.hid (fun o => (G6 o).2.2.2.2.1)
  have F5 := Lib.hid (fun o => (G6 o).2.2.2.2.2)
  clear G6 hs6
  go_wp2_with fail
  all_goals
    refine bodyPost_ret (v := .tuple #[.agg #[.int .i64 0, .int .i64 0, .slice none 0 0, .slice none 0 0, .slice none 0 0, .int .i64 0], .bool false]) (by simp [results, Tryz.results56, go_sem, F0.out, F1.out, F2.out, F3.out, F4.out, F5.out]) rfl ⟨repS0, rfl, ?_, ?_, ?_⟩
    · refine RemAt.ext ?_ (Ext.alloc _ _)
      repeat' (first | with_reducible exact (HM.out.ext X3.out) | with_reducible refine RemAt.set_far ?_ (fun h => by have := HLT.out _ h; simp only at this; omega) _)
    · refine Only.trans ?_ (Only.of_ext (F := F) (Ext.alloc _ _)) (fun _ _ q => q)
      repeat' (first | with_reducible exact (Only.of_ext X3.out) | with_reducible refine Only.set_new ?_ (by simp only; omega) _)
    · exact rep0_ow _ _
theorem rem_hear_exc (b : List UInt8) (A : Option Addr) (n c : Nat) (w : World) (p : Nat) (F : Nat → Prop) (d : MasD) (h : RemAt w p F d) (hb : Rd w A n (b.map cB)) (hc : n ≤ c ∧ c ≤ 9223372036854775807) (hn : n ≤ 140737488355328) (hu : d.under = true) (U : UInt8) (D : List UInt8) (hR : openRtuF b = (U, D, 0)) (hU : U.toNat = d.unit) (he : (getR d.ask D).2 = 0) (hx0 : (getR d.ask D).1.exc ≠ 0) :
    Calls Tryz.prog 56 #[pM p, .slice A n c] w (RetHear RemAt w p F { d with under := false } ⟨2, (getR d.ask D).1, d.tries⟩ true) := by
  have HM := Lib.hid h
  have HOR := Lib.hid (fun W (hX : Ext w W) => refOpenRtu_any b A n c W (hb.ext hX) hc.1)
  have HLT := Lib.hid h.lt
  have HFP := Lib.hid h.foot
  have HC2 := Lib.hid (fun W (hX : Ext w W) => (show W.cell? ⟨p, 2, none⟩ = some (.bool d.under) ∧ W.cell? ⟨p, 3, none⟩ = some (.int .i64 (d.unit : Int)) ∧ W.cell? ⟨p, 4, none⟩ = some (.int .i64 (d.tries : Int)) ∧ W.frozen? ⟨p, 2, none⟩ = false from by
    obtain ⟨s, A9, n9, c9, h1, -⟩ := HM.out
    unfold remRow at h1
    exact ⟨(cells13 (hX.block h1)).2.2.1, (cells13 (hX.block h1)).2.2.2.1, (cells13 (hX.block h1)).2.2.2.2.1, frozen_of_row _ _ 2 _ _ (hX.block h1)⟩))
  rw [hu] at HC2
  have hDl : (openRtuF b).2.1.length ≤ b.length := openRtuF_lenH b
  rw [hR] at HOR hDl
  have hbl := hb.length
  have hwU : IntKind.i64.wrap (U.toNat : Int) = (U.toNat : Int) := IntWalk.i64_in _ (by have := U.toNat_lt; omega)
  have t3 : ((U.toNat : Int) != (d.unit : Int)) = false := by simp; omega
  have t6 : ((getR d.ask D).1.exc != 0) = true := by simp [hx0]
  have hDn : D.length ≤ 140737488355328 := Nat.le_trans hDl (by omega)
  clear h hb hc hn hu hR hU hDl hbl hx0
  unfold pM
  go_enter Tryz.func56, Tryz.ntmps56
  have HZ1 := Lib.hid (heap_alloc_new w (.cells #[.int .i64 0, .int .i64 0, .slice none 0 0, .slice none 0 0, .slice none 0 0, .int .i64 0] 59))
  have X1 := Lib.hid (Ext.alloc w (.cells #[.int .i64 0, .int .i64 0, .slice none 0 0, .slice none 0 0, .slice none 0 0, .int .i64 0] 59))
  obtain ⟨x2, -⟩ := HC2.out _ X1.out
  go_wp2_with fail
  refine (HOR.out _ X1.out).mono ?_
  rintro e2 w2 ⟨A2, n2, c2, rfl, ho2, hx2⟩
  have X2 := Lib.hid (X1.out.trans (Ext.of hx2))
  have HZ2 := Lib.hid ((Ext.of hx2).block HZ1.out)
  have HO2 := Lib.hid ho2
  obtain ⟨-, x3, -⟩ := HC2.out _ X2.out
  clear ho2 hx2 HOR HZ1 X1 x2
  obtain ⟨s, ⟨x5, x6, x7, x8, x9, x10⟩, hg⟩ := rem_get D w w2 p F d HM.out X2.out A2 n2 c2 HO2.out.rd ⟨HO2.out.cap, HO2.out.capLe⟩ (by have := HO2.out.len; simp only [List.length_map] at this; omega)
  have HG := Lib.hid hg
  clear hg
  generalize getR d.ask D = gr at *
  obtain ⟨rr, ge⟩ := gr
  obtain ⟨exc, ron, rset, rfiles⟩ := rr
  obtain rfl : ge = 0 := he
  unfold askV at HG
  go_wp2_with fail
  refine HG.out.mono ?_
  rintro e3 w3 ⟨⟨B1, m1, k1, B2, m2, k2, B3, m3, k3⟩, rfl, ht, hx3⟩
  have HT3 := Lib.hid ht
  have X3 := Lib.hid (X2.out.trans hx3)
  have HZ3 := Lib.hid (hx3.block HZ2.out)
  have hlt3 := lt_of_heap HZ3.out
  have hlt2 := lt_of_heap HZ2.out
  clear ht hx3 HG HZ2 x3 x5 x6 x7 x8 x9 x10
  simp only [repV]
  have XA := Lib.hid (X3.out.trans (Ext.alloc w3 (.cells #[.int .i64 exc, .slice B1 m1 k1, .slice B2 m2 k2, .slice B3 m3 k3] 40)))
  have HBA := Lib.hid (heap_alloc_new w3 (.cells #[.int .i64 exc, .slice B1 m1 k1, .slice B2 m2 k2, .slice B3 m3 k3] 40))
  have HZA := Lib.hid ((Ext.alloc w3 (.cells #[.int .i64 exc, .slice B1 m1 k1, .slice B2 m2 k2, .slice B3 m3 k3] 40)).block HZ3.out)
  have HTA := Lib.hid (HT3.out.ext (Ext.alloc w3 (.cells #[.int .i64 exc, .slice B1 m1 k1, .slice B2 m2 k2, .slice B3 m3 k3] 40)))
  have hend := RemAt.ended HM.out XA.out
  have HMA := Lib.hid hend.1; have HOO := Lib.hid hend.2
  have hpz := HLT.out p HFP.out
  have hsz3 : w3.heap.size < (w3.alloc (.cells #[.int .i64 exc, .slice B1 m1 k1, .slice B2 m2 k2, .slice B3 m3 k3] 40)).heap.size := lt_of_heap HBA.out
  have HZ5 := Lib.hid ((Below.heap_setCell (w3.alloc (.cells #[.int .i64 exc, .slice B1 m1 k1, .slice B2 m2 k2, .slice B3 m3 k3] 40)) ⟨p, 2, none⟩ (.bool false) w.heap.size (by simp; omega)).trans HZA.out)
  have HB5 := Lib.hid ((Below.heap_setCell (w3.alloc (.cells #[.int .i64 exc, .slice B1 m1 k1, .slice B2 m2 k2, .slice B3 m3 k3] 40)) ⟨p, 2, none⟩ (.bool false) w3.heap.size (by simp; omega)).trans HBA.out)
  have HT5 : Hid (RepOw ((w3.alloc (.cells #[.int .i64 exc, .slice B1 m1 k1, .slice B2 m2 k2, .slice B3 m3 k3] 40)).setCell ⟨p, 2, none⟩ (.bool false)) w2.heap.size ⟨exc, ron, rset, rfiles⟩ ⟨B1, m1, k1, B2, m2, k2, B3, m3, k3⟩) := HTA.out.set_below (q := ⟨p, 2, none⟩) (by simp only; omega) _
  have x4 : ((w3.alloc (.cells #[.int .i64 exc, .slice B1 m1 k1, .slice B2 m2 k2, .slice B3 m3 k3] 40)).setCell ⟨p, 2, none⟩ (.bool false)).cell? ⟨p, 4, none⟩ = some (.int .i64 (d.tries : Int)) := by
    obtain ⟨s4, A4, n4, c4, h4, -⟩ := hend.1
    unfold remRow at h4
    exact (cells13 h4).2.2.2.2.1
  obtain ⟨x2, -, -, z2⟩ := HC2.out _ XA.out
  obtain ⟨b0, b1, b2, b3⟩ := cells4 HB5.out
  clear hend HT3 HZ3 HBA HZA HTA HM HC2
  go_wp2_with fail
  clear x2 z2
  generalize (w3.alloc (.cells #[.int .i64 exc, .slice B1 m1 k1, .slice B2 m2 k2, .slice B3 m3 k3] 40)).setCell ⟨p, 2, none⟩ (.bool false) = w5 at *
  obtain ⟨v0, v1, v2, v3, v4, v5⟩ := cells6 HZ5.out
  have y0 := frozen_of_row _ _ 0 _ _ HZ5.out
  have y1 := frozen_of_row _ _ 1 _ _ HZ5.out
  have y2 := frozen_of_row _ _ 2 _ _ HZ5.out
  have y3 := frozen_of_row _ _ 3 _ _ HZ5.out
  have y4 := frozen_of_row _ _ 4 _ _ HZ5.out
  have y5 := frozen_of_row _ _ 5 _ _ HZ5.out
  have ty0 := frozen_of_row _ _ 0 _ _ HZ5.out
  have Ft0 := heap_setCell_same _ w.heap.size 0 _ _ (.int .i64 2) HZ5.out
  have Ft1 := heap_setCell_same _ w.heap.size 1 _ _ (.int .i64 exc) Ft0
  have Ft2 := heap_setCell_same _ w.heap.size 2 _ _ (.slice B1 m1 k1) Ft1
  have Ft3 := heap_setCell_same _ w.heap.size 3 _ _ (.slice B2 m2 k2) Ft2
  have Ft4 := heap_setCell_same _ w.heap.size 4 _ _ (.slice B3 m3 k3) Ft3
  have Ft5 := heap_setCell_same _ w.heap.size 5 _ _ (.int .i64 (d.tries : Int)) Ft4
  have F0 := Lib.hid ((cell_of_row _ _ 0 _ _ _ Ft0).trans (show _ = some (.int .i64 2) by simp))
  have F1 := Lib.hid ((cell_of_row _ _ 1 _ _ _ Ft1).trans (show _ = some (.int .i64 exc) by simp))
  have F2 := Lib.hid ((cell_of_row _ _ 2 _ _ _ Ft2).trans (show _ = some (.slice B1 m1 k1) by simp))
  have F3 := Lib.hid ((cell_of_row _ _ 3 _ _ _ Ft3).trans (show _ = some (.slice B2 m2 k2) by simp))
  have F4 := Lib.hid ((cell_of_row _ _ 4 _ _ _ Ft4).trans (show _ = some (.slice B3 m3 k3) by simp))
  have F5 := Lib.hid ((cell_of_row _ _ 5 _ _ _ Ft5).trans (show _ = some (.int .i64 (d.tries : Int)) by simp))
  clear ty0 Ft0 Ft1 Ft2 Ft3 Ft4 Ft5
  go_region_law (fail)
  all_goals
    go_wp2_with fail
    refine bodyPost_ret (v := .tuple #[.agg #[.int .i64 2, .int .i64 exc, .slice B1 m1 k1, .slice B2 m2 k2, .slice B3 m3 k3, .int .i64 (d.tries : Int)], .bool true]) (by simp [results, Tryz.results56, go_sem, F0.out, F1.out, F2.out, F3.out, F4.out, F5.out]) rfl ⟨⟨B1, m1, k1, B2, m2, k2, B3, m3, k3⟩, rfl, ?_, ?_, ?_⟩
    · refine RemAt.ext ?_ (Ext.draw _)
      repeat' (first | with_reducible exact HMA.out | with_reducible refine RemAt.set_far ?_ (fun h => by have := HLT.out _ h; simp only at this; omega) _)
    · refine Only.drew' ?_
      repeat' (first | with_reducible exact HOO.out | with_reducible refine Only.set_new ?_ (by simp only; omega) _)
    · refine RepOw.ext ?_ (Ext.draw _)
      refine RepOw.mono ?_ (Nat.le_of_lt hlt2)
      repeat' (first | with_reducible exact HT5.out | with_reducible refine RepOw.set_below ?_ (by simp only; omega) _)
theorem rem_hear_ans (b : List UInt8) (A : Option Addr) (n c : Nat) (w : World) (p : Nat) (F : Nat → Prop) (d : MasD) (h : RemAt w p F d) (hb : Rd w A n (b.map cB)) (hc : n ≤ c ∧ c ≤ 9223372036854775807) (hn : n ≤ 140737488355328) (hu : d.under = true) (U : UInt8) (D : List UInt8) (hR : openRtuF b = (U, D, 0)) (hU : U.toNat = d.unit) (he : (getR d.ask D).2 = 0) (hx0 : (getR d.ask D).1.exc = 0) :
    Calls Tryz.prog 56 #[pM p, .slice A n c] w (RetHear RemAt w p F { d with under := false } ⟨1, (getR d.ask D).1, d.tries⟩ true) := by
  have HM := Lib.hid h
  have HOR := Lib.hid (fun W (hX : Ext w W) => refOpenRtu_any b A n c W (hb.ext hX) hc.1)
  have HLT := Lib.hid h.lt
  have HFP := Lib.hid h.foot
  have HC2 := Lib.hid (fun W (hX : Ext w W) => (show W.cell? ⟨p, 2, none⟩ = some (.bool d.under) ∧ W.cell? ⟨p, 3, none⟩ = some (.int .i64 (d.unit : Int)) ∧ W.cell? ⟨p, 4, none⟩ = some (.int .i64 (d.tries : Int)) ∧ W.frozen? ⟨p, 2, none⟩ = false from by
    obtain ⟨s, A9, n9, c9, h1, -⟩ := HM.out
    unfold remRow at h1
    exact ⟨(cells13 (hX.block h1)).2.2.1, (cells13 (hX.block h1)).2.2.2.1, (cells13 (hX.block h1)).2.2.2.2.1, frozen_of_row _ _ 2 _ _ (hX.block h1)⟩))
  rw [hu] at HC2
  have hDl : (openRtuF b).2.1.length ≤ b.length := openRtuF_lenH b
  rw [hR] at HOR hDl
  have hbl := hb.length
  have hwU : IntKind.i64.wrap (U.toNat : Int) = (U.toNat : Int) := IntWalk.i64_in _ (by have := U.toNat_lt; omega)
  have t3 : ((U.toNat : Int) != (d.unit : Int)) = false := by simp; omega
  have t6 : ((getR d.ask D).1.exc != 0) = false := by simp [hx0]
  have hDn : D.length ≤ 140737488355328 := Nat.le_trans hDl (by omega)
  clear h hb hc hn hu hR hU hDl hbl hx0
  unfold pM
  go_enter Tryz.func56, Tryz.ntmps56
  have HZ1 := Lib.hid (heap_alloc_new w (.cells #[.int .i64 0, .int .i64 0, .slice none 0 0, .slice none 0 0, .slice none 0 0, .int .i64 0] 59))
  have X1 := Lib.hid (Ext.alloc w (.cells #[.int .i64 0, .int .i64 0, .slice none 0 0, .slice none 0 0, .slice none 0 0, .int .i64 0] 59))
  obtain ⟨x2, -⟩ := HC2.out _ X1.out
  go_wp2_with fail
  refine (HOR.out _ X1.out).mono ?_
  rintro e2 w2 ⟨A2, n2, c2, rfl, ho2, hx2⟩
  have X2 := Lib.hid (X1.out.trans (Ext.of hx2))
  have HZ2 := Lib.hid ((Ext.of hx2).block HZ1.out)
  have HO2 := Lib.hid ho2
  obtain ⟨-, x3, -⟩ := HC2.out _ X2.out
  clear ho2 hx2 HOR HZ1 X1 x2
  obtain ⟨s, ⟨x5, x6, x7, x8, x9, x10⟩, hg⟩ := rem_get D w w2 p F d HM.out X2.out A2 n2 c2 HO2.out.rd ⟨HO2.out.cap, HO2.out.capLe⟩ (by have := HO2.out.len; simp only [List.length_map] at this; omega)
  have HG := Lib.hid hg
  clear hg
  generalize getR d.ask D = gr at *
  obtain ⟨rr, ge⟩ := gr
  obtain ⟨exc, ron, rset, rfiles⟩ := rr
  obtain rfl : ge = 0 := he
  unfold askV at HG
  go_wp2_with fail
  refine HG.out.mono ?_
  rintro e3 w3 ⟨⟨B1, m1, k1, B2, m2, k2, B3, m3, k3⟩, rfl, ht, hx3⟩
  have HT3 := Lib.hid ht
  have X3 := Lib.hid (X2.out.trans hx3)
  have HZ3 := Lib.hid (hx3.block HZ2.out)
  have hlt3 := lt_of_heap HZ3.out
  have hlt2 := lt_of_heap HZ2.out
  clear ht hx3 HG HZ2 x3 x5 x6 x7 x8 x9 x10
  simp only [repV]
  have XA := Lib.hid (X3.out.trans (Ext.alloc w3 (.cells #[.int .i64 exc, .slice B1 m1 k1, .slice B2 m2 k2, .slice B3 m3 k3] 40)))
  have HBA := Lib.hid (heap_alloc_new w3 (.cells #[.int .i64 exc, .slice B1 m1 k1, .slice B2 m2 k2, .slice B3 m3 k3] 40))
  have HZA := Lib.hid ((Ext.alloc w3 (.cells #[.int .i64 exc, .slice B1 m1 k1, .slice B2 m2 k2, .slice B3 m3 k3] 40)).block HZ3.out)
  have HTA := Lib.hid (HT3.out.ext (Ext.alloc w3 (.cells #[.int .i64 exc, .slice B1 m1 k1, .slice B2 m2 k2, .slice B3 m3 k3] 40)))
  have hend := RemAt.ended HM.out XA.out
  have HMA := Lib.hid hend.1; have HOO := Lib.hid hend.2
  have hpz := HLT.out p HFP.out
  have hsz3 : w3.heap.size < (w3.alloc (.cells #[.int .i64 exc, .slice B1 m1 k1, .slice B2 m2 k2, .slice B3 m3 k3] 40)).heap.size := lt_of_heap HBA.out
  have HZ5 := Lib.hid ((Below.heap_setCell (w3.alloc (.cells #[.int .i64 exc, .slice B1 m1 k1, .slice B2 m2 k2, .slice B3 m3 k3] 40)) ⟨p, 2, none⟩ (.bool false) w.heap.size (by simp; omega)).trans HZA.out)
  have HB5 := Lib.hid ((Below.heap_setCell (w3.alloc (.cells #[.int .i64 exc, .slice B1 m1 k1, .slice B2 m2 k2, .slice B3 m3 k3] 40)) ⟨p, 2, none⟩ (.bool false) w3.heap.size (by simp; omega)).trans HBA.out)
  have HT5 : Hid (RepOw ((w3.alloc (.cells #[.int .i64 exc, .slice B1 m1 k1, .slice B2 m2 k2, .slice B3 m3 k3] 40)).setCell ⟨p, 2, none⟩ (.bool false)) w2.heap.size ⟨exc, ron, rset, rfiles⟩ ⟨B1, m1, k1, B2, m2, k2, B3, m3, k3⟩) := HTA.out.set_below (q := ⟨p, 2, none⟩) (by simp only; omega) _
  have x4 : ((w3.alloc (.cells #[.int .i64 exc, .slice B1 m1 k1, .slice B2 m2 k2, .slice B3 m3 k3] 40)).setCell ⟨p, 2, none⟩ (.bool false)).cell? ⟨p, 4, none⟩ = some (.int .i64 (d.tries : Int)) := by
    obtain ⟨s4, A4, n4, c4, h4, -⟩ := hend.1
    unfold remRow at h4
    exact (cells13 h4).2.2.2.2.1
  obtain ⟨x2, -, -, z2⟩ := HC2.out _ XA.out
  obtain ⟨b0, b1, b2, b3⟩ := cells4 HB5.out
  clear hend HT3 HZ3 HBA HZA HTA HM HC2
  go_wp2_with fail
  clear x2 z2
  generalize (w3.alloc (.cells #[.int .i64 exc, .slice B1 m1 k1, .slice B2 m2 k2, .slice B3 m3 k3] 40)).setCell ⟨p, 2, none⟩ (.bool false) = w5 at *
  obtain ⟨v0, v1, v2, v3, v4, v5⟩ := cells6 HZ5.out
  have y0 := frozen_of_row _ _ 0 _ _ HZ5.out
  have y1 := frozen_of_row _ _ 1 _ _ HZ5.out
  have y2 := frozen_of_row _ _ 2 _ _ HZ5.out
  have y3 := frozen_of_row _ _ 3 _ _ HZ5.out
  have y4 := frozen_of_row _ _ 4 _ _ HZ5.out
  have y5 := frozen_of_row _ _ 5 _ _ HZ5.out
  have ty0 := frozen_of_row _ _ 0 _ _ HZ5.out
  have Ft0 := heap_setCell_same _ w.heap.size 0 _ _ (.int .i64 1) HZ5.out
  have Ft1 := heap_setCell_same _ w.heap.size 1 _ _ (.int .i64 exc) Ft0
  have Ft2 := heap_setCell_same _ w.heap.size 2 _ _ (.slice B1 m1 k1) Ft1
  have Ft3 := heap_setCell_same _ w.heap.size 3 _ _ (.slice B2 m2 k2) Ft2
  have Ft4 := heap_setCell_same _ w.heap.size 4 _ _ (.slice B3 m3 k3) Ft3
  have Ft5 := heap_setCell_same _ w.heap.size 5 _ _ (.int .i64 (d.tries : Int)) Ft4
  have F0 := Lib.hid ((cell_of_row _ _ 0 _ _ _ Ft0).trans (show _ = some (.int .i64 1) by simp))
  have F1 := Lib.hid ((cell_of_row _ _ 1 _ _ _ Ft1).trans (show _ = some (.int .i64 exc) by simp))
  have F2 := Lib.hid ((cell_of_row _ _ 2 _ _ _ Ft2).trans (show _ = some (.slice B1 m1 k1) by simp))
  have F3 := Lib.hid ((cell_of_row _ _ 3 _ _ _ Ft3).trans (show _ = some (.slice B2 m2 k2) by simp))
  have F4 := Lib.hid ((cell_of_row _ _ 4 _ _ _ Ft4).trans (show _ = some (.slice B3 m3 k3) by simp))
  have F5 := Lib.hid ((cell_of_row _ _ 5 _ _ _ Ft5).trans (show _ = some (.int .i64 (d.tries : Int)) by simp))
  clear ty0 Ft0 Ft1 Ft2 Ft3 Ft4 Ft5
  go_region_law (fail)
  all_goals
    go_wp2_with fail
    refine bodyPost_ret (v := .tuple #[.agg #[.int .i64 1, .int .i64 exc, .slice B1 m1 k1, .slice B2 m2 k2, .slice B3 m3 k3, .int .i64 (d.tries : Int)], .bool true]) (by simp [results, Tryz.results56, go_sem, F0.out, F1.out, F2.out, F3.out, F4.out, F5.out]) rfl ⟨⟨B1, m1, k1, B2, m2, k2, B3, m3, k3⟩, rfl, ?_, ?_, ?_⟩
    · refine RemAt.ext ?_ (Ext.draw _)
      repeat' (first | with_reducible exact HMA.out | with_reducible refine RemAt.set_far ?_ (fun h => by have := HLT.out _ h; simp only at this; omega) _)
    · refine Only.drew' ?_
      repeat' (first | with_reducible exact HOO.out | with_reducible refine Only.set_new ?_ (by simp only; omega) _)
    · refine RepOw.ext ?_ (Ext.draw _)
      refine RepOw.mono ?_ (Nat.le_of_lt hlt2)
      repeat' (first | with_reducible exact HT5.out | with_reducible refine RepOw.set_below ?_ (by simp only; omega) _)
theorem rem_hear (b : List UInt8) (A : Option Addr) (n c : Nat) (w : World) (p : Nat) (F : Nat → Prop) (d : MasD) (h : RemAt w p F d) (hb : Rd w A n (b.map cB)) (hc : n ≤ c ∧ c ≤ 9223372036854775807) (hn : n ≤ 140737488355328) :
    Calls Tryz.prog 56 #[pM p, .slice A n c] w (RetHear RemAt w p F (hearM d b) (hearO d b) (hearsB d b)) := by
  have key : ∀ v, hearsB d b = v → Calls Tryz.prog 56 #[pM p, .slice A n c] w (RetHear RemAt w p F (if v = true then { d with under := false } else d) (if v = true then ⟨if (getR d.ask (openRtuF b).2.1).1.exc ≠ 0 then 2 else 1, (getR d.ask (openRtuF b).2.1).1, d.tries⟩ else out0) v) := by
    intro v hv
    unfold hearsB at hv
    obtain ⟨⟨U, D, E⟩, hR⟩ : ∃ x, openRtuF b = x := ⟨_, rfl⟩
    rw [hR] at hv ⊢
    simp only at hv ⊢
    cases hu : d.under with
    | false =>
      rw [hu] at hv; simp only [Bool.false_and] at hv; subst hv
      exact rem_hear_idle b A n c w p F d h hb hc hn hu
    | true =>
      rw [hu] at hv; simp only [Bool.true_and] at hv
      by_cases hE : E = 0
      · subst hE
        by_cases hU : U.toNat = d.unit
        · by_cases hg : (getR d.ask D).2 = 0
          · rw [decide_eq_true rfl, decide_eq_true hU, decide_eq_true hg] at hv
            simp only [Bool.and_self] at hv; subst hv
            by_cases hx : (getR d.ask D).1.exc = 0
            · have := rem_hear_ans b A n c w p F d h hb hc hn hu U D hR hU hg hx
              rw [if_pos rfl, if_pos rfl, if_neg (by simpa using hx)]
              exact this
            · have := rem_hear_exc b A n c w p F d h hb hc hn hu U D hR hU hg hx
              rw [if_pos rfl, if_pos rfl, if_pos hx]
              exact this
          · rw [decide_eq_false hg, Bool.and_false] at hv; subst hv
            exact rem_hear_err b A n c w p F d h hb hc hn hu U D hR hU hg
        · rw [decide_eq_false hU, Bool.and_false, Bool.false_and] at hv; subst hv
          exact rem_hear_unit b A n c w p F d h hb hc hn hu U D hR hU
      · rw [decide_eq_false hE, Bool.false_and, Bool.false_and] at hv; subst hv
        exact rem_hear_bad b A n c w p F d h hb hc hn hu U D E hR hE
  unfold hearM hearO
  exact key _ rfl
end Go.Proofs.YtomcipkmohhpjaaGreat

namespace Go.Proofs.YtomcipkmohhpjaaGreat
set_option linter.unusedVariables false
set_option linter.unusedSimpArgs false
set_option maxRecDepth 100000
set_option maxHeartbeats 1000000
open Go Go.RowKit Go.Out

theorem mas_tick_idle (now : Int) (w : World) (p : Nat) (F : Nat → Prop) (d : MasD) (h : MasAt w p F d) (hok : MasOk d) (hu : d.under = false) :
    Calls Tryz.prog 18 #[pM p, .int .i64 now] w (RetTick MasAt w p F d [] out0 false) := by
  have HM := Lib.hid h
  have HBZ := Lib.hid (fun W (hX : Ext w W) => mas_busy p F d W (h.ext hX) hok)
  have HTM := Lib.hid (fun W => mas_timely now W)
  rw [hu] at HBZ
  obtain ⟨s, A, n, c, h1, -⟩ := h
  unfold masRow at h1
  have HCE : Hid (∀ W, Ext w W → W.cell? ⟨p, 3, none⟩ = some (.int .i64 (d.last : Int)) ∧ W.cell? ⟨p, 0, none⟩ = some (.int .i64 (d.timeout : Int))) := fun W hX => ⟨(cells12 (hX.block h1)).2.2.2.1, (cells12 (hX.block h1)).1⟩
  have HC2 : Hid (∀ W, Ext w W → W.cell? ⟨p, 2, none⟩ = some (.int .i64 (busyN d : Int)) ∧ W.cell? ⟨p, 1, none⟩ = some (.int .i64 (d.retries : Int))) := fun W hX => ⟨(cells12 (hX.block h1)).2.2.1, (cells12 (hX.block h1)).2.1⟩
  have HLT := Lib.hid HM.out.lt
  have hwa : IntKind.i64.wrap ((d.last : Int) + (d.timeout : Int)) = (d.last : Int) + (d.timeout : Int) := IntWalk.i64_in _ (by have := hok.l; have := hok.t; omega)
  clear h1 hok
  unfold pM at HBZ ⊢
  go_enter Tryz.func18, Tryz.ntmps18
  go_wp2_with fail
  have HZ := Lib.hid (heap_alloc_new w (.cells #[.int .i64 0, .int .i64 0, .slice none 0 0, .slice none 0 0, .slice none 0 0, .int .i64 0] 59))
  have X1 := Lib.hid (Ext.alloc w (.cells #[.int .i64 0, .int .i64 0, .slice none 0 0, .slice none 0 0, .slice none 0 0, .int .i64 0] 59))
  generalize w.alloc (.cells #[.int .i64 0, .int .i64 0, .slice none 0 0, .slice none 0 0, .slice none 0 0, .int .i64 0] 59) = w1 at *
  obtain ⟨x3, x0⟩ := HCE.out w1 X1.out
  have HBQ := Lib.hid (fun n => (HBZ.out (w1.drewN n) (X1.out.drewN' n)).mono (R' := fun e w' => e = .returned (.bool false) ∧ w' = w1.drewN n) fun e w' ⟨h1, h2⟩ => ⟨h1, h2.symm⟩)
  have HTQ := Lib.hid (fun n => (HTM.out (w1.drewN n)).mono (R' := fun e w' => e = .returned (.bool (decide (0 ≤ now ∧ now ≤ 1099511627776))) ∧ w' = w1.drewN n) fun e w' ⟨h1, h2⟩ => ⟨h1, h2.symm⟩)
  go_quiet (first | (go_at_call 10; exact Calls.quiet_of_same (HBQ.out _)) | (go_at_call 37; exact Calls.quiet_of_same (HTQ.out _)))
  have X2 := Lib.hid (X1.out.drewN' nq)
  have HZ2 := Lib.hid ((Ext.drewN' (Ext.refl w1) nq).block HZ.out)
  clear x3 x0 HZ X1 HBQ HTQ
  generalize w1.drewN nq = w2 at *
  obtain ⟨v0, v1, v2, v3, v4, v5⟩ := cells6 HZ2.out
  have y0 := frozen_of_row _ _ 0 _ _ HZ2.out
  have y1 := frozen_of_row _ _ 1 _ _ HZ2.out
  have y2 := frozen_of_row _ _ 2 _ _ HZ2.out
  have y3 := frozen_of_row _ _ 3 _ _ HZ2.out
  have y4 := frozen_of_row _ _ 4 _ _ HZ2.out
  have y5 := frozen_of_row _ _ 5 _ _ HZ2.out
  have ty0 := frozen_of_row _ _ 0 _ _ HZ2.out
  have Ft0 := heap_setCell_same _ w.heap.size 0 _ _ (.int .i64 0) HZ2.out
  have Ft1 := heap_setCell_same _ w.heap.size 1 _ _ (.int .i64 0) Ft0
  have Ft2 := heap_setCell_same _ w.heap.size 2 _ _ (.slice none 0 0) Ft1
  have Ft3 := heap_setCell_same _ w.heap.size 3 _ _ (.slice none 0 0) Ft2
  have Ft4 := heap_setCell_same _ w.heap.size 4 _ _ (.slice none 0 0) Ft3
  have Ft5 := heap_setCell_same _ w.heap.size 5 _ _ (.int .i64 0) Ft4
  have F0 := Lib.hid ((cell_of_row _ _ 0 _ _ _ Ft0).trans (show _ = some (.int .i64 0) by simp))
  have F1 := Lib.hid ((cell_of_row _ _ 1 _ _ _ Ft1).trans (show _ = some (.int .i64 0) by simp))
  have F2 := Lib.hid ((cell_of_row _ _ 2 _ _ _ Ft2).trans (show _ = some (.slice none 0 0) by simp))
  have F3 := Lib.hid ((cell_of_row _ _ 3 _ _ _ Ft3).trans (show _ = some (.slice none 0 0) by simp))
  have F4 := Lib.hid ((cell_of_row _ _ 4 _ _ _ Ft4).trans (show _ = some (.slice none 0 0) by simp))
  have F5 := Lib.hid ((cell_of_row _ _ 5 _ _ _ Ft5).trans (show _ = some (.int .i64 0) by simp))
  clear ty0 Ft0 Ft1 Ft2 Ft3 Ft4 Ft5
  go_wp2_with fail
  all_goals
    refine bodyPost_ret (v := .tuple #[.slice none 0 0, .agg #[.int .i64 0, .int .i64 0, .slice none 0 0, .slice none 0 0, .slice none 0 0, .int .i64 0], .bool false]) (by simp [results, Tryz.results18, go_sem, F0.out, F1.out, F2.out, F3.out, F4.out, F5.out]) rfl ⟨none, 0, 0, rfl, ?_, ?_, Own.nil_ _ _ _ _⟩
    · repeat' (first | with_reducible exact HM.out.ext X2.out | with_reducible refine MasAt.set_far ?_ (fun h => by have := HLT.out _ h; simp only at this; omega) _)
    · repeat' (first | with_reducible exact Only.of_ext X2.out | with_reducible refine Only.set_new ?_ (by simp only; omega) _)
theorem mas_tick_time (now : Int) (w : World) (p : Nat) (F : Nat → Prop) (d : MasD) (h : MasAt w p F d) (hok : MasOk d) (hu : d.under = true) (ht : now < 0 ∨ 1099511627776 < now) :
    Calls Tryz.prog 18 #[pM p, .int .i64 now] w (RetTick MasAt w p F d [] out0 false) := by
  have HM := Lib.hid h
  have HBZ := Lib.hid (fun W (hX : Ext w W) => mas_busy p F d W (h.ext hX) hok)
  have HTM := Lib.hid (fun W => mas_timely now W)
  rw [hu] at HBZ
  have t3 : decide (0 ≤ now ∧ now ≤ 1099511627776) = false := by simp; omega
  rw [t3] at HTM
  obtain ⟨s, A, n, c, h1, -⟩ := h
  unfold masRow at h1
  have HCE : Hid (∀ W, Ext w W → W.cell? ⟨p, 3, none⟩ = some (.int .i64 (d.last : Int)) ∧ W.cell? ⟨p, 0, none⟩ = some (.int .i64 (d.timeout : Int))) := fun W hX => ⟨(cells12 (hX.block h1)).2.2.2.1, (cells12 (hX.block h1)).1⟩
  have HC2 : Hid (∀ W, Ext w W → W.cell? ⟨p, 2, none⟩ = some (.int .i64 (busyN d : Int)) ∧ W.cell? ⟨p, 1, none⟩ = some (.int .i64 (d.retries : Int))) := fun W hX => ⟨(cells12 (hX.block h1)).2.2.1, (cells12 (hX.block h1)).2.1⟩
  have HLT := Lib.hid HM.out.lt
  have hwa : IntKind.i64.wrap ((d.last : Int) + (d.timeout : Int)) = (d.last : Int) + (d.timeout : Int) := IntWalk.i64_in _ (by have := hok.l; have := hok.t; omega)
  clear h1 hok ht t3
  unfold pM at HBZ ⊢
  go_enter Tryz.func18, Tryz.ntmps18
  go_wp2_with fail
  have HZ := Lib.hid (heap_alloc_new w (.cells #[.int .i64 0, .int .i64 0, .slice none 0 0, .slice none 0 0, .slice none 0 0, .int .i64 0] 59))
  have X1 := Lib.hid (Ext.alloc w (.cells #[.int .i64 0, .int .i64 0, .slice none 0 0, .slice none 0 0, .slice none 0 0, .int .i64 0] 59))
  generalize w.alloc (.cells #[.int .i64 0, .int .i64 0, .slice none 0 0, .slice none 0 0, .slice none 0 0, .int .i64 0] 59) = w1 at *
  obtain ⟨x3, x0⟩ := HCE.out w1 X1.out
  have HBQ := Lib.hid (fun n => (HBZ.out (w1.drewN n) (X1.out.drewN' n)).mono (R' := fun e w' => e = .returned (.bool true) ∧ w' = w1.drewN n) fun e w' ⟨h1, h2⟩ => ⟨h1, h2.symm⟩)
  have HTQ := Lib.hid (fun n => (HTM.out (w1.drewN n)).mono (R' := fun e w' => e = .returned (.bool false) ∧ w' = w1.drewN n) fun e w' ⟨h1, h2⟩ => ⟨h1, h2.symm⟩)
  go_quiet (first | (go_at_call 10; exact Calls.quiet_of_same (HBQ.out _)) | (go_at_call 37; exact Calls.quiet_of_same (HTQ.out _)))
  have X2 := Lib.hid (X1.out.drewN' nq)
  have HZ2 := Lib.hid ((Ext.drewN' (Ext.refl w1) nq).block HZ.out)
  clear x3 x0 HZ X1 HBQ HTQ
  generalize w1.drewN nq = w2 at *
  obtain ⟨v0, v1, v2, v3, v4, v5⟩ := cells6 HZ2.out
  have y0 := frozen_of_row _ _ 0 _ _ HZ2.out
  have y1 := frozen_of_row _ _ 1 _ _ HZ2.out
  have y2 := frozen_of_row _ _ 2 _ _ HZ2.out
  have y3 := frozen_of_row _ _ 3 _ _ HZ2.out
  have y4 := frozen_of_row _ _ 4 _ _ HZ2.out
  have y5 := frozen_of_row _ _ 5 _ _ HZ2.out
  have ty0 := frozen_of_row _ _ 0 _ _ HZ2.out
  have Ft0 := heap_setCell_same _ w.heap.size 0 _ _ (.int .i64 0) HZ2.out
  have Ft1 := heap_setCell_same _ w.heap.size 1 _ _ (.int .i64 0) Ft0
  have Ft2 := heap_setCell_same _ w.heap.size 2 _ _ (.slice none 0 0) Ft1
  have Ft3 := heap_setCell_same _ w.heap.size 3 _ _ (.slice none 0 0) Ft2
  have Ft4 := heap_setCell_same _ w.heap.size 4 _ _ (.slice none 0 0) Ft3
  have Ft5 := heap_setCell_same _ w.heap.size 5 _ _ (.int .i64 0) Ft4
  have F0 := Lib.hid ((cell_of_row _ _ 0 _ _ _ Ft0).trans (show _ = some (.int .i64 0) by simp))
  have F1 := Lib.hid ((cell_of_row _ _ 1 _ _ _ Ft1).trans (show _ = some (.int .i64 0) by simp))
  have F2 := Lib.hid ((cell_of_row _ _ 2 _ _ _ Ft2).trans (show _ = some (.slice none 0 0) by simp))
  have F3 := Lib.hid ((cell_of_row _ _ 3 _ _ _ Ft3).trans (show _ = some (.slice none 0 0) by simp))
  have F4 := Lib.hid ((cell_of_row _ _ 4 _ _ _ Ft4).trans (show _ = some (.slice none 0 0) by simp))
  have F5 := Lib.hid ((cell_of_row _ _ 5 _ _ _ Ft5).trans (show _ = some (.int .i64 0) by simp))
  clear ty0 Ft0 Ft1 Ft2 Ft3 Ft4 Ft5
  go_wp2_with fail
  all_goals
    refine bodyPost_ret (v := .tuple #[.slice none 0 0, .agg #[.int .i64 0, .int .i64 0, .slice none 0 0, .slice none 0 0, .slice none 0 0, .int .i64 0], .bool false]) (by simp [results, Tryz.results18, go_sem, F0.out, F1.out, F2.out, F3.out, F4.out, F5.out]) rfl ⟨none, 0, 0, rfl, ?_, ?_, Own.nil_ _ _ _ _⟩
    · repeat' (first | with_reducible exact HM.out.ext X2.out | with_reducible refine MasAt.set_far ?_ (fun h => by have := HLT.out _ h; simp only at this; omega) _)
    · repeat' (first | with_reducible exact Only.of_ext X2.out | with_reducible refine Only.set_new ?_ (by simp only; omega) _)
theorem mas_tick_early (now : Int) (w : World) (p : Nat) (F : Nat → Prop) (d : MasD) (h : MasAt w p F d) (hok : MasOk d) (hu : d.under = true) (ht : 0 ≤ now ∧ now ≤ 1099511627776) (he : now < d.last + d.timeout) :
    Calls Tryz.prog 18 #[pM p, .int .i64 now] w (RetTick MasAt w p F d [] out0 false) := by
  have HM := Lib.hid h
  have HBZ := Lib.hid (fun W (hX : Ext w W) => mas_busy p F d W (h.ext hX) hok)
  have HTM := Lib.hid (fun W => mas_timely now W)
  rw [hu] at HBZ
  have t3 : decide (0 ≤ now ∧ now ≤ 1099511627776) = true := by simp; omega
  rw [t3] at HTM
  obtain ⟨s, A, n, c, h1, -⟩ := h
  unfold masRow at h1
  have HCE : Hid (∀ W, Ext w W → W.cell? ⟨p, 3, none⟩ = some (.int .i64 (d.last : Int)) ∧ W.cell? ⟨p, 0, none⟩ = some (.int .i64 (d.timeout : Int))) := fun W hX => ⟨(cells12 (hX.block h1)).2.2.2.1, (cells12 (hX.block h1)).1⟩
  have HC2 : Hid (∀ W, Ext w W → W.cell? ⟨p, 2, none⟩ = some (.int .i64 (busyN d : Int)) ∧ W.cell? ⟨p, 1, none⟩ = some (.int .i64 (d.retries : Int))) := fun W hX => ⟨(cells12 (hX.block h1)).2.2.1, (cells12 (hX.block h1)).2.1⟩
  have HLT := Lib.hid HM.out.lt
  have hwa : IntKind.i64.wrap ((d.last : Int) + (d.timeout : Int)) = (d.last : Int) + (d.timeout : Int) := IntWalk.i64_in _ (by have := hok.l; have := hok.t; omega)
  clear h1 hok ht t3
  unfold pM at HBZ ⊢
  go_enter Tryz.func18, Tryz.ntmps18
  go_wp2_with fail
  have HZ := Lib.hid (heap_alloc_new w (.cells #[.int .i64 0, .int .i64 0, .slice none 0 0, .slice none 0 0, .slice none 0 0, .int .i64 0] 59))
  have X1 := Lib.hid (Ext.alloc w (.cells #[.int .i64 0, .int .i64 0, .slice none 0 0, .slice none 0 0, .slice none 0 0, .int .i64 0] 59))
  generalize w.alloc (.cells #[.int .i64 0, .int .i64 0, .slice none 0 0, .slice none 0 0, .slice none 0 0, .int .i64 0] 59) = w1 at *
  obtain ⟨x3, x0⟩ := HCE.out w1 X1.out
  have HBQ := Lib.hid (fun n => (HBZ.out (w1.drewN n) (X1.out.drewN' n)).mono (R' := fun e w' => e = .returned (.bool true) ∧ w' = w1.drewN n) fun e w' ⟨h1, h2⟩ => ⟨h1, h2.symm⟩)
  have HTQ := Lib.hid (fun n => (HTM.out (w1.drewN n)).mono (R' := fun e w' => e = .returned (.bool true) ∧ w' = w1.drewN n) fun e w' ⟨h1, h2⟩ => ⟨h1, h2.symm⟩)
  go_quiet (first | (go_at_call 10; exact Calls.quiet_of_same (HBQ.out _)) | (go_at_call 37; exact Calls.quiet_of_same (HTQ.out _)))
  have X2 := Lib.hid (X1.out.drewN' nq)
  have HZ2 := Lib.hid ((Ext.drewN' (Ext.refl w1) nq).block HZ.out)
  clear x3 x0 HZ X1 HBQ HTQ
  generalize w1.drewN nq = w2 at *
  obtain ⟨v0, v1, v2, v3, v4, v5⟩ := cells6 HZ2.out
  have y0 := frozen_of_row _ _ 0 _ _ HZ2.out
  have y1 := frozen_of_row _ _ 1 _ _ HZ2.out
  have y2 := frozen_of_row _ _ 2 _ _ HZ2.out
  have y3 := frozen_of_row _ _ 3 _ _ HZ2.out
  have y4 := frozen_of_row _ _ 4 _ _ HZ2.out
  have y5 := frozen_of_row _ _ 5 _ _ HZ2.out
  have ty0 := frozen_of_row _ _ 0 _ _ HZ2.out
  have Ft0 := heap_setCell_same _ w.heap.size 0 _ _ (.int .i64 0) HZ2.out
  have Ft1 := heap_setCell_same _ w.heap.size 1 _ _ (.int .i64 0) Ft0
  have Ft2 := heap_setCell_same _ w.heap.size 2 _ _ (.slice none 0 0) Ft1
  have Ft3 := heap_setCell_same _ w.heap.size 3 _ _ (.slice none 0 0) Ft2
  have Ft4 := heap_setCell_same _ w.heap.size 4 _ _ (.slice none 0 0) Ft3
  have Ft5 := heap_setCell_same _ w.heap.size 5 _ _ (.int .i64 0) Ft4
  have F0 := Lib.hid ((cell_of_row _ _ 0 _ _ _ Ft0).trans (show _ = some (.int .i64 0) by simp))
  have F1 := Lib.hid ((cell_of_row _ _ 1 _ _ _ Ft1).trans (show _ = some (.int .i64 0) by simp))
  have F2 := Lib.hid ((cell_of_row _ _ 2 _ _ _ Ft2).trans (show _ = some (.slice none 0 0) by simp))
  have F3 := Lib.hid ((cell_of_row _ _ 3 _ _ _ Ft3).trans (show _ = some (.slice none 0 0) by simp))
  have F4 := Lib.hid ((cell_of_row _ _ 4 _ _ _ Ft4).trans (show _ = some (.slice none 0 0) by simp))
  have F5 := Lib.hid ((cell_of_row _ _ 5 _ _ _ Ft5).trans (show _ = some (.int .i64 0) by simp))
  clear ty0 Ft0 Ft1 Ft2 Ft3 Ft4 Ft5
  go_wp2_with fail
  all_goals
    refine bodyPost_ret (v := .tuple #[.slice none 0 0, .agg #[.int .i64 0, .int .i64 0, .slice none 0 0, .slice none 0 0, .slice none 0 0, .int .i64 0], .bool false]) (by simp [results, Tryz.results18, go_sem, F0.out, F1.out, F2.out, F3.out, F4.out, F5.out]) rfl ⟨none, 0, 0, rfl, ?_, ?_, Own.nil_ _ _ _ _⟩
    · repeat' (first | with_reducible exact HM.out.ext X2.out | with_reducible refine MasAt.set_far ?_ (fun h => by have := HLT.out _ h; simp only at this; omega) _)
    · repeat' (first | with_reducible exact Only.of_ext X2.out | with_reducible refine Only.set_new ?_ (by simp only; omega) _)
theorem mas_tick_silent (now : Int) (w : World) (p : Nat) (F : Nat → Prop) (d : MasD) (h : MasAt w p F d) (hok : MasOk d) (hu : d.under = true) (ht : 0 ≤ now ∧ now ≤ 1099511627776) (he : (d.last : Int) + d.timeout ≤ now) (hr : d.retries < d.tries) :
    Calls Tryz.prog 18 #[pM p, .int .i64 now] w (RetTick MasAt w p F { d with under := false } [] ⟨3, rep0, d.tries⟩ true) := by
  have HM := Lib.hid h
  have HBZ := Lib.hid (fun W (hX : Ext w W) => mas_busy p F d W (h.ext hX) hok)
  have HTM := Lib.hid (fun W => mas_timely now W)
  rw [hu] at HBZ
  have t3 : decide (0 ≤ now ∧ now ≤ 1099511627776) = true := by simp; omega
  rw [t3] at HTM
  obtain ⟨s, A, n, c, h1, -⟩ := h
  unfold masRow at h1
  have HCE : Hid (∀ W, Ext w W → W.cell? ⟨p, 3, none⟩ = some (.int .i64 (d.last : Int)) ∧ W.cell? ⟨p, 0, none⟩ = some (.int .i64 (d.timeout : Int))) := fun W hX => ⟨(cells12 (hX.block h1)).2.2.2.1, (cells12 (hX.block h1)).1⟩
  have HC2 : Hid (∀ W, Ext w W → W.cell? ⟨p, 2, none⟩ = some (.int .i64 (busyN d : Int)) ∧ W.cell? ⟨p, 1, none⟩ = some (.int .i64 (d.retries : Int))) := fun W hX => ⟨(cells12 (hX.block h1)).2.2.1, (cells12 (hX.block h1)).2.1⟩
  have HLT := Lib.hid HM.out.lt
  have hwa : IntKind.i64.wrap ((d.last : Int) + (d.timeout : Int)) = (d.last : Int) + (d.timeout : Int) := IntWalk.i64_in _ (by have := hok.l; have := hok.t; omega)
  have hb : busyN d = d.tries := by unfold busyN; rw [if_pos hu]
  rw [hb] at HC2
  have he2 : ¬ now < (d.last : Int) + (d.timeout : Int) := by omega
  have hr2 : (d.retries : Int) < (d.tries : Int) := by omega
  have HSI := Lib.hid (fun W (hX : Ext w W) => mas_silent now W p F d (HM.out.ext hX) hu)
  unfold pM at HSI
  clear h1 hok ht t3 hb he hr
  unfold pM at HBZ ⊢
  go_enter Tryz.func18, Tryz.ntmps18
  go_wp2_with fail
  have HZ := Lib.hid (heap_alloc_new w (.cells #[.int .i64 0, .int .i64 0, .slice none 0 0, .slice none 0 0, .slice none 0 0, .int .i64 0] 59))
  have X1 := Lib.hid (Ext.alloc w (.cells #[.int .i64 0, .int .i64 0, .slice none 0 0, .slice none 0 0, .slice none 0 0, .int .i64 0] 59))
  generalize w.alloc (.cells #[.int .i64 0, .int .i64 0, .slice none 0 0, .slice none 0 0, .slice none 0 0, .int .i64 0] 59) = w1 at *
  obtain ⟨x3, x0⟩ := HCE.out w1 X1.out
  have HBQ := Lib.hid (fun n => (HBZ.out (w1.drewN n) (X1.out.drewN' n)).mono (R' := fun e w' => e = .returned (.bool true) ∧ w' = w1.drewN n) fun e w' ⟨h1, h2⟩ => ⟨h1, h2.symm⟩)
  have HTQ := Lib.hid (fun n => (HTM.out (w1.drewN n)).mono (R' := fun e w' => e = .returned (.bool true) ∧ w' = w1.drewN n) fun e w' ⟨h1, h2⟩ => ⟨h1, h2.symm⟩)
  go_quiet (first | (go_at_call 10; exact Calls.quiet_of_same (HBQ.out _)) | (go_at_call 37; exact Calls.quiet_of_same (HTQ.out _)))
  have X2 := Lib.hid (X1.out.drewN' nq)
  have HZ2 := Lib.hid ((Ext.drewN' (Ext.refl w1) nq).block HZ.out)
  clear x3 x0 HZ X1 HBQ HTQ
  generalize w1.drewN nq = w2 at *
  obtain ⟨x2, x1⟩ := HC2.out w2 X2.out
  go_wp2_with fail
  go_quiet (fail)
  have X3 := Lib.hid (X2.out.drewN' nq)
  have HZ3 := Lib.hid ((Ext.drewN' (Ext.refl w2) nq).block HZ2.out)
  clear x2 x1 HZ2 X2
  generalize w2.drewN nq = w3 at *
  go_wp2_with fail
  refine (HSI.out _ X3.out).mono ?_
  rintro e4 w4 ⟨A4, n4, c4, rfl, hm, ho, hw⟩
  have hsz3 := lt_of_heap HZ3.out
  have HZ4 := Lib.hid ((ho.block w.heap.size hsz3 (fun hf => by have := HLT.out _ hf; omega)).trans HZ3.out)
  have HMA := Lib.hid hm
  have HOO : Hid (Only F w w4) := (Only.of_ext (F := F) X3.out).trans ho (fun _ _ q => q)
  have HOW := Lib.hid hw
  have hlt3 : w.heap.size < w3.heap.size := hsz3
  clear hm ho hw HZ3 hsz3
  simp only [outV, repV, rep0, repS0, out0]
  obtain ⟨v0, v1, v2, v3, v4, v5⟩ := cells6 HZ4.out
  have y0 := frozen_of_row _ _ 0 _ _ HZ4.out
  have y1 := frozen_of_row _ _ 1 _ _ HZ4.out
  have y2 := frozen_of_row _ _ 2 _ _ HZ4.out
  have y3 := frozen_of_row _ _ 3 _ _ HZ4.out
  have y4 := frozen_of_row _ _ 4 _ _ HZ4.out
  have y5 := frozen_of_row _ _ 5 _ _ HZ4.out
  have ty0 := frozen_of_row _ _ 0 _ _ HZ4.out
  have Ft0 := heap_setCell_same _ w.heap.size 0 _ _ (.int .i64 3) HZ4.out
  have Ft1 := heap_setCell_same _ w.heap.size 1 _ _ (.int .i64 0) Ft0
  have Ft2 := heap_setCell_same _ w.heap.size 2 _ _ (.slice none 0 0) Ft1
  have Ft3 := heap_setCell_same _ w.heap.size 3 _ _ (.slice none 0 0) Ft2
  have Ft4 := heap_setCell_same _ w.heap.size 4 _ _ (.slice none 0 0) Ft3
  have Ft5 := heap_setCell_same _ w.heap.size 5 _ _ (.int .i64 (d.tries : Int)) Ft4
  have F0 := Lib.hid ((cell_of_row _ _ 0 _ _ _ Ft0).trans (show _ = some (.int .i64 3) by simp))
  have F1 := Lib.hid ((cell_of_row _ _ 1 _ _ _ Ft1).trans (show _ = some (.int .i64 0) by simp))
  have F2 := Lib.hid ((cell_of_row _ _ 2 _ _ _ Ft2).trans (show _ = some (.slice none 0 0) by simp))
  have F3 := Lib.hid ((cell_of_row _ _ 3 _ _ _ Ft3).trans (show _ = some (.slice none 0 0) by simp))
  have F4 := Lib.hid ((cell_of_row _ _ 4 _ _ _ Ft4).trans (show _ = some (.slice none 0 0) by simp))
  have F5 := Lib.hid ((cell_of_row _ _ 5 _ _ _ Ft5).trans (show _ = some (.int .i64 (d.tries : Int)) by simp))
  clear ty0 Ft0 Ft1 Ft2 Ft3 Ft4 Ft5
  go_wp2_with fail
  all_goals
    refine bodyPost_ret (v := .tuple #[.slice A4 n4 c4, .agg #[.int .i64 3, .int .i64 0, .slice none 0 0, .slice none 0 0, .slice none 0 0, .int .i64 (d.tries : Int)], .bool true]) (by simp [results, Tryz.results18, go_sem, F0.out, F1.out, F2.out, F3.out, F4.out, F5.out]) rfl ⟨A4, n4, c4, rfl, ?_, ?_, ?_⟩
    · repeat' (first | with_reducible exact HMA.out | with_reducible refine MasAt.set_far ?_ (fun h => by have := HLT.out _ h; simp only at this; omega) _)
    · repeat' (first | with_reducible exact HOO.out | with_reducible refine Only.set_new ?_ (by simp only; omega) _)
    · refine (HOW.out.mono (by omega)).kept fun g hg => ?_
      have hgne : g ≠ w.heap.size := by have := (HOW.out.lt g hg).1; omega
      repeat' (first | (with_reducible refine (Below.heap_setCell _ _ _ _ hgne).trans ?_) | with_reducible rfl)
end Go.Proofs.YtomcipkmohhpjaaGreat

namespace Go.Proofs.YtomcipkmohhpjaaGreat
set_option linter.unusedVariables false
set_option linter.unusedSimpArgs false
set_option maxRecDepth 100000
set_option maxHeartbeats 1000000
open Go Go.RowKit Go.Out

theorem mas_tick_again (now : Int) (w : World) (p : Nat) (F : Nat → Prop) (d : MasD) (h : MasAt w p F d) (hok : MasOk d) (nw : Nat) (hnw : now = (nw : Int)) (hu : d.under = true) (ht : 0 ≤ now ∧ now ≤ 1099511627776) (he : (d.last : Int) + d.timeout ≤ now) (hr : ¬ d.retries < d.tries) :
    Calls Tryz.prog 18 #[pM p, .int .i64 now] w (RetTick MasAt w p F { d with tries := d.tries + 1, last := nw } d.frame out0 false) := by
  have HM := Lib.hid h
  have HBZ := Lib.hid (fun W (hX : Ext w W) => mas_busy p F d W (h.ext hX) hok)
  have HTM := Lib.hid (fun W => mas_timely now W)
  rw [hu] at HBZ
  have t3 : decide (0 ≤ now ∧ now ≤ 1099511627776) = true := by simp; omega
  rw [t3] at HTM
  obtain ⟨s, A, n, c, h1, -⟩ := h
  unfold masRow at h1
  have HCE : Hid (∀ W, Ext w W → W.cell? ⟨p, 3, none⟩ = some (.int .i64 (d.last : Int)) ∧ W.cell? ⟨p, 0, none⟩ = some (.int .i64 (d.timeout : Int))) := fun W hX => ⟨(cells12 (hX.block h1)).2.2.2.1, (cells12 (hX.block h1)).1⟩
  have HC2 : Hid (∀ W, Ext w W → W.cell? ⟨p, 2, none⟩ = some (.int .i64 (busyN d : Int)) ∧ W.cell? ⟨p, 1, none⟩ = some (.int .i64 (d.retries : Int))) := fun W hX => ⟨(cells12 (hX.block h1)).2.2.1, (cells12 (hX.block h1)).2.1⟩
  have HLT := Lib.hid HM.out.lt
  have hwa : IntKind.i64.wrap ((d.last : Int) + (d.timeout : Int)) = (d.last : Int) + (d.timeout : Int) := IntWalk.i64_in _ (by have := hok.l; have := hok.t; omega)
  have hb : busyN d = d.tries := by unfold busyN; rw [if_pos hu]
  rw [hb] at HC2
  have he2 : ¬ now < (d.last : Int) + (d.timeout : Int) := by omega
  have hr2 : ¬ (d.retries : Int) < (d.tries : Int) := by omega
  have HSI := Lib.hid (fun W (hX : Ext w W) => mas_again nw W p F d (HM.out.ext hX) hok hu)
  rw [← hnw] at HSI
  unfold pM at HSI
  clear h1 hok ht t3 hb he hr hnw
  obtain ⟨dN, hdN⟩ : ∃ x, ({ d with tries := d.tries + 1, last := nw } : MasD) = x := ⟨_, rfl⟩
  rw [hdN] at HSI ⊢
  clear hdN
  unfold pM at HBZ ⊢
  go_enter Tryz.func18, Tryz.ntmps18
  go_wp2_with fail
  have HZ := Lib.hid (heap_alloc_new w (.cells #[.int .i64 0, .int .i64 0, .slice none 0 0, .slice none 0 0, .slice none 0 0, .int .i64 0] 59))
  have X1 := Lib.hid (Ext.alloc w (.cells #[.int .i64 0, .int .i64 0, .slice none 0 0, .slice none 0 0, .slice none 0 0, .int .i64 0] 59))
  generalize w.alloc (.cells #[.int .i64 0, .int .i64 0, .slice none 0 0, .slice none 0 0, .slice none 0 0, .int .i64 0] 59) = w1 at *
  obtain ⟨x3, x0⟩ := HCE.out w1 X1.out
  have HBQ := Lib.hid (fun n => (HBZ.out (w1.drewN n) (X1.out.drewN' n)).mono (R' := fun e w' => e = .returned (.bool true) ∧ w' = w1.drewN n) fun e w' ⟨h1, h2⟩ => ⟨h1, h2.symm⟩)
  have HTQ := Lib.hid (fun n => (HTM.out (w1.drewN n)).mono (R' := fun e w' => e = .returned (.bool true) ∧ w' = w1.drewN n) fun e w' ⟨h1, h2⟩ => ⟨h1, h2.symm⟩)
  go_quiet (first | (go_at_call 10; exact Calls.quiet_of_same (HBQ.out _)) | (go_at_call 37; exact Calls.quiet_of_same (HTQ.out _)))
  have X2 := Lib.hid (X1.out.drewN' nq)
  have HZ2 := Lib.hid ((Ext.drewN' (Ext.refl w1) nq).block HZ.out)
  clear x3 x0 HZ X1 HBQ HTQ
  generalize w1.drewN nq = w2 at *
  obtain ⟨x2, x1⟩ := HC2.out w2 X2.out
  go_wp2_with fail
  go_quiet (fail)
  have X3 := Lib.hid (X2.out.drewN' nq)
  have HZ3 := Lib.hid ((Ext.drewN' (Ext.refl w2) nq).block HZ2.out)
  clear x2 x1 HZ2 X2
  generalize w2.drewN nq = w3 at *
  go_wp2_with fail
  refine (HSI.out _ X3.out).mono ?_
  rintro e4 w4 ⟨A4, n4, c4, rfl, hm, ho, hw⟩
  have hsz3 := lt_of_heap HZ3.out
  have HZ4 := Lib.hid ((ho.block w.heap.size hsz3 (fun hf => by have := HLT.out _ hf; omega)).trans HZ3.out)
  have HMA := Lib.hid hm
  have HOO : Hid (Only F w w4) := (Only.of_ext (F := F) X3.out).trans ho (fun _ _ q => q)
  have HOW := Lib.hid hw
  have hlt3 : w.heap.size < w3.heap.size := hsz3
  clear hm ho hw HZ3 hsz3
  simp only [outV, repV, rep0, repS0, out0]
  obtain ⟨v0, v1, v2, v3, v4, v5⟩ := cells6 HZ4.out
  have y0 := frozen_of_row _ _ 0 _ _ HZ4.out
  have y1 := frozen_of_row _ _ 1 _ _ HZ4.out
  have y2 := frozen_of_row _ _ 2 _ _ HZ4.out
  have y3 := frozen_of_row _ _ 3 _ _ HZ4.out
  have y4 := frozen_of_row _ _ 4 _ _ HZ4.out
  have y5 := frozen_of_row _ _ 5 _ _ HZ4.out
  have ty0 := frozen_of_row _ _ 0 _ _ HZ4.out
  have Ft0 := heap_setCell_same _ w.heap.size 0 _ _ (.int .i64 0) HZ4.out
  have Ft1 := heap_setCell_same _ w.heap.size 1 _ _ (.int .i64 0) Ft0
  have Ft2 := heap_setCell_same _ w.heap.size 2 _ _ (.slice none 0 0) Ft1
  have Ft3 := heap_setCell_same _ w.heap.size 3 _ _ (.slice none 0 0) Ft2
  have Ft4 := heap_setCell_same _ w.heap.size 4 _ _ (.slice none 0 0) Ft3
  have Ft5 := heap_setCell_same _ w.heap.size 5 _ _ (.int .i64 0) Ft4
  have F0 := Lib.hid ((cell_of_row _ _ 0 _ _ _ Ft0).trans (show _ = some (.int .i64 0) by simp))
  have F1 := Lib.hid ((cell_of_row _ _ 1 _ _ _ Ft1).trans (show _ = some (.int .i64 0) by simp))
  have F2 := Lib.hid ((cell_of_row _ _ 2 _ _ _ Ft2).trans (show _ = some (.slice none 0 0) by simp))
  have F3 := Lib.hid ((cell_of_row _ _ 3 _ _ _ Ft3).trans (show _ = some (.slice none 0 0) by simp))
  have F4 := Lib.hid ((cell_of_row _ _ 4 _ _ _ Ft4).trans (show _ = some (.slice none 0 0) by simp))
  have F5 := Lib.hid ((cell_of_row _ _ 5 _ _ _ Ft5).trans (show _ = some (.int .i64 0) by simp))
  clear ty0 Ft0 Ft1 Ft2 Ft3 Ft4 Ft5
  go_wp2_with fail
  all_goals
    refine bodyPost_ret (v := .tuple #[.slice A4 n4 c4, .agg #[.int .i64 0, .int .i64 0, .slice none 0 0, .slice none 0 0, .slice none 0 0, .int .i64 0], .bool false]) (by simp [results, Tryz.results18, go_sem, F0.out, F1.out, F2.out, F3.out, F4.out, F5.out]) rfl ⟨A4, n4, c4, rfl, ?_, ?_, ?_⟩
    · repeat' (first | with_reducible exact HMA.out | with_reducible refine MasAt.set_far ?_ (fun h => by have := HLT.out _ h; simp only at this; omega) _)
    · repeat' (first | with_reducible exact HOO.out | with_reducible refine Only.set_new ?_ (by simp only; omega) _)
    · refine (HOW.out.mono (by omega)).kept fun g hg => ?_
      have hgne : g ≠ w.heap.size := by have := (HOW.out.lt g hg).1; omega
      repeat' (first | (with_reducible refine (Below.heap_setCell _ _ _ _ hgne).trans ?_) | with_reducible rfl)
theorem mas_tick (now : Int) (w : World) (p : Nat) (F : Nat → Prop) (d : MasD) (h : MasAt w p F d) (hok : MasOk d) :
    Calls Tryz.prog 18 #[pM p, .int .i64 now] w (RetTick MasAt w p F (tickM d now) (tickB d now) (tickO d now) (decide (tickK d now = 2))) := by
  rcases tickK_cases d now with ⟨e, hh⟩ | ⟨h1, h2, h3, h4, ⟨e, h5⟩ | ⟨e, h5⟩⟩
  · have e1 : tickM d now = d := by unfold tickM; rw [if_pos e]
    have e2 : tickB d now = [] := by unfold tickB; rw [if_neg (by omega)]
    have e3 : tickO d now = out0 := by unfold tickO; rw [if_neg (by omega)]
    have e4 : decide (tickK d now = 2) = false := by simp; omega
    rw [e1, e2, e3, e4]
    rcases hh with hu | ⟨hu, ht⟩ | ⟨hu, ht1, ht2, ht3⟩
    · exact mas_tick_idle now w p F d h hok hu
    · exact mas_tick_time now w p F d h hok hu ht
    · exact mas_tick_early now w p F d h hok hu ⟨ht1, ht2⟩ ht3
  · have e1 : tickM d now = { d with under := false } := by unfold tickM; rw [if_neg (by omega), if_pos e]
    have e2 : tickB d now = [] := by unfold tickB; rw [if_neg (by omega)]
    have e3 : tickO d now = ⟨3, rep0, d.tries⟩ := by unfold tickO; rw [if_pos e]
    have e4 : decide (tickK d now = 2) = true := by simp; omega
    rw [e1, e2, e3, e4]
    exact mas_tick_silent now w p F d h hok h1 ⟨h2, h3⟩ h4 h5
  · have e1 : tickM d now = { d with tries := d.tries + 1, last := now.toNat } := by unfold tickM; rw [if_neg (by omega), if_neg (by omega)]
    have e2 : tickB d now = d.frame := by unfold tickB; rw [if_pos e]
    have e3 : tickO d now = out0 := by unfold tickO; rw [if_neg (by omega)]
    have e4 : decide (tickK d now = 2) = false := by simp; omega
    rw [e1, e2, e3, e4]
    exact mas_tick_again now w p F d h hok now.toNat (by omega) h1 ⟨h2, h3⟩ h4 (by omega)
end Go.Proofs.YtomcipkmohhpjaaGreat
