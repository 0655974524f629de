/- The document's master: Tick, Hear. (genrem.py prints this.) -/
import Derived.Test.YtomcipkmohhpjaaGreatG09
import Derived.Test.YtomcipkmohhpjaaGreatG10
import Derived.Test.YtomcipkmohhpjaaGreatRepT
namespace Go.Proofs.YtomcipkmohhpjaaGreat
set_option linter.unusedVariables false
set_option linter.unusedSimpArgs false
set_option maxRecDepth 100000
set_option maxHeartbeats 2000000
open Go Go.RowKit Go.Out

theorem RemAt.ended {w w1 : World} {p : Nat} {F : Nat → Prop} {d : MasD} (h : RemAt w p F d) (hx : Ext w w1) : RemAt (w1.setCell ⟨p, 2, none⟩ (.bool false)) p F { d with under := false } ∧ Only F w (w1.setCell ⟨p, 2, none⟩ (.bool false)) := by
  obtain ⟨s, A, n, c, h1, h2, h3, h4, h5, h6⟩ := h
  have hr := hx.block h1
  have hk : ∀ k, k ≠ p → k < w.heap.size → (w1.setCell ⟨p, 2, none⟩ (.bool false)).heap[k]? = w.heap[k]? := fun k hk hlt => (Below.heap_setCell w1 ⟨p, 2, none⟩ _ k hk).trans (Below.block hx k hlt)
  have hs : (w1.setCell ⟨p, 2, none⟩ (.bool false)).heap.size = w1.heap.size := by simp [World.setCell]
  refine ⟨⟨s, A, n, c, ?_, fun W hW => ?_, h3, h4, h5, fun k q => by rw [hs]; exact Nat.lt_of_lt_of_le (h6 k q) hx.size⟩, ⟨hx.os, hx.tape, hx.output, by rw [hs]; exact hx.size, fun k hlt hf => hk k (fun e => hf (e ▸ h5)) hlt⟩⟩
  · rw [remRow_set _ hr]; simp [remRow]
  · exact h2 W (Agr.trans ⟨by rw [hs]; exact hx.size, fun k q => hk k q.2 (h6 k q.1)⟩ hW)
theorem RemAt.onceMore {w w1 : World} {p : Nat} {F : Nat → Prop} {d : MasD} (h : RemAt w p F d) (hx : Ext w w1) (T nw : Nat) : ∃ A n c, w1.cell? ⟨p, 12, none⟩ = some (.slice A n c) ∧ Rd ((w1.setCell ⟨p, 4, none⟩ (.int .i64 (T : Int))).setCell ⟨p, 5, none⟩ (.int .i64 (nw : Int))) A n (d.frame.map cB) ∧ n = d.frame.length ∧
    ((w1.setCell ⟨p, 4, none⟩ (.int .i64 (T : Int))).setCell ⟨p, 5, none⟩ (.int .i64 (nw : Int))).cell? ⟨p, 12, none⟩ = some (.slice A n c) ∧
    RemAt ((w1.setCell ⟨p, 4, none⟩ (.int .i64 (T : Int))).setCell ⟨p, 5, none⟩ (.int .i64 (nw : Int))) p F { d with tries := T, last := nw } ∧ Only F w ((w1.setCell ⟨p, 4, none⟩ (.int .i64 (T : Int))).setCell ⟨p, 5, none⟩ (.int .i64 (nw : Int))) := by
  obtain ⟨s, A, n, c, h1, h2, h3, h4, h5, h6⟩ := h
  have hr := hx.block h1
  have hfar := ((Far.refl F p w1).set h5 4 (.int .i64 (T : Int))).set h5 5 (.int .i64 (nw : Int))
  have hk : ∀ k, k ≠ p → k < w.heap.size → ((w1.setCell ⟨p, 4, none⟩ (.int .i64 (T : Int))).setCell ⟨p, 5, none⟩ (.int .i64 (nw : Int))).heap[k]? = w.heap[k]? := fun k hk hlt => (hfar.far k hk).trans (Below.block hx k hlt)
  have hs := hfar.size
  have hsx := hx.size
  have hrd := fun W (hW : Agr (fun k => F k ∧ k ≠ p) ((w1.setCell ⟨p, 4, none⟩ (.int .i64 (T : Int))).setCell ⟨p, 5, none⟩ (.int .i64 (nw : Int))) W) => h2 W (Agr.trans ⟨by rw [hs]; exact hsx, fun k q => hk k q.2 (h6 k q.1)⟩ hW)
  have hro : ((w1.setCell ⟨p, 4, none⟩ (.int .i64 (T : Int))).setCell ⟨p, 5, none⟩ (.int .i64 (nw : Int))).heap[p]? = some (remRow { d with tries := T, last := nw } s A n c) := by
    rw [remRow_set _ (remRow_set _ hr)]; simp [remRow]
  have g := hrd _ ⟨Nat.le_refl _, fun _ _ => rfl⟩
  refine ⟨A, n, c, ?_, g.2, ?_, ?_, ⟨s, A, n, c, hro, hrd, h3, h4, h5, fun k q => by rw [hs]; exact Nat.lt_of_lt_of_le (h6 k q) hsx⟩, (Only.of_ext (F := F) hx).trans hfar.only (fun _ _ q => q)⟩
  · unfold remRow at hr; exact (cells13 hr).2.2.2.2.2.2.2.2.2.2.2.2
  · have := g.2.length; simpa using this.symm
  · unfold remRow at hro; exact (cells13 hro).2.2.2.2.2.2.2.2.2.2.2.2
theorem rem_tick_idle (now : Int) (w : World) (p : Nat) (F : Nat → Prop) (d : MasD) (h : RemAt w p F d) (hok : MasOk d) (hu : d.under = false) :
    Calls Tryz.prog 26 #[pM p, .int .i64 now] w (RetTick RemAt w p F d [] out0 false) := by
  have HM := Lib.hid h
  have HLT := Lib.hid h.lt
  have HFP := Lib.hid h.foot
  obtain ⟨s, A, n, c, h1, -⟩ := h
  unfold remRow at h1
  have HCE : Hid (∀ W, Ext w W → W.cell? ⟨p, 2, none⟩ = some (.bool d.under) ∧ W.cell? ⟨p, 5, none⟩ = some (.int .i64 (d.last : Int)) ∧ W.cell? ⟨p, 0, none⟩ = some (.int .i64 (d.timeout : Int)) ∧ W.cell? ⟨p, 4, none⟩ = some (.int .i64 (d.tries : Int)) ∧ W.cell? ⟨p, 1, none⟩ = some (.int .i64 (d.retries : Int)) ∧ W.frozen? ⟨p, 2, none⟩ = false ∧ W.frozen? ⟨p, 4, none⟩ = false ∧ W.frozen? ⟨p, 5, none⟩ = false) := fun W hX => ⟨(cells13 (hX.block h1)).2.2.1, (cells13 (hX.block h1)).2.2.2.2.2.1, (cells13 (hX.block h1)).1, (cells13 (hX.block h1)).2.2.2.2.1, (cells13 (hX.block h1)).2.1, frozen_of_row _ _ 2 _ _ (hX.block h1), frozen_of_row _ _ 4 _ _ (hX.block h1), frozen_of_row _ _ 5 _ _ (hX.block h1)⟩
  rw [hu] at HCE
  clear hok
  clear h1
  unfold pM
  go_enter Tryz.func26, Tryz.ntmps26
  go_wp2_with fail
  have HZ := Lib.hid (heap_alloc_new w (.cells #[.int .i64 0, .int .i64 0, .slice none 0 0, .slice none 0 0, .slice none 0 0, .int .i64 0] 59))
  have X1 := Lib.hid (Ext.alloc w (.cells #[.int .i64 0, .int .i64 0, .slice none 0 0, .slice none 0 0, .slice none 0 0, .int .i64 0] 59))
  generalize w.alloc (.cells #[.int .i64 0, .int .i64 0, .slice none 0 0, .slice none 0 0, .slice none 0 0, .int .i64 0] 59) = w1 at *
  obtain ⟨x2, x5, x0, -⟩ := HCE.out w1 X1.out
  go_quiet (fail)
  have X2 := Lib.hid (X1.out.drewN' nq)
  have HZ2 := Lib.hid ((Ext.drewN' (Ext.refl w1) nq).block HZ.out)
  clear x2 x5 x0 HZ X1
  generalize w1.drewN nq = w2 at *
  obtain ⟨v0, v1, v2, v3, v4, v5⟩ := cells6 HZ2.out
  have y0 := frozen_of_row _ _ 0 _ _ HZ2.out
  have y1 := frozen_of_row _ _ 1 _ _ HZ2.out
  have y2 := frozen_of_row _ _ 2 _ _ HZ2.out
  have y3 := frozen_of_row _ _ 3 _ _ HZ2.out
  have y4 := frozen_of_row _ _ 4 _ _ HZ2.out
  have y5 := frozen_of_row _ _ 5 _ _ HZ2.out
  have ty0 := frozen_of_row _ _ 0 _ _ HZ2.out
  have Ft0 := heap_setCell_same _ w.heap.size 0 _ _ (.int .i64 0) HZ2.out
  have Ft1 := heap_setCell_same _ w.heap.size 1 _ _ (.int .i64 0) Ft0
  have Ft2 := heap_setCell_same _ w.heap.size 2 _ _ (.slice none 0 0) Ft1
  have Ft3 := heap_setCell_same _ w.heap.size 3 _ _ (.slice none 0 0) Ft2
  have Ft4 := heap_setCell_same _ w.heap.size 4 _ _ (.slice none 0 0) Ft3
  have Ft5 := heap_setCell_same _ w.heap.size 5 _ _ (.int .i64 0) Ft4
  have F0 := Lib.hid ((cell_of_row _ _ 0 _ _ _ Ft0).trans (show _ = some (.int .i64 0) by simp))
  have F1 := Lib.hid ((cell_of_row _ _ 1 _ _ _ Ft1).trans (show _ = some (.int .i64 0) by simp))
  have F2 := Lib.hid ((cell_of_row _ _ 2 _ _ _ Ft2).trans (show _ = some (.slice none 0 0) by simp))
  have F3 := Lib.hid ((cell_of_row _ _ 3 _ _ _ Ft3).trans (show _ = some (.slice none 0 0) by simp))
  have F4 := Lib.hid ((cell_of_row _ _ 4 _ _ _ Ft4).trans (show _ = some (.slice none 0 0) by simp))
  have F5 := Lib.hid ((cell_of_row _ _ 5 _ _ _ Ft5).trans (show _ = some (.int .i64 0) by simp))
  clear ty0 Ft0 Ft1 Ft2 Ft3 Ft4 Ft5
  go_wp2_with fail
  all_goals
    refine bodyPost_ret (v := .tuple #[.slice none 0 0, .agg #[.int .i64 0, .int .i64 0, .slice none 0 0, .slice none 0 0, .slice none 0 0, .int .i64 0], .bool false]) (by simp [results, Tryz.results26, go_sem, F0.out, F1.out, F2.out, F3.out, F4.out, F5.out]) rfl ⟨none, 0, 0, rfl, ?_, ?_, Own.nil_ _ _ _ _⟩
    · repeat' (first | with_reducible exact HM.out.ext X2.out | with_reducible refine RemAt.set_far ?_ (fun h => by have := HLT.out _ h; simp only at this; omega) _)
    · repeat' (first | with_reducible exact Only.of_ext X2.out | with_reducible refine Only.set_new ?_ (by simp only; omega) _)
theorem rem_tick_neg (now : Int) (w : World) (p : Nat) (F : Nat → Prop) (d : MasD) (h : RemAt w p F d) (hok : MasOk d) (hu : d.under = true) (ht : now < 0) :
    Calls Tryz.prog 26 #[pM p, .int .i64 now] w (RetTick RemAt w p F d [] out0 false) := by
  have HM := Lib.hid h
  have HLT := Lib.hid h.lt
  have HFP := Lib.hid h.foot
  obtain ⟨s, A, n, c, h1, -⟩ := h
  unfold remRow at h1
  have HCE : Hid (∀ W, Ext w W → W.cell? ⟨p, 2, none⟩ = some (.bool d.under) ∧ W.cell? ⟨p, 5, none⟩ = some (.int .i64 (d.last : Int)) ∧ W.cell? ⟨p, 0, none⟩ = some (.int .i64 (d.timeout : Int)) ∧ W.cell? ⟨p, 4, none⟩ = some (.int .i64 (d.tries : Int)) ∧ W.cell? ⟨p, 1, none⟩ = some (.int .i64 (d.retries : Int)) ∧ W.frozen? ⟨p, 2, none⟩ = false ∧ W.frozen? ⟨p, 4, none⟩ = false ∧ W.frozen? ⟨p, 5, none⟩ = false) := fun W hX => ⟨(cells13 (hX.block h1)).2.2.1, (cells13 (hX.block h1)).2.2.2.2.2.1, (cells13 (hX.block h1)).1, (cells13 (hX.block h1)).2.2.2.2.1, (cells13 (hX.block h1)).2.1, frozen_of_row _ _ 2 _ _ (hX.block h1), frozen_of_row _ _ 4 _ _ (hX.block h1), frozen_of_row _ _ 5 _ _ (hX.block h1)⟩
  rw [hu] at HCE
  clear hok
  clear h1
  unfold pM
  go_enter Tryz.func26, Tryz.ntmps26
  go_wp2_with fail
  have HZ := Lib.hid (heap_alloc_new w (.cells #[.int .i64 0, .int .i64 0, .slice none 0 0, .slice none 0 0, .slice none 0 0, .int .i64 0] 59))
  have X1 := Lib.hid (Ext.alloc w (.cells #[.int .i64 0, .int .i64 0, .slice none 0 0, .slice none 0 0, .slice none 0 0, .int .i64 0] 59))
  generalize w.alloc (.cells #[.int .i64 0, .int .i64 0, .slice none 0 0, .slice none 0 0, .slice none 0 0, .int .i64 0] 59) = w1 at *
  obtain ⟨x2, x5, x0, -⟩ := HCE.out w1 X1.out
  go_quiet (fail)
  have X2 := Lib.hid (X1.out.drewN' nq)
  have HZ2 := Lib.hid ((Ext.drewN' (Ext.refl w1) nq).block HZ.out)
  clear x2 x5 x0 HZ X1
  generalize w1.drewN nq = w2 at *
  obtain ⟨v0, v1, v2, v3, v4, v5⟩ := cells6 HZ2.out
  have y0 := frozen_of_row _ _ 0 _ _ HZ2.out
  have y1 := frozen_of_row _ _ 1 _ _ HZ2.out
  have y2 := frozen_of_row _ _ 2 _ _ HZ2.out
  have y3 := frozen_of_row _ _ 3 _ _ HZ2.out
  have y4 := frozen_of_row _ _ 4 _ _ HZ2.out
  have y5 := frozen_of_row _ _ 5 _ _ HZ2.out
  have ty0 := frozen_of_row _ _ 0 _ _ HZ2.out
  have Ft0 := heap_setCell_same _ w.heap.size 0 _ _ (.int .i64 0) HZ2.out
  have Ft1 := heap_setCell_same _ w.heap.size 1 _ _ (.int .i64 0) Ft0
  have Ft2 := heap_setCell_same _ w.heap.size 2 _ _ (.slice none 0 0) Ft1
  have Ft3 := heap_setCell_same _ w.heap.size 3 _ _ (.slice none 0 0) Ft2
  have Ft4 := heap_setCell_same _ w.heap.size 4 _ _ (.slice none 0 0) Ft3
  have Ft5 := heap_setCell_same _ w.heap.size 5 _ _ (.int .i64 0) Ft4
  have F0 := Lib.hid ((cell_of_row _ _ 0 _ _ _ Ft0).trans (show _ = some (.int .i64 0) by simp))
  have F1 := Lib.hid ((cell_of_row _ _ 1 _ _ _ Ft1).trans (show _ = some (.int .i64 0) by simp))
  have F2 := Lib.hid ((cell_of_row _ _ 2 _ _ _ Ft2).trans (show _ = some (.slice none 0 0) by simp))
  have F3 := Lib.hid ((cell_of_row _ _ 3 _ _ _ Ft3).trans (show _ = some (.slice none 0 0) by simp))
  have F4 := Lib.hid ((cell_of_row _ _ 4 _ _ _ Ft4).trans (show _ = some (.slice none 0 0) by simp))
  have F5 := Lib.hid ((cell_of_row _ _ 5 _ _ _ Ft5).trans (show _ = some (.int .i64 0) by simp))
  clear ty0 Ft0 Ft1 Ft2 Ft3 Ft4 Ft5
  go_wp2_with fail
  all_goals
    refine bodyPost_ret (v := .tuple #[.slice none 0 0, .agg #[.int .i64 0, .int .i64 0, .slice none 0 0, .slice none 0 0, .slice none 0 0, .int .i64 0], .bool false]) (by simp [results, Tryz.results26, go_sem, F0.out, F1.out, F2.out, F3.out, F4.out, F5.out]) rfl ⟨none, 0, 0, rfl, ?_, ?_, Own.nil_ _ _ _ _⟩
    · repeat' (first | with_reducible exact HM.out.ext X2.out | with_reducible refine RemAt.set_far ?_ (fun h => by have := HLT.out _ h; simp only at this; omega) _)
    · repeat' (first | with_reducible exact Only.of_ext X2.out | with_reducible refine Only.set_new ?_ (by simp only; omega) _)
theorem rem_tick_far (now : Int) (w : World) (p : Nat) (F : Nat → Prop) (d : MasD) (h : RemAt w p F d) (hok : MasOk d) (hu : d.under = true) (ht : 1099511627776 < now) :
    Calls Tryz.prog 26 #[pM p, .int .i64 now] w (RetTick RemAt w p F d [] out0 false) := by
  have HM := Lib.hid h
  have HLT := Lib.hid h.lt
  have HFP := Lib.hid h.foot
  obtain ⟨s, A, n, c, h1, -⟩ := h
  unfold remRow at h1
  have HCE : Hid (∀ W, Ext w W → W.cell? ⟨p, 2, none⟩ = some (.bool d.under) ∧ W.cell? ⟨p, 5, none⟩ = some (.int .i64 (d.last : Int)) ∧ W.cell? ⟨p, 0, none⟩ = some (.int .i64 (d.timeout : Int)) ∧ W.cell? ⟨p, 4, none⟩ = some (.int .i64 (d.tries : Int)) ∧ W.cell? ⟨p, 1, none⟩ = some (.int .i64 (d.retries : Int)) ∧ W.frozen? ⟨p, 2, none⟩ = false ∧ W.frozen? ⟨p, 4, none⟩ = false ∧ W.frozen? ⟨p, 5, none⟩ = false) := fun W hX => ⟨(cells13 (hX.block h1)).2.2.1, (cells13 (hX.block h1)).2.2.2.2.2.1, (cells13 (hX.block h1)).1, (cells13 (hX.block h1)).2.2.2.2.1, (cells13 (hX.block h1)).2.1, frozen_of_row _ _ 2 _ _ (hX.block h1), frozen_of_row _ _ 4 _ _ (hX.block h1), frozen_of_row _ _ 5 _ _ (hX.block h1)⟩
  rw [hu] at HCE
  have t1 : decide (now < 0) = false := by simp; omega
  have t2 : decide (1099511627776 < now) = true := by simp; omega
  clear hok ht
  clear h1
  unfold pM
  go_enter Tryz.func26, Tryz.ntmps26
  go_wp2_with fail
  have HZ := Lib.hid (heap_alloc_new w (.cells #[.int .i64 0, .int .i64 0, .slice none 0 0, .slice none 0 0, .slice none 0 0, .int .i64 0] 59))
  have X1 := Lib.hid (Ext.alloc w (.cells #[.int .i64 0, .int .i64 0, .slice none 0 0, .slice none 0 0, .slice none 0 0, .int .i64 0] 59))
  generalize w.alloc (.cells #[.int .i64 0, .int .i64 0, .slice none 0 0, .slice none 0 0, .slice none 0 0, .int .i64 0] 59) = w1 at *
  obtain ⟨x2, x5, x0, -⟩ := HCE.out w1 X1.out
  go_quiet (fail)
  have X2 := Lib.hid (X1.out.drewN' nq)
  have HZ2 := Lib.hid ((Ext.drewN' (Ext.refl w1) nq).block HZ.out)
  clear x2 x5 x0 HZ X1
  generalize w1.drewN nq = w2 at *
  obtain ⟨v0, v1, v2, v3, v4, v5⟩ := cells6 HZ2.out
  have y0 := frozen_of_row _ _ 0 _ _ HZ2.out
  have y1 := frozen_of_row _ _ 1 _ _ HZ2.out
  have y2 := frozen_of_row _ _ 2 _ _ HZ2.out
  have y3 := frozen_of_row _ _ 3 _ _ HZ2.out
  have y4 := frozen_of_row _ _ 4 _ _ HZ2.out
  have y5 := frozen_of_row _ _ 5 _ _ HZ2.out
  have ty0 := frozen_of_row _ _ 0 _ _ HZ2.out
  have Ft0 := heap_setCell_same _ w.heap.size 0 _ _ (.int .i64 0) HZ2.out
  have Ft1 := heap_setCell_same _ w.heap.size 1 _ _ (.int .i64 0) Ft0
  have Ft2 := heap_setCell_same _ w.heap.size 2 _ _ (.slice none 0 0) Ft1
  have Ft3 := heap_setCell_same _ w.heap.size 3 _ _ (.slice none 0 0) Ft2
  have Ft4 := heap_setCell_same _ w.heap.size 4 _ _ (.slice none 0 0) Ft3
  have Ft5 := heap_setCell_same _ w.heap.size 5 _ _ (.int .i64 0) Ft4
  have F0 := Lib.hid ((cell_of_row _ _ 0 _ _ _ Ft0).trans (show _ = some (.int .i64 0) by simp))
  have F1 := Lib.hid ((cell_of_row _ _ 1 _ _ _ Ft1).trans (show _ = some (.int .i64 0) by simp))
  have F2 := Lib.hid ((cell_of_row _ _ 2 _ _ _ Ft2).trans (show _ = some (.slice none 0 0) by simp))
  have F3 := Lib.hid ((cell_of_row _ _ 3 _ _ _ Ft3).trans (show _ = some (.slice none 0 0) by simp))
  have F4 := Lib.hid ((cell_of_row _ _ 4 _ _ _ Ft4).trans (show _ = some (.slice none 0 0) by simp))
  have F5 := Lib.hid ((cell_of_row _ _ 5 _ _ _ Ft5).trans (show _ = some (.int .i64 0) by simp))
  clear ty0 Ft0 Ft1 Ft2 Ft3 Ft4 Ft5
  go_wp2_with fail
  all_goals
    refine bodyPost_ret (v := .tuple #[.slice none 0 0, .agg #[.int .i64 0, .int .i64 0, .slice none 0 0, .slice none 0 0, .slice none 0 0, .int .i64 0], .bool false]) (by simp [results, Tryz.results26, go_sem, F0.out, F1.out, F2.out, F3.out, F4.out, F5.out]) rfl ⟨none, 0, 0, rfl, ?_, ?_, Own.nil_ _ _ _ _⟩
    · repeat' (first | with_reducible exact HM.out.ext X2.out | with_reducible refine RemAt.set_far ?_ (fun h => by have := HLT.out _ h; simp only at this; omega) _)
    · repeat' (first | with_reducible exact Only.of_ext X2.out | with_reducible refine Only.set_new ?_ (by simp only; omega) _)
theorem rem_tick_early (now : Int) (w : World) (p : Nat) (F : Nat → Prop) (d : MasD) (h : RemAt w p F d) (hok : MasOk d) (hu : d.under = true) (ht : 0 ≤ now ∧ now ≤ 1099511627776) (he : now < d.last + d.timeout) :
    Calls Tryz.prog 26 #[pM p, .int .i64 now] w (RetTick RemAt w p F d [] out0 false) := by
  have HM := Lib.hid h
  have HLT := Lib.hid h.lt
  have HFP := Lib.hid h.foot
  obtain ⟨s, A, n, c, h1, -⟩ := h
  unfold remRow at h1
  have HCE : Hid (∀ W, Ext w W → W.cell? ⟨p, 2, none⟩ = some (.bool d.under) ∧ W.cell? ⟨p, 5, none⟩ = some (.int .i64 (d.last : Int)) ∧ W.cell? ⟨p, 0, none⟩ = some (.int .i64 (d.timeout : Int)) ∧ W.cell? ⟨p, 4, none⟩ = some (.int .i64 (d.tries : Int)) ∧ W.cell? ⟨p, 1, none⟩ = some (.int .i64 (d.retries : Int)) ∧ W.frozen? ⟨p, 2, none⟩ = false ∧ W.frozen? ⟨p, 4, none⟩ = false ∧ W.frozen? ⟨p, 5, none⟩ = false) := fun W hX => ⟨(cells13 (hX.block h1)).2.2.1, (cells13 (hX.block h1)).2.2.2.2.2.1, (cells13 (hX.block h1)).1, (cells13 (hX.block h1)).2.2.2.2.1, (cells13 (hX.block h1)).2.1, frozen_of_row _ _ 2 _ _ (hX.block h1), frozen_of_row _ _ 4 _ _ (hX.block h1), frozen_of_row _ _ 5 _ _ (hX.block h1)⟩
  rw [hu] at HCE
  have t1 : ¬ now < 0 := by omega
  have t2 : ¬ 1099511627776 < now := by omega
  have hsub : IntKind.i64.wrap (now - (d.last : Int)) = now - (d.last : Int) := IntWalk.i64_in _ (by have := hok.l; omega)
  have he2 : now - (d.last : Int) < (d.timeout : Int) := by omega
  clear hok ht he
  clear h1
  unfold pM
  go_enter Tryz.func26, Tryz.ntmps26
  go_wp2_with fail
  have HZ := Lib.hid (heap_alloc_new w (.cells #[.int .i64 0, .int .i64 0, .slice none 0 0, .slice none 0 0, .slice none 0 0, .int .i64 0] 59))
  have X1 := Lib.hid (Ext.alloc w (.cells #[.int .i64 0, .int .i64 0, .slice none 0 0, .slice none 0 0, .slice none 0 0, .int .i64 0] 59))
  generalize w.alloc (.cells #[.int .i64 0, .int .i64 0, .slice none 0 0, .slice none 0 0, .slice none 0 0, .int .i64 0] 59) = w1 at *
  obtain ⟨x2, x5, x0, -⟩ := HCE.out w1 X1.out
  go_quiet (fail)
  have X2 := Lib.hid (X1.out.drewN' nq)
  have HZ2 := Lib.hid ((Ext.drewN' (Ext.refl w1) nq).block HZ.out)
  clear x2 x5 x0 HZ X1
  generalize w1.drewN nq = w2 at *
  obtain ⟨v0, v1, v2, v3, v4, v5⟩ := cells6 HZ2.out
  have y0 := frozen_of_row _ _ 0 _ _ HZ2.out
  have y1 := frozen_of_row _ _ 1 _ _ HZ2.out
  have y2 := frozen_of_row _ _ 2 _ _ HZ2.out
  have y3 := frozen_of_row _ _ 3 _ _ HZ2.out
  have y4 := frozen_of_row _ _ 4 _ _ HZ2.out
  have y5 := frozen_of_row _ _ 5 _ _ HZ2.out
  have ty0 := frozen_of_row _ _ 0 _ _ HZ2.out
  have Ft0 := heap_setCell_same _ w.heap.size 0 _ _ (.int .i64 0) HZ2.out
  have Ft1 := heap_setCell_same _ w.heap.size 1 _ _ (.int .i64 0) Ft0
  have Ft2 := heap_setCell_same _ w.heap.size 2 _ _ (.slice none 0 0) Ft1
  have Ft3 := heap_setCell_same _ w.heap.size 3 _ _ (.slice none 0 0) Ft2
  have Ft4 := heap_setCell_same _ w.heap.size 4 _ _ (.slice none 0 0) Ft3
  have Ft5 := heap_setCell_same _ w.heap.size 5 _ _ (.int .i64 0) Ft4
  have F0 := Lib.hid ((cell_of_row _ _ 0 _ _ _ Ft0).trans (show _ = some (.int .i64 0) by simp))
  have F1 := Lib.hid ((cell_of_row _ _ 1 _ _ _ Ft1).trans (show _ = some (.int .i64 0) by simp))
  have F2 := Lib.hid ((cell_of_row _ _ 2 _ _ _ Ft2).trans (show _ = some (.slice none 0 0) by simp))
  have F3 := Lib.hid ((cell_of_row _ _ 3 _ _ _ Ft3).trans (show _ = some (.slice none 0 0) by simp))
  have F4 := Lib.hid ((cell_of_row _ _ 4 _ _ _ Ft4).trans (show _ = some (.slice none 0 0) by simp))
  have F5 := Lib.hid ((cell_of_row _ _ 5 _ _ _ Ft5).trans (show _ = some (.int .i64 0) by simp))
  clear ty0 Ft0 Ft1 Ft2 Ft3 Ft4 Ft5
  go_wp2_with fail
  all_goals
    refine bodyPost_ret (v := .tuple #[.slice none 0 0, .agg #[.int .i64 0, .int .i64 0, .slice none 0 0, .slice none 0 0, .slice none 0 0, .int .i64 0], .bool false]) (by simp [results, Tryz.results26, go_sem, F0.out, F1.out, F2.out, F3.out, F4.out, F5.out]) rfl ⟨none, 0, 0, rfl, ?_, ?_, Own.nil_ _ _ _ _⟩
    · repeat' (first | with_reducible exact HM.out.ext X2.out | with_reducible refine RemAt.set_far ?_ (fun h => by have := HLT.out _ h; simp only at this; omega) _)
    · repeat' (first | with_reducible exact Only.of_ext X2.out | with_reducible refine Only.set_new ?_ (by simp only; omega) _)
theorem rem_tick_silent (now : Int) (w : World) (p : Nat) (F : Nat → Prop) (d : MasD) (h : RemAt w p F d) (hok : MasOk d) (hu : d.under = true) (ht : 0 ≤ now ∧ now ≤ 1099511627776) (he : (d.last : Int) + d.timeout ≤ now) (hr : d.retries < d.tries) :
    Calls Tryz.prog 26 #[pM p, .int .i64 now] w (RetTick RemAt w p F { d with under := false } [] ⟨3, rep0, d.tries⟩ true) := by
  have HM := Lib.hid h
  have HLT := Lib.hid h.lt
  have HFP := Lib.hid h.foot
  obtain ⟨s, A, n, c, h1, -⟩ := h
  unfold remRow at h1
  have HCE : Hid (∀ W, Ext w W → W.cell? ⟨p, 2, none⟩ = some (.bool d.under) ∧ W.cell? ⟨p, 5, none⟩ = some (.int .i64 (d.last : Int)) ∧ W.cell? ⟨p, 0, none⟩ = some (.int .i64 (d.timeout : Int)) ∧ W.cell? ⟨p, 4, none⟩ = some (.int .i64 (d.tries : Int)) ∧ W.cell? ⟨p, 1, none⟩ = some (.int .i64 (d.retries : Int)) ∧ W.frozen? ⟨p, 2, none⟩ = false ∧ W.frozen? ⟨p, 4, none⟩ = false ∧ W.frozen? ⟨p, 5, none⟩ = false) := fun W hX => ⟨(cells13 (hX.block h1)).2.2.1, (cells13 (hX.block h1)).2.2.2.2.2.1, (cells13 (hX.block h1)).1, (cells13 (hX.block h1)).2.2.2.2.1, (cells13 (hX.block h1)).2.1, frozen_of_row _ _ 2 _ _ (hX.block h1), frozen_of_row _ _ 4 _ _ (hX.block h1), frozen_of_row _ _ 5 _ _ (hX.block h1)⟩
  rw [hu] at HCE
  have t1 : ¬ now < 0 := by omega
  have t2 : ¬ 1099511627776 < now := by omega
  have hsub : IntKind.i64.wrap (now - (d.last : Int)) = now - (d.last : Int) := IntWalk.i64_in _ (by have := hok.l; omega)
  have he2 : ¬ now - (d.last : Int) < (d.timeout : Int) := by omega
  have hr2 : (d.retries : Int) < (d.tries : Int) := by omega
  clear hok ht he hr
  clear h1
  unfold pM
  go_enter Tryz.func26, Tryz.ntmps26
  go_wp2_with fail
  have HZ := Lib.hid (heap_alloc_new w (.cells #[.int .i64 0, .int .i64 0, .slice none 0 0, .slice none 0 0, .slice none 0 0, .int .i64 0] 59))
  have X1 := Lib.hid (Ext.alloc w (.cells #[.int .i64 0, .int .i64 0, .slice none 0 0, .slice none 0 0, .slice none 0 0, .int .i64 0] 59))
  generalize w.alloc (.cells #[.int .i64 0, .int .i64 0, .slice none 0 0, .slice none 0 0, .slice none 0 0, .int .i64 0] 59) = w1 at *
  obtain ⟨x2, x5, x0, -⟩ := HCE.out w1 X1.out
  go_quiet (fail)
  have X2 := Lib.hid (X1.out.drewN' nq)
  have HZ2 := Lib.hid ((Ext.drewN' (Ext.refl w1) nq).block HZ.out)
  clear x2 x5 x0 HZ X1
  generalize w1.drewN nq = w2 at *
  obtain ⟨-, -, -, x4, x1, -⟩ := HCE.out w2 X2.out
  go_wp2_with fail
  go_quiet (fail)
  have X3 := Lib.hid (X2.out.drewN' nq)
  have HZ3 := Lib.hid ((Ext.drewN' (Ext.refl w2) nq).block HZ2.out)
  clear x4 x1 HZ2 X2
  generalize w2.drewN nq = w3 at *
  have hlt3 : w.heap.size < w3.heap.size := lt_of_heap HZ3.out
  have hpz := HLT.out p HFP.out
  obtain ⟨x2, -, -, x4, -, z2, -⟩ := HCE.out w3 X3.out
  have hend := RemAt.ended HM.out X3.out
  have HMA := Lib.hid hend.1; have HOO := Lib.hid hend.2
  have HZ4 := Lib.hid ((Below.heap_setCell w3 ⟨p, 2, none⟩ (.bool false) w.heap.size (by simp; omega)).trans HZ3.out)
  have X4 : (w3.setCell ⟨p, 2, none⟩ (.bool false)).cell? ⟨p, 4, none⟩ = some (.int .i64 (d.tries : Int)) := by
    obtain ⟨s4, A4, n4, c4, h4, -⟩ := hend.1
    unfold remRow at h4
    exact (cells13 h4).2.2.2.2.1
  clear hend HZ3 HM HCE
  go_wp2_with fail
  clear x2 x4 z2
  generalize w3.setCell ⟨p, 2, none⟩ (.bool false) = w4 at *
  obtain ⟨v0, v1, v2, v3, v4, v5⟩ := cells6 HZ4.out
  have y0 := frozen_of_row _ _ 0 _ _ HZ4.out
  have y1 := frozen_of_row _ _ 1 _ _ HZ4.out
  have y2 := frozen_of_row _ _ 2 _ _ HZ4.out
  have y3 := frozen_of_row _ _ 3 _ _ HZ4.out
  have y4 := frozen_of_row _ _ 4 _ _ HZ4.out
  have y5 := frozen_of_row _ _ 5 _ _ HZ4.out
  have ty0 := frozen_of_row _ _ 0 _ _ HZ4.out
  have Ft0 := heap_setCell_same _ w.heap.size 0 _ _ (.int .i64 3) HZ4.out
  have Ft1 := heap_setCell_same _ w.heap.size 1 _ _ (.int .i64 0) Ft0
  have Ft2 := heap_setCell_same _ w.heap.size 2 _ _ (.slice none 0 0) Ft1
  have Ft3 := heap_setCell_same _ w.heap.size 3 _ _ (.slice none 0 0) Ft2
  have Ft4 := heap_setCell_same _ w.heap.size 4 _ _ (.slice none 0 0) Ft3
  have Ft5 := heap_setCell_same _ w.heap.size 5 _ _ (.int .i64 (d.tries : Int)) Ft4
  have F0 := Lib.hid ((cell_of_row _ _ 0 _ _ _ Ft0).trans (show _ = some (.int .i64 3) by simp))
  have F1 := Lib.hid ((cell_of_row _ _ 1 _ _ _ Ft1).trans (show _ = some (.int .i64 0) by simp))
  have F2 := Lib.hid ((cell_of_row _ _ 2 _ _ _ Ft2).trans (show _ = some (.slice none 0 0) by simp))
  have F3 := Lib.hid ((cell_of_row _ _ 3 _ _ _ Ft3).trans (show _ = some (.slice none 0 0) by simp))
  have F4 := Lib.hid ((cell_of_row _ _ 4 _ _ _ Ft4).trans (show _ = some (.slice none 0 0) by simp))
  have F5 := Lib.hid ((cell_of_row _ _ 5 _ _ _ Ft5).trans (show _ = some (.int .i64 (d.tries : Int)) by simp))
  clear ty0 Ft0 Ft1 Ft2 Ft3 Ft4 Ft5
  go_region_law (fail)
  all_goals
    go_wp2_with fail
    refine bodyPost_ret (v := .tuple #[.slice none 0 0, .agg #[.int .i64 3, .int .i64 0, .slice none 0 0, .slice none 0 0, .slice none 0 0, .int .i64 (d.tries : Int)], .bool true]) (by simp [results, Tryz.results26, go_sem, F0.out, F1.out, F2.out, F3.out, F4.out, F5.out]) rfl ⟨none, 0, 0, rfl, ?_, ?_, Own.nil_ _ _ _ _⟩
    · refine RemAt.ext ?_ (Ext.draw _)
      repeat' (first | with_reducible exact HMA.out | with_reducible refine RemAt.set_far ?_ (fun h => by have := HLT.out _ h; simp only at this; omega) _)
    · refine Only.drew' ?_
      repeat' (first | with_reducible exact HOO.out | with_reducible refine Only.set_new ?_ (by simp only; omega) _)
theorem rem_tick_again (now : Int) (w : World) (p : Nat) (F : Nat → Prop) (d : MasD) (h : RemAt w p F d) (hok : MasOk d) (nw : Nat) (hnw : now = (nw : Int)) (hu : d.under = true) (ht : 0 ≤ now ∧ now ≤ 1099511627776) (he : (d.last : Int) + d.timeout ≤ now) (hr : ¬ d.retries < d.tries) :
    Calls Tryz.prog 26 #[pM p, .int .i64 now] w (RetTick RemAt w p F { d with tries := d.tries + 1, last := nw } d.frame out0 false) := by
  have HM := Lib.hid h
  have HLT := Lib.hid h.lt
  have HFP := Lib.hid h.foot
  obtain ⟨s, A, n, c, h1, -⟩ := h
  unfold remRow at h1
  have HCE : Hid (∀ W, Ext w W → W.cell? ⟨p, 2, none⟩ = some (.bool d.under) ∧ W.cell? ⟨p, 5, none⟩ = some (.int .i64 (d.last : Int)) ∧ W.cell? ⟨p, 0, none⟩ = some (.int .i64 (d.timeout : Int)) ∧ W.cell? ⟨p, 4, none⟩ = some (.int .i64 (d.tries : Int)) ∧ W.cell? ⟨p, 1, none⟩ = some (.int .i64 (d.retries : Int)) ∧ W.frozen? ⟨p, 2, none⟩ = false ∧ W.frozen? ⟨p, 4, none⟩ = false ∧ W.frozen? ⟨p, 5, none⟩ = false) := fun W hX => ⟨(cells13 (hX.block h1)).2.2.1, (cells13 (hX.block h1)).2.2.2.2.2.1, (cells13 (hX.block h1)).1, (cells13 (hX.block h1)).2.2.2.2.1, (cells13 (hX.block h1)).2.1, frozen_of_row _ _ 2 _ _ (hX.block h1), frozen_of_row _ _ 4 _ _ (hX.block h1), frozen_of_row _ _ 5 _ _ (hX.block h1)⟩
  rw [hu] at HCE
  subst hnw
  have t1 : ¬ (nw : Int) < 0 := by omega
  have t2 : ¬ 1099511627776 < (nw : Int) := by omega
  have hsub : IntKind.i64.wrap ((nw : Int) - (d.last : Int)) = (nw : Int) - (d.last : Int) := IntWalk.i64_in _ (by have := hok.l; omega)
  have he2 : ¬ (nw : Int) - (d.last : Int) < (d.timeout : Int) := by omega
  have hr2 : ¬ (d.retries : Int) < (d.tries : Int) := by omega
  have hfl := hok.f
  obtain ⟨T, hT⟩ : ∃ T, d.tries + 1 = T := ⟨_, rfl⟩
  have hw1 : IntKind.i64.wrap ((d.tries : Int) + 1) = (T : Int) := by rw [IntWalk.i64_in _ (by have := hok.tr; have := hok.r; omega)]; omega
  rw [hT]
  clear hok ht he hr hT
  clear h1
  unfold pM
  go_enter Tryz.func26, Tryz.ntmps26
  go_wp2_with fail
  have HZ := Lib.hid (heap_alloc_new w (.cells #[.int .i64 0, .int .i64 0, .slice none 0 0, .slice none 0 0, .slice none 0 0, .int .i64 0] 59))
  have X1 := Lib.hid (Ext.alloc w (.cells #[.int .i64 0, .int .i64 0, .slice none 0 0, .slice none 0 0, .slice none 0 0, .int .i64 0] 59))
  generalize w.alloc (.cells #[.int .i64 0, .int .i64 0, .slice none 0 0, .slice none 0 0, .slice none 0 0, .int .i64 0] 59) = w1 at *
  obtain ⟨x2, x5, x0, -⟩ := HCE.out w1 X1.out
  go_quiet (fail)
  have X2 := Lib.hid (X1.out.drewN' nq)
  have HZ2 := Lib.hid ((Ext.drewN' (Ext.refl w1) nq).block HZ.out)
  clear x2 x5 x0 HZ X1
  generalize w1.drewN nq = w2 at *
  obtain ⟨-, -, -, x4, x1, -⟩ := HCE.out w2 X2.out
  go_wp2_with fail
  go_quiet (fail)
  have X3 := Lib.hid (X2.out.drewN' nq)
  have HZ3 := Lib.hid ((Ext.drewN' (Ext.refl w2) nq).block HZ2.out)
  clear x4 x1 HZ2 X2
  generalize w2.drewN nq = w3 at *
  have hlt3 : w.heap.size < w3.heap.size := lt_of_heap HZ3.out
  have hpz := HLT.out p HFP.out
  obtain ⟨-, x5, -, x4, -, -, z4, z5⟩ := HCE.out w3 X3.out
  obtain ⟨A5, n5, c5, x12, hrd, hn5, x12', hm5, ho5⟩ := RemAt.onceMore HM.out X3.out T nw
  have HRD := Lib.hid hrd; have HMA := Lib.hid hm5; have HOO := Lib.hid ho5
  have hfl5 : n5 ≤ 256 := by omega
  have HZ5 := Lib.hid (((Far.refl F p w3).set HFP.out 4 (.int .i64 (T : Int))).set HFP.out 5 (.int .i64 (nw : Int)))
  replace HZ5 := Lib.hid ((HZ5.out.far w.heap.size (by omega)).trans HZ3.out)
  clear hrd hm5 ho5 HM HCE HZ3 hn5
  go_wp2_with fail
  clear x5 x4 z4 z5 x12 x12'
  generalize (w3.setCell ⟨p, 4, none⟩ (.int .i64 (T : Int))).setCell ⟨p, 5, none⟩ (.int .i64 (nw : Int)) = w5 at *
  refine (copy_any d.frame A5 n5 c5 w5 HRD.out (by omega)).mono ?_
  rintro e6 w6 ⟨A6, c6, rfl, ho6, hx6⟩
  have HOW := Lib.hid ho6
  have X56 := Lib.hid (Ext.of hx6)
  have HZ6 := Lib.hid ((Ext.of hx6).block HZ5.out)
  have hs5 := HOO.out.size
  have hl5 := lt_of_heap HZ5.out
  clear ho6 hx6 HZ5
  obtain ⟨v0, v1, v2, v3, v4, v5⟩ := cells6 HZ6.out
  have y0 := frozen_of_row _ _ 0 _ _ HZ6.out
  have y1 := frozen_of_row _ _ 1 _ _ HZ6.out
  have y2 := frozen_of_row _ _ 2 _ _ HZ6.out
  have y3 := frozen_of_row _ _ 3 _ _ HZ6.out
  have y4 := frozen_of_row _ _ 4 _ _ HZ6.out
  have y5 := frozen_of_row _ _ 5 _ _ HZ6.out
  have ty0 := frozen_of_row _ _ 0 _ _ HZ6.out
  have Ft0 := heap_setCell_same _ w.heap.size 0 _ _ (.int .i64 0) HZ6.out
  have Ft1 := heap_setCell_same _ w.heap.size 1 _ _ (.int .i64 0) Ft0
  have Ft2 := heap_setCell_same _ w.heap.size 2 _ _ (.slice none 0 0) Ft1
  have Ft3 := heap_setCell_same _ w.heap.size 3 _ _ (.slice none 0 0) Ft2
  have Ft4 := heap_setCell_same _ w.heap.size 4 _ _ (.slice none 0 0) Ft3
  have Ft5 := heap_setCell_same _ w.heap.size 5 _ _ (.int .i64 0) Ft4
  have F0 := Lib.hid ((cell_of_row _ _ 0 _ _ _ Ft0).trans (show _ = some (.int .i64 0) by simp))
  have F1 := Lib.hid ((cell_of_row _ _ 1 _ _ _ Ft1).trans (show _ = some (.int .i64 0) by simp))
  have F2 := Lib.hid ((cell_of_row _ _ 2 _ _ _ Ft2).trans (show _ = some (.slice none 0 0) by simp))
  have F3 := Lib.hid ((cell_of_row _ _ 3 _ _ _ Ft3).trans (show _ = some (.slice none 0 0) by simp))
  have F4 := Lib.hid ((cell_of_row _ _ 4 _ _ _ Ft4).trans (show _ = some (.slice none 0 0) by simp))
  have F5 := Lib.hid ((cell_of_row _ _ 5 _ _ _ Ft5).trans (show _ = some (.int .i64 0) by simp))
  clear ty0 Ft0 Ft1 Ft2 Ft3 Ft4 Ft5
  go_wp2_with fail
  all_goals
    refine bodyPost_ret (v := .tuple #[.slice A6 n5 c6, .agg #[.int .i64 0, .int .i64 0, .slice none 0 0, .slice none 0 0, .slice none 0 0, .int .i64 0], .bool false]) (by simp [results, Tryz.results26, go_sem, F0.out, F1.out, F2.out, F3.out, F4.out, F5.out]) rfl ⟨A6, n5, c6, rfl, ?_, ?_, ?_⟩
    · repeat' (first | with_reducible exact (HMA.out.ext X56.out) | with_reducible refine RemAt.set_far ?_ (fun h => by have := HLT.out _ h; simp only at this; omega) _)
    · repeat' (first | with_reducible exact (HOO.out.trans (Only.of_ext (F := F) X56.out) (fun _ _ q => q)) | with_reducible refine Only.set_new ?_ (by simp only; omega) _)
    · have hlt5 := lt_of_heap HZ6.out
      refine (HOW.out.mono hs5).kept fun g hg => ?_
      have hgne : g ≠ w.heap.size := by have := (HOW.out.lt g hg).1; omega
      repeat' (first | (with_reducible refine (Below.heap_setCell _ _ _ _ hgne).trans ?_) | with_reducible rfl)
theorem rem_tick (now : Int) (w : World) (p : Nat) (F : Nat → Prop) (d : MasD) (h : RemAt w p F d) (hok : MasOk d) :
    Calls Tryz.prog 26 #[pM p, .int .i64 now] w (RetTick RemAt w p F (tickM d now) (tickB d now) (tickO d now) (decide (tickK d now = 2))) := by
  rcases tickK_cases d now with ⟨e, hh⟩ | ⟨h1, h2, h3, h4, ⟨e, h5⟩ | ⟨e, h5⟩⟩
  · have e1 : tickM d now = d := by unfold tickM; rw [if_pos e]
    have e2 : tickB d now = [] := by unfold tickB; rw [if_neg (by omega)]
    have e3 : tickO d now = out0 := by unfold tickO; rw [if_neg (by omega)]
    have e4 : decide (tickK d now = 2) = false := by simp; omega
    rw [e1, e2, e3, e4]
    rcases hh with hu | ⟨hu, ht | ht⟩ | ⟨hu, ht1, ht2, ht3⟩
    · exact rem_tick_idle now w p F d h hok hu
    · exact rem_tick_neg now w p F d h hok hu ht
    · exact rem_tick_far now w p F d h hok hu ht
    · exact rem_tick_early now w p F d h hok hu ⟨ht1, ht2⟩ ht3
  · have e1 : tickM d now = { d with under := false } := by unfold tickM; rw [if_neg (by omega), if_pos e]
    have e2 : tickB d now = [] := by unfold tickB; rw [if_neg (by omega)]
    have e3 : tickO d now = ⟨3, rep0, d.tries⟩ := by unfold tickO; rw [if_pos e]
    have e4 : decide (tickK d now = 2) = true := by simp; omega
    rw [e1, e2, e3, e4]
    exact rem_tick_silent now w p F d h hok h1 ⟨h2, h3⟩ h4 h5
  · have e1 : tickM d now = { d with tries := d.tries + 1, last := now.toNat } := by unfold tickM; rw [if_neg (by omega), if_neg (by omega)]
    have e2 : tickB d now = d.frame := by unfold tickB; rw [if_pos e]
    have e3 : tickO d now = out0 := by unfold tickO; rw [if_neg (by omega)]
    have e4 : decide (tickK d now = 2) = false := by simp; omega
    rw [e1, e2, e3, e4]
    exact rem_tick_again now w p F d h hok now.toNat (by omega) h1 ⟨h2, h3⟩ h4 (by omega)
end Go.Proofs.YtomcipkmohhpjaaGreat
