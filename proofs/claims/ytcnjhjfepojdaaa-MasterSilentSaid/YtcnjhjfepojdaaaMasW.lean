/- A master's Tick. (genmast.py prints this.) -/
import Derived.Test.YtcnjhjfepojdaaaMasU
namespace Go.Proofs.Ytcnjhjfepojdaaa
set_option linter.unusedVariables false
set_option linter.unusedSimpArgs false
set_option maxRecDepth 100000
set_option maxHeartbeats 1000000
open Go Go.RowKit Go.Out

theorem mas_tick_idle (now : Int) (w : World) (p : Nat) (F : Nat → Prop) (d : MasD) (h : MasAt w p F d) (hok : MasOk d) (hu : d.under = false) :
    Calls Try.prog 12 #[pM p, .int .i64 now] w (RetTick MasAt w p F d [] out0 false) := by
  have HM := Lib.hid h
  have HBZ := Lib.hid (fun W (hX : Ext w W) => mas_busy p F d W (h.ext hX) hok)
  have HTM := Lib.hid (fun W => mas_timely now W)
  rw [hu] at HBZ
  obtain ⟨s, A, n, c, h1, -⟩ := h
  unfold masRow at h1
  have HCE : Hid (∀ W, Ext w W → W.cell? ⟨p, 3, none⟩ = some (.int .i64 (d.last : Int)) ∧ W.cell? ⟨p, 0, none⟩ = some (.int .i64 (d.timeout : Int))) := fun W hX => ⟨(cells12 (hX.block h1)).2.2.2.1, (cells12 (hX.block h1)).1⟩
  have HC2 : Hid (∀ W, Ext w W → W.cell? ⟨p, 2, none⟩ = some (.int .i64 (busyN d : Int)) ∧ W.cell? ⟨p, 1, none⟩ = some (.int .i64 (d.retries : Int))) := fun W hX => ⟨(cells12 (hX.block h1)).2.2.1, (cells12 (hX.block h1)).2.1⟩
  have HLT := Lib.hid HM.out.lt
  have hwa : IntKind.i64.wrap ((d.last : Int) + (d.timeout : Int)) = (d.last : Int) + (d.timeout : Int) := IntWalk.i64_in _ (by have := hok.l; have := hok.t; omega)
  clear h1 hok
  unfold pM at HBZ ⊢
  go_enter Try.func12, Try.ntmps12
  go_wp2_with fail
  have HZ := Lib.hid (heap_alloc_new w (.cells #[.int .i64 0, .int .i64 0, .slice none 0 0, .slice none 0 0, .slice none 0 0, .int .i64 0] 43))
  have X1 := Lib.hid (Ext.alloc w (.cells #[.int .i64 0, .int .i64 0, .slice none 0 0, .slice none 0 0, .slice none 0 0, .int .i64 0] 43))
  generalize w.alloc (.cells #[.int .i64 0, .int .i64 0, .slice none 0 0, .slice none 0 0, .slice none 0 0, .int .i64 0] 43) = w1 at *
  obtain ⟨x3, x0⟩ := HCE.out w1 X1.out
  have HBQ := Lib.hid (fun n => (HBZ.out (w1.drewN n) (X1.out.drewN' n)).mono (R' := fun e w' => e = .returned (.bool false) ∧ w' = w1.drewN n) fun e w' ⟨h1, h2⟩ => ⟨h1, h2.symm⟩)
  have HTQ := Lib.hid (fun n => (HTM.out (w1.drewN n)).mono (R' := fun e w' => e = .returned (.bool (decide (0 ≤ now ∧ now ≤ 1099511627776))) ∧ w' = w1.drewN n) fun e w' ⟨h1, h2⟩ => ⟨h1, h2.symm⟩)
  go_quiet (first | (go_at_call 8; exact Calls.quiet_of_same (HBQ.out _)) | (go_at_call 16; exact Calls.quiet_of_same (HTQ.out _)))
  have X2 := Lib.hid (X1.out.drewN' nq)
  have HZ2 := Lib.hid ((Ext.drewN' (Ext.refl w1) nq).block HZ.out)
  clear x3 x0 HZ X1 HBQ HTQ
  generalize w1.drewN nq = w2 at *
  obtain ⟨v0, v1, v2, v3, v4, v5⟩ := cells6 HZ2.out
  have y0 := frozen_of_row _ _ 0 _ _ HZ2.out
  have y1 := frozen_of_row _ _ 1 _ _ HZ2.out
  have y2 := frozen_of_row _ _ 2 _ _ HZ2.out
  have y3 := frozen_of_row _ _ 3 _ _ HZ2.out
  have y4 := frozen_of_row _ _ 4 _ _ HZ2.out
  have y5 := frozen_of_row _ _ 5 _ _ HZ2.out
  have ty0 := frozen_of_row _ _ 0 _ _ HZ2.out
  have Ft0 := heap_setCell_same _ w.heap.size 0 _ _ (.int .i64 0) HZ2.out
  have Ft1 := heap_setCell_same _ w.heap.size 1 _ _ (.int .i64 0) Ft0
  have Ft2 := heap_setCell_same _ w.heap.size 2 _ _ (.slice none 0 0) Ft1
  have Ft3 := heap_setCell_same _ w.heap.size 3 _ _ (.slice none 0 0) Ft2
  have Ft4 := heap_setCell_same _ w.heap.size 4 _ _ (.slice none 0 0) Ft3
  have Ft5 := heap_setCell_same _ w.heap.size 5 _ _ (.int .i64 0) Ft4
  have F0 := Lib.hid ((cell_of_row _ _ 0 _ _ _ Ft0).trans (show _ = some (.int .i64 0) by simp))
  have F1 := Lib.hid ((cell_of_row _ _ 1 _ _ _ Ft1).trans (show _ = some (.int .i64 0) by simp))
  have F2 := Lib.hid ((cell_of_row _ _ 2 _ _ _ Ft2).trans (show _ = some (.slice none 0 0) by simp))
  have F3 := Lib.hid ((cell_of_row _ _ 3 _ _ _ Ft3).trans (show _ = some (.slice none 0 0) by simp))
  have F4 := Lib.hid ((cell_of_row _ _ 4 _ _ _ Ft4).trans (show _ = some (.slice none 0 0) by simp))
  have F5 := Lib.hid ((cell_of_row _ _ 5 _ _ _ Ft5).trans (show _ = some (.int .i64 0) by simp))
  clear ty0 Ft0 Ft1 Ft2 Ft3 Ft4 Ft5
  go_wp2_with fail
  all_goals
    refine bodyPost_ret (v := .tuple #[.slice none 0 0, .agg #[.int .i64 0, .int .i64 0, .slice none 0 0, .slice none 0 0, .slice none 0 0, .int .i64 0], .bool false]) (by simp [results, Try.results12, go_sem, F0.out, F1.out, F2.out, F3.out, F4.out, F5.out]) rfl ⟨none, 0, 0, rfl, ?_, ?_, Own.nil_ _ _ _ _⟩
    · repeat' (first | with_reducible exact HM.out.ext X2.out | with_reducible refine MasAt.set_far ?_ (fun h => by have := HLT.out _ h; simp only at this; omega) _)
    · repeat' (first | with_reducible exact Only.of_ext X2.out | with_reducible refine Only.set_new ?_ (by simp only; omega) _)
theorem mas_tick_time (now : Int) (w : World) (p : Nat) (F : Nat → Prop) (d : MasD) (h : MasAt w p F d) (hok : MasOk d) (hu : d.under = true) (ht : now < 0 ∨ 1099511627776 < now) :
    Calls Try.prog 12 #[pM p, .int .i64 now] w (RetTick MasAt w p F d [] out0 false) := by
  have HM := Lib.hid h
  have HBZ := Lib.hid (fun W (hX : Ext w W) => mas_busy p F d W (h.ext hX) hok)
  have HTM := Lib.hid (fun W => mas_timely now W)
  rw [hu] at HBZ
  have t3 : decide (0 ≤ now ∧ now ≤ 1099511627776) = false := by simp; omega
  rw [t3] at HTM
  obtain ⟨s, A, n, c, h1, -⟩ := h
  unfold masRow at h1
  have HCE : Hid (∀ W, Ext w W → W.cell? ⟨p, 3, none⟩ = some (.int .i64 (d.last : Int)) ∧ W.cell? ⟨p, 0, none⟩ = some (.int .i64 (d.timeout : Int))) := fun W hX => ⟨(cells12 (hX.block h1)).2.2.2.1, (cells12 (hX.block h1)).1⟩
  have HC2 : Hid (∀ W, Ext w W → W.cell? ⟨p, 2, none⟩ = some (.int .i64 (busyN d : Int)) ∧ W.cell? ⟨p, 1, none⟩ = some (.int .i64 (d.retries : Int))) := fun W hX => ⟨(cells12 (hX.block h1)).2.2.1, (cells12 (hX.block h1)).2.1⟩
  have HLT := Lib.hid HM.out.lt
  have hwa : IntKind.i64.wrap ((d.last : Int) + (d.timeout : Int)) = (d.last : Int) + (d.timeout : Int) := IntWalk.i64_in _ (by have := hok.l; have := hok.t; omega)
  clear h1 hok ht t3
  unfold pM at HBZ ⊢
  go_enter Try.func12, Try.ntmps12
  go_wp2_with fail
  have HZ := Lib.hid (heap_alloc_new w (.cells #[.int .i64 0, .int .i64 0, .slice none 0 0, .slice none 0 0, .slice none 0 0, .int .i64 0] 43))
  have X1 := Lib.hid (Ext.alloc w (.cells #[.int .i64 0, .int .i64 0, .slice none 0 0, .slice none 0 0, .slice none 0 0, .int .i64 0] 43))
  generalize w.alloc (.cells #[.int .i64 0, .int .i64 0, .slice none 0 0, .slice none 0 0, .slice none 0 0, .int .i64 0] 43) = w1 at *
  obtain ⟨x3, x0⟩ := HCE.out w1 X1.out
  have HBQ := Lib.hid (fun n => (HBZ.out (w1.drewN n) (X1.out.drewN' n)).mono (R' := fun e w' => e = .returned (.bool true) ∧ w' = w1.drewN n) fun e w' ⟨h1, h2⟩ => ⟨h1, h2.symm⟩)
  have HTQ := Lib.hid (fun n => (HTM.out (w1.drewN n)).mono (R' := fun e w' => e = .returned (.bool false) ∧ w' = w1.drewN n) fun e w' ⟨h1, h2⟩ => ⟨h1, h2.symm⟩)
  go_quiet (first | (go_at_call 8; exact Calls.quiet_of_same (HBQ.out _)) | (go_at_call 16; exact Calls.quiet_of_same (HTQ.out _)))
  have X2 := Lib.hid (X1.out.drewN' nq)
  have HZ2 := Lib.hid ((Ext.drewN' (Ext.refl w1) nq).block HZ.out)
  clear x3 x0 HZ X1 HBQ HTQ
  generalize w1.drewN nq = w2 at *
  obtain ⟨v0, v1, v2, v3, v4, v5⟩ := cells6 HZ2.out
  have y0 := frozen_of_row _ _ 0 _ _ HZ2.out
  have y1 := frozen_of_row _ _ 1 _ _ HZ2.out
  have y2 := frozen_of_row _ _ 2 _ _ HZ2.out
  have y3 := frozen_of_row _ _ 3 _ _ HZ2.out
  have y4 := frozen_of_row _ _ 4 _ _ HZ2.out
  have y5 := frozen_of_row _ _ 5 _ _ HZ2.out
  have ty0 := frozen_of_row _ _ 0 _ _ HZ2.out
  have Ft0 := heap_setCell_same _ w.heap.size 0 _ _ (.int .i64 0) HZ2.out
  have Ft1 := heap_setCell_same _ w.heap.size 1 _ _ (.int .i64 0) Ft0
  have Ft2 := heap_setCell_same _ w.heap.size 2 _ _ (.slice none 0 0) Ft1
  have Ft3 := heap_setCell_same _ w.heap.size 3 _ _ (.slice none 0 0) Ft2
  have Ft4 := heap_setCell_same _ w.heap.size 4 _ _ (.slice none 0 0) Ft3
  have Ft5 := heap_setCell_same _ w.heap.size 5 _ _ (.int .i64 0) Ft4
  have F0 := Lib.hid ((cell_of_row _ _ 0 _ _ _ Ft0).trans (show _ = some (.int .i64 0) by simp))
  have F1 := Lib.hid ((cell_of_row _ _ 1 _ _ _ Ft1).trans (show _ = some (.int .i64 0) by simp))
  have F2 := Lib.hid ((cell_of_row _ _ 2 _ _ _ Ft2).trans (show _ = some (.slice none 0 0) by simp))
  have F3 := Lib.hid ((cell_of_row _ _ 3 _ _ _ Ft3).trans (show _ = some (.slice none 0 0) by simp))
  have F4 := Lib.hid ((cell_of_row _ _ 4 _ _ _ Ft4).trans (show _ = some (.slice none 0 0) by simp))
  have F5 := Lib.hid ((cell_of_row _ _ 5 _ _ _ Ft5).trans (show _ = some (.int .i64 0) by simp))
  clear ty0 Ft0 Ft1 Ft2 Ft3 Ft4 Ft5
  go_wp2_with fail
  all_goals
    refine bodyPost_ret (v := .tuple #[.slice none 0 0, .agg #[.int .i64 0, .int .i64 0, .slice none 0 0, .slice none 0 0, .slice none 0 0, .int .i64 0], .bool false]) (by simp [results, Try.results12, go_sem, F0.out, F1.out, F2.out, F3.out, F4.out, F5.out]) rfl ⟨none, 0, 0, rfl, ?_, ?_, Own.nil_ _ _ _ _⟩
    · repeat' (first | with_reducible exact HM.out.ext X2.out | with_reducible refine MasAt.set_far ?_ (fun h => by have := HLT.out _ h; simp only at this; omega) _)
    · repeat' (first | with_reducible exact Only.of_ext X2.out | with_reducible refine Only.set_new ?_ (by simp only; omega) _)
theorem mas_tick_early (now : Int) (w : World) (p : Nat) (F : Nat → Prop) (d : MasD) (h : MasAt w p F d) (hok : MasOk d) (hu : d.under = true) (ht : 0 ≤ now ∧ now ≤ 1099511627776) (he : now < d.last + d.timeout) :
    Calls Try.prog 12 #[pM p, .int .i64 now] w (RetTick MasAt w p F d [] out0 false) := by
  have HM := Lib.hid h
  have HBZ := Lib.hid (fun W (hX : Ext w W) => mas_busy p F d W (h.ext hX) hok)
  have HTM := Lib.hid (fun W => mas_timely now W)
  rw [hu] at HBZ
  have t3 : decide (0 ≤ now ∧ now ≤ 1099511627776) = true := by simp; omega
  rw [t3] at HTM
  obtain ⟨s, A, n, c, h1, -⟩ := h
  unfold masRow at h1
  have HCE : Hid (∀ W, Ext w W → W.cell? ⟨p, 3, none⟩ = some (.int .i64 (d.last : Int)) ∧ W.cell? ⟨p, 0, none⟩ = some (.int .i64 (d.timeout : Int))) := fun W hX => ⟨(cells12 (hX.block h1)).2.2.2.1, (cells12 (hX.block h1)).1⟩
  have HC2 : Hid (∀ W, Ext w W → W.cell? ⟨p, 2, none⟩ = some (.int .i64 (busyN d : Int)) ∧ W.cell? ⟨p, 1, none⟩ = some (.int .i64 (d.retries : Int))) := fun W hX => ⟨(cells12 (hX.block h1)).2.2.1, (cells12 (hX.block h1)).2.1⟩
  have HLT := Lib.hid HM.out.lt
  have hwa : IntKind.i64.wrap ((d.last : Int) + (d.timeout : Int)) = (d.last : Int) + (d.timeout : Int) := IntWalk.i64_in _ (by have := hok.l; have := hok.t; omega)
  clear h1 hok ht t3
  unfold pM at HBZ ⊢
  go_enter Try.func12, Try.ntmps12
  go_wp2_with fail
  have HZ := Lib.hid (heap_alloc_new w (.cells #[.int .i64 0, .int .i64 0, .slice none 0 0, .slice none 0 0, .slice none 0 0, .int .i64 0] 43))
  have X1 := Lib.hid (Ext.alloc w (.cells #[.int .i64 0, .int .i64 0, .slice none 0 0, .slice none 0 0, .slice none 0 0, .int .i64 0] 43))
  generalize w.alloc (.cells #[.int .i64 0, .int .i64 0, .slice none 0 0, .slice none 0 0, .slice none 0 0, .int .i64 0] 43) = w1 at *
  obtain ⟨x3, x0⟩ := HCE.out w1 X1.out
  have HBQ := Lib.hid (fun n => (HBZ.out (w1.drewN n) (X1.out.drewN' n)).mono (R' := fun e w' => e = .returned (.bool true) ∧ w' = w1.drewN n) fun e w' ⟨h1, h2⟩ => ⟨h1, h2.symm⟩)
  have HTQ := Lib.hid (fun n => (HTM.out (w1.drewN n)).mono (R' := fun e w' => e = .returned (.bool true) ∧ w' = w1.drewN n) fun e w' ⟨h1, h2⟩ => ⟨h1, h2.symm⟩)
  go_quiet (first | (go_at_call 8; exact Calls.quiet_of_same (HBQ.out _)) | (go_at_call 16; exact Calls.quiet_of_same (HTQ.out _)))
  have X2 := Lib.hid (X1.out.drewN' nq)
  have HZ2 := Lib.hid ((Ext.drewN' (Ext.refl w1) nq).block HZ.out)
  clear x3 x0 HZ X1 HBQ HTQ
  generalize w1.drewN nq = w2 at *
  obtain ⟨v0, v1, v2, v3, v4, v5⟩ := cells6 HZ2.out
  have y0 := frozen_of_row _ _ 0 _ _ HZ2.out
  have y1 := frozen_of_row _ _ 1 _ _ HZ2.out
  have y2 := frozen_of_row _ _ 2 _ _ HZ2.out
  have y3 := frozen_of_row _ _ 3 _ _ HZ2.out
  have y4 := frozen_of_row _ _ 4 _ _ HZ2.out
  have y5 := frozen_of_row _ _ 5 _ _ HZ2.out
  have ty0 := frozen_of_row _ _ 0 _ _ HZ2.out
  have Ft0 := heap_setCell_same _ w.heap.size 0 _ _ (.int .i64 0) HZ2.out
  have Ft1 := heap_setCell_same _ w.heap.size 1 _ _ (.int .i64 0) Ft0
  have Ft2 := heap_setCell_same _ w.heap.size 2 _ _ (.slice none 0 0) Ft1
  have Ft3 := heap_setCell_same _ w.heap.size 3 _ _ (.slice none 0 0) Ft2
  have Ft4 := heap_setCell_same _ w.heap.size 4 _ _ (.slice none 0 0) Ft3
  have Ft5 := heap_setCell_same _ w.heap.size 5 _ _ (.int .i64 0) Ft4
  have F0 := Lib.hid ((cell_of_row _ _ 0 _ _ _ Ft0).trans (show _ = some (.int .i64 0) by simp))
  have F1 := Lib.hid ((cell_of_row _ _ 1 _ _ _ Ft1).trans (show _ = some (.int .i64 0) by simp))
  have F2 := Lib.hid ((cell_of_row _ _ 2 _ _ _ Ft2).trans (show _ = some (.slice none 0 0) by simp))
  have F3 := Lib.hid ((cell_of_row _ _ 3 _ _ _ Ft3).trans (show _ = some (.slice none 0 0) by simp))
  have F4 := Lib.hid ((cell_of_row _ _ 4 _ _ _ Ft4).trans (show _ = some (.slice none 0 0) by simp))
  have F5 := Lib.hid ((cell_of_row _ _ 5 _ _ _ Ft5).trans (show _ = some (.int .i64 0) by simp))
  clear ty0 Ft0 Ft1 Ft2 Ft3 Ft4 Ft5
  go_wp2_with fail
  all_goals
    refine bodyPost_ret (v := .tuple #[.slice none 0 0, .agg #[.int .i64 0, .int .i64 0, .slice none 0 0, .slice none 0 0, .slice none 0 0, .int .i64 0], .bool false]) (by simp [results, Try.results12, go_sem, F0.out, F1.out, F2.out, F3.out, F4.out, F5.out]) rfl ⟨none, 0, 0, rfl, ?_, ?_, Own.nil_ _ _ _ _⟩
    · repeat' (first | with_reducible exact HM.out.ext X2.out | with_reducible refine MasAt.set_far ?_ (fun h => by have := HLT.out _ h; simp only at this; omega) _)
    · repeat' (first | with_reducible exact Only.of_ext X2.out | with_reducible refine Only.set_new ?_ (by simp only; omega) _)
theorem mas_tick_silent (now : Int) (w : World) (p : Nat) (F : Nat → Prop) (d : MasD) (h : MasAt w p F d) (hok : MasOk d) (hu : d.under = true) (ht : 0 ≤ now ∧ now ≤ 1099511627776) (he : (d.last : Int) + d.timeout ≤ now) (hr : d.retries < d.tries) :
    Calls Try.prog 12 #[pM p, .int .i64 now] w (RetTick MasAt w p F { d with under := false } [] ⟨3, rep0, d.tries⟩ true) := by
  have HM := Lib.hid h
  have HBZ := Lib.hid (fun W (hX : Ext w W) => mas_busy p F d W (h.ext hX) hok)
  have HTM := Lib.hid (fun W => mas_timely now W)
  rw [hu] at HBZ
  have t3 : decide (0 ≤ now ∧ now ≤ 1099511627776) = true := by simp; omega
  rw [t3] at HTM
  obtain ⟨s, A, n, c, h1, -⟩ := h
  unfold masRow at h1
  have HCE : Hid (∀ W, Ext w W → W.cell? ⟨p, 3, none⟩ = some (.int .i64 (d.last : Int)) ∧ W.cell? ⟨p, 0, none⟩ = some (.int .i64 (d.timeout : Int))) := fun W hX => ⟨(cells12 (hX.block h1)).2.2.2.1, (cells12 (hX.block h1)).1⟩
  have HC2 : Hid (∀ W, Ext w W → W.cell? ⟨p, 2, none⟩ = some (.int .i64 (busyN d : Int)) ∧ W.cell? ⟨p, 1, none⟩ = some (.int .i64 (d.retries : Int))) := fun W hX => ⟨(cells12 (hX.block h1)).2.2.1, (cells12 (hX.block h1)).2.1⟩
  have HLT := Lib.hid HM.out.lt
  have hwa : IntKind.i64.wrap ((d.last : Int) + (d.timeout : Int)) = (d.last : Int) + (d.timeout : Int) := IntWalk.i64_in _ (by have := hok.l; have := hok.t; omega)
  have hb : busyN d = d.tries := by unfold busyN; rw [if_pos hu]
  rw [hb] at HC2
  have he2 : ¬ now < (d.last : Int) + (d.timeout : Int) := by omega
  have hr2 : (d.retries : Int) < (d.tries : Int) := by omega
  have HSI := Lib.hid (fun W (hX : Ext w W) => mas_silent now W p F d (HM.out.ext hX) hu)
  unfold pM at HSI
  clear h1 hok ht t3 hb he hr
  unfold pM at HBZ ⊢
  go_enter Try.func12, Try.ntmps12
  go_wp2_with fail
  have HZ := Lib.hid (heap_alloc_new w (.cells #[.int .i64 0, .int .i64 0, .slice none 0 0, .slice none 0 0, .slice none 0 0, .int .i64 0] 43))
  have X1 := Lib.hid (Ext.alloc w (.cells #[.int .i64 0, .int .i64 0, .slice none 0 0, .slice none 0 0, .slice none 0 0, .int .i64 0] 43))
  generalize w.alloc (.cells #[.int .i64 0, .int .i64 0, .slice none 0 0, .slice none 0 0, .slice none 0 0, .int .i64 0] 43) = w1 at *
  obtain ⟨x3, x0⟩ := HCE.out w1 X1.out
  have HBQ := Lib.hid (fun n => (HBZ.out (w1.drewN n) (X1.out.drewN' n)).mono (R' := fun e w' => e = .returned (.bool true) ∧ w' = w1.drewN n) fun e w' ⟨h1, h2⟩ => ⟨h1, h2.symm⟩)
  have HTQ := Lib.hid (fun n => (HTM.out (w1.drewN n)).mono (R' := fun e w' => e = .returned (.bool true) ∧ w' = w1.drewN n) fun e w' ⟨h1, h2⟩ => ⟨h1, h2.symm⟩)
  go_quiet (first | (go_at_call 8; exact Calls.quiet_of_same (HBQ.out _)) | (go_at_call 16; exact Calls.quiet_of_same (HTQ.out _)))
  have X2 := Lib.hid (X1.out.drewN' nq)
  have HZ2 := Lib.hid ((Ext.drewN' (Ext.refl w1) nq).block HZ.out)
  clear x3 x0 HZ X1 HBQ HTQ
  generalize w1.drewN nq = w2 at *
  obtain ⟨x2, x1⟩ := HC2.out w2 X2.out
  go_wp2_with fail
  go_quiet (fail)
  have X3 := Lib.hid (X2.out.drewN' nq)
  have HZ3 := Lib.hid ((Ext.drewN' (Ext.refl w2) nq).block HZ2.out)
  clear x2 x1 HZ2 X2
  generalize w2.drewN nq = w3 at *
  go_wp2_with fail
  refine (HSI.out _ X3.out).mono ?_
  rintro e4 w4 ⟨A4, n4, c4, rfl, hm, ho, hw⟩
  have hsz3 := lt_of_heap HZ3.out
  have HZ4 := Lib.hid ((ho.block w.heap.size hsz3 (fun hf => by have := HLT.out _ hf; omega)).trans HZ3.out)
  have HMA := Lib.hid hm
  have HOO : Hid (Only F w w4) := (Only.of_ext (F := F) X3.out).trans ho (fun _ _ q => q)
  have HOW := Lib.hid hw
  have hlt3 : w.heap.size < w3.heap.size := hsz3
  clear hm ho hw HZ3 hsz3
  simp only [outV, repV, rep0, repS0, out0]
  obtain ⟨v0, v1, v2, v3, v4, v5⟩ := cells6 HZ4.out
  have y0 := frozen_of_row _ _ 0 _ _ HZ4.out
  have y1 := frozen_of_row _ _ 1 _ _ HZ4.out
  have y2 := frozen_of_row _ _ 2 _ _ HZ4.out
  have y3 := frozen_of_row _ _ 3 _ _ HZ4.out
  have y4 := frozen_of_row _ _ 4 _ _ HZ4.out
  have y5 := frozen_of_row _ _ 5 _ _ HZ4.out
  have ty0 := frozen_of_row _ _ 0 _ _ HZ4.out
  have Ft0 := heap_setCell_same _ w.heap.size 0 _ _ (.int .i64 3) HZ4.out
  have Ft1 := heap_setCell_same _ w.heap.size 1 _ _ (.int .i64 0) Ft0
  have Ft2 := heap_setCell_same _ w.heap.size 2 _ _ (.slice none 0 0) Ft1
  have Ft3 := heap_setCell_same _ w.heap.size 3 _ _ (.slice none 0 0) Ft2
  have Ft4 := heap_setCell_same _ w.heap.size 4 _ _ (.slice none 0 0) Ft3
  have Ft5 := heap_setCell_same _ w.heap.size 5 _ _ (.int .i64 (d.tries : Int)) Ft4
  have F0 := Lib.hid ((cell_of_row _ _ 0 _ _ _ Ft0).trans (show _ = some (.int .i64 3) by simp))
  have F1 := Lib.hid ((cell_of_row _ _ 1 _ _ _ Ft1).trans (show _ = some (.int .i64 0) by simp))
  have F2 := Lib.hid ((cell_of_row _ _ 2 _ _ _ Ft2).trans (show _ = some (.slice none 0 0) by simp))
  have F3 := Lib.hid ((cell_of_row _ _ 3 _ _ _ Ft3).trans (show _ = some (.slice none 0 0) by simp))
  have F4 := Lib.hid ((cell_of_row _ _ 4 _ _ _ Ft4).trans (show _ = some (.slice none 0 0) by simp))
  have F5 := Lib.hid ((cell_of_row _ _ 5 _ _ _ Ft5).trans (show _ = some (.int .i64 (d.tries : Int)) by simp))
  clear ty0 Ft0 Ft1 Ft2 Ft3 Ft4 Ft5
  go_wp2_with fail
  all_goals
    refine bodyPost_ret (v := .tuple #[.slice A4 n4 c4, .agg #[.int .i64 3, .int .i64 0, .slice none 0 0, .slice none 0 0, .slice none 0 0, .int .i64 (d.tries : Int)], .bool true]) (by simp [results, Try.results12, go_sem, F0.out, F1.out, F2.out, F3.out, F4.out, F5.out]) rfl ⟨A4, n4, c4, rfl, ?_, ?_, ?_⟩
    · repeat' (first | with_reducible exact HMA.out | with_reducible refine MasAt.set_far ?_ (fun h => by have := HLT.out _ h; simp only at this; omega) _)
    · repeat' (first | with_reducible exact HOO.out | with_reducible refine Only.set_new ?_ (by simp only; omega) _)
    · refine (HOW.out.mono (by omega)).kept fun g hg => ?_
      have hgne : g ≠ w.heap.size := by have := (HOW.out.lt g hg).1; omega
      repeat' (first | (with_reducible refine (Below.heap_setCell _ _ _ _ hgne).trans ?_) | with_reducible rfl)
end Go.Proofs.Ytcnjhjfepojdaaa

namespace Go.Proofs.Ytcnjhjfepojdaaa
set_option linter.unusedVariables false
set_option linter.unusedSimpArgs false
set_option maxRecDepth 100000
set_option maxHeartbeats 1000000
open Go Go.RowKit Go.Out

theorem mas_tick_again (now : Int) (w : World) (p : Nat) (F : Nat → Prop) (d : MasD) (h : MasAt w p F d) (hok : MasOk d) (nw : Nat) (hnw : now = (nw : Int)) (hu : d.under = true) (ht : 0 ≤ now ∧ now ≤ 1099511627776) (he : (d.last : Int) + d.timeout ≤ now) (hr : ¬ d.retries < d.tries) :
    Calls Try.prog 12 #[pM p, .int .i64 now] w (RetTick MasAt w p F { d with tries := d.tries + 1, last := nw } d.frame out0 false) := by
  have HM := Lib.hid h
  have HBZ := Lib.hid (fun W (hX : Ext w W) => mas_busy p F d W (h.ext hX) hok)
  have HTM := Lib.hid (fun W => mas_timely now W)
  rw [hu] at HBZ
  have t3 : decide (0 ≤ now ∧ now ≤ 1099511627776) = true := by simp; omega
  rw [t3] at HTM
  obtain ⟨s, A, n, c, h1, -⟩ := h
  unfold masRow at h1
  have HCE : Hid (∀ W, Ext w W → W.cell? ⟨p, 3, none⟩ = some (.int .i64 (d.last : Int)) ∧ W.cell? ⟨p, 0, none⟩ = some (.int .i64 (d.timeout : Int))) := fun W hX => ⟨(cells12 (hX.block h1)).2.2.2.1, (cells12 (hX.block h1)).1⟩
  have HC2 : Hid (∀ W, Ext w W → W.cell? ⟨p, 2, none⟩ = some (.int .i64 (busyN d : Int)) ∧ W.cell? ⟨p, 1, none⟩ = some (.int .i64 (d.retries : Int))) := fun W hX => ⟨(cells12 (hX.block h1)).2.2.1, (cells12 (hX.block h1)).2.1⟩
  have HLT := Lib.hid HM.out.lt
  have hwa : IntKind.i64.wrap ((d.last : Int) + (d.timeout : Int)) = (d.last : Int) + (d.timeout : Int) := IntWalk.i64_in _ (by have := hok.l; have := hok.t; omega)
  have hb : busyN d = d.tries := by unfold busyN; rw [if_pos hu]
  rw [hb] at HC2
  have he2 : ¬ now < (d.last : Int) + (d.timeout : Int) := by omega
  have hr2 : ¬ (d.retries : Int) < (d.tries : Int) := by omega
  have HSI := Lib.hid (fun W (hX : Ext w W) => mas_again nw W p F d (HM.out.ext hX) hok hu)
  rw [← hnw] at HSI
  unfold pM at HSI
  clear h1 hok ht t3 hb he hr hnw
  obtain ⟨dN, hdN⟩ : ∃ x, ({ d with tries := d.tries + 1, last := nw } : MasD) = x := ⟨_, rfl⟩
  rw [hdN] at HSI ⊢
  clear hdN
  unfold pM at HBZ ⊢
  go_enter Try.func12, Try.ntmps12
  go_wp2_with fail
  have HZ := Lib.hid (heap_alloc_new w (.cells #[.int .i64 0, .int .i64 0, .slice none 0 0, .slice none 0 0, .slice none 0 0, .int .i64 0] 43))
  have X1 := Lib.hid (Ext.alloc w (.cells #[.int .i64 0, .int .i64 0, .slice none 0 0, .slice none 0 0, .slice none 0 0, .int .i64 0] 43))
  generalize w.alloc (.cells #[.int .i64 0, .int .i64 0, .slice none 0 0, .slice none 0 0, .slice none 0 0, .int .i64 0] 43) = w1 at *
  obtain ⟨x3, x0⟩ := HCE.out w1 X1.out
  have HBQ := Lib.hid (fun n => (HBZ.out (w1.drewN n) (X1.out.drewN' n)).mono (R' := fun e w' => e = .returned (.bool true) ∧ w' = w1.drewN n) fun e w' ⟨h1, h2⟩ => ⟨h1, h2.symm⟩)
  have HTQ := Lib.hid (fun n => (HTM.out (w1.drewN n)).mono (R' := fun e w' => e = .returned (.bool true) ∧ w' = w1.drewN n) fun e w' ⟨h1, h2⟩ => ⟨h1, h2.symm⟩)
  go_quiet (first | (go_at_call 8; exact Calls.quiet_of_same (HBQ.out _)) | (go_at_call 16; exact Calls.quiet_of_same (HTQ.out _)))
  have X2 := Lib.hid (X1.out.drewN' nq)
  have HZ2 := Lib.hid ((Ext.drewN' (Ext.refl w1) nq).block HZ.out)
  clear x3 x0 HZ X1 HBQ HTQ
  generalize w1.drewN nq = w2 at *
  obtain ⟨x2, x1⟩ := HC2.out w2 X2.out
  go_wp2_with fail
  go_quiet (fail)
  have X3 := Lib.hid (X2.out.drewN' nq)
  have HZ3 := Lib.hid ((Ext.drewN' (Ext.refl w2) nq).block HZ2.out)
  clear x2 x1 HZ2 X2
  generalize w2.drewN nq = w3 at *
  go_wp2_with fail
  refine (HSI.out _ X3.out).mono ?_
  rintro e4 w4 ⟨A4, n4, c4, rfl, hm, ho, hw⟩
  have hsz3 := lt_of_heap HZ3.out
  have HZ4 := Lib.hid ((ho.block w.heap.size hsz3 (fun hf => by have := HLT.out _ hf; omega)).trans HZ3.out)
  have HMA := Lib.hid hm
  have HOO : Hid (Only F w w4) := (Only.of_ext (F := F) X3.out).trans ho (fun _ _ q => q)
  have HOW := Lib.hid hw
  have hlt3 : w.heap.size < w3.heap.size := hsz3
  clear hm ho hw HZ3 hsz3
  simp only [outV, repV, rep0, repS0, out0]
  obtain ⟨v0, v1, v2, v3, v4, v5⟩ := cells6 HZ4.out
  have y0 := frozen_of_row _ _ 0 _ _ HZ4.out
  have y1 := frozen_of_row _ _ 1 _ _ HZ4.out
  have y2 := frozen_of_row _ _ 2 _ _ HZ4.out
  have y3 := frozen_of_row _ _ 3 _ _ HZ4.out
  have y4 := frozen_of_row _ _ 4 _ _ HZ4.out
  have y5 := frozen_of_row _ _ 5 _ _ HZ4.out
  have ty0 := frozen_of_row _ _ 0 _ _ HZ4.out
  have Ft0 := heap_setCell_same _ w.heap.size 0 _ _ (.int .i64 0) HZ4.out
  have Ft1 := heap_setCell_same _ w.heap.size 1 _ _ (.int .i64 0) Ft0
  have Ft2 := heap_setCell_same _ w.heap.size 2 _ _ (.slice none 0 0) Ft1
  have Ft3 := heap_setCell_same _ w.heap.size 3 _ _ (.slice none 0 0) Ft2
  have Ft4 := heap_setCell_same _ w.heap.size 4 _ _ (.slice none 0 0) Ft3
  have Ft5 := heap_setCell_same _ w.heap.size 5 _ _ (.int .i64 0) Ft4
  have F0 := Lib.hid ((cell_of_row _ _ 0 _ _ _ Ft0).trans (show _ = some (.int .i64 0) by simp))
  have F1 := Lib.hid ((cell_of_row _ _ 1 _ _ _ Ft1).trans (show _ = some (.int .i64 0) by simp))
  have F2 := Lib.hid ((cell_of_row _ _ 2 _ _ _ Ft2).trans (show _ = some (.slice none 0 0) by simp))
  have F3 := Lib.hid ((cell_of_row _ _ 3 _ _ _ Ft3).trans (show _ = some (.slice none 0 0) by simp))
  have F4 := Lib.hid ((cell_of_row _ _ 4 _ _ _ Ft4).trans (show _ = some (.slice none 0 0) by simp))
  have F5 := Lib.hid ((cell_of_row _ _ 5 _ _ _ Ft5).trans (show _ = some (.int .i64 0) by simp))
  clear ty0 Ft0 Ft1 Ft2 Ft3 Ft4 Ft5
  go_wp2_with fail
  all_goals
    refine bodyPost_ret (v := .tuple #[.slice A4 n4 c4, .agg #[.int .i64 0, .int .i64 0, .slice none 0 0, .slice none 0 0, .slice none 0 0, .int .i64 0], .bool false]) (by simp [results, Try.results12, go_sem, F0.out, F1.out, F2.out, F3.out, F4.out, F5.out]) rfl ⟨A4, n4, c4, rfl, ?_, ?_, ?_⟩
    · repeat' (first | with_reducible exact HMA.out | with_reducible refine MasAt.set_far ?_ (fun h => by have := HLT.out _ h; simp only at this; omega) _)
    · repeat' (first | with_reducible exact HOO.out | with_reducible refine Only.set_new ?_ (by simp only; omega) _)
    · refine (HOW.out.mono (by omega)).kept fun g hg => ?_
      have hgne : g ≠ w.heap.size := by have := (HOW.out.lt g hg).1; omega
      repeat' (first | (with_reducible refine (Below.heap_setCell _ _ _ _ hgne).trans ?_) | with_reducible rfl)
theorem mas_tick (now : Int) (w : World) (p : Nat) (F : Nat → Prop) (d : MasD) (h : MasAt w p F d) (hok : MasOk d) :
    Calls Try.prog 12 #[pM p, .int .i64 now] w (RetTick MasAt w p F (tickM d now) (tickB d now) (tickO d now) (decide (tickK d now = 2))) := by
  rcases tickK_cases d now with ⟨e, hh⟩ | ⟨h1, h2, h3, h4, ⟨e, h5⟩ | ⟨e, h5⟩⟩
  · have e1 : tickM d now = d := by unfold tickM; rw [if_pos e]
    have e2 : tickB d now = [] := by unfold tickB; rw [if_neg (by omega)]
    have e3 : tickO d now = out0 := by unfold tickO; rw [if_neg (by omega)]
    have e4 : decide (tickK d now = 2) = false := by simp; omega
    rw [e1, e2, e3, e4]
    rcases hh with hu | ⟨hu, ht⟩ | ⟨hu, ht1, ht2, ht3⟩
    · exact mas_tick_idle now w p F d h hok hu
    · exact mas_tick_time now w p F d h hok hu ht
    · exact mas_tick_early now w p F d h hok hu ⟨ht1, ht2⟩ ht3
  · have e1 : tickM d now = { d with under := false } := by unfold tickM; rw [if_neg (by omega), if_pos e]
    have e2 : tickB d now = [] := by unfold tickB; rw [if_neg (by omega)]
    have e3 : tickO d now = ⟨3, rep0, d.tries⟩ := by unfold tickO; rw [if_pos e]
    have e4 : decide (tickK d now = 2) = true := by simp; omega
    rw [e1, e2, e3, e4]
    exact mas_tick_silent now w p F d h hok h1 ⟨h2, h3⟩ h4 h5
  · have e1 : tickM d now = { d with tries := d.tries + 1, last := now.toNat } := by unfold tickM; rw [if_neg (by omega), if_neg (by omega)]
    have e2 : tickB d now = d.frame := by unfold tickB; rw [if_pos e]
    have e3 : tickO d now = out0 := by unfold tickO; rw [if_neg (by omega)]
    have e4 : decide (tickK d now = 2) = false := by simp; omega
    rw [e1, e2, e3, e4]
    exact mas_tick_again now w p F d h hok now.toNat (by omega) h1 ⟨h2, h3⟩ h4 (by omega)
end Go.Proofs.Ytcnjhjfepojdaaa
