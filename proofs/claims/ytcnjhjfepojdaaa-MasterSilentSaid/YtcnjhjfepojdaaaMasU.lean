/- A master's silent, again, Tick. (genmasu.py prints this.) -/
import Derived.Test.YtcnjhjfepojdaaaMasT
namespace Go.Proofs.Ytcnjhjfepojdaaa
set_option linter.unusedVariables false
set_option linter.unusedSimpArgs false
set_option maxRecDepth 100000
set_option maxHeartbeats 1000000
open Go Go.RowKit Go.Out

/-- What Tick hands back. -/
def RetTick (At : World → Nat → (Nat → Prop) → MasD → Prop) (w : World) (p : Nat) (F : Nat → Prop) (d' : MasD) (out : List UInt8) (o : OutD) (ok : Bool) (e : Ending) (w' : World) : Prop :=
  ∃ A n c, e = .returned (.tuple #[.slice A n c, outV o repS0, .bool ok]) ∧ At w' p F d' ∧ Only F w w' ∧ Own w' w.heap.size 5 IsU8 A n c (out.map cB)
theorem mas_silent (now : Int) (w : World) (p : Nat) (F : Nat → Prop) (d : MasD) (h : MasAt w p F d) (hu : d.under = true) :
    Calls Try.prog 26 #[pM p, .int .i64 now] w (RetTick MasAt w p F { d with under := false } [] ⟨3, rep0, d.tries⟩ true) := by
  have HE := Lib.hid (fun W (hX : Ext w W) => mas_end 3 rep0 repS0 W p F d (h.ext hX) hu)
  have HLT := Lib.hid h.lt
  clear h hu
  simp only [repV, rep0, repS0, outV] at HE
  unfold pM at HE ⊢
  go_enter Try.func26, Try.ntmps26
  go_wp2_with fail
  refine (HE.out _ (Ext.alloc _ _)).mono ?_
  rintro e1 w1 ⟨rfl, hm, ho⟩
  have HZ1 := Lib.hid ((ho.block w.heap.size (by simp) (fun hf => by have := HLT.out _ hf; omega)).trans (heap_alloc_new w (.cells #[.int .i64 0, .int .i64 0, .slice none 0 0, .slice none 0 0, .slice none 0 0, .int .i64 0] 43)))
  have HM1 := Lib.hid (hm.ext (Ext.alloc w1 (.cells #[.int .i64 3, .int .i64 0, .slice none 0 0, .slice none 0 0, .slice none 0 0, .int .i64 (d.tries : Int)] 43)))
  have HO1 := Lib.hid (((Only.of_ext (F := F) (Ext.alloc w (.cells #[.int .i64 0, .int .i64 0, .slice none 0 0, .slice none 0 0, .slice none 0 0, .int .i64 0] 43))).trans ho (fun _ _ q => q)).trans (Only.of_ext (F := F) (Ext.alloc w1 (.cells #[.int .i64 3, .int .i64 0, .slice none 0 0, .slice none 0 0, .slice none 0 0, .int .i64 (d.tries : Int)] 43))) (fun _ _ q => q))
  have HZ2 := Lib.hid ((Ext.alloc w1 (.cells #[.int .i64 3, .int .i64 0, .slice none 0 0, .slice none 0 0, .slice none 0 0, .int .i64 (d.tries : Int)] 43)).block HZ1.out)
  have HB2 := Lib.hid (heap_alloc_new w1 (.cells #[.int .i64 3, .int .i64 0, .slice none 0 0, .slice none 0 0, .slice none 0 0, .int .i64 (d.tries : Int)] 43))
  have hlt1 : w.heap.size < w1.heap.size := lt_of_heap HZ1.out
  clear hm ho HE HZ1
  go_wp2_with fail
  generalize w1.alloc (.cells #[.int .i64 3, .int .i64 0, .slice none 0 0, .slice none 0 0, .slice none 0 0, .int .i64 (d.tries : Int)] 43) = w2 at *
  obtain ⟨g2, hg2⟩ : ∃ g, w1.heap.size = g := ⟨_, rfl⟩
  rw [hg2] at HB2 hlt1
  try simp only [hg2]
  clear hg2
  obtain ⟨u0, u1, u2, u3, u4, u5⟩ := cells6 HB2.out
  obtain ⟨v0, v1, v2, v3, v4, v5⟩ := cells6 HZ2.out
  have y0 := frozen_of_row _ _ 0 _ _ HZ2.out
  have y1 := frozen_of_row _ _ 1 _ _ HZ2.out
  have y2 := frozen_of_row _ _ 2 _ _ HZ2.out
  have y3 := frozen_of_row _ _ 3 _ _ HZ2.out
  have y4 := frozen_of_row _ _ 4 _ _ HZ2.out
  have y5 := frozen_of_row _ _ 5 _ _ HZ2.out
  have ty0 := frozen_of_row _ _ 0 _ _ HZ2.out
  have Ft0 := heap_setCell_same _ w.heap.size 0 _ _ (.int .i64 3) HZ2.out
  have Ft1 := heap_setCell_same _ w.heap.size 1 _ _ (.int .i64 0) Ft0
  have Ft2 := heap_setCell_same _ w.heap.size 2 _ _ (.slice none 0 0) Ft1
  have Ft3 := heap_setCell_same _ w.heap.size 3 _ _ (.slice none 0 0) Ft2
  have Ft4 := heap_setCell_same _ w.heap.size 4 _ _ (.slice none 0 0) Ft3
  have Ft5 := heap_setCell_same _ w.heap.size 5 _ _ (.int .i64 (d.tries : Int)) Ft4
  have F0 := Lib.hid ((cell_of_row _ _ 0 _ _ _ Ft0).trans (show _ = some (.int .i64 3) by simp))
  have F1 := Lib.hid ((cell_of_row _ _ 1 _ _ _ Ft1).trans (show _ = some (.int .i64 0) by simp))
  have F2 := Lib.hid ((cell_of_row _ _ 2 _ _ _ Ft2).trans (show _ = some (.slice none 0 0) by simp))
  have F3 := Lib.hid ((cell_of_row _ _ 3 _ _ _ Ft3).trans (show _ = some (.slice none 0 0) by simp))
  have F4 := Lib.hid ((cell_of_row _ _ 4 _ _ _ Ft4).trans (show _ = some (.slice none 0 0) by simp))
  have F5 := Lib.hid ((cell_of_row _ _ 5 _ _ _ Ft5).trans (show _ = some (.int .i64 (d.tries : Int)) by simp))
  clear ty0 Ft0 Ft1 Ft2 Ft3 Ft4 Ft5
  go_region_law (fail)
  all_goals
    go_wp2_with fail
    refine bodyPost_ret (v := .tuple #[.slice none 0 0, .agg #[.int .i64 3, .int .i64 0, .slice none 0 0, .slice none 0 0, .slice none 0 0, .int .i64 (d.tries : Int)], .bool true]) (by simp [results, Try.results26, go_sem, F0.out, F1.out, F2.out, F3.out, F4.out, F5.out]) rfl ⟨none, 0, 0, rfl, ?_, ?_, Own.nil_ _ _ _ _⟩
    · refine MasAt.ext ?_ (Ext.draw _)
      repeat' (first | with_reducible exact HM1.out | with_reducible refine MasAt.set_far ?_ (fun h => by have := HLT.out _ h; simp only at this; omega) _)
    · refine Only.drew' ?_
      repeat' (first | with_reducible exact HO1.out | with_reducible refine Only.set_new ?_ (by simp only; omega) _)
theorem mas_again (nw : Nat) (w : World) (p : Nat) (F : Nat → Prop) (d : MasD) (h : MasAt w p F d) (hok : MasOk d) (hu : d.under = true) :
    Calls Try.prog 25 #[pM p, .int .i64 (nw : Int)] w (RetTick MasAt w p F { d with tries := d.tries + 1, last := nw } d.frame out0 false) := by
  obtain ⟨s, A, n, c, h1, h2, h3, h4, h5, h6⟩ := h
  unfold masRow at h1
  have hb : busyN d = d.tries := by unfold busyN; rw [if_pos hu]
  rw [hb] at h1
  have HROW := Lib.hid h1
  have H2 := Lib.hid h2; have HFP := Lib.hid h5; have HLT := Lib.hid h6; have H3 := Lib.hid h3; have H4 := Lib.hid h4
  obtain ⟨T, hT⟩ : ∃ T, d.tries + 1 = T := ⟨_, rfl⟩
  have hw1 : IntKind.i64.wrap ((d.tries : Int) + 1) = (T : Int) := by rw [IntWalk.i64_in _ (by have := hok.tr; have := hok.r; omega)]; omega
  rw [hT]
  have HFL := Lib.hid hok.f
  have hpz := h6 p h5
  have Q := fun o => cells12 ((Ext.alloc w o).block h1)
  have Z2 := fun o => frozen_of_row (w.alloc o) p 2 _ _ ((Ext.alloc w o).block h1)
  have Q2 := fun o => (Q o).2.2.1
  have Q3 : ∀ v o, ((w.setCell ⟨p, 2, none⟩ v).alloc o).cell? ⟨p, 3, none⟩ = some (.int .i64 (d.last : Int)) := fun v o => (cell_of_row _ _ 3 _ _ _ ((Ext.alloc _ o).block (masRow_set (k := 2) v h1))).trans (by simp)
  have Z3' : ∀ v o, ((w.setCell ⟨p, 2, none⟩ v).alloc o).frozen? ⟨p, 3, none⟩ = false := fun v o => frozen_of_row _ p 3 _ _ ((Ext.alloc _ o).block (masRow_set (k := 2) v h1))
  have Q11 : ∀ v u o, (((w.setCell ⟨p, 2, none⟩ v).setCell ⟨p, 3, none⟩ u).alloc o).cell? ⟨p, 11, none⟩ = some (.slice A n c) := fun v u o => (cell_of_row _ _ 11 _ _ _ ((Ext.alloc _ o).block (masRow_set (k := 3) u (masRow_set (k := 2) v h1)))).trans (by simp)
  have HHU := Lib.hid hu
  clear h1 h2 h3 h4 h5 h6 hb hT hok hu Q
  unfold pM
  go_enter Try.func25, Try.ntmps25
  go_wp2_with fail
  have r1 := masRow_set (k := 2) (.int .i64 (T : Int)) HROW.out
  have r2 := masRow_set (k := 3) (.int .i64 (nw : Int)) r1
  have hfar := ((Far.refl F p w).set HFP.out 2 (.int .i64 (T : Int))).set HFP.out 3 (.int .i64 (nw : Int))
  have HR2 := Lib.hid ((Ext.alloc _ (.cells #[.int .i64 0, .int .i64 0, .slice none 0 0, .slice none 0 0, .slice none 0 0, .int .i64 0] 43)).block r2)
  have FAR : Hid (∀ k, k ≠ p → k < w.heap.size → (((w.setCell ⟨p, 2, none⟩ (.int .i64 (T : Int))).setCell ⟨p, 3, none⟩ (.int .i64 (nw : Int))).alloc (.cells #[.int .i64 0, .int .i64 0, .slice none 0 0, .slice none 0 0, .slice none 0 0, .int .i64 0] 43)).heap[k]? = w.heap[k]?) := fun k hk hlt => (Below.heap_alloc _ _ k (by rw [hfar.size]; exact hlt)).trans (hfar.far k hk)
  have SZ : Hid ((((w.setCell ⟨p, 2, none⟩ (.int .i64 (T : Int))).setCell ⟨p, 3, none⟩ (.int .i64 (nw : Int))).alloc (.cells #[.int .i64 0, .int .i64 0, .slice none 0 0, .slice none 0 0, .slice none 0 0, .int .i64 0] 43)).heap.size = w.heap.size + 1) := by unfold Hid; rw [← hfar.size]; simp
  have ON : Hid (Only F w (((w.setCell ⟨p, 2, none⟩ (.int .i64 (T : Int))).setCell ⟨p, 3, none⟩ (.int .i64 (nw : Int))).alloc (.cells #[.int .i64 0, .int .i64 0, .slice none 0 0, .slice none 0 0, .slice none 0 0, .int .i64 0] 43))) := hfar.only.trans (Only.of_ext (F := F) (Ext.alloc _ _)) (fun _ _ q => q)
  have HZ2 := Lib.hid (heap_at ((w.setCell ⟨p, 2, none⟩ (.int .i64 (T : Int))).setCell ⟨p, 3, none⟩ (.int .i64 (nw : Int))) (.cells #[.int .i64 0, .int .i64 0, .slice none 0 0, .slice none 0 0, .slice none 0 0, .int .i64 0] 43) w.heap.size hfar.size.symm)
  clear r1 r2 hfar Q2 Q3 Q11 Z2 Z3'
  generalize ((w.setCell ⟨p, 2, none⟩ (.int .i64 (T : Int))).setCell ⟨p, 3, none⟩ (.int .i64 (nw : Int))).alloc (.cells #[.int .i64 0, .int .i64 0, .slice none 0 0, .slice none 0 0, .slice none 0 0, .int .i64 0] 43) = w2 at *
  have hag : Agr (fun k => F k ∧ k ≠ p) w w2 := ⟨by rw [SZ.out]; omega, fun k hk => FAR.out k hk.2 (HLT.out k hk.1)⟩
  refine (sclone_any d.frame A n c w2 (H2.out w2 hag).2 (by have h1 := (H2.out w2 hag).2.length; have h2 := HFL.out; omega)).mono ?_
  rintro e8 w8 ⟨A8, n8, c8, rfl, ho8, hx8⟩
  have O8 := Lib.hid ho8; have X8 := Lib.hid hx8
  have HR8 := Lib.hid (hx8.block HR2.out)
  have HZ8 := Lib.hid (hx8.block HZ2.out)
  have HAG := Lib.hid hag
  clear ho8 hx8 hag HR2 HZ2
  obtain ⟨v0, v1, v2, v3, v4, v5⟩ := cells6 HZ8.out
  have y0 := frozen_of_row _ _ 0 _ _ HZ8.out
  have y1 := frozen_of_row _ _ 1 _ _ HZ8.out
  have y2 := frozen_of_row _ _ 2 _ _ HZ8.out
  have y3 := frozen_of_row _ _ 3 _ _ HZ8.out
  have y4 := frozen_of_row _ _ 4 _ _ HZ8.out
  have y5 := frozen_of_row _ _ 5 _ _ HZ8.out
  have ty0 := frozen_of_row _ _ 0 _ _ HZ8.out
  have Ft0 := heap_setCell_same _ w.heap.size 0 _ _ (.int .i64 0) HZ8.out
  have Ft1 := heap_setCell_same _ w.heap.size 1 _ _ (.int .i64 0) Ft0
  have Ft2 := heap_setCell_same _ w.heap.size 2 _ _ (.slice none 0 0) Ft1
  have Ft3 := heap_setCell_same _ w.heap.size 3 _ _ (.slice none 0 0) Ft2
  have Ft4 := heap_setCell_same _ w.heap.size 4 _ _ (.slice none 0 0) Ft3
  have Ft5 := heap_setCell_same _ w.heap.size 5 _ _ (.int .i64 0) Ft4
  have F0 := Lib.hid ((cell_of_row _ _ 0 _ _ _ Ft0).trans (show _ = some (.int .i64 0) by simp))
  have F1 := Lib.hid ((cell_of_row _ _ 1 _ _ _ Ft1).trans (show _ = some (.int .i64 0) by simp))
  have F2 := Lib.hid ((cell_of_row _ _ 2 _ _ _ Ft2).trans (show _ = some (.slice none 0 0) by simp))
  have F3 := Lib.hid ((cell_of_row _ _ 3 _ _ _ Ft3).trans (show _ = some (.slice none 0 0) by simp))
  have F4 := Lib.hid ((cell_of_row _ _ 4 _ _ _ Ft4).trans (show _ = some (.slice none 0 0) by simp))
  have F5 := Lib.hid ((cell_of_row _ _ 5 _ _ _ Ft5).trans (show _ = some (.int .i64 0) by simp))
  clear ty0 Ft0 Ft1 Ft2 Ft3 Ft4 Ft5
  go_wp2_with fail
  have hszw : w.heap.size + 1 = w2.heap.size := SZ.out.symm
  have hs8 := X8.out.size
  have HMA : Hid (MasAt w8 p F { d with tries := T, last := nw }) := by
    refine ⟨s, A, n, c, HR8.out.trans (by unfold masRow busyN; simp [HHU.out]), fun W hW => H2.out W (Agr.trans HAG.out (Agr.trans ⟨hs8, fun k hk => Below.block X8.out k (by have := HLT.out k hk.1; omega)⟩ hW)), H3.out, H4.out, HFP.out, fun k hk => by have := HLT.out k hk; omega⟩
  have HOO : Hid (Only F w w8) := ON.out.trans (Only.of_ext (F := F) X8.out) (fun _ _ q => q)
  have HA8 : Hid (Own w8 w.heap.size 5 IsU8 A8 n8 c8 (d.frame.map cB) ∧ ∀ g, blk A8 = some g → w2.heap.size ≤ g) := ⟨O8.out.mono (by omega), fun g hg => (O8.out.lt g hg).1⟩
  all_goals
    refine bodyPost_ret (v := .tuple #[.slice A8 n8 c8, .agg #[.int .i64 0, .int .i64 0, .slice none 0 0, .slice none 0 0, .slice none 0 0, .int .i64 0], .bool false]) (by simp [results, Try.results25, go_sem, F0.out, F1.out, F2.out, F3.out, F4.out, F5.out]) rfl ⟨A8, n8, c8, rfl, ?_, ?_, ?_⟩
    · repeat' (first | with_reducible exact HMA.out | with_reducible refine MasAt.set_far ?_ (fun h => by have := HLT.out _ h; simp only at this; omega) _)
    · repeat' (first | with_reducible exact HOO.out | with_reducible refine Only.set_new ?_ (by simp only; omega) _)
    · refine HA8.out.1.kept fun g hg => ?_
      have hg2 := HA8.out.2 g hg
      have hgne : g ≠ w.heap.size := by omega
      repeat' (first | (with_reducible refine (Below.heap_setCell _ _ _ _ hgne).trans ?_) | with_reducible rfl)
end Go.Proofs.Ytcnjhjfepojdaaa
