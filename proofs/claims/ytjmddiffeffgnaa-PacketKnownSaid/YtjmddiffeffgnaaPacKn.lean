/- The walk of PacketKnown. (genpackn.py prints this.) -/
import Derived.Test.YtjmddiffeffgnaaPacKt
import Derived.Test.YtjmddiffeffgnaaGetC
import Derived.Test.YtjmddiffeffgnaaCmd
import Derived.Deep.RegionHeld3
namespace Go.Proofs.Ytjmddiffeffgnaa
set_option linter.unusedVariables false
set_option linter.unusedSimpArgs false
set_option maxRecDepth 100000
set_option maxHeartbeats 4000000
open Go Go.RowKit Go.Out

theorem none_yet : ∀ i, i < 30 → (Array.replicate 30 false).getD i false = false := by decide

theorem kn_no (W : World) (g : Nat) (h : W.heap[g]? = some (.cells #[.int .i64 0, .int .i64 23, .int .i64 1, .int .i64 28, .int .i64 28, .int .i64 3, .int .i64 0, .int .i64 3, .int .i64 3, .int .i64 0, .int .i64 2, .int .i64 1, .int .i64 0, .int .i64 2, .int .i64 3, .int .i64 0, .int .i64 3, .int .i64 23, .int .i64 23, .int .i64 23] 3 (0, 0))) : ∀ k, k < 20 → W.cell? ⟨g, k, none⟩ = some (.int .i64 (noL.getD k 0)) := by
  intro k hk
  have hc := fun j => cell_of_row W g j _ _ _ h
  match k, hk with
  | 0, _ => exact hc 0
  | 1, _ => exact hc 1
  | 2, _ => exact hc 2
  | 3, _ => exact hc 3
  | 4, _ => exact hc 4
  | 5, _ => exact hc 5
  | 6, _ => exact hc 6
  | 7, _ => exact hc 7
  | 8, _ => exact hc 8
  | 9, _ => exact hc 9
  | 10, _ => exact hc 10
  | 11, _ => exact hc 11
  | 12, _ => exact hc 12
  | 13, _ => exact hc 13
  | 14, _ => exact hc 14
  | 15, _ => exact hc 15
  | 16, _ => exact hc 16
  | 17, _ => exact hc 17
  | 18, _ => exact hc 18
  | 19, _ => exact hc 19
  | n + 20, h => exact absurd h (by omega)
theorem rd0 (w : World) (c A n : Int) (h1 : i64P c) (h2 : i64P A) (h3 : i64P n) : AskRd w ⟨c, A, n, [], [], []⟩ askS0 :=
  ⟨Rd.nil_ _, Rd.nil_ _, RdL.nil_ _ _ _, h1, h2, h3, ⟨Nat.le_refl _, Nat.zero_le 9223372036854775807⟩, ⟨Nat.le_refl _, Nat.zero_le 9223372036854775807⟩, ⟨Nat.le_refl _, Nat.zero_le 9223372036854775807⟩⟩
theorem lawPacketKnown (w : World) : Calls Try.prog 6 #[] w (RetQ w true) := by
  have hI0 : InvK w (Array.replicate 30 false) (FR fun _ => undef) w.drew := ⟨_, rfl, Ext.draw _, fun i hi hl => by rw [none_yet i hi] at hl; cases hl⟩
  go_enter Try.func6, Try.ntmps6
  go_wp2_with fail
  refine wp_region_inv (InvK w) (by kernel_rfl) (ord_of (by kernel_rfl)) hI0 ?step ?done
  case step =>
    intro listed a w1 i o ho hall hI
    obtain ⟨u, rfl, hx0, hG⟩ := hI
    have hi : i < 30 := (Array.getElem?_eq_some_iff.1 ho).1
    match i, hi with
    | 0, _ =>
      obtain rfl := Option.some.inj (show some _ = some o from ho)
      refine ⟨rfl, wp_val (d := 24) rfl (v := .agg #[.int .i64 2, .int .i64 1, .int .i64 0, .int .i64 0, .int .i64 0, .slice none 0 0]) (w' := w1) (by kernel_rfl) ?_⟩
      rw [show (FR u).put (some 24) (.agg #[.int .i64 2, .int .i64 1, .int .i64 0, .int .i64 0, .int .i64 0, .slice none 0 0]) = FR (upd u (DS 0) (.agg #[.int .i64 2, .int .i64 1, .int .i64 0, .int .i64 0, .int .i64 0, .slice none 0 0])) from by kernel_rfl]
      exact inv_step (by omega) hx0 hG (Ext.refl _) (upd_at _ _ _)
    | 1, _ =>
      obtain rfl := Option.some.inj (show some _ = some o from ho)
      refine ⟨rfl, wp_val (d := 25) rfl (v := .agg #[.int .i64 2, .int .i64 1, .int .i64 0, .int .i64 1, .int .i64 0, .slice none 0 0]) (w' := w1) (by kernel_rfl) ?_⟩
      rw [show (FR u).put (some 25) (.agg #[.int .i64 2, .int .i64 1, .int .i64 0, .int .i64 1, .int .i64 0, .slice none 0 0]) = FR (upd u (DS 1) (.agg #[.int .i64 2, .int .i64 1, .int .i64 0, .int .i64 1, .int .i64 0, .slice none 0 0])) from by kernel_rfl]
      exact inv_step (by omega) hx0 hG (Ext.refl _) (upd_at _ _ _)
    | 2, _ =>
      obtain rfl := Option.some.inj (show some _ = some o from ho)
      refine ⟨rfl, wp_val (d := 26) rfl (v := .agg #[.int .i64 1, .int .i64 1, .int .i64 0, .int .i64 0, .int .i64 0, .slice none 0 0]) (w' := w1) (by kernel_rfl) ?_⟩
      rw [show (FR u).put (some 26) (.agg #[.int .i64 1, .int .i64 1, .int .i64 0, .int .i64 0, .int .i64 0, .slice none 0 0]) = FR (upd u (DS 2) (.agg #[.int .i64 1, .int .i64 1, .int .i64 0, .int .i64 0, .int .i64 0, .slice none 0 0])) from by kernel_rfl]
      exact inv_step (by omega) hx0 hG (Ext.refl _) (upd_at _ _ _)
    | 3, _ =>
      obtain rfl := Option.some.inj (show some _ = some o from ho)
      refine ⟨rfl, wp_val (d := 27) rfl (v := .agg #[.int .i64 5, .int .i64 0, .int .i64 0, .int .i64 0, .int .i64 0, .slice none 0 0]) (w' := w1) (by kernel_rfl) ?_⟩
      rw [show (FR u).put (some 27) (.agg #[.int .i64 5, .int .i64 0, .int .i64 0, .int .i64 0, .int .i64 0, .slice none 0 0]) = FR (upd u (DS 3) (.agg #[.int .i64 5, .int .i64 0, .int .i64 0, .int .i64 0, .int .i64 0, .slice none 0 0])) from by kernel_rfl]
      exact inv_step (by omega) hx0 hG (Ext.refl _) (upd_at _ _ _)
    | 4, _ =>
      obtain rfl := Option.some.inj (show some _ = some o from ho)
      refine ⟨rfl, wp_val (d := 28) rfl (v := .agg #[.int .i64 0, .int .i64 0, .int .i64 0, .int .i64 0, .int .i64 0, .slice none 0 0]) (w' := w1) (by kernel_rfl) ?_⟩
      rw [show (FR u).put (some 28) (.agg #[.int .i64 0, .int .i64 0, .int .i64 0, .int .i64 0, .int .i64 0, .slice none 0 0]) = FR (upd u (DS 4) (.agg #[.int .i64 0, .int .i64 0, .int .i64 0, .int .i64 0, .int .i64 0, .slice none 0 0])) from by kernel_rfl]
      exact inv_step (by omega) hx0 hG (Ext.refl _) (upd_at _ _ _)
    | 5, _ =>
      obtain rfl := Option.some.inj (show some _ = some o from ho)
      refine ⟨rfl, wp_val (d := 29) rfl (v := .agg #[.int .i64 2, .int .i64 0, .int .i64 0, .int .i64 0, .int .i64 0, .slice none 0 0]) (w' := w1) (by kernel_rfl) ?_⟩
      rw [show (FR u).put (some 29) (.agg #[.int .i64 2, .int .i64 0, .int .i64 0, .int .i64 0, .int .i64 0, .slice none 0 0]) = FR (upd u (DS 5) (.agg #[.int .i64 2, .int .i64 0, .int .i64 0, .int .i64 0, .int .i64 0, .slice none 0 0])) from by kernel_rfl]
      exact inv_step (by omega) hx0 hG (Ext.refl _) (upd_at _ _ _)
    | 6, _ =>
      obtain rfl := Option.some.inj (show some _ = some o from ho)
      refine ⟨rfl, wp_val (d := 30) rfl (v := .agg #[.int .i64 2, .int .i64 1099511627776, .int .i64 1099511627776, .int .i64 0, .int .i64 0, .slice none 0 0]) (w' := w1) (by kernel_rfl) ?_⟩
      rw [show (FR u).put (some 30) (.agg #[.int .i64 2, .int .i64 1099511627776, .int .i64 1099511627776, .int .i64 0, .int .i64 0, .slice none 0 0]) = FR (upd u (DS 6) (.agg #[.int .i64 2, .int .i64 1099511627776, .int .i64 1099511627776, .int .i64 0, .int .i64 0, .slice none 0 0])) from by kernel_rfl]
      exact inv_step (by omega) hx0 hG (Ext.refl _) (upd_at _ _ _)
    | 7, _ =>
      obtain rfl := Option.some.inj (show some _ = some o from ho)
      refine ⟨rfl, wp_val (d := 31) rfl (v := .agg #[.int .i64 2, .int .i64 1, .int .i64 1099511627777, .int .i64 0, .int .i64 0, .slice none 0 0]) (w' := w1) (by kernel_rfl) ?_⟩
      rw [show (FR u).put (some 31) (.agg #[.int .i64 2, .int .i64 1, .int .i64 1099511627777, .int .i64 0, .int .i64 0, .slice none 0 0]) = FR (upd u (DS 7) (.agg #[.int .i64 2, .int .i64 1, .int .i64 1099511627777, .int .i64 0, .int .i64 0, .slice none 0 0])) from by kernel_rfl]
      exact inv_step (by omega) hx0 hG (Ext.refl _) (upd_at _ _ _)
    | 8, _ =>
      obtain rfl := Option.some.inj (show some _ = some o from ho)
      refine ⟨rfl, wp_val (d := 32) rfl (v := .slice (some ⟨w1.heap.size, 0, none⟩) 1 1) (w' := w1.alloc (.cells (#[.int .u8 1]) 5)) (by kernel_rfl) ?_⟩
      rw [show (FR u).put (some 32) (.slice (some ⟨w1.heap.size, 0, none⟩) 1 1) = FR (upd u (DS 8) (.slice (some ⟨w1.heap.size, 0, none⟩) 1 1)) from by kernel_rfl]
      exact inv_step (by omega) hx0 hG (Ext.alloc _ _) ⟨_, upd_at _ _ _, heap_alloc_new _ _⟩
    | 9, _ =>
      obtain rfl := Option.some.inj (show some _ = some o from ho)
      obtain ⟨g, h1, h2⟩ := hG 8 (by omega) (edge_listed hall 8 (by kernel_rfl))
      have eF : FR u = ⟨#[.bool false, u 1, undef, undef, undef, undef, undef, undef, undef, undef, undef, undef, undef, undef, undef, undef, undef, undef, undef, undef, undef, undef, undef, undef, u 24, u 25, u 26, u 27, u 28, u 29, u 30, u 31, .slice (some ⟨g, 0, none⟩) 1 1, u 33, u 34, u 35, u 36, u 37, u 38, u 39, u 40, u 41, u 42, u 43, u 44, u 45, u 46, u 47, u 48, u 49, u 50, u 51, u 52, undef, undef, undef, undef, undef, undef, undef, undef, undef, undef, undef, undef, undef, undef, undef, undef, undef, undef, undef, undef, undef, undef, undef, undef, undef, undef, undef, undef, undef, undef, undef, undef, undef, undef, undef, undef, undef, undef, undef, undef, undef, undef, undef, undef, undef, undef, undef, undef, undef, undef, undef, undef, undef, undef, undef, undef, undef, undef, undef, undef, undef, undef, undef, undef, undef, undef, undef, undef, undef, undef, undef, undef, undef, undef, undef, undef, undef, undef, undef, undef, undef, undef, undef, undef, undef, undef, undef, undef, undef, undef, undef, undef, undef, undef, undef, undef, undef, undef, undef, undef, undef, undef, undef, undef, undef, undef, undef, undef, undef, undef, undef, undef], []⟩ := by unfold FR; rw [h1]
      refine ⟨rfl, wp_val (d := 33) rfl (v := .agg #[.int .i64 1, .int .i64 1, .int .i64 1099511627776, .int .i64 0, .int .i64 0, .slice (some ⟨g, 0, none⟩) 1 1]) (w' := w1) (by rw [eF]; kernel_rfl) ?_⟩
      rw [show (FR u).put (some 33) (.agg #[.int .i64 1, .int .i64 1, .int .i64 1099511627776, .int .i64 0, .int .i64 0, .slice (some ⟨g, 0, none⟩) 1 1]) = FR (upd u (DS 9) (.agg #[.int .i64 1, .int .i64 1, .int .i64 1099511627776, .int .i64 0, .int .i64 0, .slice (some ⟨g, 0, none⟩) 1 1])) from by kernel_rfl]
      exact inv_step (by omega) hx0 hG (Ext.refl _) ⟨g, upd_at _ _ _, h2⟩
    | 10, _ =>
      obtain rfl := Option.some.inj (show some _ = some o from ho)
      refine ⟨rfl, wp_val (d := 34) rfl (v := .slice (some ⟨w1.heap.size, 0, none⟩) 1024 1024) (w' := w1.alloc (.cells (zer 1024) 5)) (run_v (make_zer 1024 (by omega) w1)) ?_⟩
      rw [show (FR u).put (some 34) (.slice (some ⟨w1.heap.size, 0, none⟩) 1024 1024) = FR (upd u (DS 10) (.slice (some ⟨w1.heap.size, 0, none⟩) 1024 1024)) from by kernel_rfl]
      exact inv_step (by omega) hx0 hG (Ext.alloc _ _) ⟨_, upd_at _ _ _, heap_alloc_new _ _⟩
    | 11, _ =>
      obtain rfl := Option.some.inj (show some _ = some o from ho)
      obtain ⟨g, h1, h2⟩ := hG 10 (by omega) (edge_listed hall 10 (by kernel_rfl))
      have eF : FR u = ⟨#[.bool false, u 1, undef, undef, undef, undef, undef, undef, undef, undef, undef, undef, undef, undef, undef, undef, undef, undef, undef, undef, undef, undef, undef, undef, u 24, u 25, u 26, u 27, u 28, u 29, u 30, u 31, u 32, u 33, .slice (some ⟨g, 0, none⟩) 1024 1024, u 35, u 36, u 37, u 38, u 39, u 40, u 41, u 42, u 43, u 44, u 45, u 46, u 47, u 48, u 49, u 50, u 51, u 52, undef, undef, undef, undef, undef, undef, undef, undef, undef, undef, undef, undef, undef, undef, undef, undef, undef, undef, undef, undef, undef, undef, undef, undef, undef, undef, undef, undef, undef, undef, undef, undef, undef, undef, undef, undef, undef, undef, undef, undef, undef, undef, undef, undef, undef, undef, undef, undef, undef, undef, undef, undef, undef, undef, undef, undef, undef, undef, undef, undef, undef, undef, undef, undef, undef, undef, undef, undef, undef, undef, undef, undef, undef, undef, undef, undef, undef, undef, undef, undef, undef, undef, undef, undef, undef, undef, undef, undef, undef, undef, undef, undef, undef, undef, undef, undef, undef, undef, undef, undef, undef, undef, undef, undef, undef, undef, undef, undef, undef, undef, undef, undef], []⟩ := by unfold FR; rw [h1]
      refine ⟨rfl, wp_val (d := 35) rfl (v := .agg #[.int .i64 1, .int .i64 1, .int .i64 1099511627775, .int .i64 0, .int .i64 0, .slice (some ⟨g, 0, none⟩) 1024 1024]) (w' := w1) (by rw [eF]; kernel_rfl) ?_⟩
      rw [show (FR u).put (some 35) (.agg #[.int .i64 1, .int .i64 1, .int .i64 1099511627775, .int .i64 0, .int .i64 0, .slice (some ⟨g, 0, none⟩) 1024 1024]) = FR (upd u (DS 11) (.agg #[.int .i64 1, .int .i64 1, .int .i64 1099511627775, .int .i64 0, .int .i64 0, .slice (some ⟨g, 0, none⟩) 1024 1024])) from by kernel_rfl]
      exact inv_step (by omega) hx0 hG (Ext.refl _) ⟨g, upd_at _ _ _, h2⟩
    | 12, _ =>
      obtain rfl := Option.some.inj (show some _ = some o from ho)
      refine ⟨rfl, wp_val (d := 36) rfl (v := .slice (some ⟨w1.heap.size, 0, none⟩) 1025 1025) (w' := w1.alloc (.cells (zer 1025) 5)) (run_v (make_zer 1025 (by omega) w1)) ?_⟩
      rw [show (FR u).put (some 36) (.slice (some ⟨w1.heap.size, 0, none⟩) 1025 1025) = FR (upd u (DS 12) (.slice (some ⟨w1.heap.size, 0, none⟩) 1025 1025)) from by kernel_rfl]
      exact inv_step (by omega) hx0 hG (Ext.alloc _ _) ⟨_, upd_at _ _ _, heap_alloc_new _ _⟩
    | 13, _ =>
      obtain rfl := Option.some.inj (show some _ = some o from ho)
      obtain ⟨g, h1, h2⟩ := hG 12 (by omega) (edge_listed hall 12 (by kernel_rfl))
      have eF : FR u = ⟨#[.bool false, u 1, undef, undef, undef, undef, undef, undef, undef, undef, undef, undef, undef, undef, undef, undef, undef, undef, undef, undef, undef, undef, undef, undef, u 24, u 25, u 26, u 27, u 28, u 29, u 30, u 31, u 32, u 33, u 34, u 35, .slice (some ⟨g, 0, none⟩) 1025 1025, u 37, u 38, u 39, u 40, u 41, u 42, u 43, u 44, u 45, u 46, u 47, u 48, u 49, u 50, u 51, u 52, undef, undef, undef, undef, undef, undef, undef, undef, undef, undef, undef, undef, undef, undef, undef, undef, undef, undef, undef, undef, undef, undef, undef, undef, undef, undef, undef, undef, undef, undef, undef, undef, undef, undef, undef, undef, undef, undef, undef, undef, undef, undef, undef, undef, undef, undef, undef, undef, undef, undef, undef, undef, undef, undef, undef, undef, undef, undef, undef, undef, undef, undef, undef, undef, undef, undef, undef, undef, undef, undef, undef, undef, undef, undef, undef, undef, undef, undef, undef, undef, undef, undef, undef, undef, undef, undef, undef, undef, undef, undef, undef, undef, undef, undef, undef, undef, undef, undef, undef, undef, undef, undef, undef, undef, undef, undef, undef, undef, undef, undef, undef, undef], []⟩ := by unfold FR; rw [h1]
      refine ⟨rfl, wp_val (d := 37) rfl (v := .agg #[.int .i64 1, .int .i64 1, .int .i64 0, .int .i64 0, .int .i64 0, .slice (some ⟨g, 0, none⟩) 1025 1025]) (w' := w1) (by rw [eF]; kernel_rfl) ?_⟩
      rw [show (FR u).put (some 37) (.agg #[.int .i64 1, .int .i64 1, .int .i64 0, .int .i64 0, .int .i64 0, .slice (some ⟨g, 0, none⟩) 1025 1025]) = FR (upd u (DS 13) (.agg #[.int .i64 1, .int .i64 1, .int .i64 0, .int .i64 0, .int .i64 0, .slice (some ⟨g, 0, none⟩) 1025 1025])) from by kernel_rfl]
      exact inv_step (by omega) hx0 hG (Ext.refl _) ⟨g, upd_at _ _ _, h2⟩
    | 14, _ =>
      obtain rfl := Option.some.inj (show some _ = some o from ho)
      refine ⟨rfl, wp_val (d := 38) rfl (v := .slice (some ⟨w1.heap.size, 0, none⟩) 1 1) (w' := w1.alloc (.cells (#[.int .u8 1]) 5)) (by kernel_rfl) ?_⟩
      rw [show (FR u).put (some 38) (.slice (some ⟨w1.heap.size, 0, none⟩) 1 1) = FR (upd u (DS 14) (.slice (some ⟨w1.heap.size, 0, none⟩) 1 1)) from by kernel_rfl]
      exact inv_step (by omega) hx0 hG (Ext.alloc _ _) ⟨_, upd_at _ _ _, heap_alloc_new _ _⟩
    | 15, _ =>
      obtain rfl := Option.some.inj (show some _ = some o from ho)
      obtain ⟨g, h1, h2⟩ := hG 14 (by omega) (edge_listed hall 14 (by kernel_rfl))
      have eF : FR u = ⟨#[.bool false, u 1, undef, undef, undef, undef, undef, undef, undef, undef, undef, undef, undef, undef, undef, undef, undef, undef, undef, undef, undef, undef, undef, undef, u 24, u 25, u 26, u 27, u 28, u 29, u 30, u 31, u 32, u 33, u 34, u 35, u 36, u 37, .slice (some ⟨g, 0, none⟩) 1 1, u 39, u 40, u 41, u 42, u 43, u 44, u 45, u 46, u 47, u 48, u 49, u 50, u 51, u 52, undef, undef, undef, undef, undef, undef, undef, undef, undef, undef, undef, undef, undef, undef, undef, undef, undef, undef, undef, undef, undef, undef, undef, undef, undef, undef, undef, undef, undef, undef, undef, undef, undef, undef, undef, undef, undef, undef, undef, undef, undef, undef, undef, undef, undef, undef, undef, undef, undef, undef, undef, undef, undef, undef, undef, undef, undef, undef, undef, undef, undef, undef, undef, undef, undef, undef, undef, undef, undef, undef, undef, undef, undef, undef, undef, undef, undef, undef, undef, undef, undef, undef, undef, undef, undef, undef, undef, undef, undef, undef, undef, undef, undef, undef, undef, undef, undef, undef, undef, undef, undef, undef, undef, undef, undef, undef, undef, undef, undef, undef, undef, undef], []⟩ := by unfold FR; rw [h1]
      refine ⟨rfl, wp_val (d := 39) rfl (v := .agg #[.int .i64 3, .int .i64 0, .int .i64 0, .int .i64 1, .int .i64 0, .slice (some ⟨g, 0, none⟩) 1 1]) (w' := w1) (by rw [eF]; kernel_rfl) ?_⟩
      rw [show (FR u).put (some 39) (.agg #[.int .i64 3, .int .i64 0, .int .i64 0, .int .i64 1, .int .i64 0, .slice (some ⟨g, 0, none⟩) 1 1]) = FR (upd u (DS 15) (.agg #[.int .i64 3, .int .i64 0, .int .i64 0, .int .i64 1, .int .i64 0, .slice (some ⟨g, 0, none⟩) 1 1])) from by kernel_rfl]
      exact inv_step (by omega) hx0 hG (Ext.refl _) ⟨g, upd_at _ _ _, h2⟩
    | 16, _ =>
      obtain rfl := Option.some.inj (show some _ = some o from ho)
      refine ⟨rfl, wp_val (d := 40) rfl (v := .slice (some ⟨w1.heap.size, 0, none⟩) 254 254) (w' := w1.alloc (.cells (zer 254) 5)) (run_v (make_zer 254 (by omega) w1)) ?_⟩
      rw [show (FR u).put (some 40) (.slice (some ⟨w1.heap.size, 0, none⟩) 254 254) = FR (upd u (DS 16) (.slice (some ⟨w1.heap.size, 0, none⟩) 254 254)) from by kernel_rfl]
      exact inv_step (by omega) hx0 hG (Ext.alloc _ _) ⟨_, upd_at _ _ _, heap_alloc_new _ _⟩
    | 17, _ =>
      obtain rfl := Option.some.inj (show some _ = some o from ho)
      obtain ⟨g, h1, h2⟩ := hG 16 (by omega) (edge_listed hall 16 (by kernel_rfl))
      have eF : FR u = ⟨#[.bool false, u 1, undef, undef, undef, undef, undef, undef, undef, undef, undef, undef, undef, undef, undef, undef, undef, undef, undef, undef, undef, undef, undef, undef, u 24, u 25, u 26, u 27, u 28, u 29, u 30, u 31, u 32, u 33, u 34, u 35, u 36, u 37, u 38, u 39, .slice (some ⟨g, 0, none⟩) 254 254, u 41, u 42, u 43, u 44, u 45, u 46, u 47, u 48, u 49, u 50, u 51, u 52, undef, undef, undef, undef, undef, undef, undef, undef, undef, undef, undef, undef, undef, undef, undef, undef, undef, undef, undef, undef, undef, undef, undef, undef, undef, undef, undef, undef, undef, undef, undef, undef, undef, undef, undef, undef, undef, undef, undef, undef, undef, undef, undef, undef, undef, undef, undef, undef, undef, undef, undef, undef, undef, undef, undef, undef, undef, undef, undef, undef, undef, undef, undef, undef, undef, undef, undef, undef, undef, undef, undef, undef, undef, undef, undef, undef, undef, undef, undef, undef, undef, undef, undef, undef, undef, undef, undef, undef, undef, undef, undef, undef, undef, undef, undef, undef, undef, undef, undef, undef, undef, undef, undef, undef, undef, undef, undef, undef, undef, undef, undef, undef], []⟩ := by unfold FR; rw [h1]
      refine ⟨rfl, wp_val (d := 41) rfl (v := .agg #[.int .i64 3, .int .i64 0, .int .i64 0, .int .i64 1, .int .i64 0, .slice (some ⟨g, 0, none⟩) 254 254]) (w' := w1) (by rw [eF]; kernel_rfl) ?_⟩
      rw [show (FR u).put (some 41) (.agg #[.int .i64 3, .int .i64 0, .int .i64 0, .int .i64 1, .int .i64 0, .slice (some ⟨g, 0, none⟩) 254 254]) = FR (upd u (DS 17) (.agg #[.int .i64 3, .int .i64 0, .int .i64 0, .int .i64 1, .int .i64 0, .slice (some ⟨g, 0, none⟩) 254 254])) from by kernel_rfl]
      exact inv_step (by omega) hx0 hG (Ext.refl _) ⟨g, upd_at _ _ _, h2⟩
    | 18, _ =>
      obtain rfl := Option.some.inj (show some _ = some o from ho)
      refine ⟨rfl, wp_val (d := 42) rfl (v := .slice (some ⟨w1.heap.size, 0, none⟩) 255 255) (w' := w1.alloc (.cells (zer 255) 5)) (run_v (make_zer 255 (by omega) w1)) ?_⟩
      rw [show (FR u).put (some 42) (.slice (some ⟨w1.heap.size, 0, none⟩) 255 255) = FR (upd u (DS 18) (.slice (some ⟨w1.heap.size, 0, none⟩) 255 255)) from by kernel_rfl]
      exact inv_step (by omega) hx0 hG (Ext.alloc _ _) ⟨_, upd_at _ _ _, heap_alloc_new _ _⟩
    | 19, _ =>
      obtain rfl := Option.some.inj (show some _ = some o from ho)
      obtain ⟨g, h1, h2⟩ := hG 18 (by omega) (edge_listed hall 18 (by kernel_rfl))
      have eF : FR u = ⟨#[.bool false, u 1, undef, undef, undef, undef, undef, undef, undef, undef, undef, undef, undef, undef, undef, undef, undef, undef, undef, undef, undef, undef, undef, undef, u 24, u 25, u 26, u 27, u 28, u 29, u 30, u 31, u 32, u 33, u 34, u 35, u 36, u 37, u 38, u 39, u 40, u 41, .slice (some ⟨g, 0, none⟩) 255 255, u 43, u 44, u 45, u 46, u 47, u 48, u 49, u 50, u 51, u 52, undef, undef, undef, undef, undef, undef, undef, undef, undef, undef, undef, undef, undef, undef, undef, undef, undef, undef, undef, undef, undef, undef, undef, undef, undef, undef, undef, undef, undef, undef, undef, undef, undef, undef, undef, undef, undef, undef, undef, undef, undef, undef, undef, undef, undef, undef, undef, undef, undef, undef, undef, undef, undef, undef, undef, undef, undef, undef, undef, undef, undef, undef, undef, undef, undef, undef, undef, undef, undef, undef, undef, undef, undef, undef, undef, undef, undef, undef, undef, undef, undef, undef, undef, undef, undef, undef, undef, undef, undef, undef, undef, undef, undef, undef, undef, undef, undef, undef, undef, undef, undef, undef, undef, undef, undef, undef, undef, undef, undef, undef, undef, undef], []⟩ := by unfold FR; rw [h1]
      refine ⟨rfl, wp_val (d := 43) rfl (v := .agg #[.int .i64 3, .int .i64 0, .int .i64 0, .int .i64 1, .int .i64 0, .slice (some ⟨g, 0, none⟩) 255 255]) (w' := w1) (by rw [eF]; kernel_rfl) ?_⟩
      rw [show (FR u).put (some 43) (.agg #[.int .i64 3, .int .i64 0, .int .i64 0, .int .i64 1, .int .i64 0, .slice (some ⟨g, 0, none⟩) 255 255]) = FR (upd u (DS 19) (.agg #[.int .i64 3, .int .i64 0, .int .i64 0, .int .i64 1, .int .i64 0, .slice (some ⟨g, 0, none⟩) 255 255])) from by kernel_rfl]
      exact inv_step (by omega) hx0 hG (Ext.refl _) ⟨g, upd_at _ _ _, h2⟩
    | 20, _ =>
      obtain rfl := Option.some.inj (show some _ = some o from ho)
      refine ⟨rfl, wp_val (d := 44) rfl (v := .slice (some ⟨w1.heap.size, 0, none⟩) 9 9) (w' := w1.alloc (.cells (zer 9) 5)) (run_v (make_zer 9 (by omega) w1)) ?_⟩
      rw [show (FR u).put (some 44) (.slice (some ⟨w1.heap.size, 0, none⟩) 9 9) = FR (upd u (DS 20) (.slice (some ⟨w1.heap.size, 0, none⟩) 9 9)) from by kernel_rfl]
      exact inv_step (by omega) hx0 hG (Ext.alloc _ _) ⟨_, upd_at _ _ _, heap_alloc_new _ _⟩
    | 21, _ =>
      obtain rfl := Option.some.inj (show some _ = some o from ho)
      obtain ⟨g, h1, h2⟩ := hG 20 (by omega) (edge_listed hall 20 (by kernel_rfl))
      have eF : FR u = ⟨#[.bool false, u 1, undef, undef, undef, undef, undef, undef, undef, undef, undef, undef, undef, undef, undef, undef, undef, undef, undef, undef, undef, undef, undef, undef, u 24, u 25, u 26, u 27, u 28, u 29, u 30, u 31, u 32, u 33, u 34, u 35, u 36, u 37, u 38, u 39, u 40, u 41, u 42, u 43, .slice (some ⟨g, 0, none⟩) 9 9, u 45, u 46, u 47, u 48, u 49, u 50, u 51, u 52, undef, undef, undef, undef, undef, undef, undef, undef, undef, undef, undef, undef, undef, undef, undef, undef, undef, undef, undef, undef, undef, undef, undef, undef, undef, undef, undef, undef, undef, undef, undef, undef, undef, undef, undef, undef, undef, undef, undef, undef, undef, undef, undef, undef, undef, undef, undef, undef, undef, undef, undef, undef, undef, undef, undef, undef, undef, undef, undef, undef, undef, undef, undef, undef, undef, undef, undef, undef, undef, undef, undef, undef, undef, undef, undef, undef, undef, undef, undef, undef, undef, undef, undef, undef, undef, undef, undef, undef, undef, undef, undef, undef, undef, undef, undef, undef, undef, undef, undef, undef, undef, undef, undef, undef, undef, undef, undef, undef, undef, undef, undef, undef], []⟩ := by unfold FR; rw [h1]
      refine ⟨rfl, wp_val (d := 45) rfl (v := .agg #[.int .i64 3, .int .i64 0, .int .i64 0, .int .i64 0, .int .i64 0, .slice (some ⟨g, 0, none⟩) 9 9]) (w' := w1) (by rw [eF]; kernel_rfl) ?_⟩
      rw [show (FR u).put (some 45) (.agg #[.int .i64 3, .int .i64 0, .int .i64 0, .int .i64 0, .int .i64 0, .slice (some ⟨g, 0, none⟩) 9 9]) = FR (upd u (DS 21) (.agg #[.int .i64 3, .int .i64 0, .int .i64 0, .int .i64 0, .int .i64 0, .slice (some ⟨g, 0, none⟩) 9 9])) from by kernel_rfl]
      exact inv_step (by omega) hx0 hG (Ext.refl _) ⟨g, upd_at _ _ _, h2⟩
    | 22, _ =>
      obtain rfl := Option.some.inj (show some _ = some o from ho)
      refine ⟨rfl, wp_val (d := 46) rfl (v := .agg #[.int .i64 4, .int .i64 0, .int .i64 0, .int .i64 1, .int .i64 255, .slice none 0 0]) (w' := w1) (by kernel_rfl) ?_⟩
      rw [show (FR u).put (some 46) (.agg #[.int .i64 4, .int .i64 0, .int .i64 0, .int .i64 1, .int .i64 255, .slice none 0 0]) = FR (upd u (DS 22) (.agg #[.int .i64 4, .int .i64 0, .int .i64 0, .int .i64 1, .int .i64 255, .slice none 0 0])) from by kernel_rfl]
      exact inv_step (by omega) hx0 hG (Ext.refl _) (upd_at _ _ _)
    | 23, _ =>
      obtain rfl := Option.some.inj (show some _ = some o from ho)
      refine ⟨rfl, wp_val (d := 47) rfl (v := .agg #[.int .i64 4, .int .i64 0, .int .i64 0, .int .i64 1, .int .i64 256, .slice none 0 0]) (w' := w1) (by kernel_rfl) ?_⟩
      rw [show (FR u).put (some 47) (.agg #[.int .i64 4, .int .i64 0, .int .i64 0, .int .i64 1, .int .i64 256, .slice none 0 0]) = FR (upd u (DS 23) (.agg #[.int .i64 4, .int .i64 0, .int .i64 0, .int .i64 1, .int .i64 256, .slice none 0 0])) from by kernel_rfl]
      exact inv_step (by omega) hx0 hG (Ext.refl _) (upd_at _ _ _)
    | 24, _ =>
      obtain rfl := Option.some.inj (show some _ = some o from ho)
      refine ⟨rfl, wp_val (d := 48) rfl (v := .slice (some ⟨w1.heap.size, 0, none⟩) 1 1) (w' := w1.alloc (.cells (#[.int .u8 1]) 5)) (by kernel_rfl) ?_⟩
      rw [show (FR u).put (some 48) (.slice (some ⟨w1.heap.size, 0, none⟩) 1 1) = FR (upd u (DS 24) (.slice (some ⟨w1.heap.size, 0, none⟩) 1 1)) from by kernel_rfl]
      exact inv_step (by omega) hx0 hG (Ext.alloc _ _) ⟨_, upd_at _ _ _, heap_alloc_new _ _⟩
    | 25, _ =>
      obtain rfl := Option.some.inj (show some _ = some o from ho)
      obtain ⟨g, h1, h2⟩ := hG 24 (by omega) (edge_listed hall 24 (by kernel_rfl))
      have eF : FR u = ⟨#[.bool false, u 1, undef, undef, undef, undef, undef, undef, undef, undef, undef, undef, undef, undef, undef, undef, undef, undef, undef, undef, undef, undef, undef, undef, u 24, u 25, u 26, u 27, u 28, u 29, u 30, u 31, u 32, u 33, u 34, u 35, u 36, u 37, u 38, u 39, u 40, u 41, u 42, u 43, u 44, u 45, u 46, u 47, .slice (some ⟨g, 0, none⟩) 1 1, u 49, u 50, u 51, u 52, undef, undef, undef, undef, undef, undef, undef, undef, undef, undef, undef, undef, undef, undef, undef, undef, undef, undef, undef, undef, undef, undef, undef, undef, undef, undef, undef, undef, undef, undef, undef, undef, undef, undef, undef, undef, undef, undef, undef, undef, undef, undef, undef, undef, undef, undef, undef, undef, undef, undef, undef, undef, undef, undef, undef, undef, undef, undef, undef, undef, undef, undef, undef, undef, undef, undef, undef, undef, undef, undef, undef, undef, undef, undef, undef, undef, undef, undef, undef, undef, undef, undef, undef, undef, undef, undef, undef, undef, undef, undef, undef, undef, undef, undef, undef, undef, undef, undef, undef, undef, undef, undef, undef, undef, undef, undef, undef, undef, undef, undef, undef, undef], []⟩ := by unfold FR; rw [h1]
      refine ⟨rfl, wp_val (d := 49) rfl (v := .agg #[.int .i64 4, .int .i64 0, .int .i64 0, .int .i64 1, .int .i64 0, .slice (some ⟨g, 0, none⟩) 1 1]) (w' := w1) (by rw [eF]; kernel_rfl) ?_⟩
      rw [show (FR u).put (some 49) (.agg #[.int .i64 4, .int .i64 0, .int .i64 0, .int .i64 1, .int .i64 0, .slice (some ⟨g, 0, none⟩) 1 1]) = FR (upd u (DS 25) (.agg #[.int .i64 4, .int .i64 0, .int .i64 0, .int .i64 1, .int .i64 0, .slice (some ⟨g, 0, none⟩) 1 1])) from by kernel_rfl]
      exact inv_step (by omega) hx0 hG (Ext.refl _) ⟨g, upd_at _ _ _, h2⟩
    | 26, _ =>
      obtain rfl := Option.some.inj (show some _ = some o from ho)
      refine ⟨rfl, wp_val (d := 50) rfl (v := .agg #[.int .i64 4, .int .i64 0, .int .i64 1, .int .i64 1, .int .i64 0, .slice none 0 0]) (w' := w1) (by kernel_rfl) ?_⟩
      rw [show (FR u).put (some 50) (.agg #[.int .i64 4, .int .i64 0, .int .i64 1, .int .i64 1, .int .i64 0, .slice none 0 0]) = FR (upd u (DS 26) (.agg #[.int .i64 4, .int .i64 0, .int .i64 1, .int .i64 1, .int .i64 0, .slice none 0 0])) from by kernel_rfl]
      exact inv_step (by omega) hx0 hG (Ext.refl _) (upd_at _ _ _)
    | 27, _ =>
      obtain rfl := Option.some.inj (show some _ = some o from ho)
      refine ⟨rfl, wp_val (d := 51) rfl (v := .agg #[.int .i64 3, .int .i64 0, .int .i64 0, .int .i64 1, .int .i64 1, .slice none 0 0]) (w' := w1) (by kernel_rfl) ?_⟩
      rw [show (FR u).put (some 51) (.agg #[.int .i64 3, .int .i64 0, .int .i64 0, .int .i64 1, .int .i64 1, .slice none 0 0]) = FR (upd u (DS 27) (.agg #[.int .i64 3, .int .i64 0, .int .i64 0, .int .i64 1, .int .i64 1, .slice none 0 0])) from by kernel_rfl]
      exact inv_step (by omega) hx0 hG (Ext.refl _) (upd_at _ _ _)
    | 28, _ =>
      obtain rfl := Option.some.inj (show some _ = some o from ho)
      have e0 : GG u w1 0 := hG 0 (by omega) (edge_listed hall 0 (by kernel_rfl))
      have e1 : GG u w1 1 := hG 1 (by omega) (edge_listed hall 1 (by kernel_rfl))
      have e2 : GG u w1 2 := hG 2 (by omega) (edge_listed hall 2 (by kernel_rfl))
      have e3 : GG u w1 3 := hG 3 (by omega) (edge_listed hall 3 (by kernel_rfl))
      have e4 : GG u w1 4 := hG 4 (by omega) (edge_listed hall 4 (by kernel_rfl))
      have e5 : GG u w1 5 := hG 5 (by omega) (edge_listed hall 5 (by kernel_rfl))
      have e6 : GG u w1 6 := hG 6 (by omega) (edge_listed hall 6 (by kernel_rfl))
      have e7 : GG u w1 7 := hG 7 (by omega) (edge_listed hall 7 (by kernel_rfl))
      obtain ⟨g8, e8, h8⟩ := hG 9 (by omega) (edge_listed hall 9 (by kernel_rfl))
      obtain ⟨g9, e9, h9⟩ := hG 11 (by omega) (edge_listed hall 11 (by kernel_rfl))
      obtain ⟨g10, e10, h10⟩ := hG 13 (by omega) (edge_listed hall 13 (by kernel_rfl))
      obtain ⟨g11, e11, h11⟩ := hG 15 (by omega) (edge_listed hall 15 (by kernel_rfl))
      obtain ⟨g12, e12, h12⟩ := hG 17 (by omega) (edge_listed hall 17 (by kernel_rfl))
      obtain ⟨g13, e13, h13⟩ := hG 19 (by omega) (edge_listed hall 19 (by kernel_rfl))
      obtain ⟨g14, e14, h14⟩ := hG 21 (by omega) (edge_listed hall 21 (by kernel_rfl))
      have e15 : GG u w1 22 := hG 22 (by omega) (edge_listed hall 22 (by kernel_rfl))
      have e16 : GG u w1 23 := hG 23 (by omega) (edge_listed hall 23 (by kernel_rfl))
      obtain ⟨g17, e17, h17⟩ := hG 25 (by omega) (edge_listed hall 25 (by kernel_rfl))
      have e18 : GG u w1 26 := hG 26 (by omega) (edge_listed hall 26 (by kernel_rfl))
      have e19 : GG u w1 27 := hG 27 (by omega) (edge_listed hall 27 (by kernel_rfl))
      replace e0 : u 24 = .agg #[.int .i64 2, .int .i64 1, .int .i64 0, .int .i64 0, .int .i64 0, .slice none 0 0] := e0
      replace e1 : u 25 = .agg #[.int .i64 2, .int .i64 1, .int .i64 0, .int .i64 1, .int .i64 0, .slice none 0 0] := e1
      replace e2 : u 26 = .agg #[.int .i64 1, .int .i64 1, .int .i64 0, .int .i64 0, .int .i64 0, .slice none 0 0] := e2
      replace e3 : u 27 = .agg #[.int .i64 5, .int .i64 0, .int .i64 0, .int .i64 0, .int .i64 0, .slice none 0 0] := e3
      replace e4 : u 28 = .agg #[.int .i64 0, .int .i64 0, .int .i64 0, .int .i64 0, .int .i64 0, .slice none 0 0] := e4
      replace e5 : u 29 = .agg #[.int .i64 2, .int .i64 0, .int .i64 0, .int .i64 0, .int .i64 0, .slice none 0 0] := e5
      replace e6 : u 30 = .agg #[.int .i64 2, .int .i64 1099511627776, .int .i64 1099511627776, .int .i64 0, .int .i64 0, .slice none 0 0] := e6
      replace e7 : u 31 = .agg #[.int .i64 2, .int .i64 1, .int .i64 1099511627777, .int .i64 0, .int .i64 0, .slice none 0 0] := e7
      replace e15 : u 46 = .agg #[.int .i64 4, .int .i64 0, .int .i64 0, .int .i64 1, .int .i64 255, .slice none 0 0] := e15
      replace e16 : u 47 = .agg #[.int .i64 4, .int .i64 0, .int .i64 0, .int .i64 1, .int .i64 256, .slice none 0 0] := e16
      replace e18 : u 50 = .agg #[.int .i64 4, .int .i64 0, .int .i64 1, .int .i64 1, .int .i64 0, .slice none 0 0] := e18
      replace e19 : u 51 = .agg #[.int .i64 3, .int .i64 0, .int .i64 0, .int .i64 1, .int .i64 1, .slice none 0 0] := e19
      have eF : FR u = ⟨#[.bool false, u 1, undef, undef, undef, undef, undef, undef, undef, undef, undef, undef, undef, undef, undef, undef, undef, undef, undef, undef, undef, undef, undef, undef, .agg #[.int .i64 2, .int .i64 1, .int .i64 0, .int .i64 0, .int .i64 0, .slice none 0 0], .agg #[.int .i64 2, .int .i64 1, .int .i64 0, .int .i64 1, .int .i64 0, .slice none 0 0], .agg #[.int .i64 1, .int .i64 1, .int .i64 0, .int .i64 0, .int .i64 0, .slice none 0 0], .agg #[.int .i64 5, .int .i64 0, .int .i64 0, .int .i64 0, .int .i64 0, .slice none 0 0], .agg #[.int .i64 0, .int .i64 0, .int .i64 0, .int .i64 0, .int .i64 0, .slice none 0 0], .agg #[.int .i64 2, .int .i64 0, .int .i64 0, .int .i64 0, .int .i64 0, .slice none 0 0], .agg #[.int .i64 2, .int .i64 1099511627776, .int .i64 1099511627776, .int .i64 0, .int .i64 0, .slice none 0 0], .agg #[.int .i64 2, .int .i64 1, .int .i64 1099511627777, .int .i64 0, .int .i64 0, .slice none 0 0], u 32, .agg #[.int .i64 1, .int .i64 1, .int .i64 1099511627776, .int .i64 0, .int .i64 0, .slice (some ⟨g8, 0, none⟩) 1 1], u 34, .agg #[.int .i64 1, .int .i64 1, .int .i64 1099511627775, .int .i64 0, .int .i64 0, .slice (some ⟨g9, 0, none⟩) 1024 1024], u 36, .agg #[.int .i64 1, .int .i64 1, .int .i64 0, .int .i64 0, .int .i64 0, .slice (some ⟨g10, 0, none⟩) 1025 1025], u 38, .agg #[.int .i64 3, .int .i64 0, .int .i64 0, .int .i64 1, .int .i64 0, .slice (some ⟨g11, 0, none⟩) 1 1], u 40, .agg #[.int .i64 3, .int .i64 0, .int .i64 0, .int .i64 1, .int .i64 0, .slice (some ⟨g12, 0, none⟩) 254 254], u 42, .agg #[.int .i64 3, .int .i64 0, .int .i64 0, .int .i64 1, .int .i64 0, .slice (some ⟨g13, 0, none⟩) 255 255], u 44, .agg #[.int .i64 3, .int .i64 0, .int .i64 0, .int .i64 0, .int .i64 0, .slice (some ⟨g14, 0, none⟩) 9 9], .agg #[.int .i64 4, .int .i64 0, .int .i64 0, .int .i64 1, .int .i64 255, .slice none 0 0], .agg #[.int .i64 4, .int .i64 0, .int .i64 0, .int .i64 1, .int .i64 256, .slice none 0 0], u 48, .agg #[.int .i64 4, .int .i64 0, .int .i64 0, .int .i64 1, .int .i64 0, .slice (some ⟨g17, 0, none⟩) 1 1], .agg #[.int .i64 4, .int .i64 0, .int .i64 1, .int .i64 1, .int .i64 0, .slice none 0 0], .agg #[.int .i64 3, .int .i64 0, .int .i64 0, .int .i64 1, .int .i64 1, .slice none 0 0], u 52, undef, undef, undef, undef, undef, undef, undef, undef, undef, undef, undef, undef, undef, undef, undef, undef, undef, undef, undef, undef, undef, undef, undef, undef, undef, undef, undef, undef, undef, undef, undef, undef, undef, undef, undef, undef, undef, undef, undef, undef, undef, undef, undef, undef, undef, undef, undef, undef, undef, undef, undef, undef, undef, undef, undef, undef, undef, undef, undef, undef, undef, undef, undef, undef, undef, undef, undef, undef, undef, undef, undef, undef, undef, undef, undef, undef, undef, undef, undef, undef, undef, undef, undef, undef, undef, undef, undef, undef, undef, undef, undef, undef, undef, undef, undef, undef, undef, undef, undef, undef, undef, undef, undef, undef, undef, undef, undef, undef, undef, undef, undef, undef], []⟩ := by unfold FR; rw [e0, e1, e2, e3, e4, e5, e6, e7, e8, e9, e10, e11, e12, e13, e14, e15, e16, e17, e18, e19]
      refine ⟨rfl, wp_val (d := 52) rfl (v := .slice (some ⟨w1.heap.size, 0, none⟩) 20 20) (w' := w1.alloc (.cells #[.int .i64 2, .int .i64 1, .int .i64 0, .int .i64 0, .int .i64 0, .slice none 0 0, .int .i64 2, .int .i64 1, .int .i64 0, .int .i64 1, .int .i64 0, .slice none 0 0, .int .i64 1, .int .i64 1, .int .i64 0, .int .i64 0, .int .i64 0, .slice none 0 0, .int .i64 5, .int .i64 0, .int .i64 0, .int .i64 0, .int .i64 0, .slice none 0 0, .int .i64 0, .int .i64 0, .int .i64 0, .int .i64 0, .int .i64 0, .slice none 0 0, .int .i64 2, .int .i64 0, .int .i64 0, .int .i64 0, .int .i64 0, .slice none 0 0, .int .i64 2, .int .i64 1099511627776, .int .i64 1099511627776, .int .i64 0, .int .i64 0, .slice none 0 0, .int .i64 2, .int .i64 1, .int .i64 1099511627777, .int .i64 0, .int .i64 0, .slice none 0 0, .int .i64 1, .int .i64 1, .int .i64 1099511627776, .int .i64 0, .int .i64 0, .slice (some ⟨g8, 0, none⟩) 1 1, .int .i64 1, .int .i64 1, .int .i64 1099511627775, .int .i64 0, .int .i64 0, .slice (some ⟨g9, 0, none⟩) 1024 1024, .int .i64 1, .int .i64 1, .int .i64 0, .int .i64 0, .int .i64 0, .slice (some ⟨g10, 0, none⟩) 1025 1025, .int .i64 3, .int .i64 0, .int .i64 0, .int .i64 1, .int .i64 0, .slice (some ⟨g11, 0, none⟩) 1 1, .int .i64 3, .int .i64 0, .int .i64 0, .int .i64 1, .int .i64 0, .slice (some ⟨g12, 0, none⟩) 254 254, .int .i64 3, .int .i64 0, .int .i64 0, .int .i64 1, .int .i64 0, .slice (some ⟨g13, 0, none⟩) 255 255, .int .i64 3, .int .i64 0, .int .i64 0, .int .i64 0, .int .i64 0, .slice (some ⟨g14, 0, none⟩) 9 9, .int .i64 4, .int .i64 0, .int .i64 0, .int .i64 1, .int .i64 255, .slice none 0 0, .int .i64 4, .int .i64 0, .int .i64 0, .int .i64 1, .int .i64 256, .slice none 0 0, .int .i64 4, .int .i64 0, .int .i64 0, .int .i64 1, .int .i64 0, .slice (some ⟨g17, 0, none⟩) 1 1, .int .i64 4, .int .i64 0, .int .i64 1, .int .i64 1, .int .i64 0, .slice none 0 0, .int .i64 3, .int .i64 0, .int .i64 0, .int .i64 1, .int .i64 1, .slice none 0 0] 34)) (by rw [eF]; kernel_rfl) ?_⟩
      rw [show (FR u).put (some 52) (.slice (some ⟨w1.heap.size, 0, none⟩) 20 20) = FR (upd u (DS 28) (.slice (some ⟨w1.heap.size, 0, none⟩) 20 20)) from by kernel_rfl]
      refine inv_step (by omega) hx0 hG (Ext.alloc _ _) ⟨_, upd_at _ _ _, by simp, fun W hW => kn_packs W _ g8 g9 g10 g11 g12 g13 g14 g17 (hW.block (heap_alloc_new _ _)) (((Ext.alloc _ _).trans hW).block h8) (((Ext.alloc _ _).trans hW).block h9) (((Ext.alloc _ _).trans hW).block h10) (((Ext.alloc _ _).trans hW).block h11) (((Ext.alloc _ _).trans hW).block h12) (((Ext.alloc _ _).trans hW).block h13) (((Ext.alloc _ _).trans hW).block h14) (((Ext.alloc _ _).trans hW).block h17)⟩
    | 29, _ =>
      obtain rfl := Option.some.inj (show some _ = some o from ho)
      obtain ⟨g, h1, h2, h3⟩ := hG 28 (by omega) (edge_listed hall 28 (by kernel_rfl))
      refine ⟨rfl, wp_val (d := 1) rfl (v := .slice (some ⟨g, 0, none⟩) 20 20) (w' := w1) (by rw [← h1]; kernel_rfl) ?_⟩
      rw [show (FR u).put (some 1) (.slice (some ⟨g, 0, none⟩) 20 20) = FR (upd u (DS 29) (.slice (some ⟨g, 0, none⟩) 20 20)) from by kernel_rfl]
      exact inv_step (by omega) hx0 hG (Ext.refl _) ⟨g, upd_at _ _ _, h2, h3⟩
    | n + 30, h => exact absurd h (by omega)
  case done =>
    intro listed a w1 hall hI
    obtain ⟨u, rfl, hx0, hG⟩ := hI
    obtain ⟨g, h1, h2, h3⟩ := hG 29 (by omega) (hall 29 (show 29 < 30 by omega))
    clear hG hall
    unfold FR
    rw [h1]
    clear h1
    have HT := Lib.hid h3
    have XA := Lib.hid hx0
    clear h3 hx0 hI0
    obtain ⟨V, hV⟩ : ∃ V, w1.alloc (.cells #[.int .i64 0, .int .i64 23, .int .i64 1, .int .i64 28, .int .i64 28, .int .i64 3, .int .i64 0, .int .i64 3, .int .i64 3, .int .i64 0, .int .i64 2, .int .i64 1, .int .i64 0, .int .i64 2, .int .i64 3, .int .i64 0, .int .i64 3, .int .i64 23, .int .i64 23, .int .i64 23] 3) = V := ⟨_, rfl⟩
    have HNO : Hid (∀ W, Ext V W → ∀ k, k < 20 → W.cell? ⟨w1.heap.size, k, none⟩ = some (.int .i64 (noL.getD k 0))) := fun W hX => kn_no W _ (hX.block (hV ▸ heap_alloc_new w1 _))
    have XV := Lib.hid (show Ext w1 V from hV ▸ Ext.alloc _ _)
    have hzn : w1.heap.size < V.heap.size := by rw [← hV]; simp
    have hzg : g < V.heap.size := Nat.lt_trans h2 hzn
    go_wp2_with fail
    clear hV h2
    obtain ⟨gn, hgn⟩ : ∃ gn, w1.heap.size = gn := ⟨_, rfl⟩
    rw [hgn] at HNO hzn ⊢
    clear hgn
    go_loopw [3] (fun i wr => ∃ k : Nat, k ≤ 20 ∧ i = .int .i64 (k : Int) ∧ Ext V wr) (fun i _ => 20 - (intOf i).toNat)
    case atStart => exact ⟨0, by omega, rfl, Ext.refl _⟩
    case round =>
      obtain ⟨k, hk, rfl, hx⟩ := hrel
      rcases Nat.lt_or_ge k 20 with hlt | hge
      · obtain ⟨⟨kd, ep, sq, I, cd, l⟩, A, n, ⟨d0, d1, d2, d3, d4, d5⟩, hpr, hck⟩ := HT.out wr (XV.out.trans hx) k hlt
        have hno := HNO.out wr hx k hlt
        obtain ⟨x, hxx⟩ : ∃ x, noL.getD k 0 = x := ⟨_, rfl⟩
        rw [hxx] at hck hno
        simp only at d0 d1 d2 d3 d4 d5
        have hz1 := hx.size
        have hxe : (x != x) = false := by simp
        have HSS : Hid (∀ W, Ext wr W → (W.cell? ⟨g, k * 6, none⟩ = some (.int .i64 kd) ∧ W.cell? ⟨g, k * 6 + 1, none⟩ = some (.int .i64 ep) ∧ W.cell? ⟨g, k * 6 + 2, none⟩ = some (.int .i64 sq) ∧ W.cell? ⟨g, k * 6 + 3, none⟩ = some (.int .i64 I) ∧ W.cell? ⟨g, k * 6 + 4, none⟩ = some (.int .i64 cd) ∧ W.cell? ⟨g, k * 6 + 5, none⟩ = some (.slice A n n)) ∧ W.cell? ⟨gn, k, none⟩ = some (.int .i64 x)) := fun W hX => ⟨⟨hX.cell (by omega) d0, hX.cell (by omega) d1, hX.cell (by omega) d2, hX.cell (by omega) d3, hX.cell (by omega) d4, hX.cell (by omega) d5⟩, hX.cell (by omega) hno⟩
        have HC := Lib.hid (fun W (hX : Ext wr W) => pacCheck_any ⟨kd, ep, sq, I, cd, l⟩ A n n W (hpr.ext hX))
        rw [hck] at HC
        simp only [pacV] at HC
        have X0 := Lib.hid hx
        have hz2 : g < wr.heap.size := by omega
        have hz3 : gn < wr.heap.size := by omega
        clear hx hpr hck hxx
        go_wp2_with fail
        go_region_held3 (fun W => (W.cell? ⟨g, k * 6, none⟩ = some (.int .i64 kd) ∧ W.cell? ⟨g, k * 6 + 1, none⟩ = some (.int .i64 ep) ∧ W.cell? ⟨g, k * 6 + 2, none⟩ = some (.int .i64 sq) ∧ W.cell? ⟨g, k * 6 + 3, none⟩ = some (.int .i64 I) ∧ W.cell? ⟨g, k * 6 + 4, none⟩ = some (.int .i64 cd) ∧ W.cell? ⟨g, k * 6 + 5, none⟩ = some (.slice A n n)) ∧ W.cell? ⟨gn, k, none⟩ = some (.int .i64 x)) (first | go_keep | exact HSS.out _ X6.out) ((first
          | (go_at_call 27
             with_reducible refine Calls.mono (HC.out _ (by repeat' (first | with_reducible exact Ext.refl _ | with_reducible refine Ext.drew' ?_ | with_reducible refine Ext.alloc' ?_ _))) ?_
             rintro e w6 ⟨rfl, hx6⟩
             have X6 : Hid (Ext wr w6) := Ext.trans (by repeat' (first | with_reducible exact Ext.refl _ | with_reducible refine Ext.drew' ?_ | with_reducible refine Ext.alloc' ?_ _)) hx6
             clear hx6)))
        clear d0 d1 d2 d3 d4 d5 hno
        go_wp2_with fail
        go_roundw
        case rel => exact ⟨k + 1, by omega, by go_num, X0.out.trans X6.out⟩
        case measure => simp [intOf]; omega
      · obtain rfl : k = 20 := by omega
        have Y0 : Hid (Ext w wr) := XA.out.trans (XV.out.trans hx)
        clear hx HT HNO XA XV hzn hzg hk hge
        go_wp2_with fail
        refine (pacGet_any [0, 0, 0, 0] (some ⟨_, 0, none⟩) 4 4 _ (Rd.lit _ (([0, 0, 0, 0] : List UInt8).map cB) _ _ 4 _ rfl (by first | rfl | simp)) (by omega) (by omega)).mono ?_
        rw [show getP [0, 0, 0, 0] = (pac0, 1) from by kernel_rfl]
        rintro e x1 ⟨A1, n1, c1, rfl, -, hx⟩
        simp only [pacV, pac0]
        have Y1 : Hid (Ext w x1) := Y0.out.trans (((Ext.alloc _ _).trans (hx)).trans (Ext.refl _))
        clear hx
        go_wp2_with fail
        refine (pacGet_any [0, 0, 0, 0, 0] (some ⟨_, 0, none⟩) 5 5 _ (Rd.lit _ (([0, 0, 0, 0, 0] : List UInt8).map cB) _ _ 5 _ rfl (by first | rfl | simp)) (by omega) (by omega)).mono ?_
        rw [show getP [0, 0, 0, 0, 0] = (pac0, 5) from by kernel_rfl]
        rintro e x2 ⟨A1, n1, c1, rfl, -, hx⟩
        simp only [pacV, pac0]
        have Y2 : Hid (Ext w x2) := Y1.out.trans (((Ext.alloc _ _).trans ((Ext.alloc _ _).trans (hx))).trans (Ext.refl _))
        clear hx
        go_wp2_with fail
        refine (putCommand_any 7 17 ⟨3, 1, 1, [], [], []⟩ askS0 _ (rd0 _ _ _ _ (by unfold i64P; simp) (by unfold i64P; simp) (by unfold i64P; simp))).mono ?_
        rw [show putC 7 17 ⟨3, 1, 1, [], [], []⟩ = (pac0, 20) from by kernel_rfl]
        rintro e x3 ⟨A1, n1, c1, rfl, -, hx⟩
        simp only [pacV, pac0]
        have Y3 : Hid (Ext w x3) := Y2.out.trans (((Ext.alloc _ _).trans (hx)).trans (Ext.refl _))
        clear hx
        go_wp2_with fail
        refine (getCommand_any ⟨3, 0, 0, 7, 0, [0, 6, 0, 1, 0, 9]⟩ (some ⟨_, 0, none⟩) 6 6 _ ⟨(Rd.lit _ (([0, 6, 0, 1, 0, 9] : List UInt8).map cB) _ _ 6 _ rfl (by first | rfl | simp)), by unfold i64P; simp, by unfold i64P; simp, by unfold i64P; simp, by unfold i64P; simp, by unfold i64P; simp, ⟨Nat.le_refl _, by omega⟩⟩).mono ?_
        rw [show getC ⟨3, 0, 0, 7, 0, [0, 6, 0, 1, 0, 9]⟩ = ((0, 0, ask0), 24) from by kernel_rfl]
        rintro e x4 ⟨⟨B1, m1, k1, B2, m2, k2, B3, m3, k3⟩, rfl, -, hx⟩
        simp only [cmdV, ask0]
        have Y4 : Hid (Ext w x4) := Y3.out.trans (((Ext.alloc _ _).trans ((Ext.alloc _ _).trans (hx))).trans (Ext.refl _))
        clear hx
        go_wp2_with fail
        refine (getCommand_any ⟨3, 0, 0, 7, 0, [17, 6]⟩ (some ⟨_, 0, none⟩) 2 2 _ ⟨(Rd.lit _ (([17, 6] : List UInt8).map cB) _ _ 2 _ rfl (by first | rfl | simp)), by unfold i64P; simp, by unfold i64P; simp, by unfold i64P; simp, by unfold i64P; simp, by unfold i64P; simp, ⟨Nat.le_refl _, by omega⟩⟩).mono ?_
        rw [show getC ⟨3, 0, 0, 7, 0, [17, 6]⟩ = ((0, 0, ask0), 1) from by kernel_rfl]
        rintro e x5 ⟨⟨B1, m1, k1, B2, m2, k2, B3, m3, k3⟩, rfl, -, hx⟩
        simp only [cmdV, ask0]
        have Y5 : Hid (Ext w x5) := Y4.out.trans (((Ext.alloc _ _).trans ((Ext.alloc _ _).trans (hx))).trans (Ext.refl _))
        clear hx
        go_wp2_with fail
        refine (getCommand_any ⟨3, 0, 0, 7, 0, [17, 3, 0, 1, 0, 1]⟩ (some ⟨_, 0, none⟩) 6 6 _ ⟨(Rd.lit _ (([17, 3, 0, 1, 0, 1] : List UInt8).map cB) _ _ 6 _ rfl (by first | rfl | simp)), by unfold i64P; simp, by unfold i64P; simp, by unfold i64P; simp, by unfold i64P; simp, by unfold i64P; simp, ⟨Nat.le_refl _, by omega⟩⟩).mono ?_
        rw [show getC ⟨3, 0, 0, 7, 0, [17, 3, 0, 1, 0, 1]⟩ = ((0, 0, ask0), 20) from by kernel_rfl]
        rintro e x6 ⟨⟨B1, m1, k1, B2, m2, k2, B3, m3, k3⟩, rfl, -, hx⟩
        simp only [cmdV, ask0]
        have Y6 : Hid (Ext w x6) := Y5.out.trans (((Ext.alloc _ _).trans ((Ext.alloc _ _).trans (hx))).trans (Ext.refl _))
        clear hx
        go_wp2_with fail
        refine (getCommand_any ⟨4, 0, 0, 7, 0, []⟩ none 0 0 _ ⟨Rd.nil_ _, by unfold i64P; simp, by unfold i64P; simp, by unfold i64P; simp, by unfold i64P; simp, by unfold i64P; simp, ⟨Nat.le_refl _, by omega⟩⟩).mono ?_
        rw [show getC ⟨4, 0, 0, 7, 0, []⟩ = ((0, 0, ask0), 28) from by kernel_rfl]
        rintro e x7 ⟨⟨B1, m1, k1, B2, m2, k2, B3, m3, k3⟩, rfl, -, hx⟩
        simp only [cmdV, ask0]
        have Y7 : Hid (Ext w x7) := Y6.out.trans (((Ext.alloc _ _).trans (hx)).trans (Ext.refl _))
        clear hx
        go_wp2_with fail
        refine (putCommand_any 0 248 ⟨0, 0, 0, [], [], []⟩ askS0 _ (rd0 _ _ _ _ (by unfold i64P; simp) (by unfold i64P; simp) (by unfold i64P; simp))).mono ?_
        rw [show putC 0 248 ⟨0, 0, 0, [], [], []⟩ = (pac0, 3) from by kernel_rfl]
        rintro e x8 ⟨A1, n1, c1, rfl, -, hx⟩
        simp only [pacV, pac0]
        have Y8 : Hid (Ext w x8) := Y7.out.trans (((Ext.alloc _ _).trans (hx)).trans (Ext.refl _))
        clear hx
        go_wp2_with fail
        refine (putCommand_any 1 248 ⟨0, 0, 0, [], [], []⟩ askS0 _ (rd0 _ _ _ _ (by unfold i64P; simp) (by unfold i64P; simp) (by unfold i64P; simp))).mono ?_
        rw [show putC 1 248 ⟨0, 0, 0, [], [], []⟩ = (pac0, 24) from by kernel_rfl]
        rintro e x9 ⟨A1, n1, c1, rfl, -, hx⟩
        simp only [pacV, pac0]
        have Y9 : Hid (Ext w x9) := Y8.out.trans (((Ext.alloc _ _).trans (hx)).trans (Ext.refl _))
        clear hx
        go_wp2_with fail
        refine (putCommand_any 1 1 ⟨0, 0, 0, [], [], []⟩ askS0 _ (rd0 _ _ _ _ (by unfold i64P; simp) (by unfold i64P; simp) (by unfold i64P; simp))).mono ?_
        rw [show putC 1 1 ⟨0, 0, 0, [], [], []⟩ = (pac0, 20) from by kernel_rfl]
        rintro e x10 ⟨A1, n1, c1, rfl, -, hx⟩
        simp only [pacV, pac0]
        have Y10 : Hid (Ext w x10) := Y9.out.trans (((Ext.alloc _ _).trans (hx)).trans (Ext.refl _))
        clear hx
        go_wp2_with fail
        refine (known21_any _).mono ?_
        rintro e w12 ⟨rfl, hx12⟩
        go_wp2_with fail
        go_ret
        exact ⟨rfl, (Lib.hid (Y10.out.trans (Ext.alloc _ _))).out.trans hx12⟩
end Go.Proofs.Ytjmddiffeffgnaa
