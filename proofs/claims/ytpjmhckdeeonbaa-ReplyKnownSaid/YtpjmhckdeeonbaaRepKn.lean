/- The walk of ReplyKnown: the table's region. (genrepkn.py prints this.) -/
import Derived.Test.YtpjmhckdeeonbaaRepKt
import Derived.Test.YtpjmhckdeeonbaaRepGe
import Derived.Deep.RegionHeld3
namespace Go.Proofs.Ytpjmhckdeeonbaa
set_option linter.unusedVariables false
set_option linter.unusedSimpArgs false
set_option maxRecDepth 100000
set_option maxHeartbeats 4000000
open Go Go.RowKit Go.Out

theorem none39 : ∀ i, i < 39 → (Array.replicate 39 false).getD i false = false := by decide
theorem lawReplyKnown (w : World) : Calls Try.prog 9 #[] w (RetQ w true) := by
  go_enter Try.func9, Try.ntmps9
  go_wp2_with fail
  refine (two04_any _).mono ?_
  rintro e w1 ⟨A, rfl, hrd, hx⟩
  obtain ⟨bA, oA, rfl, -⟩ := hrd.2 (by omega)
  simp only [askV, repV, ask2, rep2, askS0]
  go_wp2_with fail
  obtain ⟨V, hV⟩ : ∃ V, ((w1.alloc (.cells #[.int .i64 3, .int .i64 0, .int .i64 2, .slice none 0 0, .slice none 0 0, .slice none 0 0] 26)).alloc (.cells #[.int .i64 0, .slice none 0 0, .slice (some ⟨bA, oA, none⟩) 2 2, .slice none 0 0] 29)) = V := ⟨_, rfl⟩
  rw [hV]
  obtain ⟨q, hq⟩ : ∃ q, w1.heap.size = q := ⟨_, rfl⟩
  have HBA := Lib.hid (show V.heap[q]? = some (.cells #[.int .i64 3, .int .i64 0, .int .i64 2, .slice none 0 0, .slice none 0 0, .slice none 0 0] 26 (0, 0)) from hV ▸ (Ext.alloc _ _).block (heap_at _ _ _ hq.symm))
  have HBR := Lib.hid (show V.heap[q + 1]? = some (.cells #[.int .i64 0, .slice none 0 0, .slice (some ⟨bA, oA, none⟩) 2 2, .slice none 0 0] 29 (0, 0)) from hV ▸ heap_at _ _ _ (by simp [hq]))
  have XV := Lib.hid (show Ext w V from hV ▸ hx.trans (ext_pair _ _ _))
  have HR2 := Lib.hid (show Rd V (some ⟨bA, oA, none⟩) 2 (([1, 512] : List UInt16).map cW) from hV ▸ hrd.ext (ext_pair _ _ _))
  rw [hq]
  clear hV hq hrd hx
  have hI0 : kInv q bA oA V (Array.replicate 39 false) (kFR q bA oA fun _ => undef) V.drew := ⟨_, rfl, Ext.draw _, fun i hi hl => by rw [none39 i hi] at hl; cases hl⟩
  refine wp_region_inv (kInv q bA oA V) (by kernel_rfl) (kord (by kernel_rfl)) hI0 ?step ?done
  case step =>
    intro listed a w1 i o ho hall hI
    obtain ⟨u, rfl, hx0, hG⟩ := hI
    have hi : i < 39 := (Array.getElem?_eq_some_iff.1 ho).1
    obtain ⟨c0, c1, c2, c3⟩ := cells4 (hx0.block HBR.out)
    have hR2 := HR2.out.ext hx0
    match i, hi with
    | 0, _ =>
      obtain rfl := Option.some.inj (show some _ = some o from ho)
      refine ⟨rfl, kwp_val (d := 15) rfl (v := .agg #[.int .i64 0, .slice none 0 0, .slice (some ⟨bA, oA, none⟩) 2 2, .slice none 0 0]) (w' := w1) (by simp [execOp, kFR, Act.eval, go_sem, c0, c1, c2, c3]) ?_⟩
      rw [show (kFR q bA oA u).put (some 15) (.agg #[.int .i64 0, .slice none 0 0, .slice (some ⟨bA, oA, none⟩) 2 2, .slice none 0 0]) = kFR q bA oA (kupd u (kDS 0) (.agg #[.int .i64 0, .slice none 0 0, .slice (some ⟨bA, oA, none⟩) 2 2, .slice none 0 0])) from by kernel_rfl]
      refine kinv_step (by omega) hx0 hG (Ext.refl _) ?_
      show IsRep w1 (kupd u 15 (.agg #[.int .i64 0, .slice none 0 0, .slice (some ⟨bA, oA, none⟩) 2 2, .slice none 0 0]) 15)
      rw [kupd_at]
      exact rep_mk (on := []) (fs := []) (Rd.nil_ _) hR2 (RdL.nil_ _ _ _) (by omega) ⟨Nat.le_refl _, by omega⟩ ⟨Nat.le_refl _, by omega⟩ ⟨Nat.le_refl _, by omega⟩
    | 1, _ =>
      obtain rfl := Option.some.inj (show some _ = some o from ho)
      refine ⟨rfl, kwp_val (d := 16) rfl (v := .agg #[.int .i64 0, .slice none 0 0, .slice none 0 0, .slice none 0 0]) (w' := w1) (by kernel_rfl) ?_⟩
      rw [show (kFR q bA oA u).put (some 16) (.agg #[.int .i64 0, .slice none 0 0, .slice none 0 0, .slice none 0 0]) = kFR q bA oA (kupd u (kDS 1) (.agg #[.int .i64 0, .slice none 0 0, .slice none 0 0, .slice none 0 0])) from by kernel_rfl]
      refine kinv_step (by omega) hx0 hG (Ext.refl _) ?_
      show IsRep w1 (kupd u 16 (.agg #[.int .i64 0, .slice none 0 0, .slice none 0 0, .slice none 0 0]) 16)
      rw [kupd_at]
      exact rep_mk (on := []) (set := []) (fs := []) (Rd.nil_ _) (Rd.nil_ _) (RdL.nil_ _ _ _) (by omega) ⟨Nat.le_refl _, by omega⟩ ⟨Nat.le_refl _, by omega⟩ ⟨Nat.le_refl _, by omega⟩
    | 2, _ =>
      obtain rfl := Option.some.inj (show some _ = some o from ho)
      refine ⟨rfl, kwp_val (d := 17) rfl (v := .agg #[.int .i64 2, .slice none 0 0, .slice none 0 0, .slice none 0 0]) (w' := w1) (by kernel_rfl) ?_⟩
      rw [show (kFR q bA oA u).put (some 17) (.agg #[.int .i64 2, .slice none 0 0, .slice none 0 0, .slice none 0 0]) = kFR q bA oA (kupd u (kDS 2) (.agg #[.int .i64 2, .slice none 0 0, .slice none 0 0, .slice none 0 0])) from by kernel_rfl]
      refine kinv_step (by omega) hx0 hG (Ext.refl _) ?_
      show IsRep w1 (kupd u 17 (.agg #[.int .i64 2, .slice none 0 0, .slice none 0 0, .slice none 0 0]) 17)
      rw [kupd_at]
      exact rep_mk (on := []) (set := []) (fs := []) (Rd.nil_ _) (Rd.nil_ _) (RdL.nil_ _ _ _) (by omega) ⟨Nat.le_refl _, by omega⟩ ⟨Nat.le_refl _, by omega⟩ ⟨Nat.le_refl _, by omega⟩
    | 3, _ =>
      obtain rfl := Option.some.inj (show some _ = some o from ho)
      refine ⟨rfl, kwp_val (d := 18) rfl (v := .agg #[.int .i64 128, .slice none 0 0, .slice none 0 0, .slice none 0 0]) (w' := w1) (by kernel_rfl) ?_⟩
      rw [show (kFR q bA oA u).put (some 18) (.agg #[.int .i64 128, .slice none 0 0, .slice none 0 0, .slice none 0 0]) = kFR q bA oA (kupd u (kDS 3) (.agg #[.int .i64 128, .slice none 0 0, .slice none 0 0, .slice none 0 0])) from by kernel_rfl]
      refine kinv_step (by omega) hx0 hG (Ext.refl _) ?_
      show IsRep w1 (kupd u 18 (.agg #[.int .i64 128, .slice none 0 0, .slice none 0 0, .slice none 0 0]) 18)
      rw [kupd_at]
      exact rep_mk (on := []) (set := []) (fs := []) (Rd.nil_ _) (Rd.nil_ _) (RdL.nil_ _ _ _) (by omega) ⟨Nat.le_refl _, by omega⟩ ⟨Nat.le_refl _, by omega⟩ ⟨Nat.le_refl _, by omega⟩
    | 4, _ =>
      obtain rfl := Option.some.inj (show some _ = some o from ho)
      refine ⟨rfl, kwp_val (d := 19) rfl (v := .agg #[.int .i64 (-1), .slice none 0 0, .slice none 0 0, .slice none 0 0]) (w' := w1) (by kernel_rfl) ?_⟩
      rw [show (kFR q bA oA u).put (some 19) (.agg #[.int .i64 (-1), .slice none 0 0, .slice none 0 0, .slice none 0 0]) = kFR q bA oA (kupd u (kDS 4) (.agg #[.int .i64 (-1), .slice none 0 0, .slice none 0 0, .slice none 0 0])) from by kernel_rfl]
      refine kinv_step (by omega) hx0 hG (Ext.refl _) ?_
      show IsRep w1 (kupd u 19 (.agg #[.int .i64 (-1), .slice none 0 0, .slice none 0 0, .slice none 0 0]) 19)
      rw [kupd_at]
      exact rep_mk (on := []) (set := []) (fs := []) (Rd.nil_ _) (Rd.nil_ _) (RdL.nil_ _ _ _) (by omega) ⟨Nat.le_refl _, by omega⟩ ⟨Nat.le_refl _, by omega⟩ ⟨Nat.le_refl _, by omega⟩
    | 5, _ =>
      obtain rfl := Option.some.inj (show some _ = some o from ho)
      refine ⟨rfl, kwp_val (d := 20) rfl (v := .pointer (some ⟨q + 1, 2, none⟩)) (w' := w1) (by kernel_rfl) ?_⟩
      rw [show (kFR q bA oA u).put (some 20) (.pointer (some ⟨q + 1, 2, none⟩)) = kFR q bA oA (kupd u (kDS 5) (.pointer (some ⟨q + 1, 2, none⟩))) from by kernel_rfl]
      refine kinv_step (by omega) hx0 hG (Ext.refl _) ?_
      show kupd u 20 (.pointer (some ⟨q + 1, 2, none⟩)) 20 = .pointer (some ⟨q + 1, 2, none⟩)
      rw [kupd_at]
    | 6, _ =>
      obtain rfl := Option.some.inj (show some _ = some o from ho)
      have h1 : u 20 = .pointer (some ⟨q + 1, 2, none⟩) := hG 5 (by omega) (kedge hall 5 (by kernel_rfl))
      have eF : kFR q bA oA u = ⟨#[.bool false, .pointer (some ⟨q, 0, none⟩), .pointer (some ⟨q + 1, 0, none⟩), u 3, undef, undef, undef, undef, undef, undef, undef, .tuple #[.agg #[.int .i64 3, .int .i64 0, .int .i64 2, .slice none 0 0, .slice none 0 0, .slice none 0 0], .agg #[.int .i64 0, .slice none 0 0, .slice (some ⟨bA, oA, none⟩) 2 2, .slice none 0 0]], .tuple #[.agg #[.int .i64 3, .int .i64 0, .int .i64 2, .slice none 0 0, .slice none 0 0, .slice none 0 0], .agg #[.int .i64 0, .slice none 0 0, .slice (some ⟨bA, oA, none⟩) 2 2, .slice none 0 0]], .agg #[.int .i64 3, .int .i64 0, .int .i64 2, .slice none 0 0, .slice none 0 0, .slice none 0 0], .agg #[.int .i64 0, .slice none 0 0, .slice (some ⟨bA, oA, none⟩) 2 2, .slice none 0 0], u 15, u 16, u 17, u 18, u 19, .pointer (some ⟨q + 1, 2, none⟩), u 21, u 22, u 23, u 24, u 25, u 26, u 27, u 28, u 29, u 30, u 31, u 32, u 33, u 34, u 35, u 36, u 37, u 38, u 39, u 40, u 41, u 42, u 43, u 44, u 45, u 46, u 47, u 48, u 49, u 50, u 51, u 52, undef, undef, undef, undef, undef, undef, undef, undef, undef, undef, undef, undef, undef, undef, undef, undef, undef, undef, undef, undef, undef, undef, undef, undef, undef, undef, undef, undef, undef, undef, undef, undef, undef, undef, undef, undef, undef, undef, undef, undef, undef, undef, undef, undef, undef, undef, undef, undef, undef, undef, undef, undef, undef, undef, undef, undef, undef, undef, undef, undef, undef, undef, undef, undef, undef, undef, undef, undef, undef, undef, undef, undef, undef, undef, undef, undef, undef, undef, undef, undef, undef, undef, undef, undef, undef, undef, undef, undef, undef, undef, undef, undef, undef, undef, undef, undef, undef, undef, undef, undef, undef, undef, undef, undef, undef, undef, undef, undef, undef, undef, undef, undef, undef, undef, undef, undef, undef, undef, undef, undef, undef, undef, undef, undef, undef, undef, undef, undef, undef, undef, undef, undef, undef, undef, undef, undef, undef, undef, undef, undef, undef, undef, undef, undef, undef, undef, undef, undef], []⟩ := by unfold kFR; rw [h1]
      refine ⟨rfl, kwp_val (d := 21) rfl (v := .slice (some ⟨bA, oA, none⟩) 2 2) (w' := w1) (by rw [eF]; simp [execOp, Act.eval, go_sem, c0, c1, c2, c3]) ?_⟩
      rw [show (kFR q bA oA u).put (some 21) (.slice (some ⟨bA, oA, none⟩) 2 2) = kFR q bA oA (kupd u (kDS 6) (.slice (some ⟨bA, oA, none⟩) 2 2)) from by kernel_rfl]
      refine kinv_step (by omega) hx0 hG (Ext.refl _) ?_
      show kupd u 21 (.slice (some ⟨bA, oA, none⟩) 2 2) 21 = .slice (some ⟨bA, oA, none⟩) 2 2
      rw [kupd_at]
    | 7, _ =>
      obtain rfl := Option.some.inj (show some _ = some o from ho)
      have h1 : u 21 = .slice (some ⟨bA, oA, none⟩) 2 2 := hG 6 (by omega) (kedge hall 6 (by kernel_rfl))
      have eF : kFR q bA oA u = ⟨#[.bool false, .pointer (some ⟨q, 0, none⟩), .pointer (some ⟨q + 1, 0, none⟩), u 3, undef, undef, undef, undef, undef, undef, undef, .tuple #[.agg #[.int .i64 3, .int .i64 0, .int .i64 2, .slice none 0 0, .slice none 0 0, .slice none 0 0], .agg #[.int .i64 0, .slice none 0 0, .slice (some ⟨bA, oA, none⟩) 2 2, .slice none 0 0]], .tuple #[.agg #[.int .i64 3, .int .i64 0, .int .i64 2, .slice none 0 0, .slice none 0 0, .slice none 0 0], .agg #[.int .i64 0, .slice none 0 0, .slice (some ⟨bA, oA, none⟩) 2 2, .slice none 0 0]], .agg #[.int .i64 3, .int .i64 0, .int .i64 2, .slice none 0 0, .slice none 0 0, .slice none 0 0], .agg #[.int .i64 0, .slice none 0 0, .slice (some ⟨bA, oA, none⟩) 2 2, .slice none 0 0], u 15, u 16, u 17, u 18, u 19, u 20, .slice (some ⟨bA, oA, none⟩) 2 2, u 22, u 23, u 24, u 25, u 26, u 27, u 28, u 29, u 30, u 31, u 32, u 33, u 34, u 35, u 36, u 37, u 38, u 39, u 40, u 41, u 42, u 43, u 44, u 45, u 46, u 47, u 48, u 49, u 50, u 51, u 52, undef, undef, undef, undef, undef, undef, undef, undef, undef, undef, undef, undef, undef, undef, undef, undef, undef, undef, undef, undef, undef, undef, undef, undef, undef, undef, undef, undef, undef, undef, undef, undef, undef, undef, undef, undef, undef, undef, undef, undef, undef, undef, undef, undef, undef, undef, undef, undef, undef, undef, undef, undef, undef, undef, undef, undef, undef, undef, undef, undef, undef, undef, undef, undef, undef, undef, undef, undef, undef, undef, undef, undef, undef, undef, undef, undef, undef, undef, undef, undef, undef, undef, undef, undef, undef, undef, undef, undef, undef, undef, undef, undef, undef, undef, undef, undef, undef, undef, undef, undef, undef, undef, undef, undef, undef, undef, undef, undef, undef, undef, undef, undef, undef, undef, undef, undef, undef, undef, undef, undef, undef, undef, undef, undef, undef, undef, undef, undef, undef, undef, undef, undef, undef, undef, undef, undef, undef, undef, undef, undef, undef, undef, undef, undef, undef, undef, undef, undef], []⟩ := by unfold kFR; rw [h1]
      refine ⟨rfl, kwp_val (d := 22) rfl (v := .agg #[.int .i64 2, .slice none 0 0, .slice (some ⟨bA, oA, none⟩) 2 2, .slice none 0 0]) (w' := w1) (by rw [eF]; kernel_rfl) ?_⟩
      rw [show (kFR q bA oA u).put (some 22) (.agg #[.int .i64 2, .slice none 0 0, .slice (some ⟨bA, oA, none⟩) 2 2, .slice none 0 0]) = kFR q bA oA (kupd u (kDS 7) (.agg #[.int .i64 2, .slice none 0 0, .slice (some ⟨bA, oA, none⟩) 2 2, .slice none 0 0])) from by kernel_rfl]
      refine kinv_step (by omega) hx0 hG (Ext.refl _) ?_
      show IsRep w1 (kupd u 22 (.agg #[.int .i64 2, .slice none 0 0, .slice (some ⟨bA, oA, none⟩) 2 2, .slice none 0 0]) 22)
      rw [kupd_at]
      exact rep_mk (on := []) (fs := []) (Rd.nil_ _) hR2 (RdL.nil_ _ _ _) (by omega) ⟨Nat.le_refl _, by omega⟩ ⟨Nat.le_refl _, by omega⟩ ⟨Nat.le_refl _, by omega⟩
    | 8, _ =>
      obtain rfl := Option.some.inj (show some _ = some o from ho)
      refine ⟨rfl, kwp_val (d := 23) rfl (v := .slice (some ⟨w1.heap.size, 0, none⟩) 1 1) (w' := w1.alloc (.cells #[.bool true] 4)) (by kernel_rfl) ?_⟩
      rw [show (kFR q bA oA u).put (some 23) (.slice (some ⟨w1.heap.size, 0, none⟩) 1 1) = kFR q bA oA (kupd u (kDS 8) (.slice (some ⟨w1.heap.size, 0, none⟩) 1 1)) from by kernel_rfl]
      refine kinv_step (by omega) hx0 hG (Ext.alloc _ _) ?_
      show IsBoS 1 (w1.alloc (.cells #[.bool true] 4)) (kupd u 23 (.slice (some ⟨w1.heap.size, 0, none⟩) 1 1) 23)
      rw [kupd_at]
      exact ⟨_, [true], rfl, Rd.of_heap (ys := []) (heap_alloc_new w1 _) rfl rfl⟩
    | 9, _ =>
      obtain rfl := Option.some.inj (show some _ = some o from ho)
      obtain ⟨g, l, h1, h2⟩ : IsBoS 1 w1 (u 23) := hG 8 (by omega) (kedge hall 8 (by kernel_rfl))
      have eF : kFR q bA oA u = ⟨#[.bool false, .pointer (some ⟨q, 0, none⟩), .pointer (some ⟨q + 1, 0, none⟩), u 3, undef, undef, undef, undef, undef, undef, undef, .tuple #[.agg #[.int .i64 3, .int .i64 0, .int .i64 2, .slice none 0 0, .slice none 0 0, .slice none 0 0], .agg #[.int .i64 0, .slice none 0 0, .slice (some ⟨bA, oA, none⟩) 2 2, .slice none 0 0]], .tuple #[.agg #[.int .i64 3, .int .i64 0, .int .i64 2, .slice none 0 0, .slice none 0 0, .slice none 0 0], .agg #[.int .i64 0, .slice none 0 0, .slice (some ⟨bA, oA, none⟩) 2 2, .slice none 0 0]], .agg #[.int .i64 3, .int .i64 0, .int .i64 2, .slice none 0 0, .slice none 0 0, .slice none 0 0], .agg #[.int .i64 0, .slice none 0 0, .slice (some ⟨bA, oA, none⟩) 2 2, .slice none 0 0], u 15, u 16, u 17, u 18, u 19, u 20, u 21, u 22, .slice (some ⟨g, 0, none⟩) 1 1, u 24, u 25, u 26, u 27, u 28, u 29, u 30, u 31, u 32, u 33, u 34, u 35, u 36, u 37, u 38, u 39, u 40, u 41, u 42, u 43, u 44, u 45, u 46, u 47, u 48, u 49, u 50, u 51, u 52, undef, undef, undef, undef, undef, undef, undef, undef, undef, undef, undef, undef, undef, undef, undef, undef, undef, undef, undef, undef, undef, undef, undef, undef, undef, undef, undef, undef, undef, undef, undef, undef, undef, undef, undef, undef, undef, undef, undef, undef, undef, undef, undef, undef, undef, undef, undef, undef, undef, undef, undef, undef, undef, undef, undef, undef, undef, undef, undef, undef, undef, undef, undef, undef, undef, undef, undef, undef, undef, undef, undef, undef, undef, undef, undef, undef, undef, undef, undef, undef, undef, undef, undef, undef, undef, undef, undef, undef, undef, undef, undef, undef, undef, undef, undef, undef, undef, undef, undef, undef, undef, undef, undef, undef, undef, undef, undef, undef, undef, undef, undef, undef, undef, undef, undef, undef, undef, undef, undef, undef, undef, undef, undef, undef, undef, undef, undef, undef, undef, undef, undef, undef, undef, undef, undef, undef, undef, undef, undef, undef, undef, undef, undef, undef, undef, undef, undef, undef], []⟩ := by unfold kFR; rw [h1]
      refine ⟨rfl, kwp_val (d := 24) rfl (v := .agg #[.int .i64 0, .slice (some ⟨g, 0, none⟩) 1 1, .slice none 0 0, .slice none 0 0]) (w' := w1) (by rw [eF]; kernel_rfl) ?_⟩
      rw [show (kFR q bA oA u).put (some 24) (.agg #[.int .i64 0, .slice (some ⟨g, 0, none⟩) 1 1, .slice none 0 0, .slice none 0 0]) = kFR q bA oA (kupd u (kDS 9) (.agg #[.int .i64 0, .slice (some ⟨g, 0, none⟩) 1 1, .slice none 0 0, .slice none 0 0])) from by kernel_rfl]
      refine kinv_step (by omega) hx0 hG (Ext.refl _) ?_
      show IsRep w1 (kupd u 24 (.agg #[.int .i64 0, .slice (some ⟨g, 0, none⟩) 1 1, .slice none 0 0, .slice none 0 0]) 24)
      rw [kupd_at]
      exact rep_mk (set := []) (fs := []) h2 (Rd.nil_ _) (RdL.nil_ _ _ _) (by omega) ⟨Nat.le_refl _, by omega⟩ ⟨Nat.le_refl _, by omega⟩ ⟨Nat.le_refl _, by omega⟩
    | 10, _ =>
      obtain rfl := Option.some.inj (show some _ = some o from ho)
      refine ⟨rfl, kwp_val (d := 25) rfl (v := .slice (some ⟨w1.heap.size, 0, none⟩) 10 10) (w' := w1.alloc (.cells (mkB 10) 4)) (krun_v (make_mkB 10 (by omega) w1)) ?_⟩
      rw [show (kFR q bA oA u).put (some 25) (.slice (some ⟨w1.heap.size, 0, none⟩) 10 10) = kFR q bA oA (kupd u (kDS 10) (.slice (some ⟨w1.heap.size, 0, none⟩) 10 10)) from by kernel_rfl]
      refine kinv_step (by omega) hx0 hG (Ext.alloc _ _) ?_
      show IsBoS 10 (w1.alloc (.cells (mkB 10) 4)) (kupd u 25 (.slice (some ⟨w1.heap.size, 0, none⟩) 10 10) 25)
      rw [kupd_at]
      exact ⟨_, _, rfl, rd_mkB w1 10⟩
    | 11, _ =>
      obtain rfl := Option.some.inj (show some _ = some o from ho)
      obtain ⟨g, l, h1, h2⟩ : IsBoS 10 w1 (u 25) := hG 10 (by omega) (kedge hall 10 (by kernel_rfl))
      have eF : kFR q bA oA u = ⟨#[.bool false, .pointer (some ⟨q, 0, none⟩), .pointer (some ⟨q + 1, 0, none⟩), u 3, undef, undef, undef, undef, undef, undef, undef, .tuple #[.agg #[.int .i64 3, .int .i64 0, .int .i64 2, .slice none 0 0, .slice none 0 0, .slice none 0 0], .agg #[.int .i64 0, .slice none 0 0, .slice (some ⟨bA, oA, none⟩) 2 2, .slice none 0 0]], .tuple #[.agg #[.int .i64 3, .int .i64 0, .int .i64 2, .slice none 0 0, .slice none 0 0, .slice none 0 0], .agg #[.int .i64 0, .slice none 0 0, .slice (some ⟨bA, oA, none⟩) 2 2, .slice none 0 0]], .agg #[.int .i64 3, .int .i64 0, .int .i64 2, .slice none 0 0, .slice none 0 0, .slice none 0 0], .agg #[.int .i64 0, .slice none 0 0, .slice (some ⟨bA, oA, none⟩) 2 2, .slice none 0 0], u 15, u 16, u 17, u 18, u 19, u 20, u 21, u 22, u 23, u 24, .slice (some ⟨g, 0, none⟩) 10 10, u 26, u 27, u 28, u 29, u 30, u 31, u 32, u 33, u 34, u 35, u 36, u 37, u 38, u 39, u 40, u 41, u 42, u 43, u 44, u 45, u 46, u 47, u 48, u 49, u 50, u 51, u 52, undef, undef, undef, undef, undef, undef, undef, undef, undef, undef, undef, undef, undef, undef, undef, undef, undef, undef, undef, undef, undef, undef, undef, undef, undef, undef, undef, undef, undef, undef, undef, undef, undef, undef, undef, undef, undef, undef, undef, undef, undef, undef, undef, undef, undef, undef, undef, undef, undef, undef, undef, undef, undef, undef, undef, undef, undef, undef, undef, undef, undef, undef, undef, undef, undef, undef, undef, undef, undef, undef, undef, undef, undef, undef, undef, undef, undef, undef, undef, undef, undef, undef, undef, undef, undef, undef, undef, undef, undef, undef, undef, undef, undef, undef, undef, undef, undef, undef, undef, undef, undef, undef, undef, undef, undef, undef, undef, undef, undef, undef, undef, undef, undef, undef, undef, undef, undef, undef, undef, undef, undef, undef, undef, undef, undef, undef, undef, undef, undef, undef, undef, undef, undef, undef, undef, undef, undef, undef, undef, undef, undef, undef, undef, undef, undef, undef, undef, undef], []⟩ := by unfold kFR; rw [h1]
      refine ⟨rfl, kwp_val (d := 26) rfl (v := .agg #[.int .i64 0, .slice (some ⟨g, 0, none⟩) 10 10, .slice none 0 0, .slice none 0 0]) (w' := w1) (by rw [eF]; kernel_rfl) ?_⟩
      rw [show (kFR q bA oA u).put (some 26) (.agg #[.int .i64 0, .slice (some ⟨g, 0, none⟩) 10 10, .slice none 0 0, .slice none 0 0]) = kFR q bA oA (kupd u (kDS 11) (.agg #[.int .i64 0, .slice (some ⟨g, 0, none⟩) 10 10, .slice none 0 0, .slice none 0 0])) from by kernel_rfl]
      refine kinv_step (by omega) hx0 hG (Ext.refl _) ?_
      show IsRep w1 (kupd u 26 (.agg #[.int .i64 0, .slice (some ⟨g, 0, none⟩) 10 10, .slice none 0 0, .slice none 0 0]) 26)
      rw [kupd_at]
      exact rep_mk (set := []) (fs := []) h2 (Rd.nil_ _) (RdL.nil_ _ _ _) (by omega) ⟨Nat.le_refl _, by omega⟩ ⟨Nat.le_refl _, by omega⟩ ⟨Nat.le_refl _, by omega⟩
    | 12, _ =>
      obtain rfl := Option.some.inj (show some _ = some o from ho)
      refine ⟨rfl, kwp_val (d := 27) rfl (v := .slice (some ⟨w1.heap.size, 0, none⟩) 8 8) (w' := w1.alloc (.cells (mkB 8) 4)) (krun_v (make_mkB 8 (by omega) w1)) ?_⟩
      rw [show (kFR q bA oA u).put (some 27) (.slice (some ⟨w1.heap.size, 0, none⟩) 8 8) = kFR q bA oA (kupd u (kDS 12) (.slice (some ⟨w1.heap.size, 0, none⟩) 8 8)) from by kernel_rfl]
      refine kinv_step (by omega) hx0 hG (Ext.alloc _ _) ?_
      show IsBoS 8 (w1.alloc (.cells (mkB 8) 4)) (kupd u 27 (.slice (some ⟨w1.heap.size, 0, none⟩) 8 8) 27)
      rw [kupd_at]
      exact ⟨_, _, rfl, rd_mkB w1 8⟩
    | 13, _ =>
      obtain rfl := Option.some.inj (show some _ = some o from ho)
      obtain ⟨g, l, h1, h2⟩ : IsBoS 8 w1 (u 27) := hG 12 (by omega) (kedge hall 12 (by kernel_rfl))
      have eF : kFR q bA oA u = ⟨#[.bool false, .pointer (some ⟨q, 0, none⟩), .pointer (some ⟨q + 1, 0, none⟩), u 3, undef, undef, undef, undef, undef, undef, undef, .tuple #[.agg #[.int .i64 3, .int .i64 0, .int .i64 2, .slice none 0 0, .slice none 0 0, .slice none 0 0], .agg #[.int .i64 0, .slice none 0 0, .slice (some ⟨bA, oA, none⟩) 2 2, .slice none 0 0]], .tuple #[.agg #[.int .i64 3, .int .i64 0, .int .i64 2, .slice none 0 0, .slice none 0 0, .slice none 0 0], .agg #[.int .i64 0, .slice none 0 0, .slice (some ⟨bA, oA, none⟩) 2 2, .slice none 0 0]], .agg #[.int .i64 3, .int .i64 0, .int .i64 2, .slice none 0 0, .slice none 0 0, .slice none 0 0], .agg #[.int .i64 0, .slice none 0 0, .slice (some ⟨bA, oA, none⟩) 2 2, .slice none 0 0], u 15, u 16, u 17, u 18, u 19, u 20, u 21, u 22, u 23, u 24, u 25, u 26, .slice (some ⟨g, 0, none⟩) 8 8, u 28, u 29, u 30, u 31, u 32, u 33, u 34, u 35, u 36, u 37, u 38, u 39, u 40, u 41, u 42, u 43, u 44, u 45, u 46, u 47, u 48, u 49, u 50, u 51, u 52, undef, undef, undef, undef, undef, undef, undef, undef, undef, undef, undef, undef, undef, undef, undef, undef, undef, undef, undef, undef, undef, undef, undef, undef, undef, undef, undef, undef, undef, undef, undef, undef, undef, undef, undef, undef, undef, undef, undef, undef, undef, undef, undef, undef, undef, undef, undef, undef, undef, undef, undef, undef, undef, undef, undef, undef, undef, undef, undef, undef, undef, undef, undef, undef, undef, undef, undef, undef, undef, undef, undef, undef, undef, undef, undef, undef, undef, undef, undef, undef, undef, undef, undef, undef, undef, undef, undef, undef, undef, undef, undef, undef, undef, undef, undef, undef, undef, undef, undef, undef, undef, undef, undef, undef, undef, undef, undef, undef, undef, undef, undef, undef, undef, undef, undef, undef, undef, undef, undef, undef, undef, undef, undef, undef, undef, undef, undef, undef, undef, undef, undef, undef, undef, undef, undef, undef, undef, undef, undef, undef, undef, undef, undef, undef, undef, undef, undef, undef], []⟩ := by unfold kFR; rw [h1]
      refine ⟨rfl, kwp_val (d := 28) rfl (v := .agg #[.int .i64 0, .slice (some ⟨g, 0, none⟩) 8 8, .slice none 0 0, .slice none 0 0]) (w' := w1) (by rw [eF]; kernel_rfl) ?_⟩
      rw [show (kFR q bA oA u).put (some 28) (.agg #[.int .i64 0, .slice (some ⟨g, 0, none⟩) 8 8, .slice none 0 0, .slice none 0 0]) = kFR q bA oA (kupd u (kDS 13) (.agg #[.int .i64 0, .slice (some ⟨g, 0, none⟩) 8 8, .slice none 0 0, .slice none 0 0])) from by kernel_rfl]
      refine kinv_step (by omega) hx0 hG (Ext.refl _) ?_
      show IsRep w1 (kupd u 28 (.agg #[.int .i64 0, .slice (some ⟨g, 0, none⟩) 8 8, .slice none 0 0, .slice none 0 0]) 28)
      rw [kupd_at]
      exact rep_mk (set := []) (fs := []) h2 (Rd.nil_ _) (RdL.nil_ _ _ _) (by omega) ⟨Nat.le_refl _, by omega⟩ ⟨Nat.le_refl _, by omega⟩ ⟨Nat.le_refl _, by omega⟩
    | 14, _ =>
      obtain rfl := Option.some.inj (show some _ = some o from ho)
      refine ⟨rfl, kwp_val (d := 29) rfl (v := .pointer (some ⟨q + 1, 2, none⟩)) (w' := w1) (by kernel_rfl) ?_⟩
      rw [show (kFR q bA oA u).put (some 29) (.pointer (some ⟨q + 1, 2, none⟩)) = kFR q bA oA (kupd u (kDS 14) (.pointer (some ⟨q + 1, 2, none⟩))) from by kernel_rfl]
      refine kinv_step (by omega) hx0 hG (Ext.refl _) ?_
      show kupd u 29 (.pointer (some ⟨q + 1, 2, none⟩)) 29 = .pointer (some ⟨q + 1, 2, none⟩)
      rw [kupd_at]
    | 15, _ =>
      obtain rfl := Option.some.inj (show some _ = some o from ho)
      have h1 : u 29 = .pointer (some ⟨q + 1, 2, none⟩) := hG 14 (by omega) (kedge hall 14 (by kernel_rfl))
      have eF : kFR q bA oA u = ⟨#[.bool false, .pointer (some ⟨q, 0, none⟩), .pointer (some ⟨q + 1, 0, none⟩), u 3, undef, undef, undef, undef, undef, undef, undef, .tuple #[.agg #[.int .i64 3, .int .i64 0, .int .i64 2, .slice none 0 0, .slice none 0 0, .slice none 0 0], .agg #[.int .i64 0, .slice none 0 0, .slice (some ⟨bA, oA, none⟩) 2 2, .slice none 0 0]], .tuple #[.agg #[.int .i64 3, .int .i64 0, .int .i64 2, .slice none 0 0, .slice none 0 0, .slice none 0 0], .agg #[.int .i64 0, .slice none 0 0, .slice (some ⟨bA, oA, none⟩) 2 2, .slice none 0 0]], .agg #[.int .i64 3, .int .i64 0, .int .i64 2, .slice none 0 0, .slice none 0 0, .slice none 0 0], .agg #[.int .i64 0, .slice none 0 0, .slice (some ⟨bA, oA, none⟩) 2 2, .slice none 0 0], u 15, u 16, u 17, u 18, u 19, u 20, u 21, u 22, u 23, u 24, u 25, u 26, u 27, u 28, .pointer (some ⟨q + 1, 2, none⟩), u 30, u 31, u 32, u 33, u 34, u 35, u 36, u 37, u 38, u 39, u 40, u 41, u 42, u 43, u 44, u 45, u 46, u 47, u 48, u 49, u 50, u 51, u 52, undef, undef, undef, undef, undef, undef, undef, undef, undef, undef, undef, undef, undef, undef, undef, undef, undef, undef, undef, undef, undef, undef, undef, undef, undef, undef, undef, undef, undef, undef, undef, undef, undef, undef, undef, undef, undef, undef, undef, undef, undef, undef, undef, undef, undef, undef, undef, undef, undef, undef, undef, undef, undef, undef, undef, undef, undef, undef, undef, undef, undef, undef, undef, undef, undef, undef, undef, undef, undef, undef, undef, undef, undef, undef, undef, undef, undef, undef, undef, undef, undef, undef, undef, undef, undef, undef, undef, undef, undef, undef, undef, undef, undef, undef, undef, undef, undef, undef, undef, undef, undef, undef, undef, undef, undef, undef, undef, undef, undef, undef, undef, undef, undef, undef, undef, undef, undef, undef, undef, undef, undef, undef, undef, undef, undef, undef, undef, undef, undef, undef, undef, undef, undef, undef, undef, undef, undef, undef, undef, undef, undef, undef, undef, undef, undef, undef, undef, undef], []⟩ := by unfold kFR; rw [h1]
      refine ⟨rfl, kwp_val (d := 30) rfl (v := .slice (some ⟨bA, oA, none⟩) 2 2) (w' := w1) (by rw [eF]; simp [execOp, Act.eval, go_sem, c0, c1, c2, c3]) ?_⟩
      rw [show (kFR q bA oA u).put (some 30) (.slice (some ⟨bA, oA, none⟩) 2 2) = kFR q bA oA (kupd u (kDS 15) (.slice (some ⟨bA, oA, none⟩) 2 2)) from by kernel_rfl]
      refine kinv_step (by omega) hx0 hG (Ext.refl _) ?_
      show kupd u 30 (.slice (some ⟨bA, oA, none⟩) 2 2) 30 = .slice (some ⟨bA, oA, none⟩) 2 2
      rw [kupd_at]
    | 16, _ =>
      obtain rfl := Option.some.inj (show some _ = some o from ho)
      have h1 : u 30 = .slice (some ⟨bA, oA, none⟩) 2 2 := hG 15 (by omega) (kedge hall 15 (by kernel_rfl))
      have eF : kFR q bA oA u = ⟨#[.bool false, .pointer (some ⟨q, 0, none⟩), .pointer (some ⟨q + 1, 0, none⟩), u 3, undef, undef, undef, undef, undef, undef, undef, .tuple #[.agg #[.int .i64 3, .int .i64 0, .int .i64 2, .slice none 0 0, .slice none 0 0, .slice none 0 0], .agg #[.int .i64 0, .slice none 0 0, .slice (some ⟨bA, oA, none⟩) 2 2, .slice none 0 0]], .tuple #[.agg #[.int .i64 3, .int .i64 0, .int .i64 2, .slice none 0 0, .slice none 0 0, .slice none 0 0], .agg #[.int .i64 0, .slice none 0 0, .slice (some ⟨bA, oA, none⟩) 2 2, .slice none 0 0]], .agg #[.int .i64 3, .int .i64 0, .int .i64 2, .slice none 0 0, .slice none 0 0, .slice none 0 0], .agg #[.int .i64 0, .slice none 0 0, .slice (some ⟨bA, oA, none⟩) 2 2, .slice none 0 0], u 15, u 16, u 17, u 18, u 19, u 20, u 21, u 22, u 23, u 24, u 25, u 26, u 27, u 28, u 29, .slice (some ⟨bA, oA, none⟩) 2 2, u 31, u 32, u 33, u 34, u 35, u 36, u 37, u 38, u 39, u 40, u 41, u 42, u 43, u 44, u 45, u 46, u 47, u 48, u 49, u 50, u 51, u 52, undef, undef, undef, undef, undef, undef, undef, undef, undef, undef, undef, undef, undef, undef, undef, undef, undef, undef, undef, undef, undef, undef, undef, undef, undef, undef, undef, undef, undef, undef, undef, undef, undef, undef, undef, undef, undef, undef, undef, undef, undef, undef, undef, undef, undef, undef, undef, undef, undef, undef, undef, undef, undef, undef, undef, undef, undef, undef, undef, undef, undef, undef, undef, undef, undef, undef, undef, undef, undef, undef, undef, undef, undef, undef, undef, undef, undef, undef, undef, undef, undef, undef, undef, undef, undef, undef, undef, undef, undef, undef, undef, undef, undef, undef, undef, undef, undef, undef, undef, undef, undef, undef, undef, undef, undef, undef, undef, undef, undef, undef, undef, undef, undef, undef, undef, undef, undef, undef, undef, undef, undef, undef, undef, undef, undef, undef, undef, undef, undef, undef, undef, undef, undef, undef, undef, undef, undef, undef, undef, undef, undef, undef, undef, undef, undef, undef, undef, undef], []⟩ := by unfold kFR; rw [h1]
      refine ⟨rfl, kwp_val (d := 31) rfl (v := .slice (some ⟨bA, oA, none⟩) 1 2) (w' := w1) (by rw [eF]; simp [execOp, Act.eval, go_sem, c0, c1, c2, c3]) ?_⟩
      rw [show (kFR q bA oA u).put (some 31) (.slice (some ⟨bA, oA, none⟩) 1 2) = kFR q bA oA (kupd u (kDS 16) (.slice (some ⟨bA, oA, none⟩) 1 2)) from by kernel_rfl]
      refine kinv_step (by omega) hx0 hG (Ext.refl _) ?_
      show kupd u 31 (.slice (some ⟨bA, oA, none⟩) 1 2) 31 = .slice (some ⟨bA, oA, none⟩) 1 2
      rw [kupd_at]
    | 17, _ =>
      obtain rfl := Option.some.inj (show some _ = some o from ho)
      have h1 : u 31 = .slice (some ⟨bA, oA, none⟩) 1 2 := hG 16 (by omega) (kedge hall 16 (by kernel_rfl))
      have eF : kFR q bA oA u = ⟨#[.bool false, .pointer (some ⟨q, 0, none⟩), .pointer (some ⟨q + 1, 0, none⟩), u 3, undef, undef, undef, undef, undef, undef, undef, .tuple #[.agg #[.int .i64 3, .int .i64 0, .int .i64 2, .slice none 0 0, .slice none 0 0, .slice none 0 0], .agg #[.int .i64 0, .slice none 0 0, .slice (some ⟨bA, oA, none⟩) 2 2, .slice none 0 0]], .tuple #[.agg #[.int .i64 3, .int .i64 0, .int .i64 2, .slice none 0 0, .slice none 0 0, .slice none 0 0], .agg #[.int .i64 0, .slice none 0 0, .slice (some ⟨bA, oA, none⟩) 2 2, .slice none 0 0]], .agg #[.int .i64 3, .int .i64 0, .int .i64 2, .slice none 0 0, .slice none 0 0, .slice none 0 0], .agg #[.int .i64 0, .slice none 0 0, .slice (some ⟨bA, oA, none⟩) 2 2, .slice none 0 0], u 15, u 16, u 17, u 18, u 19, u 20, u 21, u 22, u 23, u 24, u 25, u 26, u 27, u 28, u 29, u 30, .slice (some ⟨bA, oA, none⟩) 1 2, u 32, u 33, u 34, u 35, u 36, u 37, u 38, u 39, u 40, u 41, u 42, u 43, u 44, u 45, u 46, u 47, u 48, u 49, u 50, u 51, u 52, undef, undef, undef, undef, undef, undef, undef, undef, undef, undef, undef, undef, undef, undef, undef, undef, undef, undef, undef, undef, undef, undef, undef, undef, undef, undef, undef, undef, undef, undef, undef, undef, undef, undef, undef, undef, undef, undef, undef, undef, undef, undef, undef, undef, undef, undef, undef, undef, undef, undef, undef, undef, undef, undef, undef, undef, undef, undef, undef, undef, undef, undef, undef, undef, undef, undef, undef, undef, undef, undef, undef, undef, undef, undef, undef, undef, undef, undef, undef, undef, undef, undef, undef, undef, undef, undef, undef, undef, undef, undef, undef, undef, undef, undef, undef, undef, undef, undef, undef, undef, undef, undef, undef, undef, undef, undef, undef, undef, undef, undef, undef, undef, undef, undef, undef, undef, undef, undef, undef, undef, undef, undef, undef, undef, undef, undef, undef, undef, undef, undef, undef, undef, undef, undef, undef, undef, undef, undef, undef, undef, undef, undef, undef, undef, undef, undef, undef, undef], []⟩ := by unfold kFR; rw [h1]
      refine ⟨rfl, kwp_val (d := 32) rfl (v := .agg #[.int .i64 0, .slice none 0 0, .slice (some ⟨bA, oA, none⟩) 1 2, .slice none 0 0]) (w' := w1) (by rw [eF]; kernel_rfl) ?_⟩
      rw [show (kFR q bA oA u).put (some 32) (.agg #[.int .i64 0, .slice none 0 0, .slice (some ⟨bA, oA, none⟩) 1 2, .slice none 0 0]) = kFR q bA oA (kupd u (kDS 17) (.agg #[.int .i64 0, .slice none 0 0, .slice (some ⟨bA, oA, none⟩) 1 2, .slice none 0 0])) from by kernel_rfl]
      refine kinv_step (by omega) hx0 hG (Ext.refl _) ?_
      show IsRep w1 (kupd u 32 (.agg #[.int .i64 0, .slice none 0 0, .slice (some ⟨bA, oA, none⟩) 1 2, .slice none 0 0]) 32)
      rw [kupd_at]
      exact rep_mk (on := []) (fs := []) (Rd.nil_ _) (show Rd _ (some ⟨bA, oA, none⟩) 1 (([1] : List UInt16).map cW) from by have h := hR2.take (k := 1) (by omega); exact h) (RdL.nil_ _ _ _) (by omega) ⟨Nat.le_refl _, by omega⟩ ⟨by omega, by omega⟩ ⟨Nat.le_refl _, by omega⟩
    | 18, _ =>
      obtain rfl := Option.some.inj (show some _ = some o from ho)
      refine ⟨rfl, kwp_val (d := 33) rfl (v := .pointer (some ⟨q + 1, 2, none⟩)) (w' := w1) (by kernel_rfl) ?_⟩
      rw [show (kFR q bA oA u).put (some 33) (.pointer (some ⟨q + 1, 2, none⟩)) = kFR q bA oA (kupd u (kDS 18) (.pointer (some ⟨q + 1, 2, none⟩))) from by kernel_rfl]
      refine kinv_step (by omega) hx0 hG (Ext.refl _) ?_
      show kupd u 33 (.pointer (some ⟨q + 1, 2, none⟩)) 33 = .pointer (some ⟨q + 1, 2, none⟩)
      rw [kupd_at]
    | 19, _ =>
      obtain rfl := Option.some.inj (show some _ = some o from ho)
      have h1 : u 33 = .pointer (some ⟨q + 1, 2, none⟩) := hG 18 (by omega) (kedge hall 18 (by kernel_rfl))
      have eF : kFR q bA oA u = ⟨#[.bool false, .pointer (some ⟨q, 0, none⟩), .pointer (some ⟨q + 1, 0, none⟩), u 3, undef, undef, undef, undef, undef, undef, undef, .tuple #[.agg #[.int .i64 3, .int .i64 0, .int .i64 2, .slice none 0 0, .slice none 0 0, .slice none 0 0], .agg #[.int .i64 0, .slice none 0 0, .slice (some ⟨bA, oA, none⟩) 2 2, .slice none 0 0]], .tuple #[.agg #[.int .i64 3, .int .i64 0, .int .i64 2, .slice none 0 0, .slice none 0 0, .slice none 0 0], .agg #[.int .i64 0, .slice none 0 0, .slice (some ⟨bA, oA, none⟩) 2 2, .slice none 0 0]], .agg #[.int .i64 3, .int .i64 0, .int .i64 2, .slice none 0 0, .slice none 0 0, .slice none 0 0], .agg #[.int .i64 0, .slice none 0 0, .slice (some ⟨bA, oA, none⟩) 2 2, .slice none 0 0], u 15, u 16, u 17, u 18, u 19, u 20, u 21, u 22, u 23, u 24, u 25, u 26, u 27, u 28, u 29, u 30, u 31, u 32, .pointer (some ⟨q + 1, 2, none⟩), u 34, u 35, u 36, u 37, u 38, u 39, u 40, u 41, u 42, u 43, u 44, u 45, u 46, u 47, u 48, u 49, u 50, u 51, u 52, undef, undef, undef, undef, undef, undef, undef, undef, undef, undef, undef, undef, undef, undef, undef, undef, undef, undef, undef, undef, undef, undef, undef, undef, undef, undef, undef, undef, undef, undef, undef, undef, undef, undef, undef, undef, undef, undef, undef, undef, undef, undef, undef, undef, undef, undef, undef, undef, undef, undef, undef, undef, undef, undef, undef, undef, undef, undef, undef, undef, undef, undef, undef, undef, undef, undef, undef, undef, undef, undef, undef, undef, undef, undef, undef, undef, undef, undef, undef, undef, undef, undef, undef, undef, undef, undef, undef, undef, undef, undef, undef, undef, undef, undef, undef, undef, undef, undef, undef, undef, undef, undef, undef, undef, undef, undef, undef, undef, undef, undef, undef, undef, undef, undef, undef, undef, undef, undef, undef, undef, undef, undef, undef, undef, undef, undef, undef, undef, undef, undef, undef, undef, undef, undef, undef, undef, undef, undef, undef, undef, undef, undef, undef, undef, undef, undef, undef, undef], []⟩ := by unfold kFR; rw [h1]
      refine ⟨rfl, kwp_val (d := 34) rfl (v := .slice (some ⟨bA, oA, none⟩) 2 2) (w' := w1) (by rw [eF]; simp [execOp, Act.eval, go_sem, c0, c1, c2, c3]) ?_⟩
      rw [show (kFR q bA oA u).put (some 34) (.slice (some ⟨bA, oA, none⟩) 2 2) = kFR q bA oA (kupd u (kDS 19) (.slice (some ⟨bA, oA, none⟩) 2 2)) from by kernel_rfl]
      refine kinv_step (by omega) hx0 hG (Ext.refl _) ?_
      show kupd u 34 (.slice (some ⟨bA, oA, none⟩) 2 2) 34 = .slice (some ⟨bA, oA, none⟩) 2 2
      rw [kupd_at]
    | 20, _ =>
      obtain rfl := Option.some.inj (show some _ = some o from ho)
      refine ⟨rfl, kwp_val (d := 35) rfl (v := .slice (some ⟨w1.heap.size, 0, none⟩) 1 1) (w' := w1.alloc (.cells #[.bool true] 4)) (by kernel_rfl) ?_⟩
      rw [show (kFR q bA oA u).put (some 35) (.slice (some ⟨w1.heap.size, 0, none⟩) 1 1) = kFR q bA oA (kupd u (kDS 20) (.slice (some ⟨w1.heap.size, 0, none⟩) 1 1)) from by kernel_rfl]
      refine kinv_step (by omega) hx0 hG (Ext.alloc _ _) ?_
      show IsBoS 1 (w1.alloc (.cells #[.bool true] 4)) (kupd u 35 (.slice (some ⟨w1.heap.size, 0, none⟩) 1 1) 35)
      rw [kupd_at]
      exact ⟨_, [true], rfl, Rd.of_heap (ys := []) (heap_alloc_new w1 _) rfl rfl⟩
    | 21, _ =>
      obtain rfl := Option.some.inj (show some _ = some o from ho)
      have h0 : u 34 = .slice (some ⟨bA, oA, none⟩) 2 2 := hG 19 (by omega) (kedge hall 19 (by kernel_rfl))
      obtain ⟨g, l, h1, h2⟩ : IsBoS 1 w1 (u 35) := hG 20 (by omega) (kedge hall 20 (by kernel_rfl))
      have eF : kFR q bA oA u = ⟨#[.bool false, .pointer (some ⟨q, 0, none⟩), .pointer (some ⟨q + 1, 0, none⟩), u 3, undef, undef, undef, undef, undef, undef, undef, .tuple #[.agg #[.int .i64 3, .int .i64 0, .int .i64 2, .slice none 0 0, .slice none 0 0, .slice none 0 0], .agg #[.int .i64 0, .slice none 0 0, .slice (some ⟨bA, oA, none⟩) 2 2, .slice none 0 0]], .tuple #[.agg #[.int .i64 3, .int .i64 0, .int .i64 2, .slice none 0 0, .slice none 0 0, .slice none 0 0], .agg #[.int .i64 0, .slice none 0 0, .slice (some ⟨bA, oA, none⟩) 2 2, .slice none 0 0]], .agg #[.int .i64 3, .int .i64 0, .int .i64 2, .slice none 0 0, .slice none 0 0, .slice none 0 0], .agg #[.int .i64 0, .slice none 0 0, .slice (some ⟨bA, oA, none⟩) 2 2, .slice none 0 0], u 15, u 16, u 17, u 18, u 19, u 20, u 21, u 22, u 23, u 24, u 25, u 26, u 27, u 28, u 29, u 30, u 31, u 32, u 33, .slice (some ⟨bA, oA, none⟩) 2 2, .slice (some ⟨g, 0, none⟩) 1 1, u 36, u 37, u 38, u 39, u 40, u 41, u 42, u 43, u 44, u 45, u 46, u 47, u 48, u 49, u 50, u 51, u 52, undef, undef, undef, undef, undef, undef, undef, undef, undef, undef, undef, undef, undef, undef, undef, undef, undef, undef, undef, undef, undef, undef, undef, undef, undef, undef, undef, undef, undef, undef, undef, undef, undef, undef, undef, undef, undef, undef, undef, undef, undef, undef, undef, undef, undef, undef, undef, undef, undef, undef, undef, undef, undef, undef, undef, undef, undef, undef, undef, undef, undef, undef, undef, undef, undef, undef, undef, undef, undef, undef, undef, undef, undef, undef, undef, undef, undef, undef, undef, undef, undef, undef, undef, undef, undef, undef, undef, undef, undef, undef, undef, undef, undef, undef, undef, undef, undef, undef, undef, undef, undef, undef, undef, undef, undef, undef, undef, undef, undef, undef, undef, undef, undef, undef, undef, undef, undef, undef, undef, undef, undef, undef, undef, undef, undef, undef, undef, undef, undef, undef, undef, undef, undef, undef, undef, undef, undef, undef, undef, undef, undef, undef, undef, undef, undef, undef, undef, undef], []⟩ := by unfold kFR; rw [h0, h1]
      refine ⟨rfl, kwp_val (d := 36) rfl (v := .agg #[.int .i64 0, .slice (some ⟨g, 0, none⟩) 1 1, .slice (some ⟨bA, oA, none⟩) 2 2, .slice none 0 0]) (w' := w1) (by rw [eF]; kernel_rfl) ?_⟩
      rw [show (kFR q bA oA u).put (some 36) (.agg #[.int .i64 0, .slice (some ⟨g, 0, none⟩) 1 1, .slice (some ⟨bA, oA, none⟩) 2 2, .slice none 0 0]) = kFR q bA oA (kupd u (kDS 21) (.agg #[.int .i64 0, .slice (some ⟨g, 0, none⟩) 1 1, .slice (some ⟨bA, oA, none⟩) 2 2, .slice none 0 0])) from by kernel_rfl]
      refine kinv_step (by omega) hx0 hG (Ext.refl _) ?_
      show IsRep w1 (kupd u 36 (.agg #[.int .i64 0, .slice (some ⟨g, 0, none⟩) 1 1, .slice (some ⟨bA, oA, none⟩) 2 2, .slice none 0 0]) 36)
      rw [kupd_at]
      exact rep_mk (fs := []) h2 hR2 (RdL.nil_ _ _ _) (by omega) ⟨Nat.le_refl _, by omega⟩ ⟨Nat.le_refl _, by omega⟩ ⟨Nat.le_refl _, by omega⟩
    | 22, _ =>
      obtain rfl := Option.some.inj (show some _ = some o from ho)
      refine ⟨rfl, kwp_val (d := 37) rfl (v := .slice (some ⟨w1.heap.size, 0, none⟩) 1 1) (w' := w1.alloc (.cells #[.int .u16 5] 54)) (by kernel_rfl) ?_⟩
      rw [show (kFR q bA oA u).put (some 37) (.slice (some ⟨w1.heap.size, 0, none⟩) 1 1) = kFR q bA oA (kupd u (kDS 22) (.slice (some ⟨w1.heap.size, 0, none⟩) 1 1)) from by kernel_rfl]
      refine kinv_step (by omega) hx0 hG (Ext.alloc _ _) ?_
      show IsWoS 1 (w1.alloc (.cells #[.int .u16 5] 54)) (kupd u 37 (.slice (some ⟨w1.heap.size, 0, none⟩) 1 1) 37)
      rw [kupd_at]
      exact ⟨_, [5], rfl, Rd.of_heap (ys := []) (heap_alloc_new w1 _) rfl rfl⟩
    | 23, _ =>
      obtain rfl := Option.some.inj (show some _ = some o from ho)
      obtain ⟨g0, l0, h0, r0⟩ : IsWoS 1 w1 (u 37) := hG 22 (by omega) (kedge hall 22 (by kernel_rfl))
      have eF : kFR q bA oA u = ⟨#[.bool false, .pointer (some ⟨q, 0, none⟩), .pointer (some ⟨q + 1, 0, none⟩), u 3, undef, undef, undef, undef, undef, undef, undef, .tuple #[.agg #[.int .i64 3, .int .i64 0, .int .i64 2, .slice none 0 0, .slice none 0 0, .slice none 0 0], .agg #[.int .i64 0, .slice none 0 0, .slice (some ⟨bA, oA, none⟩) 2 2, .slice none 0 0]], .tuple #[.agg #[.int .i64 3, .int .i64 0, .int .i64 2, .slice none 0 0, .slice none 0 0, .slice none 0 0], .agg #[.int .i64 0, .slice none 0 0, .slice (some ⟨bA, oA, none⟩) 2 2, .slice none 0 0]], .agg #[.int .i64 3, .int .i64 0, .int .i64 2, .slice none 0 0, .slice none 0 0, .slice none 0 0], .agg #[.int .i64 0, .slice none 0 0, .slice (some ⟨bA, oA, none⟩) 2 2, .slice none 0 0], u 15, u 16, u 17, u 18, u 19, u 20, u 21, u 22, u 23, u 24, u 25, u 26, u 27, u 28, u 29, u 30, u 31, u 32, u 33, u 34, u 35, u 36, .slice (some ⟨g0, 0, none⟩) 1 1, u 38, u 39, u 40, u 41, u 42, u 43, u 44, u 45, u 46, u 47, u 48, u 49, u 50, u 51, u 52, undef, undef, undef, undef, undef, undef, undef, undef, undef, undef, undef, undef, undef, undef, undef, undef, undef, undef, undef, undef, undef, undef, undef, undef, undef, undef, undef, undef, undef, undef, undef, undef, undef, undef, undef, undef, undef, undef, undef, undef, undef, undef, undef, undef, undef, undef, undef, undef, undef, undef, undef, undef, undef, undef, undef, undef, undef, undef, undef, undef, undef, undef, undef, undef, undef, undef, undef, undef, undef, undef, undef, undef, undef, undef, undef, undef, undef, undef, undef, undef, undef, undef, undef, undef, undef, undef, undef, undef, undef, undef, undef, undef, undef, undef, undef, undef, undef, undef, undef, undef, undef, undef, undef, undef, undef, undef, undef, undef, undef, undef, undef, undef, undef, undef, undef, undef, undef, undef, undef, undef, undef, undef, undef, undef, undef, undef, undef, undef, undef, undef, undef, undef, undef, undef, undef, undef, undef, undef, undef, undef, undef, undef, undef, undef, undef, undef, undef, undef], []⟩ := by unfold kFR; rw [h0]
      refine ⟨rfl, kwp_val (d := 38) rfl (v := .slice (some ⟨w1.heap.size, 0, none⟩) 1 1) (w' := w1.alloc (.cells #[.slice (some ⟨g0, 0, none⟩) 1 1] 23)) (by rw [eF]; kernel_rfl) ?_⟩
      rw [show (kFR q bA oA u).put (some 38) (.slice (some ⟨w1.heap.size, 0, none⟩) 1 1) = kFR q bA oA (kupd u (kDS 23) (.slice (some ⟨w1.heap.size, 0, none⟩) 1 1)) from by kernel_rfl]
      refine kinv_step (by omega) hx0 hG (Ext.alloc _ _) ?_
      show IsFiS 1 (w1.alloc (.cells #[.slice (some ⟨g0, 0, none⟩) 1 1] 23)) (kupd u 38 (.slice (some ⟨w1.heap.size, 0, none⟩) 1 1) 38)
      rw [kupd_at]
      refine fi_of (heap_alloc_new w1 _) rfl fun i hi => ?_
      match i, hi with
      | 0, _ => exact ⟨_, _, l0, rfl, r0.ext (Ext.alloc _ _), by omega⟩
      | n + 1, h => exact absurd h (by omega)
    | 24, _ =>
      obtain rfl := Option.some.inj (show some _ = some o from ho)
      obtain ⟨g, l, h1, h2⟩ : IsFiS 1 w1 (u 38) := hG 23 (by omega) (kedge hall 23 (by kernel_rfl))
      have eF : kFR q bA oA u = ⟨#[.bool false, .pointer (some ⟨q, 0, none⟩), .pointer (some ⟨q + 1, 0, none⟩), u 3, undef, undef, undef, undef, undef, undef, undef, .tuple #[.agg #[.int .i64 3, .int .i64 0, .int .i64 2, .slice none 0 0, .slice none 0 0, .slice none 0 0], .agg #[.int .i64 0, .slice none 0 0, .slice (some ⟨bA, oA, none⟩) 2 2, .slice none 0 0]], .tuple #[.agg #[.int .i64 3, .int .i64 0, .int .i64 2, .slice none 0 0, .slice none 0 0, .slice none 0 0], .agg #[.int .i64 0, .slice none 0 0, .slice (some ⟨bA, oA, none⟩) 2 2, .slice none 0 0]], .agg #[.int .i64 3, .int .i64 0, .int .i64 2, .slice none 0 0, .slice none 0 0, .slice none 0 0], .agg #[.int .i64 0, .slice none 0 0, .slice (some ⟨bA, oA, none⟩) 2 2, .slice none 0 0], u 15, u 16, u 17, u 18, u 19, u 20, u 21, u 22, u 23, u 24, u 25, u 26, u 27, u 28, u 29, u 30, u 31, u 32, u 33, u 34, u 35, u 36, u 37, .slice (some ⟨g, 0, none⟩) 1 1, u 39, u 40, u 41, u 42, u 43, u 44, u 45, u 46, u 47, u 48, u 49, u 50, u 51, u 52, undef, undef, undef, undef, undef, undef, undef, undef, undef, undef, undef, undef, undef, undef, undef, undef, undef, undef, undef, undef, undef, undef, undef, undef, undef, undef, undef, undef, undef, undef, undef, undef, undef, undef, undef, undef, undef, undef, undef, undef, undef, undef, undef, undef, undef, undef, undef, undef, undef, undef, undef, undef, undef, undef, undef, undef, undef, undef, undef, undef, undef, undef, undef, undef, undef, undef, undef, undef, undef, undef, undef, undef, undef, undef, undef, undef, undef, undef, undef, undef, undef, undef, undef, undef, undef, undef, undef, undef, undef, undef, undef, undef, undef, undef, undef, undef, undef, undef, undef, undef, undef, undef, undef, undef, undef, undef, undef, undef, undef, undef, undef, undef, undef, undef, undef, undef, undef, undef, undef, undef, undef, undef, undef, undef, undef, undef, undef, undef, undef, undef, undef, undef, undef, undef, undef, undef, undef, undef, undef, undef, undef, undef, undef, undef, undef, undef, undef, undef], []⟩ := by unfold kFR; rw [h1]
      refine ⟨rfl, kwp_val (d := 39) rfl (v := .agg #[.int .i64 0, .slice none 0 0, .slice none 0 0, .slice (some ⟨g, 0, none⟩) 1 1]) (w' := w1) (by rw [eF]; kernel_rfl) ?_⟩
      rw [show (kFR q bA oA u).put (some 39) (.agg #[.int .i64 0, .slice none 0 0, .slice none 0 0, .slice (some ⟨g, 0, none⟩) 1 1]) = kFR q bA oA (kupd u (kDS 24) (.agg #[.int .i64 0, .slice none 0 0, .slice none 0 0, .slice (some ⟨g, 0, none⟩) 1 1])) from by kernel_rfl]
      refine kinv_step (by omega) hx0 hG (Ext.refl _) ?_
      show IsRep w1 (kupd u 39 (.agg #[.int .i64 0, .slice none 0 0, .slice none 0 0, .slice (some ⟨g, 0, none⟩) 1 1]) 39)
      rw [kupd_at]
      exact rep_mk (on := []) (set := []) (Rd.nil_ _) (Rd.nil_ _) h2 (by omega) ⟨Nat.le_refl _, by omega⟩ ⟨Nat.le_refl _, by omega⟩ ⟨Nat.le_refl _, by omega⟩
    | 25, _ =>
      obtain rfl := Option.some.inj (show some _ = some o from ho)
      refine ⟨rfl, kwp_val (d := 40) rfl (v := .slice (some ⟨w1.heap.size, 0, none⟩) 1 1) (w' := w1.alloc (.cells #[.int .u16 5] 54)) (by kernel_rfl) ?_⟩
      rw [show (kFR q bA oA u).put (some 40) (.slice (some ⟨w1.heap.size, 0, none⟩) 1 1) = kFR q bA oA (kupd u (kDS 25) (.slice (some ⟨w1.heap.size, 0, none⟩) 1 1)) from by kernel_rfl]
      refine kinv_step (by omega) hx0 hG (Ext.alloc _ _) ?_
      show IsWoS 1 (w1.alloc (.cells #[.int .u16 5] 54)) (kupd u 40 (.slice (some ⟨w1.heap.size, 0, none⟩) 1 1) 40)
      rw [kupd_at]
      exact ⟨_, [5], rfl, Rd.of_heap (ys := []) (heap_alloc_new w1 _) rfl rfl⟩
    | 26, _ =>
      obtain rfl := Option.some.inj (show some _ = some o from ho)
      refine ⟨rfl, kwp_val (d := 41) rfl (v := .slice (some ⟨w1.heap.size, 0, none⟩) 2 2) (w' := w1.alloc (.cells #[.int .u16 6, .int .u16 7] 54)) (by kernel_rfl) ?_⟩
      rw [show (kFR q bA oA u).put (some 41) (.slice (some ⟨w1.heap.size, 0, none⟩) 2 2) = kFR q bA oA (kupd u (kDS 26) (.slice (some ⟨w1.heap.size, 0, none⟩) 2 2)) from by kernel_rfl]
      refine kinv_step (by omega) hx0 hG (Ext.alloc _ _) ?_
      show IsWoS 2 (w1.alloc (.cells #[.int .u16 6, .int .u16 7] 54)) (kupd u 41 (.slice (some ⟨w1.heap.size, 0, none⟩) 2 2) 41)
      rw [kupd_at]
      exact ⟨_, [6, 7], rfl, Rd.of_heap (ys := []) (heap_alloc_new w1 _) rfl rfl⟩
    | 27, _ =>
      obtain rfl := Option.some.inj (show some _ = some o from ho)
      obtain ⟨g0, l0, h0, r0⟩ : IsWoS 1 w1 (u 40) := hG 25 (by omega) (kedge hall 25 (by kernel_rfl))
      obtain ⟨g1, l1, h1, r1⟩ : IsWoS 2 w1 (u 41) := hG 26 (by omega) (kedge hall 26 (by kernel_rfl))
      have eF : kFR q bA oA u = ⟨#[.bool false, .pointer (some ⟨q, 0, none⟩), .pointer (some ⟨q + 1, 0, none⟩), u 3, undef, undef, undef, undef, undef, undef, undef, .tuple #[.agg #[.int .i64 3, .int .i64 0, .int .i64 2, .slice none 0 0, .slice none 0 0, .slice none 0 0], .agg #[.int .i64 0, .slice none 0 0, .slice (some ⟨bA, oA, none⟩) 2 2, .slice none 0 0]], .tuple #[.agg #[.int .i64 3, .int .i64 0, .int .i64 2, .slice none 0 0, .slice none 0 0, .slice none 0 0], .agg #[.int .i64 0, .slice none 0 0, .slice (some ⟨bA, oA, none⟩) 2 2, .slice none 0 0]], .agg #[.int .i64 3, .int .i64 0, .int .i64 2, .slice none 0 0, .slice none 0 0, .slice none 0 0], .agg #[.int .i64 0, .slice none 0 0, .slice (some ⟨bA, oA, none⟩) 2 2, .slice none 0 0], u 15, u 16, u 17, u 18, u 19, u 20, u 21, u 22, u 23, u 24, u 25, u 26, u 27, u 28, u 29, u 30, u 31, u 32, u 33, u 34, u 35, u 36, u 37, u 38, u 39, .slice (some ⟨g0, 0, none⟩) 1 1, .slice (some ⟨g1, 0, none⟩) 2 2, u 42, u 43, u 44, u 45, u 46, u 47, u 48, u 49, u 50, u 51, u 52, undef, undef, undef, undef, undef, undef, undef, undef, undef, undef, undef, undef, undef, undef, undef, undef, undef, undef, undef, undef, undef, undef, undef, undef, undef, undef, undef, undef, undef, undef, undef, undef, undef, undef, undef, undef, undef, undef, undef, undef, undef, undef, undef, undef, undef, undef, undef, undef, undef, undef, undef, undef, undef, undef, undef, undef, undef, undef, undef, undef, undef, undef, undef, undef, undef, undef, undef, undef, undef, undef, undef, undef, undef, undef, undef, undef, undef, undef, undef, undef, undef, undef, undef, undef, undef, undef, undef, undef, undef, undef, undef, undef, undef, undef, undef, undef, undef, undef, undef, undef, undef, undef, undef, undef, undef, undef, undef, undef, undef, undef, undef, undef, undef, undef, undef, undef, undef, undef, undef, undef, undef, undef, undef, undef, undef, undef, undef, undef, undef, undef, undef, undef, undef, undef, undef, undef, undef, undef, undef, undef, undef, undef, undef, undef, undef, undef, undef, undef], []⟩ := by unfold kFR; rw [h0, h1]
      refine ⟨rfl, kwp_val (d := 42) rfl (v := .slice (some ⟨w1.heap.size, 0, none⟩) 2 2) (w' := w1.alloc (.cells #[.slice (some ⟨g0, 0, none⟩) 1 1, .slice (some ⟨g1, 0, none⟩) 2 2] 23)) (by rw [eF]; kernel_rfl) ?_⟩
      rw [show (kFR q bA oA u).put (some 42) (.slice (some ⟨w1.heap.size, 0, none⟩) 2 2) = kFR q bA oA (kupd u (kDS 27) (.slice (some ⟨w1.heap.size, 0, none⟩) 2 2)) from by kernel_rfl]
      refine kinv_step (by omega) hx0 hG (Ext.alloc _ _) ?_
      show IsFiS 2 (w1.alloc (.cells #[.slice (some ⟨g0, 0, none⟩) 1 1, .slice (some ⟨g1, 0, none⟩) 2 2] 23)) (kupd u 42 (.slice (some ⟨w1.heap.size, 0, none⟩) 2 2) 42)
      rw [kupd_at]
      refine fi_of (heap_alloc_new w1 _) rfl fun i hi => ?_
      match i, hi with
      | 0, _ => exact ⟨_, _, l0, rfl, r0.ext (Ext.alloc _ _), by omega⟩
      | 1, _ => exact ⟨_, _, l1, rfl, r1.ext (Ext.alloc _ _), by omega⟩
      | n + 2, h => exact absurd h (by omega)
    | 28, _ =>
      obtain rfl := Option.some.inj (show some _ = some o from ho)
      obtain ⟨g, l, h1, h2⟩ : IsFiS 2 w1 (u 42) := hG 27 (by omega) (kedge hall 27 (by kernel_rfl))
      have eF : kFR q bA oA u = ⟨#[.bool false, .pointer (some ⟨q, 0, none⟩), .pointer (some ⟨q + 1, 0, none⟩), u 3, undef, undef, undef, undef, undef, undef, undef, .tuple #[.agg #[.int .i64 3, .int .i64 0, .int .i64 2, .slice none 0 0, .slice none 0 0, .slice none 0 0], .agg #[.int .i64 0, .slice none 0 0, .slice (some ⟨bA, oA, none⟩) 2 2, .slice none 0 0]], .tuple #[.agg #[.int .i64 3, .int .i64 0, .int .i64 2, .slice none 0 0, .slice none 0 0, .slice none 0 0], .agg #[.int .i64 0, .slice none 0 0, .slice (some ⟨bA, oA, none⟩) 2 2, .slice none 0 0]], .agg #[.int .i64 3, .int .i64 0, .int .i64 2, .slice none 0 0, .slice none 0 0, .slice none 0 0], .agg #[.int .i64 0, .slice none 0 0, .slice (some ⟨bA, oA, none⟩) 2 2, .slice none 0 0], u 15, u 16, u 17, u 18, u 19, u 20, u 21, u 22, u 23, u 24, u 25, u 26, u 27, u 28, u 29, u 30, u 31, u 32, u 33, u 34, u 35, u 36, u 37, u 38, u 39, u 40, u 41, .slice (some ⟨g, 0, none⟩) 2 2, u 43, u 44, u 45, u 46, u 47, u 48, u 49, u 50, u 51, u 52, undef, undef, undef, undef, undef, undef, undef, undef, undef, undef, undef, undef, undef, undef, undef, undef, undef, undef, undef, undef, undef, undef, undef, undef, undef, undef, undef, undef, undef, undef, undef, undef, undef, undef, undef, undef, undef, undef, undef, undef, undef, undef, undef, undef, undef, undef, undef, undef, undef, undef, undef, undef, undef, undef, undef, undef, undef, undef, undef, undef, undef, undef, undef, undef, undef, undef, undef, undef, undef, undef, undef, undef, undef, undef, undef, undef, undef, undef, undef, undef, undef, undef, undef, undef, undef, undef, undef, undef, undef, undef, undef, undef, undef, undef, undef, undef, undef, undef, undef, undef, undef, undef, undef, undef, undef, undef, undef, undef, undef, undef, undef, undef, undef, undef, undef, undef, undef, undef, undef, undef, undef, undef, undef, undef, undef, undef, undef, undef, undef, undef, undef, undef, undef, undef, undef, undef, undef, undef, undef, undef, undef, undef, undef, undef, undef, undef, undef, undef], []⟩ := by unfold kFR; rw [h1]
      refine ⟨rfl, kwp_val (d := 43) rfl (v := .agg #[.int .i64 0, .slice none 0 0, .slice none 0 0, .slice (some ⟨g, 0, none⟩) 2 2]) (w' := w1) (by rw [eF]; kernel_rfl) ?_⟩
      rw [show (kFR q bA oA u).put (some 43) (.agg #[.int .i64 0, .slice none 0 0, .slice none 0 0, .slice (some ⟨g, 0, none⟩) 2 2]) = kFR q bA oA (kupd u (kDS 28) (.agg #[.int .i64 0, .slice none 0 0, .slice none 0 0, .slice (some ⟨g, 0, none⟩) 2 2])) from by kernel_rfl]
      refine kinv_step (by omega) hx0 hG (Ext.refl _) ?_
      show IsRep w1 (kupd u 43 (.agg #[.int .i64 0, .slice none 0 0, .slice none 0 0, .slice (some ⟨g, 0, none⟩) 2 2]) 43)
      rw [kupd_at]
      exact rep_mk (on := []) (set := []) (Rd.nil_ _) (Rd.nil_ _) h2 (by omega) ⟨Nat.le_refl _, by omega⟩ ⟨Nat.le_refl _, by omega⟩ ⟨Nat.le_refl _, by omega⟩
    | 29, _ =>
      obtain rfl := Option.some.inj (show some _ = some o from ho)
      refine ⟨rfl, kwp_val (d := 44) rfl (v := .slice (some ⟨w1.heap.size, 0, none⟩) 1 1) (w' := w1.alloc (.cells #[.int .u16 5] 54)) (by kernel_rfl) ?_⟩
      rw [show (kFR q bA oA u).put (some 44) (.slice (some ⟨w1.heap.size, 0, none⟩) 1 1) = kFR q bA oA (kupd u (kDS 29) (.slice (some ⟨w1.heap.size, 0, none⟩) 1 1)) from by kernel_rfl]
      refine kinv_step (by omega) hx0 hG (Ext.alloc _ _) ?_
      show IsWoS 1 (w1.alloc (.cells #[.int .u16 5] 54)) (kupd u 44 (.slice (some ⟨w1.heap.size, 0, none⟩) 1 1) 44)
      rw [kupd_at]
      exact ⟨_, [5], rfl, Rd.of_heap (ys := []) (heap_alloc_new w1 _) rfl rfl⟩
    | 30, _ =>
      obtain rfl := Option.some.inj (show some _ = some o from ho)
      refine ⟨rfl, kwp_val (d := 45) rfl (v := .slice (some ⟨w1.heap.size, 0, none⟩) 1 1) (w' := w1.alloc (.cells #[.int .u16 6] 54)) (by kernel_rfl) ?_⟩
      rw [show (kFR q bA oA u).put (some 45) (.slice (some ⟨w1.heap.size, 0, none⟩) 1 1) = kFR q bA oA (kupd u (kDS 30) (.slice (some ⟨w1.heap.size, 0, none⟩) 1 1)) from by kernel_rfl]
      refine kinv_step (by omega) hx0 hG (Ext.alloc _ _) ?_
      show IsWoS 1 (w1.alloc (.cells #[.int .u16 6] 54)) (kupd u 45 (.slice (some ⟨w1.heap.size, 0, none⟩) 1 1) 45)
      rw [kupd_at]
      exact ⟨_, [6], rfl, Rd.of_heap (ys := []) (heap_alloc_new w1 _) rfl rfl⟩
    | 31, _ =>
      obtain rfl := Option.some.inj (show some _ = some o from ho)
      obtain ⟨g0, l0, h0, r0⟩ : IsWoS 1 w1 (u 44) := hG 29 (by omega) (kedge hall 29 (by kernel_rfl))
      obtain ⟨g1, l1, h1, r1⟩ : IsWoS 1 w1 (u 45) := hG 30 (by omega) (kedge hall 30 (by kernel_rfl))
      have eF : kFR q bA oA u = ⟨#[.bool false, .pointer (some ⟨q, 0, none⟩), .pointer (some ⟨q + 1, 0, none⟩), u 3, undef, undef, undef, undef, undef, undef, undef, .tuple #[.agg #[.int .i64 3, .int .i64 0, .int .i64 2, .slice none 0 0, .slice none 0 0, .slice none 0 0], .agg #[.int .i64 0, .slice none 0 0, .slice (some ⟨bA, oA, none⟩) 2 2, .slice none 0 0]], .tuple #[.agg #[.int .i64 3, .int .i64 0, .int .i64 2, .slice none 0 0, .slice none 0 0, .slice none 0 0], .agg #[.int .i64 0, .slice none 0 0, .slice (some ⟨bA, oA, none⟩) 2 2, .slice none 0 0]], .agg #[.int .i64 3, .int .i64 0, .int .i64 2, .slice none 0 0, .slice none 0 0, .slice none 0 0], .agg #[.int .i64 0, .slice none 0 0, .slice (some ⟨bA, oA, none⟩) 2 2, .slice none 0 0], u 15, u 16, u 17, u 18, u 19, u 20, u 21, u 22, u 23, u 24, u 25, u 26, u 27, u 28, u 29, u 30, u 31, u 32, u 33, u 34, u 35, u 36, u 37, u 38, u 39, u 40, u 41, u 42, u 43, .slice (some ⟨g0, 0, none⟩) 1 1, .slice (some ⟨g1, 0, none⟩) 1 1, u 46, u 47, u 48, u 49, u 50, u 51, u 52, undef, undef, undef, undef, undef, undef, undef, undef, undef, undef, undef, undef, undef, undef, undef, undef, undef, undef, undef, undef, undef, undef, undef, undef, undef, undef, undef, undef, undef, undef, undef, undef, undef, undef, undef, undef, undef, undef, undef, undef, undef, undef, undef, undef, undef, undef, undef, undef, undef, undef, undef, undef, undef, undef, undef, undef, undef, undef, undef, undef, undef, undef, undef, undef, undef, undef, undef, undef, undef, undef, undef, undef, undef, undef, undef, undef, undef, undef, undef, undef, undef, undef, undef, undef, undef, undef, undef, undef, undef, undef, undef, undef, undef, undef, undef, undef, undef, undef, undef, undef, undef, undef, undef, undef, undef, undef, undef, undef, undef, undef, undef, undef, undef, undef, undef, undef, undef, undef, undef, undef, undef, undef, undef, undef, undef, undef, undef, undef, undef, undef, undef, undef, undef, undef, undef, undef, undef, undef, undef, undef, undef, undef, undef, undef, undef, undef, undef, undef], []⟩ := by unfold kFR; rw [h0, h1]
      refine ⟨rfl, kwp_val (d := 46) rfl (v := .slice (some ⟨w1.heap.size, 0, none⟩) 2 2) (w' := w1.alloc (.cells #[.slice (some ⟨g0, 0, none⟩) 1 1, .slice (some ⟨g1, 0, none⟩) 1 1] 23)) (by rw [eF]; kernel_rfl) ?_⟩
      rw [show (kFR q bA oA u).put (some 46) (.slice (some ⟨w1.heap.size, 0, none⟩) 2 2) = kFR q bA oA (kupd u (kDS 31) (.slice (some ⟨w1.heap.size, 0, none⟩) 2 2)) from by kernel_rfl]
      refine kinv_step (by omega) hx0 hG (Ext.alloc _ _) ?_
      show IsFiS 2 (w1.alloc (.cells #[.slice (some ⟨g0, 0, none⟩) 1 1, .slice (some ⟨g1, 0, none⟩) 1 1] 23)) (kupd u 46 (.slice (some ⟨w1.heap.size, 0, none⟩) 2 2) 46)
      rw [kupd_at]
      refine fi_of (heap_alloc_new w1 _) rfl fun i hi => ?_
      match i, hi with
      | 0, _ => exact ⟨_, _, l0, rfl, r0.ext (Ext.alloc _ _), by omega⟩
      | 1, _ => exact ⟨_, _, l1, rfl, r1.ext (Ext.alloc _ _), by omega⟩
      | n + 2, h => exact absurd h (by omega)
    | 32, _ =>
      obtain rfl := Option.some.inj (show some _ = some o from ho)
      obtain ⟨g, l, h1, h2⟩ : IsFiS 2 w1 (u 46) := hG 31 (by omega) (kedge hall 31 (by kernel_rfl))
      have eF : kFR q bA oA u = ⟨#[.bool false, .pointer (some ⟨q, 0, none⟩), .pointer (some ⟨q + 1, 0, none⟩), u 3, undef, undef, undef, undef, undef, undef, undef, .tuple #[.agg #[.int .i64 3, .int .i64 0, .int .i64 2, .slice none 0 0, .slice none 0 0, .slice none 0 0], .agg #[.int .i64 0, .slice none 0 0, .slice (some ⟨bA, oA, none⟩) 2 2, .slice none 0 0]], .tuple #[.agg #[.int .i64 3, .int .i64 0, .int .i64 2, .slice none 0 0, .slice none 0 0, .slice none 0 0], .agg #[.int .i64 0, .slice none 0 0, .slice (some ⟨bA, oA, none⟩) 2 2, .slice none 0 0]], .agg #[.int .i64 3, .int .i64 0, .int .i64 2, .slice none 0 0, .slice none 0 0, .slice none 0 0], .agg #[.int .i64 0, .slice none 0 0, .slice (some ⟨bA, oA, none⟩) 2 2, .slice none 0 0], u 15, u 16, u 17, u 18, u 19, u 20, u 21, u 22, u 23, u 24, u 25, u 26, u 27, u 28, u 29, u 30, u 31, u 32, u 33, u 34, u 35, u 36, u 37, u 38, u 39, u 40, u 41, u 42, u 43, u 44, u 45, .slice (some ⟨g, 0, none⟩) 2 2, u 47, u 48, u 49, u 50, u 51, u 52, undef, undef, undef, undef, undef, undef, undef, undef, undef, undef, undef, undef, undef, undef, undef, undef, undef, undef, undef, undef, undef, undef, undef, undef, undef, undef, undef, undef, undef, undef, undef, undef, undef, undef, undef, undef, undef, undef, undef, undef, undef, undef, undef, undef, undef, undef, undef, undef, undef, undef, undef, undef, undef, undef, undef, undef, undef, undef, undef, undef, undef, undef, undef, undef, undef, undef, undef, undef, undef, undef, undef, undef, undef, undef, undef, undef, undef, undef, undef, undef, undef, undef, undef, undef, undef, undef, undef, undef, undef, undef, undef, undef, undef, undef, undef, undef, undef, undef, undef, undef, undef, undef, undef, undef, undef, undef, undef, undef, undef, undef, undef, undef, undef, undef, undef, undef, undef, undef, undef, undef, undef, undef, undef, undef, undef, undef, undef, undef, undef, undef, undef, undef, undef, undef, undef, undef, undef, undef, undef, undef, undef, undef, undef, undef, undef, undef, undef, undef], []⟩ := by unfold kFR; rw [h1]
      refine ⟨rfl, kwp_val (d := 47) rfl (v := .agg #[.int .i64 0, .slice none 0 0, .slice none 0 0, .slice (some ⟨g, 0, none⟩) 2 2]) (w' := w1) (by rw [eF]; kernel_rfl) ?_⟩
      rw [show (kFR q bA oA u).put (some 47) (.agg #[.int .i64 0, .slice none 0 0, .slice none 0 0, .slice (some ⟨g, 0, none⟩) 2 2]) = kFR q bA oA (kupd u (kDS 32) (.agg #[.int .i64 0, .slice none 0 0, .slice none 0 0, .slice (some ⟨g, 0, none⟩) 2 2])) from by kernel_rfl]
      refine kinv_step (by omega) hx0 hG (Ext.refl _) ?_
      show IsRep w1 (kupd u 47 (.agg #[.int .i64 0, .slice none 0 0, .slice none 0 0, .slice (some ⟨g, 0, none⟩) 2 2]) 47)
      rw [kupd_at]
      exact rep_mk (on := []) (set := []) (Rd.nil_ _) (Rd.nil_ _) h2 (by omega) ⟨Nat.le_refl _, by omega⟩ ⟨Nat.le_refl _, by omega⟩ ⟨Nat.le_refl _, by omega⟩
    | 33, _ =>
      obtain rfl := Option.some.inj (show some _ = some o from ho)
      refine ⟨rfl, kwp_val (d := 48) rfl (v := .slice (some ⟨w1.heap.size, 0, none⟩) 1 1) (w' := w1.alloc (.cells #[.slice none 0 0] 23)) (by kernel_rfl) ?_⟩
      rw [show (kFR q bA oA u).put (some 48) (.slice (some ⟨w1.heap.size, 0, none⟩) 1 1) = kFR q bA oA (kupd u (kDS 33) (.slice (some ⟨w1.heap.size, 0, none⟩) 1 1)) from by kernel_rfl]
      refine kinv_step (by omega) hx0 hG (Ext.alloc _ _) ?_
      show IsFiS 1 (w1.alloc (.cells #[.slice none 0 0] 23)) (kupd u 48 (.slice (some ⟨w1.heap.size, 0, none⟩) 1 1) 48)
      rw [kupd_at]
      refine fi_of (heap_alloc_new w1 _) rfl fun i hi => ?_
      match i, hi with
      | 0, _ => exact ⟨none, 0, [], rfl, Rd.nil_ _, by omega⟩
      | n + 1, h => exact absurd h (by omega)
    | 34, _ =>
      obtain rfl := Option.some.inj (show some _ = some o from ho)
      obtain ⟨g, l, h1, h2⟩ : IsFiS 1 w1 (u 48) := hG 33 (by omega) (kedge hall 33 (by kernel_rfl))
      have eF : kFR q bA oA u = ⟨#[.bool false, .pointer (some ⟨q, 0, none⟩), .pointer (some ⟨q + 1, 0, none⟩), u 3, undef, undef, undef, undef, undef, undef, undef, .tuple #[.agg #[.int .i64 3, .int .i64 0, .int .i64 2, .slice none 0 0, .slice none 0 0, .slice none 0 0], .agg #[.int .i64 0, .slice none 0 0, .slice (some ⟨bA, oA, none⟩) 2 2, .slice none 0 0]], .tuple #[.agg #[.int .i64 3, .int .i64 0, .int .i64 2, .slice none 0 0, .slice none 0 0, .slice none 0 0], .agg #[.int .i64 0, .slice none 0 0, .slice (some ⟨bA, oA, none⟩) 2 2, .slice none 0 0]], .agg #[.int .i64 3, .int .i64 0, .int .i64 2, .slice none 0 0, .slice none 0 0, .slice none 0 0], .agg #[.int .i64 0, .slice none 0 0, .slice (some ⟨bA, oA, none⟩) 2 2, .slice none 0 0], u 15, u 16, u 17, u 18, u 19, u 20, u 21, u 22, u 23, u 24, u 25, u 26, u 27, u 28, u 29, u 30, u 31, u 32, u 33, u 34, u 35, u 36, u 37, u 38, u 39, u 40, u 41, u 42, u 43, u 44, u 45, u 46, u 47, .slice (some ⟨g, 0, none⟩) 1 1, u 49, u 50, u 51, u 52, undef, undef, undef, undef, undef, undef, undef, undef, undef, undef, undef, undef, undef, undef, undef, undef, undef, undef, undef, undef, undef, undef, undef, undef, undef, undef, undef, undef, undef, undef, undef, undef, undef, undef, undef, undef, undef, undef, undef, undef, undef, undef, undef, undef, undef, undef, undef, undef, undef, undef, undef, undef, undef, undef, undef, undef, undef, undef, undef, undef, undef, undef, undef, undef, undef, undef, undef, undef, undef, undef, undef, undef, undef, undef, undef, undef, undef, undef, undef, undef, undef, undef, undef, undef, undef, undef, undef, undef, undef, undef, undef, undef, undef, undef, undef, undef, undef, undef, undef, undef, undef, undef, undef, undef, undef, undef, undef, undef, undef, undef, undef, undef, undef, undef, undef, undef, undef, undef, undef, undef, undef, undef, undef, undef, undef, undef, undef, undef, undef, undef, undef, undef, undef, undef, undef, undef, undef, undef, undef, undef, undef, undef, undef, undef, undef, undef, undef, undef], []⟩ := by unfold kFR; rw [h1]
      refine ⟨rfl, kwp_val (d := 49) rfl (v := .agg #[.int .i64 0, .slice none 0 0, .slice none 0 0, .slice (some ⟨g, 0, none⟩) 1 1]) (w' := w1) (by rw [eF]; kernel_rfl) ?_⟩
      rw [show (kFR q bA oA u).put (some 49) (.agg #[.int .i64 0, .slice none 0 0, .slice none 0 0, .slice (some ⟨g, 0, none⟩) 1 1]) = kFR q bA oA (kupd u (kDS 34) (.agg #[.int .i64 0, .slice none 0 0, .slice none 0 0, .slice (some ⟨g, 0, none⟩) 1 1])) from by kernel_rfl]
      refine kinv_step (by omega) hx0 hG (Ext.refl _) ?_
      show IsRep w1 (kupd u 49 (.agg #[.int .i64 0, .slice none 0 0, .slice none 0 0, .slice (some ⟨g, 0, none⟩) 1 1]) 49)
      rw [kupd_at]
      exact rep_mk (on := []) (set := []) (Rd.nil_ _) (Rd.nil_ _) h2 (by omega) ⟨Nat.le_refl _, by omega⟩ ⟨Nat.le_refl _, by omega⟩ ⟨Nat.le_refl _, by omega⟩
    | 35, _ =>
      obtain rfl := Option.some.inj (show some _ = some o from ho)
      refine ⟨rfl, kwp_val (d := 50) rfl (v := .slice (some ⟨w1.heap.size, 0, none⟩) 1 1) (w' := w1.alloc (.cells #[.slice none 0 0] 23)) (by kernel_rfl) ?_⟩
      rw [show (kFR q bA oA u).put (some 50) (.slice (some ⟨w1.heap.size, 0, none⟩) 1 1) = kFR q bA oA (kupd u (kDS 35) (.slice (some ⟨w1.heap.size, 0, none⟩) 1 1)) from by kernel_rfl]
      refine kinv_step (by omega) hx0 hG (Ext.alloc _ _) ?_
      show IsFiS 1 (w1.alloc (.cells #[.slice none 0 0] 23)) (kupd u 50 (.slice (some ⟨w1.heap.size, 0, none⟩) 1 1) 50)
      rw [kupd_at]
      refine fi_of (heap_alloc_new w1 _) rfl fun i hi => ?_
      match i, hi with
      | 0, _ => exact ⟨none, 0, [], rfl, Rd.nil_ _, by omega⟩
      | n + 1, h => exact absurd h (by omega)
    | 36, _ =>
      obtain rfl := Option.some.inj (show some _ = some o from ho)
      obtain ⟨g, l, h1, h2⟩ : IsFiS 1 w1 (u 50) := hG 35 (by omega) (kedge hall 35 (by kernel_rfl))
      have eF : kFR q bA oA u = ⟨#[.bool false, .pointer (some ⟨q, 0, none⟩), .pointer (some ⟨q + 1, 0, none⟩), u 3, undef, undef, undef, undef, undef, undef, undef, .tuple #[.agg #[.int .i64 3, .int .i64 0, .int .i64 2, .slice none 0 0, .slice none 0 0, .slice none 0 0], .agg #[.int .i64 0, .slice none 0 0, .slice (some ⟨bA, oA, none⟩) 2 2, .slice none 0 0]], .tuple #[.agg #[.int .i64 3, .int .i64 0, .int .i64 2, .slice none 0 0, .slice none 0 0, .slice none 0 0], .agg #[.int .i64 0, .slice none 0 0, .slice (some ⟨bA, oA, none⟩) 2 2, .slice none 0 0]], .agg #[.int .i64 3, .int .i64 0, .int .i64 2, .slice none 0 0, .slice none 0 0, .slice none 0 0], .agg #[.int .i64 0, .slice none 0 0, .slice (some ⟨bA, oA, none⟩) 2 2, .slice none 0 0], u 15, u 16, u 17, u 18, u 19, u 20, u 21, u 22, u 23, u 24, u 25, u 26, u 27, u 28, u 29, u 30, u 31, u 32, u 33, u 34, u 35, u 36, u 37, u 38, u 39, u 40, u 41, u 42, u 43, u 44, u 45, u 46, u 47, u 48, u 49, .slice (some ⟨g, 0, none⟩) 1 1, u 51, u 52, undef, undef, undef, undef, undef, undef, undef, undef, undef, undef, undef, undef, undef, undef, undef, undef, undef, undef, undef, undef, undef, undef, undef, undef, undef, undef, undef, undef, undef, undef, undef, undef, undef, undef, undef, undef, undef, undef, undef, undef, undef, undef, undef, undef, undef, undef, undef, undef, undef, undef, undef, undef, undef, undef, undef, undef, undef, undef, undef, undef, undef, undef, undef, undef, undef, undef, undef, undef, undef, undef, undef, undef, undef, undef, undef, undef, undef, undef, undef, undef, undef, undef, undef, undef, undef, undef, undef, undef, undef, undef, undef, undef, undef, undef, undef, undef, undef, undef, undef, undef, undef, undef, undef, undef, undef, undef, undef, undef, undef, undef, undef, undef, undef, undef, undef, undef, undef, undef, undef, undef, undef, undef, undef, undef, undef, undef, undef, undef, undef, undef, undef, undef, undef, undef, undef, undef, undef, undef, undef, undef, undef, undef, undef, undef, undef, undef, undef, undef], []⟩ := by unfold kFR; rw [h1]
      refine ⟨rfl, kwp_val (d := 51) rfl (v := .agg #[.int .i64 1, .slice none 0 0, .slice none 0 0, .slice (some ⟨g, 0, none⟩) 1 1]) (w' := w1) (by rw [eF]; kernel_rfl) ?_⟩
      rw [show (kFR q bA oA u).put (some 51) (.agg #[.int .i64 1, .slice none 0 0, .slice none 0 0, .slice (some ⟨g, 0, none⟩) 1 1]) = kFR q bA oA (kupd u (kDS 36) (.agg #[.int .i64 1, .slice none 0 0, .slice none 0 0, .slice (some ⟨g, 0, none⟩) 1 1])) from by kernel_rfl]
      refine kinv_step (by omega) hx0 hG (Ext.refl _) ?_
      show IsRep w1 (kupd u 51 (.agg #[.int .i64 1, .slice none 0 0, .slice none 0 0, .slice (some ⟨g, 0, none⟩) 1 1]) 51)
      rw [kupd_at]
      exact rep_mk (on := []) (set := []) (Rd.nil_ _) (Rd.nil_ _) h2 (by omega) ⟨Nat.le_refl _, by omega⟩ ⟨Nat.le_refl _, by omega⟩ ⟨Nat.le_refl _, by omega⟩
    | 37, _ =>
      obtain rfl := Option.some.inj (show some _ = some o from ho)
      obtain ⟨⟨e0, on0, st0, fs0⟩, ⟨A0, n0, k0, A0', n0', k0', A0'', n0'', k0''⟩, h0, r0⟩ : IsRep w1 (u 15) := hG 0 (by omega) (kedge hall 0 (by kernel_rfl))
      simp only [repV] at h0
      obtain ⟨⟨e1, on1, st1, fs1⟩, ⟨A1, n1, k1, A1', n1', k1', A1'', n1'', k1''⟩, h1, r1⟩ : IsRep w1 (u 16) := hG 1 (by omega) (kedge hall 1 (by kernel_rfl))
      simp only [repV] at h1
      obtain ⟨⟨e2, on2, st2, fs2⟩, ⟨A2, n2, k2, A2', n2', k2', A2'', n2'', k2''⟩, h2, r2⟩ : IsRep w1 (u 17) := hG 2 (by omega) (kedge hall 2 (by kernel_rfl))
      simp only [repV] at h2
      obtain ⟨⟨e3, on3, st3, fs3⟩, ⟨A3, n3, k3, A3', n3', k3', A3'', n3'', k3''⟩, h3, r3⟩ : IsRep w1 (u 18) := hG 3 (by omega) (kedge hall 3 (by kernel_rfl))
      simp only [repV] at h3
      obtain ⟨⟨e4, on4, st4, fs4⟩, ⟨A4, n4, k4, A4', n4', k4', A4'', n4'', k4''⟩, h4, r4⟩ : IsRep w1 (u 19) := hG 4 (by omega) (kedge hall 4 (by kernel_rfl))
      simp only [repV] at h4
      obtain ⟨⟨e5, on5, st5, fs5⟩, ⟨A5, n5, k5, A5', n5', k5', A5'', n5'', k5''⟩, h5, r5⟩ : IsRep w1 (u 22) := hG 7 (by omega) (kedge hall 7 (by kernel_rfl))
      simp only [repV] at h5
      obtain ⟨⟨e6, on6, st6, fs6⟩, ⟨A6, n6, k6, A6', n6', k6', A6'', n6'', k6''⟩, h6, r6⟩ : IsRep w1 (u 24) := hG 9 (by omega) (kedge hall 9 (by kernel_rfl))
      simp only [repV] at h6
      obtain ⟨⟨e7, on7, st7, fs7⟩, ⟨A7, n7, k7, A7', n7', k7', A7'', n7'', k7''⟩, h7, r7⟩ : IsRep w1 (u 26) := hG 11 (by omega) (kedge hall 11 (by kernel_rfl))
      simp only [repV] at h7
      obtain ⟨⟨e8, on8, st8, fs8⟩, ⟨A8, n8, k8, A8', n8', k8', A8'', n8'', k8''⟩, h8, r8⟩ : IsRep w1 (u 28) := hG 13 (by omega) (kedge hall 13 (by kernel_rfl))
      simp only [repV] at h8
      obtain ⟨⟨e9, on9, st9, fs9⟩, ⟨A9, n9, k9, A9', n9', k9', A9'', n9'', k9''⟩, h9, r9⟩ : IsRep w1 (u 32) := hG 17 (by omega) (kedge hall 17 (by kernel_rfl))
      simp only [repV] at h9
      obtain ⟨⟨e10, on10, st10, fs10⟩, ⟨A10, n10, k10, A10', n10', k10', A10'', n10'', k10''⟩, h10, r10⟩ : IsRep w1 (u 36) := hG 21 (by omega) (kedge hall 21 (by kernel_rfl))
      simp only [repV] at h10
      obtain ⟨⟨e11, on11, st11, fs11⟩, ⟨A11, n11, k11, A11', n11', k11', A11'', n11'', k11''⟩, h11, r11⟩ : IsRep w1 (u 39) := hG 24 (by omega) (kedge hall 24 (by kernel_rfl))
      simp only [repV] at h11
      obtain ⟨⟨e12, on12, st12, fs12⟩, ⟨A12, n12, k12, A12', n12', k12', A12'', n12'', k12''⟩, h12, r12⟩ : IsRep w1 (u 43) := hG 28 (by omega) (kedge hall 28 (by kernel_rfl))
      simp only [repV] at h12
      obtain ⟨⟨e13, on13, st13, fs13⟩, ⟨A13, n13, k13, A13', n13', k13', A13'', n13'', k13''⟩, h13, r13⟩ : IsRep w1 (u 47) := hG 32 (by omega) (kedge hall 32 (by kernel_rfl))
      simp only [repV] at h13
      obtain ⟨⟨e14, on14, st14, fs14⟩, ⟨A14, n14, k14, A14', n14', k14', A14'', n14'', k14''⟩, h14, r14⟩ : IsRep w1 (u 49) := hG 34 (by omega) (kedge hall 34 (by kernel_rfl))
      simp only [repV] at h14
      obtain ⟨⟨e15, on15, st15, fs15⟩, ⟨A15, n15, k15, A15', n15', k15', A15'', n15'', k15''⟩, h15, r15⟩ : IsRep w1 (u 51) := hG 36 (by omega) (kedge hall 36 (by kernel_rfl))
      simp only [repV] at h15
      have eF : kFR q bA oA u = ⟨#[.bool false, .pointer (some ⟨q, 0, none⟩), .pointer (some ⟨q + 1, 0, none⟩), u 3, undef, undef, undef, undef, undef, undef, undef, .tuple #[.agg #[.int .i64 3, .int .i64 0, .int .i64 2, .slice none 0 0, .slice none 0 0, .slice none 0 0], .agg #[.int .i64 0, .slice none 0 0, .slice (some ⟨bA, oA, none⟩) 2 2, .slice none 0 0]], .tuple #[.agg #[.int .i64 3, .int .i64 0, .int .i64 2, .slice none 0 0, .slice none 0 0, .slice none 0 0], .agg #[.int .i64 0, .slice none 0 0, .slice (some ⟨bA, oA, none⟩) 2 2, .slice none 0 0]], .agg #[.int .i64 3, .int .i64 0, .int .i64 2, .slice none 0 0, .slice none 0 0, .slice none 0 0], .agg #[.int .i64 0, .slice none 0 0, .slice (some ⟨bA, oA, none⟩) 2 2, .slice none 0 0], .agg #[.int .i64 e0, .slice A0 n0 k0, .slice A0' n0' k0', .slice A0'' n0'' k0''], .agg #[.int .i64 e1, .slice A1 n1 k1, .slice A1' n1' k1', .slice A1'' n1'' k1''], .agg #[.int .i64 e2, .slice A2 n2 k2, .slice A2' n2' k2', .slice A2'' n2'' k2''], .agg #[.int .i64 e3, .slice A3 n3 k3, .slice A3' n3' k3', .slice A3'' n3'' k3''], .agg #[.int .i64 e4, .slice A4 n4 k4, .slice A4' n4' k4', .slice A4'' n4'' k4''], u 20, u 21, .agg #[.int .i64 e5, .slice A5 n5 k5, .slice A5' n5' k5', .slice A5'' n5'' k5''], u 23, .agg #[.int .i64 e6, .slice A6 n6 k6, .slice A6' n6' k6', .slice A6'' n6'' k6''], u 25, .agg #[.int .i64 e7, .slice A7 n7 k7, .slice A7' n7' k7', .slice A7'' n7'' k7''], u 27, .agg #[.int .i64 e8, .slice A8 n8 k8, .slice A8' n8' k8', .slice A8'' n8'' k8''], u 29, u 30, u 31, .agg #[.int .i64 e9, .slice A9 n9 k9, .slice A9' n9' k9', .slice A9'' n9'' k9''], u 33, u 34, u 35, .agg #[.int .i64 e10, .slice A10 n10 k10, .slice A10' n10' k10', .slice A10'' n10'' k10''], u 37, u 38, .agg #[.int .i64 e11, .slice A11 n11 k11, .slice A11' n11' k11', .slice A11'' n11'' k11''], u 40, u 41, u 42, .agg #[.int .i64 e12, .slice A12 n12 k12, .slice A12' n12' k12', .slice A12'' n12'' k12''], u 44, u 45, u 46, .agg #[.int .i64 e13, .slice A13 n13 k13, .slice A13' n13' k13', .slice A13'' n13'' k13''], u 48, .agg #[.int .i64 e14, .slice A14 n14 k14, .slice A14' n14' k14', .slice A14'' n14'' k14''], u 50, .agg #[.int .i64 e15, .slice A15 n15 k15, .slice A15' n15' k15', .slice A15'' n15'' k15''], u 52, undef, undef, undef, undef, undef, undef, undef, undef, undef, undef, undef, undef, undef, undef, undef, undef, undef, undef, undef, undef, undef, undef, undef, undef, undef, undef, undef, undef, undef, undef, undef, undef, undef, undef, undef, undef, undef, undef, undef, undef, undef, undef, undef, undef, undef, undef, undef, undef, undef, undef, undef, undef, undef, undef, undef, undef, undef, undef, undef, undef, undef, undef, undef, undef, undef, undef, undef, undef, undef, undef, undef, undef, undef, undef, undef, undef, undef, undef, undef, undef, undef, undef, undef, undef, undef, undef, undef, undef, undef, undef, undef, undef, undef, undef, undef, undef, undef, undef, undef, undef, undef, undef, undef, undef, undef, undef, undef, undef, undef, undef, undef, undef, undef, undef, undef, undef, undef, undef, undef, undef, undef, undef, undef, undef, undef, undef, undef, undef, undef, undef, undef, undef, undef, undef, undef, undef, undef, undef, undef, undef, undef, undef, undef, undef, undef, undef, undef, undef], []⟩ := by unfold kFR; rw [h0, h1, h2, h3, h4, h5, h6, h7, h8, h9, h10, h11, h12, h13, h14, h15]
      refine ⟨rfl, kwp_val (d := 52) rfl (v := .slice (some ⟨w1.heap.size, 0, none⟩) 16 16) (w' := w1.alloc (.cells #[.int .i64 e0, .slice A0 n0 k0, .slice A0' n0' k0', .slice A0'' n0'' k0'', .int .i64 e1, .slice A1 n1 k1, .slice A1' n1' k1', .slice A1'' n1'' k1'', .int .i64 e2, .slice A2 n2 k2, .slice A2' n2' k2', .slice A2'' n2'' k2'', .int .i64 e3, .slice A3 n3 k3, .slice A3' n3' k3', .slice A3'' n3'' k3'', .int .i64 e4, .slice A4 n4 k4, .slice A4' n4' k4', .slice A4'' n4'' k4'', .int .i64 e5, .slice A5 n5 k5, .slice A5' n5' k5', .slice A5'' n5'' k5'', .int .i64 e6, .slice A6 n6 k6, .slice A6' n6' k6', .slice A6'' n6'' k6'', .int .i64 e7, .slice A7 n7 k7, .slice A7' n7' k7', .slice A7'' n7'' k7'', .int .i64 e8, .slice A8 n8 k8, .slice A8' n8' k8', .slice A8'' n8'' k8'', .int .i64 e9, .slice A9 n9 k9, .slice A9' n9' k9', .slice A9'' n9'' k9'', .int .i64 e10, .slice A10 n10 k10, .slice A10' n10' k10', .slice A10'' n10'' k10'', .int .i64 e11, .slice A11 n11 k11, .slice A11' n11' k11', .slice A11'' n11'' k11'', .int .i64 e12, .slice A12 n12 k12, .slice A12' n12' k12', .slice A12'' n12'' k12'', .int .i64 e13, .slice A13 n13 k13, .slice A13' n13' k13', .slice A13'' n13'' k13'', .int .i64 e14, .slice A14 n14 k14, .slice A14' n14' k14', .slice A14'' n14'' k14'', .int .i64 e15, .slice A15 n15 k15, .slice A15' n15' k15', .slice A15'' n15'' k15''] 29)) (by rw [eF]; kernel_rfl) ?_⟩
      rw [show (kFR q bA oA u).put (some 52) (.slice (some ⟨w1.heap.size, 0, none⟩) 16 16) = kFR q bA oA (kupd u (kDS 37) (.slice (some ⟨w1.heap.size, 0, none⟩) 16 16)) from by kernel_rfl]
      refine kinv_step (by omega) hx0 hG (Ext.alloc _ _) ?_
      show IsTab (w1.alloc (.cells #[.int .i64 e0, .slice A0 n0 k0, .slice A0' n0' k0', .slice A0'' n0'' k0'', .int .i64 e1, .slice A1 n1 k1, .slice A1' n1' k1', .slice A1'' n1'' k1'', .int .i64 e2, .slice A2 n2 k2, .slice A2' n2' k2', .slice A2'' n2'' k2'', .int .i64 e3, .slice A3 n3 k3, .slice A3' n3' k3', .slice A3'' n3'' k3'', .int .i64 e4, .slice A4 n4 k4, .slice A4' n4' k4', .slice A4'' n4'' k4'', .int .i64 e5, .slice A5 n5 k5, .slice A5' n5' k5', .slice A5'' n5'' k5'', .int .i64 e6, .slice A6 n6 k6, .slice A6' n6' k6', .slice A6'' n6'' k6'', .int .i64 e7, .slice A7 n7 k7, .slice A7' n7' k7', .slice A7'' n7'' k7'', .int .i64 e8, .slice A8 n8 k8, .slice A8' n8' k8', .slice A8'' n8'' k8'', .int .i64 e9, .slice A9 n9 k9, .slice A9' n9' k9', .slice A9'' n9'' k9'', .int .i64 e10, .slice A10 n10 k10, .slice A10' n10' k10', .slice A10'' n10'' k10'', .int .i64 e11, .slice A11 n11 k11, .slice A11' n11' k11', .slice A11'' n11'' k11'', .int .i64 e12, .slice A12 n12 k12, .slice A12' n12' k12', .slice A12'' n12'' k12'', .int .i64 e13, .slice A13 n13 k13, .slice A13' n13' k13', .slice A13'' n13'' k13'', .int .i64 e14, .slice A14 n14 k14, .slice A14' n14' k14', .slice A14'' n14'' k14'', .int .i64 e15, .slice A15 n15 k15, .slice A15' n15' k15', .slice A15'' n15'' k15''] 29)) (kupd u 52 (.slice (some ⟨w1.heap.size, 0, none⟩) 16 16) 52)
      rw [kupd_at]
      obtain ⟨l, hl⟩ := lst_of_heap repC _ _ 16 _ _ (heap_alloc_new w1 (.cells #[.int .i64 e0, .slice A0 n0 k0, .slice A0' n0' k0', .slice A0'' n0'' k0'', .int .i64 e1, .slice A1 n1 k1, .slice A1' n1' k1', .slice A1'' n1'' k1'', .int .i64 e2, .slice A2 n2 k2, .slice A2' n2' k2', .slice A2'' n2'' k2'', .int .i64 e3, .slice A3 n3 k3, .slice A3' n3' k3', .slice A3'' n3'' k3'', .int .i64 e4, .slice A4 n4 k4, .slice A4' n4' k4', .slice A4'' n4'' k4'', .int .i64 e5, .slice A5 n5 k5, .slice A5' n5' k5', .slice A5'' n5'' k5'', .int .i64 e6, .slice A6 n6 k6, .slice A6' n6' k6', .slice A6'' n6'' k6'', .int .i64 e7, .slice A7 n7 k7, .slice A7' n7' k7', .slice A7'' n7'' k7'', .int .i64 e8, .slice A8 n8 k8, .slice A8' n8' k8', .slice A8'' n8'' k8'', .int .i64 e9, .slice A9 n9 k9, .slice A9' n9' k9', .slice A9'' n9'' k9'', .int .i64 e10, .slice A10 n10 k10, .slice A10' n10' k10', .slice A10'' n10'' k10'', .int .i64 e11, .slice A11 n11 k11, .slice A11' n11' k11', .slice A11'' n11'' k11'', .int .i64 e12, .slice A12 n12 k12, .slice A12' n12' k12', .slice A12'' n12'' k12'', .int .i64 e13, .slice A13 n13 k13, .slice A13' n13' k13', .slice A13'' n13'' k13'', .int .i64 e14, .slice A14 n14 k14, .slice A14' n14' k14', .slice A14'' n14'' k14'', .int .i64 e15, .slice A15 n15 k15, .slice A15' n15' k15', .slice A15'' n15'' k15''] 29)) rfl (fun i hi => by
        match i, hi with
        | 0, _ => exact ⟨⟨e0, on0, st0, fs0⟩, ⟨A0, n0, k0, A0', n0', k0', A0'', n0'', k0''⟩, rfl, r0.ext (Ext.alloc _ _)⟩
        | 1, _ => exact ⟨⟨e1, on1, st1, fs1⟩, ⟨A1, n1, k1, A1', n1', k1', A1'', n1'', k1''⟩, rfl, r1.ext (Ext.alloc _ _)⟩
        | 2, _ => exact ⟨⟨e2, on2, st2, fs2⟩, ⟨A2, n2, k2, A2', n2', k2', A2'', n2'', k2''⟩, rfl, r2.ext (Ext.alloc _ _)⟩
        | 3, _ => exact ⟨⟨e3, on3, st3, fs3⟩, ⟨A3, n3, k3, A3', n3', k3', A3'', n3'', k3''⟩, rfl, r3.ext (Ext.alloc _ _)⟩
        | 4, _ => exact ⟨⟨e4, on4, st4, fs4⟩, ⟨A4, n4, k4, A4', n4', k4', A4'', n4'', k4''⟩, rfl, r4.ext (Ext.alloc _ _)⟩
        | 5, _ => exact ⟨⟨e5, on5, st5, fs5⟩, ⟨A5, n5, k5, A5', n5', k5', A5'', n5'', k5''⟩, rfl, r5.ext (Ext.alloc _ _)⟩
        | 6, _ => exact ⟨⟨e6, on6, st6, fs6⟩, ⟨A6, n6, k6, A6', n6', k6', A6'', n6'', k6''⟩, rfl, r6.ext (Ext.alloc _ _)⟩
        | 7, _ => exact ⟨⟨e7, on7, st7, fs7⟩, ⟨A7, n7, k7, A7', n7', k7', A7'', n7'', k7''⟩, rfl, r7.ext (Ext.alloc _ _)⟩
        | 8, _ => exact ⟨⟨e8, on8, st8, fs8⟩, ⟨A8, n8, k8, A8', n8', k8', A8'', n8'', k8''⟩, rfl, r8.ext (Ext.alloc _ _)⟩
        | 9, _ => exact ⟨⟨e9, on9, st9, fs9⟩, ⟨A9, n9, k9, A9', n9', k9', A9'', n9'', k9''⟩, rfl, r9.ext (Ext.alloc _ _)⟩
        | 10, _ => exact ⟨⟨e10, on10, st10, fs10⟩, ⟨A10, n10, k10, A10', n10', k10', A10'', n10'', k10''⟩, rfl, r10.ext (Ext.alloc _ _)⟩
        | 11, _ => exact ⟨⟨e11, on11, st11, fs11⟩, ⟨A11, n11, k11, A11', n11', k11', A11'', n11'', k11''⟩, rfl, r11.ext (Ext.alloc _ _)⟩
        | 12, _ => exact ⟨⟨e12, on12, st12, fs12⟩, ⟨A12, n12, k12, A12', n12', k12', A12'', n12'', k12''⟩, rfl, r12.ext (Ext.alloc _ _)⟩
        | 13, _ => exact ⟨⟨e13, on13, st13, fs13⟩, ⟨A13, n13, k13, A13', n13', k13', A13'', n13'', k13''⟩, rfl, r13.ext (Ext.alloc _ _)⟩
        | 14, _ => exact ⟨⟨e14, on14, st14, fs14⟩, ⟨A14, n14, k14, A14', n14', k14', A14'', n14'', k14''⟩, rfl, r14.ext (Ext.alloc _ _)⟩
        | 15, _ => exact ⟨⟨e15, on15, st15, fs15⟩, ⟨A15, n15, k15, A15', n15', k15', A15'', n15'', k15''⟩, rfl, r15.ext (Ext.alloc _ _)⟩
        | n + 16, h => exact absurd h (by omega))
      exact ⟨_, l, rfl, by simp, hl⟩
    | 38, _ =>
      obtain rfl := Option.some.inj (show some _ = some o from ho)
      obtain ⟨g, l, h1, h2, h3⟩ : IsTab w1 (u 52) := hG 37 (by omega) (kedge hall 37 (by kernel_rfl))
      have eF : kFR q bA oA u = ⟨#[.bool false, .pointer (some ⟨q, 0, none⟩), .pointer (some ⟨q + 1, 0, none⟩), u 3, undef, undef, undef, undef, undef, undef, undef, .tuple #[.agg #[.int .i64 3, .int .i64 0, .int .i64 2, .slice none 0 0, .slice none 0 0, .slice none 0 0], .agg #[.int .i64 0, .slice none 0 0, .slice (some ⟨bA, oA, none⟩) 2 2, .slice none 0 0]], .tuple #[.agg #[.int .i64 3, .int .i64 0, .int .i64 2, .slice none 0 0, .slice none 0 0, .slice none 0 0], .agg #[.int .i64 0, .slice none 0 0, .slice (some ⟨bA, oA, none⟩) 2 2, .slice none 0 0]], .agg #[.int .i64 3, .int .i64 0, .int .i64 2, .slice none 0 0, .slice none 0 0, .slice none 0 0], .agg #[.int .i64 0, .slice none 0 0, .slice (some ⟨bA, oA, none⟩) 2 2, .slice none 0 0], u 15, u 16, u 17, u 18, u 19, u 20, u 21, u 22, u 23, u 24, u 25, u 26, u 27, u 28, u 29, u 30, u 31, u 32, u 33, u 34, u 35, u 36, u 37, u 38, u 39, u 40, u 41, u 42, u 43, u 44, u 45, u 46, u 47, u 48, u 49, u 50, u 51, .slice (some ⟨g, 0, none⟩) 16 16, undef, undef, undef, undef, undef, undef, undef, undef, undef, undef, undef, undef, undef, undef, undef, undef, undef, undef, undef, undef, undef, undef, undef, undef, undef, undef, undef, undef, undef, undef, undef, undef, undef, undef, undef, undef, undef, undef, undef, undef, undef, undef, undef, undef, undef, undef, undef, undef, undef, undef, undef, undef, undef, undef, undef, undef, undef, undef, undef, undef, undef, undef, undef, undef, undef, undef, undef, undef, undef, undef, undef, undef, undef, undef, undef, undef, undef, undef, undef, undef, undef, undef, undef, undef, undef, undef, undef, undef, undef, undef, undef, undef, undef, undef, undef, undef, undef, undef, undef, undef, undef, undef, undef, undef, undef, undef, undef, undef, undef, undef, undef, undef, undef, undef, undef, undef, undef, undef, undef, undef, undef, undef, undef, undef, undef, undef, undef, undef, undef, undef, undef, undef, undef, undef, undef, undef, undef, undef, undef, undef, undef, undef, undef, undef, undef, undef, undef, undef], []⟩ := by unfold kFR; rw [h1]
      refine ⟨rfl, kwp_val (d := 3) rfl (v := .slice (some ⟨g, 0, none⟩) 16 16) (w' := w1) (by rw [eF]; kernel_rfl) ?_⟩
      rw [show (kFR q bA oA u).put (some 3) (.slice (some ⟨g, 0, none⟩) 16 16) = kFR q bA oA (kupd u (kDS 38) (.slice (some ⟨g, 0, none⟩) 16 16)) from by kernel_rfl]
      refine kinv_step (by omega) hx0 hG (Ext.refl _) ?_
      show IsTab w1 (kupd u 3 (.slice (some ⟨g, 0, none⟩) 16 16) 3)
      rw [kupd_at]
      exact ⟨g, l, rfl, h2, h3⟩
    | n + 39, h => exact absurd h (by omega)
  case done =>
    intro listed a w1 hall hI
    obtain ⟨u, rfl, hx0, hG⟩ := hI
    obtain ⟨g, lr, h1, h2, h3⟩ : IsTab w1 (u 3) := hG 38 (by omega) (hall 38 (show 38 < 39 by omega))
    clear hG hall
    unfold kFR
    rw [h1]
    clear h1
    have HT := Lib.hid h3
    have XA := Lib.hid (XV.out.trans hx0)
    replace HBA := Lib.hid (hx0.block HBA.out)
    clear h3 hx0 hI0 HBR HR2 XV
    go_wp2_with fail
    obtain ⟨V2, hV2⟩ : ∃ V2, (((((((((((((((((((((((((((((w1.alloc (.cells #[.int .u8 3] 5)).alloc (.cells #[.int .u8 131] 5)).alloc (.cells #[.int .u8 131, .int .u8 0] 5)).alloc (.cells #[.int .u8 131, .int .u8 2] 5)).alloc (.cells #[.int .u8 131, .int .u8 128] 5)).alloc (.cells #[.int .u8 131, .int .u8 2, .int .u8 0] 5)).alloc (.cells #[.int .u8 4] 5)).alloc (.cells #[.int .u8 3, .int .u8 4, .int .u8 0, .int .u8 1, .int .u8 2] 5)).alloc (.cells #[.int .u8 3, .int .u8 3, .int .u8 0, .int .u8 1, .int .u8 2, .int .u8 0] 5)).alloc (.cells #[.int .u8 3, .int .u8 4, .int .u8 0, .int .u8 1, .int .u8 2, .int .u8 0] 5)).alloc (.cells #[.int .u8 3, .int .u8 4, .int .u8 0, .int .u8 1, .int .u8 2, .int .u8 0, .int .u8 0] 5)).alloc (.cells #[.int .u8 1, .int .u8 2, .int .u8 1, .int .u8 0] 5)).alloc (.cells #[.int .u8 1, .int .u8 2, .int .u8 1, .int .u8 4] 5)).alloc (.cells #[.int .u8 1, .int .u8 1, .int .u8 1, .int .u8 0] 5)).alloc (.cells #[.int .u8 6, .int .u8 0, .int .u8 7, .int .u8 0, .int .u8 9] 5)).alloc (.cells #[.int .u8 6, .int .u8 0, .int .u8 7, .int .u8 0, .int .u8 8] 5)).alloc (.cells #[.int .u8 16, .int .u8 0, .int .u8 7, .int .u8 0, .int .u8 2] 5)).alloc (.cells #[.int .u8 16, .int .u8 0, .int .u8 7, .int .u8 0, .int .u8 1] 5)).alloc (.cells #[.int .u8 20, .int .u8 4, .int .u8 3, .int .u8 6, .int .u8 0, .int .u8 5] 5)).alloc (.cells #[.int .u8 20, .int .u8 4, .int .u8 3, .int .u8 7, .int .u8 0, .int .u8 5] 5)).alloc (.cells #[.int .u8 20, .int .u8 4, .int .u8 3, .int .u8 5, .int .u8 0, .int .u8 5] 5)).alloc (.cells #[.int .u8 20, .int .u8 4, .int .u8 4, .int .u8 6, .int .u8 0, .int .u8 5] 5)).alloc (.cells #[.int .u8 20, .int .u8 5, .int .u8 3, .int .u8 6, .int .u8 0, .int .u8 5] 5)).alloc (.cells #[.int .u8 20, .int .u8 10, .int .u8 3, .int .u8 6, .int .u8 0, .int .u8 5, .int .u8 5, .int .u8 6, .int .u8 0, .int .u8 6, .int .u8 0, .int .u8 7] 5)).alloc (.cells #[.int .u8 5, .int .u8 0, .int .u8 3, .int .u8 255, .int .u8 0] 5)).alloc (.cells #[.int .u8 5, .int .u8 0, .int .u8 3, .int .u8 0, .int .u8 0] 5)).alloc (.cells #[.int .u8 15, .int .u8 0, .int .u8 0, .int .u8 0, .int .u8 3] 5)).alloc (.cells #[.int .u8 255, .int .u8 1] 5)).alloc (.cells #[.slice none 0 0, .slice (some ⟨w1.heap.size, 0, none⟩) 1 1, .slice (some ⟨w1.heap.size + 1, 0, none⟩) 1 1, .slice (some ⟨w1.heap.size + 1 + 1, 0, none⟩) 2 2, .slice (some ⟨w1.heap.size + 1 + 1 + 1, 0, none⟩) 2 2, .slice (some ⟨w1.heap.size + 1 + 1 + 1 + 1, 0, none⟩) 2 2, .slice (some ⟨w1.heap.size + 1 + 1 + 1 + 1 + 1, 0, none⟩) 3 3, .slice (some ⟨w1.heap.size + 1 + 1 + 1 + 1 + 1 + 1, 0, none⟩) 1 1, .slice (some ⟨w1.heap.size + 1 + 1 + 1 + 1 + 1 + 1 + 1, 0, none⟩) 5 5, .slice (some ⟨w1.heap.size + 1 + 1 + 1 + 1 + 1 + 1 + 1 + 1, 0, none⟩) 6 6, .slice (some ⟨w1.heap.size + 1 + 1 + 1 + 1 + 1 + 1 + 1 + 1 + 1, 0, none⟩) 6 6, .slice (some ⟨w1.heap.size + 1 + 1 + 1 + 1 + 1 + 1 + 1 + 1 + 1 + 1, 0, none⟩) 7 7, .slice (some ⟨w1.heap.size + 1 + 1 + 1 + 1 + 1 + 1 + 1 + 1 + 1 + 1 + 1, 0, none⟩) 4 4, .slice (some ⟨w1.heap.size + 1 + 1 + 1 + 1 + 1 + 1 + 1 + 1 + 1 + 1 + 1 + 1, 0, none⟩) 4 4, .slice (some ⟨w1.heap.size + 1 + 1 + 1 + 1 + 1 + 1 + 1 + 1 + 1 + 1 + 1 + 1 + 1, 0, none⟩) 4 4, .slice (some ⟨w1.heap.size + 1 + 1 + 1 + 1 + 1 + 1 + 1 + 1 + 1 + 1 + 1 + 1 + 1 + 1, 0, none⟩) 5 5, .slice (some ⟨w1.heap.size + 1 + 1 + 1 + 1 + 1 + 1 + 1 + 1 + 1 + 1 + 1 + 1 + 1 + 1 + 1, 0, none⟩) 5 5, .slice (some ⟨w1.heap.size + 1 + 1 + 1 + 1 + 1 + 1 + 1 + 1 + 1 + 1 + 1 + 1 + 1 + 1 + 1 + 1, 0, none⟩) 5 5, .slice (some ⟨w1.heap.size + 1 + 1 + 1 + 1 + 1 + 1 + 1 + 1 + 1 + 1 + 1 + 1 + 1 + 1 + 1 + 1 + 1, 0, none⟩) 5 5, .slice (some ⟨w1.heap.size + 1 + 1 + 1 + 1 + 1 + 1 + 1 + 1 + 1 + 1 + 1 + 1 + 1 + 1 + 1 + 1 + 1 + 1, 0, none⟩) 6 6, .slice (some ⟨w1.heap.size + 1 + 1 + 1 + 1 + 1 + 1 + 1 + 1 + 1 + 1 + 1 + 1 + 1 + 1 + 1 + 1 + 1 + 1 + 1, 0, none⟩) 6 6, .slice (some ⟨w1.heap.size + 1 + 1 + 1 + 1 + 1 + 1 + 1 + 1 + 1 + 1 + 1 + 1 + 1 + 1 + 1 + 1 + 1 + 1 + 1 + 1, 0, none⟩) 6 6, .slice (some ⟨w1.heap.size + 1 + 1 + 1 + 1 + 1 + 1 + 1 + 1 + 1 + 1 + 1 + 1 + 1 + 1 + 1 + 1 + 1 + 1 + 1 + 1 + 1, 0, none⟩) 6 6, .slice (some ⟨w1.heap.size + 1 + 1 + 1 + 1 + 1 + 1 + 1 + 1 + 1 + 1 + 1 + 1 + 1 + 1 + 1 + 1 + 1 + 1 + 1 + 1 + 1 + 1, 0, none⟩) 6 6, .slice (some ⟨w1.heap.size + 1 + 1 + 1 + 1 + 1 + 1 + 1 + 1 + 1 + 1 + 1 + 1 + 1 + 1 + 1 + 1 + 1 + 1 + 1 + 1 + 1 + 1 + 1, 0, none⟩) 12 12, .slice (some ⟨w1.heap.size + 1 + 1 + 1 + 1 + 1 + 1 + 1 + 1 + 1 + 1 + 1 + 1 + 1 + 1 + 1 + 1 + 1 + 1 + 1 + 1 + 1 + 1 + 1 + 1, 0, none⟩) 5 5, .slice (some ⟨w1.heap.size + 1 + 1 + 1 + 1 + 1 + 1 + 1 + 1 + 1 + 1 + 1 + 1 + 1 + 1 + 1 + 1 + 1 + 1 + 1 + 1 + 1 + 1 + 1 + 1 + 1, 0, none⟩) 5 5, .slice (some ⟨w1.heap.size + 1 + 1 + 1 + 1 + 1 + 1 + 1 + 1 + 1 + 1 + 1 + 1 + 1 + 1 + 1 + 1 + 1 + 1 + 1 + 1 + 1 + 1 + 1 + 1 + 1 + 1, 0, none⟩) 5 5, .slice (some ⟨w1.heap.size + 1 + 1 + 1 + 1 + 1 + 1 + 1 + 1 + 1 + 1 + 1 + 1 + 1 + 1 + 1 + 1 + 1 + 1 + 1 + 1 + 1 + 1 + 1 + 1 + 1 + 1 + 1, 0, none⟩) 2 2] 36)) = V2 := ⟨_, rfl⟩
    rw [hV2]
    have XV2 := Lib.hid (show Ext w1 V2 from hV2 ▸ (by repeat' (first | with_reducible exact Ext.refl _ | with_reducible refine Ext.alloc' ?_ _)))
    have HF := Lib.hid (show ∃ l, RdL bytC V2 (some ⟨w1.heap.size + 1 + 1 + 1 + 1 + 1 + 1 + 1 + 1 + 1 + 1 + 1 + 1 + 1 + 1 + 1 + 1 + 1 + 1 + 1 + 1 + 1 + 1 + 1 + 1 + 1 + 1 + 1 + 1, 0, none⟩) 29 l from by
      subst hV2
      refine lst_of_heap bytC _ _ 29 _ _ (heap_at _ _ _ (by simp)) rfl fun i hi => ?_
      match i, hi with
      | 0, _ => exact ⟨[], none, 0, 0, rfl, Rd.nil_ _, by omega, by omega⟩
      | 1, _ => exact ⟨[3], some ⟨w1.heap.size, 0, none⟩, 1, 1, rfl, Rd.of_heap (ys := []) ((Ext.alloc _ _).block ((Ext.alloc _ _).block ((Ext.alloc _ _).block ((Ext.alloc _ _).block ((Ext.alloc _ _).block ((Ext.alloc _ _).block ((Ext.alloc _ _).block ((Ext.alloc _ _).block ((Ext.alloc _ _).block ((Ext.alloc _ _).block ((Ext.alloc _ _).block ((Ext.alloc _ _).block ((Ext.alloc _ _).block ((Ext.alloc _ _).block ((Ext.alloc _ _).block ((Ext.alloc _ _).block ((Ext.alloc _ _).block ((Ext.alloc _ _).block ((Ext.alloc _ _).block ((Ext.alloc _ _).block ((Ext.alloc _ _).block ((Ext.alloc _ _).block ((Ext.alloc _ _).block ((Ext.alloc _ _).block ((Ext.alloc _ _).block ((Ext.alloc _ _).block ((Ext.alloc _ _).block ((Ext.alloc _ _).block (heap_at _ _ _ (by simp)))))))))))))))))))))))))))))) rfl rfl, by omega, by omega⟩
      | 2, _ => exact ⟨[131], some ⟨w1.heap.size + 1, 0, none⟩, 1, 1, rfl, Rd.of_heap (ys := []) ((Ext.alloc _ _).block ((Ext.alloc _ _).block ((Ext.alloc _ _).block ((Ext.alloc _ _).block ((Ext.alloc _ _).block ((Ext.alloc _ _).block ((Ext.alloc _ _).block ((Ext.alloc _ _).block ((Ext.alloc _ _).block ((Ext.alloc _ _).block ((Ext.alloc _ _).block ((Ext.alloc _ _).block ((Ext.alloc _ _).block ((Ext.alloc _ _).block ((Ext.alloc _ _).block ((Ext.alloc _ _).block ((Ext.alloc _ _).block ((Ext.alloc _ _).block ((Ext.alloc _ _).block ((Ext.alloc _ _).block ((Ext.alloc _ _).block ((Ext.alloc _ _).block ((Ext.alloc _ _).block ((Ext.alloc _ _).block ((Ext.alloc _ _).block ((Ext.alloc _ _).block ((Ext.alloc _ _).block (heap_at _ _ _ (by simp))))))))))))))))))))))))))))) rfl rfl, by omega, by omega⟩
      | 3, _ => exact ⟨[131, 0], some ⟨w1.heap.size + 1 + 1, 0, none⟩, 2, 2, rfl, Rd.of_heap (ys := []) ((Ext.alloc _ _).block ((Ext.alloc _ _).block ((Ext.alloc _ _).block ((Ext.alloc _ _).block ((Ext.alloc _ _).block ((Ext.alloc _ _).block ((Ext.alloc _ _).block ((Ext.alloc _ _).block ((Ext.alloc _ _).block ((Ext.alloc _ _).block ((Ext.alloc _ _).block ((Ext.alloc _ _).block ((Ext.alloc _ _).block ((Ext.alloc _ _).block ((Ext.alloc _ _).block ((Ext.alloc _ _).block ((Ext.alloc _ _).block ((Ext.alloc _ _).block ((Ext.alloc _ _).block ((Ext.alloc _ _).block ((Ext.alloc _ _).block ((Ext.alloc _ _).block ((Ext.alloc _ _).block ((Ext.alloc _ _).block ((Ext.alloc _ _).block ((Ext.alloc _ _).block (heap_at _ _ _ (by simp)))))))))))))))))))))))))))) rfl rfl, by omega, by omega⟩
      | 4, _ => exact ⟨[131, 2], some ⟨w1.heap.size + 1 + 1 + 1, 0, none⟩, 2, 2, rfl, Rd.of_heap (ys := []) ((Ext.alloc _ _).block ((Ext.alloc _ _).block ((Ext.alloc _ _).block ((Ext.alloc _ _).block ((Ext.alloc _ _).block ((Ext.alloc _ _).block ((Ext.alloc _ _).block ((Ext.alloc _ _).block ((Ext.alloc _ _).block ((Ext.alloc _ _).block ((Ext.alloc _ _).block ((Ext.alloc _ _).block ((Ext.alloc _ _).block ((Ext.alloc _ _).block ((Ext.alloc _ _).block ((Ext.alloc _ _).block ((Ext.alloc _ _).block ((Ext.alloc _ _).block ((Ext.alloc _ _).block ((Ext.alloc _ _).block ((Ext.alloc _ _).block ((Ext.alloc _ _).block ((Ext.alloc _ _).block ((Ext.alloc _ _).block ((Ext.alloc _ _).block (heap_at _ _ _ (by simp))))))))))))))))))))))))))) rfl rfl, by omega, by omega⟩
      | 5, _ => exact ⟨[131, 128], some ⟨w1.heap.size + 1 + 1 + 1 + 1, 0, none⟩, 2, 2, rfl, Rd.of_heap (ys := []) ((Ext.alloc _ _).block ((Ext.alloc _ _).block ((Ext.alloc _ _).block ((Ext.alloc _ _).block ((Ext.alloc _ _).block ((Ext.alloc _ _).block ((Ext.alloc _ _).block ((Ext.alloc _ _).block ((Ext.alloc _ _).block ((Ext.alloc _ _).block ((Ext.alloc _ _).block ((Ext.alloc _ _).block ((Ext.alloc _ _).block ((Ext.alloc _ _).block ((Ext.alloc _ _).block ((Ext.alloc _ _).block ((Ext.alloc _ _).block ((Ext.alloc _ _).block ((Ext.alloc _ _).block ((Ext.alloc _ _).block ((Ext.alloc _ _).block ((Ext.alloc _ _).block ((Ext.alloc _ _).block ((Ext.alloc _ _).block (heap_at _ _ _ (by simp)))))))))))))))))))))))))) rfl rfl, by omega, by omega⟩
      | 6, _ => exact ⟨[131, 2, 0], some ⟨w1.heap.size + 1 + 1 + 1 + 1 + 1, 0, none⟩, 3, 3, rfl, Rd.of_heap (ys := []) ((Ext.alloc _ _).block ((Ext.alloc _ _).block ((Ext.alloc _ _).block ((Ext.alloc _ _).block ((Ext.alloc _ _).block ((Ext.alloc _ _).block ((Ext.alloc _ _).block ((Ext.alloc _ _).block ((Ext.alloc _ _).block ((Ext.alloc _ _).block ((Ext.alloc _ _).block ((Ext.alloc _ _).block ((Ext.alloc _ _).block ((Ext.alloc _ _).block ((Ext.alloc _ _).block ((Ext.alloc _ _).block ((Ext.alloc _ _).block ((Ext.alloc _ _).block ((Ext.alloc _ _).block ((Ext.alloc _ _).block ((Ext.alloc _ _).block ((Ext.alloc _ _).block ((Ext.alloc _ _).block (heap_at _ _ _ (by simp))))))))))))))))))))))))) rfl rfl, by omega, by omega⟩
      | 7, _ => exact ⟨[4], some ⟨w1.heap.size + 1 + 1 + 1 + 1 + 1 + 1, 0, none⟩, 1, 1, rfl, Rd.of_heap (ys := []) ((Ext.alloc _ _).block ((Ext.alloc _ _).block ((Ext.alloc _ _).block ((Ext.alloc _ _).block ((Ext.alloc _ _).block ((Ext.alloc _ _).block ((Ext.alloc _ _).block ((Ext.alloc _ _).block ((Ext.alloc _ _).block ((Ext.alloc _ _).block ((Ext.alloc _ _).block ((Ext.alloc _ _).block ((Ext.alloc _ _).block ((Ext.alloc _ _).block ((Ext.alloc _ _).block ((Ext.alloc _ _).block ((Ext.alloc _ _).block ((Ext.alloc _ _).block ((Ext.alloc _ _).block ((Ext.alloc _ _).block ((Ext.alloc _ _).block ((Ext.alloc _ _).block (heap_at _ _ _ (by simp)))))))))))))))))))))))) rfl rfl, by omega, by omega⟩
      | 8, _ => exact ⟨[3, 4, 0, 1, 2], some ⟨w1.heap.size + 1 + 1 + 1 + 1 + 1 + 1 + 1, 0, none⟩, 5, 5, rfl, Rd.of_heap (ys := []) ((Ext.alloc _ _).block ((Ext.alloc _ _).block ((Ext.alloc _ _).block ((Ext.alloc _ _).block ((Ext.alloc _ _).block ((Ext.alloc _ _).block ((Ext.alloc _ _).block ((Ext.alloc _ _).block ((Ext.alloc _ _).block ((Ext.alloc _ _).block ((Ext.alloc _ _).block ((Ext.alloc _ _).block ((Ext.alloc _ _).block ((Ext.alloc _ _).block ((Ext.alloc _ _).block ((Ext.alloc _ _).block ((Ext.alloc _ _).block ((Ext.alloc _ _).block ((Ext.alloc _ _).block ((Ext.alloc _ _).block ((Ext.alloc _ _).block (heap_at _ _ _ (by simp))))))))))))))))))))))) rfl rfl, by omega, by omega⟩
      | 9, _ => exact ⟨[3, 3, 0, 1, 2, 0], some ⟨w1.heap.size + 1 + 1 + 1 + 1 + 1 + 1 + 1 + 1, 0, none⟩, 6, 6, rfl, Rd.of_heap (ys := []) ((Ext.alloc _ _).block ((Ext.alloc _ _).block ((Ext.alloc _ _).block ((Ext.alloc _ _).block ((Ext.alloc _ _).block ((Ext.alloc _ _).block ((Ext.alloc _ _).block ((Ext.alloc _ _).block ((Ext.alloc _ _).block ((Ext.alloc _ _).block ((Ext.alloc _ _).block ((Ext.alloc _ _).block ((Ext.alloc _ _).block ((Ext.alloc _ _).block ((Ext.alloc _ _).block ((Ext.alloc _ _).block ((Ext.alloc _ _).block ((Ext.alloc _ _).block ((Ext.alloc _ _).block ((Ext.alloc _ _).block (heap_at _ _ _ (by simp)))))))))))))))))))))) rfl rfl, by omega, by omega⟩
      | 10, _ => exact ⟨[3, 4, 0, 1, 2, 0], some ⟨w1.heap.size + 1 + 1 + 1 + 1 + 1 + 1 + 1 + 1 + 1, 0, none⟩, 6, 6, rfl, Rd.of_heap (ys := []) ((Ext.alloc _ _).block ((Ext.alloc _ _).block ((Ext.alloc _ _).block ((Ext.alloc _ _).block ((Ext.alloc _ _).block ((Ext.alloc _ _).block ((Ext.alloc _ _).block ((Ext.alloc _ _).block ((Ext.alloc _ _).block ((Ext.alloc _ _).block ((Ext.alloc _ _).block ((Ext.alloc _ _).block ((Ext.alloc _ _).block ((Ext.alloc _ _).block ((Ext.alloc _ _).block ((Ext.alloc _ _).block ((Ext.alloc _ _).block ((Ext.alloc _ _).block ((Ext.alloc _ _).block (heap_at _ _ _ (by simp))))))))))))))))))))) rfl rfl, by omega, by omega⟩
      | 11, _ => exact ⟨[3, 4, 0, 1, 2, 0, 0], some ⟨w1.heap.size + 1 + 1 + 1 + 1 + 1 + 1 + 1 + 1 + 1 + 1, 0, none⟩, 7, 7, rfl, Rd.of_heap (ys := []) ((Ext.alloc _ _).block ((Ext.alloc _ _).block ((Ext.alloc _ _).block ((Ext.alloc _ _).block ((Ext.alloc _ _).block ((Ext.alloc _ _).block ((Ext.alloc _ _).block ((Ext.alloc _ _).block ((Ext.alloc _ _).block ((Ext.alloc _ _).block ((Ext.alloc _ _).block ((Ext.alloc _ _).block ((Ext.alloc _ _).block ((Ext.alloc _ _).block ((Ext.alloc _ _).block ((Ext.alloc _ _).block ((Ext.alloc _ _).block ((Ext.alloc _ _).block (heap_at _ _ _ (by simp)))))))))))))))))))) rfl rfl, by omega, by omega⟩
      | 12, _ => exact ⟨[1, 2, 1, 0], some ⟨w1.heap.size + 1 + 1 + 1 + 1 + 1 + 1 + 1 + 1 + 1 + 1 + 1, 0, none⟩, 4, 4, rfl, Rd.of_heap (ys := []) ((Ext.alloc _ _).block ((Ext.alloc _ _).block ((Ext.alloc _ _).block ((Ext.alloc _ _).block ((Ext.alloc _ _).block ((Ext.alloc _ _).block ((Ext.alloc _ _).block ((Ext.alloc _ _).block ((Ext.alloc _ _).block ((Ext.alloc _ _).block ((Ext.alloc _ _).block ((Ext.alloc _ _).block ((Ext.alloc _ _).block ((Ext.alloc _ _).block ((Ext.alloc _ _).block ((Ext.alloc _ _).block ((Ext.alloc _ _).block (heap_at _ _ _ (by simp))))))))))))))))))) rfl rfl, by omega, by omega⟩
      | 13, _ => exact ⟨[1, 2, 1, 4], some ⟨w1.heap.size + 1 + 1 + 1 + 1 + 1 + 1 + 1 + 1 + 1 + 1 + 1 + 1, 0, none⟩, 4, 4, rfl, Rd.of_heap (ys := []) ((Ext.alloc _ _).block ((Ext.alloc _ _).block ((Ext.alloc _ _).block ((Ext.alloc _ _).block ((Ext.alloc _ _).block ((Ext.alloc _ _).block ((Ext.alloc _ _).block ((Ext.alloc _ _).block ((Ext.alloc _ _).block ((Ext.alloc _ _).block ((Ext.alloc _ _).block ((Ext.alloc _ _).block ((Ext.alloc _ _).block ((Ext.alloc _ _).block ((Ext.alloc _ _).block ((Ext.alloc _ _).block (heap_at _ _ _ (by simp)))))))))))))))))) rfl rfl, by omega, by omega⟩
      | 14, _ => exact ⟨[1, 1, 1, 0], some ⟨w1.heap.size + 1 + 1 + 1 + 1 + 1 + 1 + 1 + 1 + 1 + 1 + 1 + 1 + 1, 0, none⟩, 4, 4, rfl, Rd.of_heap (ys := []) ((Ext.alloc _ _).block ((Ext.alloc _ _).block ((Ext.alloc _ _).block ((Ext.alloc _ _).block ((Ext.alloc _ _).block ((Ext.alloc _ _).block ((Ext.alloc _ _).block ((Ext.alloc _ _).block ((Ext.alloc _ _).block ((Ext.alloc _ _).block ((Ext.alloc _ _).block ((Ext.alloc _ _).block ((Ext.alloc _ _).block ((Ext.alloc _ _).block ((Ext.alloc _ _).block (heap_at _ _ _ (by simp))))))))))))))))) rfl rfl, by omega, by omega⟩
      | 15, _ => exact ⟨[6, 0, 7, 0, 9], some ⟨w1.heap.size + 1 + 1 + 1 + 1 + 1 + 1 + 1 + 1 + 1 + 1 + 1 + 1 + 1 + 1, 0, none⟩, 5, 5, rfl, Rd.of_heap (ys := []) ((Ext.alloc _ _).block ((Ext.alloc _ _).block ((Ext.alloc _ _).block ((Ext.alloc _ _).block ((Ext.alloc _ _).block ((Ext.alloc _ _).block ((Ext.alloc _ _).block ((Ext.alloc _ _).block ((Ext.alloc _ _).block ((Ext.alloc _ _).block ((Ext.alloc _ _).block ((Ext.alloc _ _).block ((Ext.alloc _ _).block ((Ext.alloc _ _).block (heap_at _ _ _ (by simp)))))))))))))))) rfl rfl, by omega, by omega⟩
      | 16, _ => exact ⟨[6, 0, 7, 0, 8], some ⟨w1.heap.size + 1 + 1 + 1 + 1 + 1 + 1 + 1 + 1 + 1 + 1 + 1 + 1 + 1 + 1 + 1, 0, none⟩, 5, 5, rfl, Rd.of_heap (ys := []) ((Ext.alloc _ _).block ((Ext.alloc _ _).block ((Ext.alloc _ _).block ((Ext.alloc _ _).block ((Ext.alloc _ _).block ((Ext.alloc _ _).block ((Ext.alloc _ _).block ((Ext.alloc _ _).block ((Ext.alloc _ _).block ((Ext.alloc _ _).block ((Ext.alloc _ _).block ((Ext.alloc _ _).block ((Ext.alloc _ _).block (heap_at _ _ _ (by simp))))))))))))))) rfl rfl, by omega, by omega⟩
      | 17, _ => exact ⟨[16, 0, 7, 0, 2], some ⟨w1.heap.size + 1 + 1 + 1 + 1 + 1 + 1 + 1 + 1 + 1 + 1 + 1 + 1 + 1 + 1 + 1 + 1, 0, none⟩, 5, 5, rfl, Rd.of_heap (ys := []) ((Ext.alloc _ _).block ((Ext.alloc _ _).block ((Ext.alloc _ _).block ((Ext.alloc _ _).block ((Ext.alloc _ _).block ((Ext.alloc _ _).block ((Ext.alloc _ _).block ((Ext.alloc _ _).block ((Ext.alloc _ _).block ((Ext.alloc _ _).block ((Ext.alloc _ _).block ((Ext.alloc _ _).block (heap_at _ _ _ (by simp)))))))))))))) rfl rfl, by omega, by omega⟩
      | 18, _ => exact ⟨[16, 0, 7, 0, 1], some ⟨w1.heap.size + 1 + 1 + 1 + 1 + 1 + 1 + 1 + 1 + 1 + 1 + 1 + 1 + 1 + 1 + 1 + 1 + 1, 0, none⟩, 5, 5, rfl, Rd.of_heap (ys := []) ((Ext.alloc _ _).block ((Ext.alloc _ _).block ((Ext.alloc _ _).block ((Ext.alloc _ _).block ((Ext.alloc _ _).block ((Ext.alloc _ _).block ((Ext.alloc _ _).block ((Ext.alloc _ _).block ((Ext.alloc _ _).block ((Ext.alloc _ _).block ((Ext.alloc _ _).block (heap_at _ _ _ (by simp))))))))))))) rfl rfl, by omega, by omega⟩
      | 19, _ => exact ⟨[20, 4, 3, 6, 0, 5], some ⟨w1.heap.size + 1 + 1 + 1 + 1 + 1 + 1 + 1 + 1 + 1 + 1 + 1 + 1 + 1 + 1 + 1 + 1 + 1 + 1, 0, none⟩, 6, 6, rfl, Rd.of_heap (ys := []) ((Ext.alloc _ _).block ((Ext.alloc _ _).block ((Ext.alloc _ _).block ((Ext.alloc _ _).block ((Ext.alloc _ _).block ((Ext.alloc _ _).block ((Ext.alloc _ _).block ((Ext.alloc _ _).block ((Ext.alloc _ _).block ((Ext.alloc _ _).block (heap_at _ _ _ (by simp)))))))))))) rfl rfl, by omega, by omega⟩
      | 20, _ => exact ⟨[20, 4, 3, 7, 0, 5], some ⟨w1.heap.size + 1 + 1 + 1 + 1 + 1 + 1 + 1 + 1 + 1 + 1 + 1 + 1 + 1 + 1 + 1 + 1 + 1 + 1 + 1, 0, none⟩, 6, 6, rfl, Rd.of_heap (ys := []) ((Ext.alloc _ _).block ((Ext.alloc _ _).block ((Ext.alloc _ _).block ((Ext.alloc _ _).block ((Ext.alloc _ _).block ((Ext.alloc _ _).block ((Ext.alloc _ _).block ((Ext.alloc _ _).block ((Ext.alloc _ _).block (heap_at _ _ _ (by simp))))))))))) rfl rfl, by omega, by omega⟩
      | 21, _ => exact ⟨[20, 4, 3, 5, 0, 5], some ⟨w1.heap.size + 1 + 1 + 1 + 1 + 1 + 1 + 1 + 1 + 1 + 1 + 1 + 1 + 1 + 1 + 1 + 1 + 1 + 1 + 1 + 1, 0, none⟩, 6, 6, rfl, Rd.of_heap (ys := []) ((Ext.alloc _ _).block ((Ext.alloc _ _).block ((Ext.alloc _ _).block ((Ext.alloc _ _).block ((Ext.alloc _ _).block ((Ext.alloc _ _).block ((Ext.alloc _ _).block ((Ext.alloc _ _).block (heap_at _ _ _ (by simp)))))))))) rfl rfl, by omega, by omega⟩
      | 22, _ => exact ⟨[20, 4, 4, 6, 0, 5], some ⟨w1.heap.size + 1 + 1 + 1 + 1 + 1 + 1 + 1 + 1 + 1 + 1 + 1 + 1 + 1 + 1 + 1 + 1 + 1 + 1 + 1 + 1 + 1, 0, none⟩, 6, 6, rfl, Rd.of_heap (ys := []) ((Ext.alloc _ _).block ((Ext.alloc _ _).block ((Ext.alloc _ _).block ((Ext.alloc _ _).block ((Ext.alloc _ _).block ((Ext.alloc _ _).block ((Ext.alloc _ _).block (heap_at _ _ _ (by simp))))))))) rfl rfl, by omega, by omega⟩
      | 23, _ => exact ⟨[20, 5, 3, 6, 0, 5], some ⟨w1.heap.size + 1 + 1 + 1 + 1 + 1 + 1 + 1 + 1 + 1 + 1 + 1 + 1 + 1 + 1 + 1 + 1 + 1 + 1 + 1 + 1 + 1 + 1, 0, none⟩, 6, 6, rfl, Rd.of_heap (ys := []) ((Ext.alloc _ _).block ((Ext.alloc _ _).block ((Ext.alloc _ _).block ((Ext.alloc _ _).block ((Ext.alloc _ _).block ((Ext.alloc _ _).block (heap_at _ _ _ (by simp)))))))) rfl rfl, by omega, by omega⟩
      | 24, _ => exact ⟨[20, 10, 3, 6, 0, 5, 5, 6, 0, 6, 0, 7], some ⟨w1.heap.size + 1 + 1 + 1 + 1 + 1 + 1 + 1 + 1 + 1 + 1 + 1 + 1 + 1 + 1 + 1 + 1 + 1 + 1 + 1 + 1 + 1 + 1 + 1, 0, none⟩, 12, 12, rfl, Rd.of_heap (ys := []) ((Ext.alloc _ _).block ((Ext.alloc _ _).block ((Ext.alloc _ _).block ((Ext.alloc _ _).block ((Ext.alloc _ _).block (heap_at _ _ _ (by simp))))))) rfl rfl, by omega, by omega⟩
      | 25, _ => exact ⟨[5, 0, 3, 255, 0], some ⟨w1.heap.size + 1 + 1 + 1 + 1 + 1 + 1 + 1 + 1 + 1 + 1 + 1 + 1 + 1 + 1 + 1 + 1 + 1 + 1 + 1 + 1 + 1 + 1 + 1 + 1, 0, none⟩, 5, 5, rfl, Rd.of_heap (ys := []) ((Ext.alloc _ _).block ((Ext.alloc _ _).block ((Ext.alloc _ _).block ((Ext.alloc _ _).block (heap_at _ _ _ (by simp)))))) rfl rfl, by omega, by omega⟩
      | 26, _ => exact ⟨[5, 0, 3, 0, 0], some ⟨w1.heap.size + 1 + 1 + 1 + 1 + 1 + 1 + 1 + 1 + 1 + 1 + 1 + 1 + 1 + 1 + 1 + 1 + 1 + 1 + 1 + 1 + 1 + 1 + 1 + 1 + 1, 0, none⟩, 5, 5, rfl, Rd.of_heap (ys := []) ((Ext.alloc _ _).block ((Ext.alloc _ _).block ((Ext.alloc _ _).block (heap_at _ _ _ (by simp))))) rfl rfl, by omega, by omega⟩
      | 27, _ => exact ⟨[15, 0, 0, 0, 3], some ⟨w1.heap.size + 1 + 1 + 1 + 1 + 1 + 1 + 1 + 1 + 1 + 1 + 1 + 1 + 1 + 1 + 1 + 1 + 1 + 1 + 1 + 1 + 1 + 1 + 1 + 1 + 1 + 1, 0, none⟩, 5, 5, rfl, Rd.of_heap (ys := []) ((Ext.alloc _ _).block ((Ext.alloc _ _).block (heap_at _ _ _ (by simp)))) rfl rfl, by omega, by omega⟩
      | 28, _ => exact ⟨[255, 1], some ⟨w1.heap.size + 1 + 1 + 1 + 1 + 1 + 1 + 1 + 1 + 1 + 1 + 1 + 1 + 1 + 1 + 1 + 1 + 1 + 1 + 1 + 1 + 1 + 1 + 1 + 1 + 1 + 1 + 1, 0, none⟩, 2, 2, rfl, Rd.of_heap (ys := []) ((Ext.alloc _ _).block (heap_at _ _ _ (by simp))) rfl rfl, by omega, by omega⟩
      | n + 29, h => exact absurd h (by omega))
    obtain ⟨gF, hgF⟩ : ∃ gF, w1.heap.size + 1 + 1 + 1 + 1 + 1 + 1 + 1 + 1 + 1 + 1 + 1 + 1 + 1 + 1 + 1 + 1 + 1 + 1 + 1 + 1 + 1 + 1 + 1 + 1 + 1 + 1 + 1 + 1 = gF := ⟨_, rfl⟩
    rw [hgF] at HF ⊢
    obtain ⟨lf, hlf⟩ := HF.out
    have HFL := Lib.hid hlf
    replace HT := Lib.hid (HT.out.ext XV2.out)
    replace HBA := Lib.hid (XV2.out.block HBA.out)
    replace XA := Lib.hid (XA.out.trans XV2.out)
    clear hV2 hgF hlf HF XV2 h2
    refine (asks_any V2).mono ?_
    rintro e w2 ⟨gA, rfl, ⟨la, hla⟩, hx⟩
    have HAL := Lib.hid hla
    replace HT := Lib.hid (HT.out.ext hx)
    replace HFL := Lib.hid (HFL.out.ext hx)
    replace HBA := Lib.hid (hx.block HBA.out)
    replace XA := Lib.hid (XA.out.trans hx)
    clear hx hla
    go_wp2_with fail
    go_loopw [6, 7, 8] (fun x _ _ wr => ∃ i : Nat, i ≤ 12 ∧ x = .int .i64 (i : Int) ∧ Hid (Ext w2 wr)) (fun x _ _ _ => 12 - (intOf x).toNat)
    case atStart => exact ⟨0, by omega, rfl, Lib.hid (Ext.refl _)⟩
    case round =>
      obtain ⟨i, hi, rfl, HX⟩ := hrel
      rcases Nat.lt_or_ge i 12 with hlt | hge
      · obtain ⟨⟨code, addr, count, on, set, parts⟩, ⟨A1, n1, c1, A2, n2, c2, A3, n3, c3⟩, hcs, hard, hgA⟩ := askC_at HAL.out hlt
        simp only at hcs
        have HA6 := Lib.hid (fun (W : World) (hX : Ext w2 W) => (show W.cell? ⟨gA, i * 6, none⟩ = some (.int .i64 code) ∧ W.cell? ⟨gA, i * 6 + 1, none⟩ = some (.int .i64 addr) ∧ W.cell? ⟨gA, i * 6 + 2, none⟩ = some (.int .i64 count) ∧ W.cell? ⟨gA, i * 6 + 3, none⟩ = some (.slice A1 n1 c1) ∧ W.cell? ⟨gA, i * 6 + 4, none⟩ = some (.slice A2 n2 c2) ∧ W.cell? ⟨gA, i * 6 + 5, none⟩ = some (.slice A3 n3 c3) from ⟨hX.cell hgA hcs.1, hX.cell hgA hcs.2.1, hX.cell hgA hcs.2.2.1, hX.cell hgA hcs.2.2.2.1, hX.cell hgA hcs.2.2.2.2.1, hX.cell hgA hcs.2.2.2.2.2⟩))
        have HARD := Lib.hid hard
        have t1 : (0 : Int) ≤ (i : Int) := by omega
        have t2 : (i : Int) < 12 := by omega
        clear hcs hard
        go_wp2_with fail
        go_loopw [7] (fun x wr2 => ∃ j : Nat, j ≤ 16 ∧ x = .int .i64 (j : Int) ∧ Hid (Ext w2 wr2)) (fun x _ => 16 - (intOf x).toNat)
        case atStart => exact ⟨0, by omega, rfl, HX⟩
        case round =>
          obtain ⟨j, hj, rfl, HX2⟩ := hrel
          rcases Nat.lt_or_ge j 16 with hjl | hjg
          · obtain ⟨⟨exc, ron, rset, files⟩, ⟨B1, m1, k1, B2, m2, k2, B3, m3, k3⟩, hcs, hrrd, hg⟩ := repC_at HT.out hjl
            simp only at hcs
            have HR4 := Lib.hid (fun (W : World) (hX : Ext w2 W) => (show W.cell? ⟨g, j * 4, none⟩ = some (.int .i64 exc) ∧ W.cell? ⟨g, j * 4 + 1, none⟩ = some (.slice B1 m1 k1) ∧ W.cell? ⟨g, j * 4 + 2, none⟩ = some (.slice B2 m2 k2) ∧ W.cell? ⟨g, j * 4 + 3, none⟩ = some (.slice B3 m3 k3) from ⟨hX.cell hg hcs.1, hX.cell hg hcs.2.1, hX.cell hg hcs.2.2.1, hX.cell hg hcs.2.2.2⟩))
            have hC := fun W (hX : Ext w2 W) => lawReplyChecks _ _ _ _ W (HARD.out.ext hX) (hrrd.ext hX)
            have hP := fun W (hX : Ext w2 W) => lawReplyPuts _ _ _ _ W (HARD.out.ext hX) (hrrd.ext hX)
            have wfj : (Lit.int .i64 (j : Int)).wf = true := wf_i64 (by omega)
            have wfi : (Lit.int .u8 (i : Int)).wf = true := (show ∀ k : Nat, k < 12 → (Lit.int .u8 (k : Int)).wf = true by decide) i hlt
            have hB := fun W (hX : Ext w2 W) => lawReplyBack _ _ _ _ (j : Int) (i : Int) W (HARD.out.ext hX) (hrrd.ext hX) wfj wfi
            simp only [askV, repV] at hC hP hB
            have HC := Lib.hid hC; have HP := Lib.hid hP; have HB := Lib.hid hB
            have hwi : IntKind.u8.wrap (i : Int) = (i : Int) := by rw [IntKind.wrap_u8]; omega
            have t3 : (0 : Int) ≤ (j : Int) := by omega
            have t4 : (j : Int) < 16 := by omega
            clear hcs hrrd hC hP hB wfj wfi
            go_wp2_with fail
            go_region_held3 (fun W => (W.cell? ⟨gA, i * 6, none⟩ = some (.int .i64 code) ∧ W.cell? ⟨gA, i * 6 + 1, none⟩ = some (.int .i64 addr) ∧ W.cell? ⟨gA, i * 6 + 2, none⟩ = some (.int .i64 count) ∧ W.cell? ⟨gA, i * 6 + 3, none⟩ = some (.slice A1 n1 c1) ∧ W.cell? ⟨gA, i * 6 + 4, none⟩ = some (.slice A2 n2 c2) ∧ W.cell? ⟨gA, i * 6 + 5, none⟩ = some (.slice A3 n3 c3)) ∧ (W.cell? ⟨g, j * 4, none⟩ = some (.int .i64 exc) ∧ W.cell? ⟨g, j * 4 + 1, none⟩ = some (.slice B1 m1 k1) ∧ W.cell? ⟨g, j * 4 + 2, none⟩ = some (.slice B2 m2 k2) ∧ W.cell? ⟨g, j * 4 + 3, none⟩ = some (.slice B3 m3 k3))) (first | with_reducible exact ⟨HA6.out _ Y3.out, HR4.out _ Y3.out⟩ | with_reducible exact ⟨HA6.out _ Y2.out, HR4.out _ Y2.out⟩ | with_reducible exact ⟨HA6.out _ Y1.out, HR4.out _ Y1.out⟩ | with_reducible exact ⟨HA6.out _ (HX2.out.trans (Ext.draw _)), HR4.out _ (HX2.out.trans (Ext.draw _))⟩ | go_keep) ((first
              | (go_at_call 3
                 with_reducible refine Calls.mono (HC.out _ (HX2.out.trans (Ext.draw _))) ?_
                 rintro e v1 ⟨rfl, hx⟩
                 have Y1 := Lib.hid ((HX2.out.trans (Ext.draw _)).trans hx)
                 clear hx)
              | (go_at_call 4
                 with_reducible refine Calls.mono (HP.out _ Y1.out) ?_
                 rintro e v2 ⟨rfl, hx⟩
                 have Y2 := Lib.hid (Y1.out.trans hx)
                 clear hx)
              | (go_at_call 6
                 with_reducible refine Calls.mono (HB.out _ Y2.out) ?_
                 rintro e v3 ⟨rfl, hx⟩
                 have Y3 := Lib.hid (Y2.out.trans hx)
                 clear hx)
              | fail))
            all_goals
              go_wp2_with fail
              go_roundw
              case rel => exact ⟨j + 1, by omega, by go_num, Y3⟩
              case measure => simp [intOf]; omega
          · have hnl : ¬ (j : Int) < 16 := by omega
            clear hj hjg
            go_wp2_with fail
            go_loopw [8] (fun x wr3 => ∃ j : Nat, j ≤ 29 ∧ x = .int .i64 (j : Int) ∧ Hid (Ext w2 wr3)) (fun x _ => 29 - (intOf x).toNat)
            case atStart => exact ⟨0, by omega, rfl, HX2⟩
            case round =>
              obtain ⟨j, hj, rfl, HX2⟩ := hrel
              rcases Nat.lt_or_ge j 29 with hjl | hjg
              · obtain ⟨b, A, N, c, hcs, hrd, hnc, hc1, hg⟩ := bytC_at HFL.out hjl
                have HB1 := Lib.hid (fun (W : World) (hX : Ext w2 W) => (show W.cell? ⟨gF, j, none⟩ = some (.slice A N c) from hX.cell hg hcs))
                have hC := fun W (hX : Ext w2 W) => lawReplyGets _ _ b A N c W (HARD.out.ext hX) (hrd.ext hX) hnc (by omega) (by omega)
                have hP := fun W (hX : Ext w2 W) => lawReplyForms _ _ b A N c W (HARD.out.ext hX) (hrd.ext hX) hnc (by omega) (by omega)
                simp only [askV] at hC hP
                have HC := Lib.hid hC; have HP := Lib.hid hP
                have t3 : (0 : Int) ≤ (j : Int) := by omega
                have t4 : (j : Int) < 29 := by omega
                clear hcs hrd hC hP
                go_wp2_with fail
                go_region_held3 (fun W => (W.cell? ⟨gA, i * 6, none⟩ = some (.int .i64 code) ∧ W.cell? ⟨gA, i * 6 + 1, none⟩ = some (.int .i64 addr) ∧ W.cell? ⟨gA, i * 6 + 2, none⟩ = some (.int .i64 count) ∧ W.cell? ⟨gA, i * 6 + 3, none⟩ = some (.slice A1 n1 c1) ∧ W.cell? ⟨gA, i * 6 + 4, none⟩ = some (.slice A2 n2 c2) ∧ W.cell? ⟨gA, i * 6 + 5, none⟩ = some (.slice A3 n3 c3)) ∧ (W.cell? ⟨gF, j, none⟩ = some (.slice A N c))) (first | with_reducible exact ⟨HA6.out _ Y2.out, HB1.out _ Y2.out⟩ | with_reducible exact ⟨HA6.out _ Y1.out, HB1.out _ Y1.out⟩ | with_reducible exact ⟨HA6.out _ (HX2.out.trans (Ext.draw _)), HB1.out _ (HX2.out.trans (Ext.draw _))⟩ | go_keep) ((first
                  | (go_at_call 5
                     with_reducible refine Calls.mono (HC.out _ (HX2.out.trans (Ext.draw _))) ?_
                     rintro e v1 ⟨rfl, hx⟩
                     have Y1 := Lib.hid ((HX2.out.trans (Ext.draw _)).trans hx)
                     clear hx)
                  | (go_at_call 7
                     with_reducible refine Calls.mono (HP.out _ Y1.out) ?_
                     rintro e v2 ⟨rfl, hx⟩
                     have Y2 := Lib.hid (Y1.out.trans hx)
                     clear hx)
                  | fail))
                all_goals
                  go_wp2_with fail
                  go_roundw
                  case rel => exact ⟨j + 1, by omega, by go_num, Y2⟩
                  case measure => simp [intOf]; omega
              · obtain rfl : j = 29 := by omega
                have hE := fun (k : Int) (hk : (Lit.int .i64 k).wf = true) W (hX : Ext w2 W) => lawReplyExceptions _ _ k W (HARD.out.ext hX) hk
                simp only [askV] at hE
                have HE := Lib.hid hE
                clear hE
                obtain ⟨d0, d1, d2, d3, d4, d5⟩ := HA6.out _ HX2.out
                go_wp2_with fail
                refine (HE.out 1 (by decide) _ HX2.out).mono ?_
                rintro e y0 ⟨rfl, hx⟩
                replace HX2 := Lib.hid (HX2.out.trans hx)
                clear hx d0 d1 d2 d3 d4 d5
                obtain ⟨d0, d1, d2, d3, d4, d5⟩ := HA6.out _ HX2.out
                go_wp2_with fail
                refine (HE.out 127 (by decide) _ HX2.out).mono ?_
                rintro e y1 ⟨rfl, hx⟩
                replace HX2 := Lib.hid (HX2.out.trans hx)
                clear hx d0 d1 d2 d3 d4 d5
                obtain ⟨d0, d1, d2, d3, d4, d5⟩ := HA6.out _ HX2.out
                go_wp2_with fail
                refine (HE.out 128 (by decide) _ HX2.out).mono ?_
                rintro e y2 ⟨rfl, hx⟩
                replace HX2 := Lib.hid (HX2.out.trans hx)
                clear hx d0 d1 d2 d3 d4 d5
                obtain ⟨d0, d1, d2, d3, d4, d5⟩ := HA6.out _ HX2.out
                go_wp2_with fail
                refine (HE.out (-9223372036854775808) (by decide) _ HX2.out).mono ?_
                rintro e y3 ⟨rfl, hx⟩
                replace HX2 := Lib.hid (HX2.out.trans hx)
                clear hx d0 d1 d2 d3 d4 d5
                obtain ⟨d0, d1, d2, d3, d4, d5⟩ := HA6.out _ HX2.out
                go_wp2_with fail
                go_roundw
                case rel => exact ⟨i + 1, by omega, by go_num, HX2⟩
                case measure => simp [intOf]; omega
      · obtain rfl : i = 12 := by omega
        obtain ⟨d0, d1, d2, d3, d4, d5⟩ := cells6 (HX.out.block HBA.out)
        have XB := Lib.hid (XA.out.trans HX.out)
        have hg4 : getR ask2 [3, 3, 0, 1, 2, 0] = (rep0, 4) := by kernel_rfl
        have hG := fun (W : World) (g : Nat) (h : Rd W (some ⟨g, 0, none⟩) 6 (([3, 3, 0, 1, 2, 0] : List UInt8).map cB)) => replyGet_any ask2 [3, 3, 0, 1, 2, 0] askS0 (some ⟨g, 0, none⟩) 6 6 W (ask2_rd W) h (by omega) (by omega)
        rw [hg4] at hG
        simp only [askV, ask2, askS0] at hG
        have HG := Lib.hid hG
        clear hG hg4
        go_wp2_with fail
        refine (HG.out _ _ (Rd.of_heap (ys := []) (heap_alloc_new wr (.cells #[.int .u8 3, .int .u8 3, .int .u8 0, .int .u8 1, .int .u8 2, .int .u8 0] 5)) rfl rfl)).mono ?_
        rintro e w9 ⟨⟨B1, m1, k1, B2, m2, k2, B3, m3, k3⟩, rfl, -, hx⟩
        simp only [repV, rep0]
        go_wp2_with fail
        refine (works04_any _).mono ?_
        rintro e w10 ⟨rfl, hx2⟩
        go_wp2_with fail
        go_ret
        exact ⟨rfl, XB.out.trans ((Ext.alloc _ _).trans (hx.trans ((Ext.alloc _ _).trans hx2)))⟩
end Go.Proofs.Ytpjmhckdeeonbaa
