/- The walk of PackKnown. -/
import Derived.Test.YtjmddiffeffgnaaPackL3a
import Derived.Test.YtjmddiffeffgnaaPackW2a
import Derived.Test.YtjmddiffeffgnaaPack2
import Derived.Test.YtjmddiffeffgnaaIntRow
import Derived.Test.YtjmddiffeffgnaaAsk6
import Derived.Deep.RegionWith
import Derived.Deep.RegionHeld3
namespace Go.Proofs.Ytjmddiffeffgnaa
set_option linter.unusedVariables false
set_option linter.unusedSimpArgs false
set_option maxRecDepth 100000
set_option maxHeartbeats 1000000
open Go Go.RowKit Go.Out

def endsL : List Int := [-9223372036854775808, -1, 0, 1, 2, 7, 8, 9, 15, 16, 17, 9223372036854775807]
def endsA : Array Value := #[.int .i64 (-9223372036854775808), .int .i64 (-1), .int .i64 0, .int .i64 1, .int .i64 2, .int .i64 7, .int .i64 8, .int .i64 9, .int .i64 15, .int .i64 16, .int .i64 17, .int .i64 9223372036854775807]
def tenL : List UInt8 := [9, 1, 2, 255, 128, 7, 0, 0, 0, 5]
def tenA : Array Value := #[.int .u8 9, .int .u8 1, .int .u8 2, .int .u8 255, .int .u8 128, .int .u8 7, .int .u8 0, .int .u8 0, .int .u8 0, .int .u8 5]
theorem ends_at : ∀ k, k < 12 → ∃ x : Int, endsA[k]? = some (.int .i64 x) ∧ (Lit.int .i64 x).wf = true := by
  have h : ∀ k : Fin 12, ∃ x : Int, endsA[k.val]? = some (.int .i64 x) ∧ (Lit.int .i64 x).wf = true := by
    intro k
    match k with
    | 0 => exact ⟨_, rfl, by decide⟩
    | 1 => exact ⟨_, rfl, by decide⟩
    | 2 => exact ⟨_, rfl, by decide⟩
    | 3 => exact ⟨_, rfl, by decide⟩
    | 4 => exact ⟨_, rfl, by decide⟩
    | 5 => exact ⟨_, rfl, by decide⟩
    | 6 => exact ⟨_, rfl, by decide⟩
    | 7 => exact ⟨_, rfl, by decide⟩
    | 8 => exact ⟨_, rfl, by decide⟩
    | 9 => exact ⟨_, rfl, by decide⟩
    | 10 => exact ⟨_, rfl, by decide⟩
    | 11 => exact ⟨_, rfl, by decide⟩
  exact fun k hk => h ⟨k, hk⟩
theorem ten_rd {w : World} : Rd ((w.alloc (.cells endsA 3)).alloc (.cells tenA 5)) (some ⟨w.heap.size + 1, 0, none⟩) 10 (tenL.map cB) := by
  have h := Rd.of_heap (xs := tenL.map cB) (ys := []) (n := 10) (heap_alloc_new (w.alloc (.cells endsA 3)) (.cells tenA 5)) (by rfl) rfl
  simpa using h
theorem ends_rd {w : World} : ∀ W, Ext ((w.alloc (.cells endsA 3)).alloc (.cells tenA 5)) W → ∀ k, k < 12 → ∃ x : Int, W.cell? ⟨w.heap.size, k, none⟩ = some (.int .i64 x) ∧ (Lit.int .i64 x).wf = true := by
  intro W hX k hk
  obtain ⟨x, hx, hw⟩ := ends_at k hk
  exact ⟨x, (cell_of_row _ _ _ _ _ _ (((Ext.alloc _ _).trans hX).block (heap_alloc_new w _))).trans hx, hw⟩

theorem lawPackKnown (w : World) :
    Calls Try.prog 9 #[] w fun e w' => e = .returned (.bool true) ∧ Below w.heap.size w w' := by
  go_enter Try.func9, Try.ntmps9
  go_wp2_with fail
  generalize hw2 : ((w.alloc (.cells #[.int .i64 (-9223372036854775808), .int .i64 (-1), .int .i64 0, .int .i64 1, .int .i64 2, .int .i64 7, .int .i64 8, .int .i64 9, .int .i64 15, .int .i64 16, .int .i64 17, .int .i64 9223372036854775807] 3)).alloc (.cells #[.int .u8 9, .int .u8 1, .int .u8 2, .int .u8 255, .int .u8 128, .int .u8 7, .int .u8 0, .int .u8 0, .int .u8 0, .int .u8 5] 5)) = w2
  have HE := Lib.hid (show ∀ W, Ext w2 W → ∀ k, k < 12 → ∃ x : Int, W.cell? ⟨w.heap.size, k, none⟩ = some (.int .i64 x) ∧ (Lit.int .i64 x).wf = true from hw2 ▸ ends_rd)
  have HT := Lib.hid (show Rd w2 (some ⟨w.heap.size + 1, 0, none⟩) 10 (tenL.map cB) from hw2 ▸ ten_rd)
  have HX := Lib.hid (show Ext w w2 from hw2 ▸ (Ext.alloc _ _).trans (Ext.alloc _ _))
  have hz : w.heap.size + 1 < w2.heap.size := by rw [← hw2]; simp
  clear hw2
  go_loopw [3, 4] (fun i j wr => ∃ k : Nat, k ≤ 12 ∧ i = .int .i64 (k : Int) ∧ Ext w2 wr) (fun i _ _ => 12 - (intOf i).toNat)
  case atStart => exact ⟨0, by omega, rfl, Ext.refl _⟩
  case round =>
    obtain ⟨k, hk, rfl, hx⟩ := hrel
    rcases Nat.lt_or_ge k 12 with hlt | hge
    · go_wp2_with fail
      obtain ⟨wo, rfl⟩ : ∃ wo : World, wo = wr := ⟨_, rfl⟩
      rw [show decide ((k : Int) < 12) = true from decide_eq_true (by omega)]
      go_loopw [4] (fun i wr => ∃ k : Nat, k ≤ 12 ∧ i = .int .i64 (k : Int) ∧ Ext w2 wr) (fun i _ => 12 - (intOf i).toNat)
      case atStart => exact ⟨0, by omega, rfl, hx⟩
      case round =>
        obtain ⟨j, hj, rfl, hx2⟩ := hrel
        rcases Nat.lt_or_ge j 12 with hlt2 | hge2
        · obtain ⟨x, hcx, wx⟩ := HE.out _ hx2 k hlt
          obtain ⟨y, hcy, wy⟩ := HE.out _ hx2 j hlt2
          have hwr := Nat.lt_of_lt_of_le hz hx2.size
          go_wp2_with fail
          have Hrow : Hid (∀ W, Ext w2 W → Rd W (some ⟨w.heap.size + 1, 0, none⟩) 10 (tenL.map cB)) := fun W hX => HT.out.ext hX
          have Hrow2 : Hid (∀ W, Ext w2 W → Rd W (some ⟨w.heap.size + 1, 0, none⟩) 2 ((tenL.take 2).map cB)) := fun W hX => (HT.out.take (k := 2) (by omega)).ext hX
          have hj8 : IntKind.i64.wrap ((j : Int) * 8) = (j : Int) * 8 := IntWalk.i64_in _ (by omega)
          have HS : Hid (∀ W, Ext wr W → W.cell? ⟨w.heap.size, k, none⟩ = some (.int .i64 x) ∧ W.cell? ⟨w.heap.size, j, none⟩ = some (.int .i64 y)) := fun W hX => ⟨hX.cell (by omega) hcx, hX.cell (by omega) hcy⟩
          have HG : Hid (∀ W, Ext wr W → Calls Try.prog 41 #[.slice (some ⟨w.heap.size + 1, 0, none⟩) 10 10, .int .i64 x, .int .i64 y] W (RetQ W true)) := fun W hX => (lawPackGets tenL _ 10 10 x y W (Hrow.out _ (hx2.trans hX)) (by omega) (by omega) (by omega) wx wy).mono fun e w' ⟨h1, h2⟩ => ⟨h1, Ext.of h2⟩
          have HP : Hid (∀ W V, (Lit.int .u64 V).wf = true → Ext wr W → Calls Try.prog 42 #[.slice (some ⟨w.heap.size + 1, 0, none⟩) 2 10, .int .u64 V, .int .i64 x] W (RetQ W true)) := fun W V hV hX => (lawPackPuts (tenL.take 2) _ 2 10 V x W (Hrow2.out _ (hx2.trans hX)) (by omega) (by omega) (by omega) hV wx).mono fun e w' ⟨h1, h2⟩ => ⟨h1, Ext.of h2⟩
          have HN : Hid (∀ W V, (Lit.int .u64 V).wf = true → Calls Try.prog 42 #[.slice none 0 0, .int .u64 V, .int .i64 x] W (RetQ W true)) := fun W V hV => (lawPackPuts [] none 0 0 V x W (Rd.nil_ _) (by omega) (by omega) (by omega) hV wx).mono fun e w' ⟨h1, h2⟩ => ⟨h1, Ext.of h2⟩
          have X2 := Lib.hid hx2
          clear wx wy hx hx2 Hrow Hrow2
          go_region_held3 (fun W => W.cell? ⟨w.heap.size, k, none⟩ = some (.int .i64 x) ∧ W.cell? ⟨w.heap.size, j, none⟩ = some (.int .i64 y)) (first | go_keep | exact HS.out _ X5.out | exact HS.out _ X6.out | exact HS.out _ X7.out) ((first
            | (go_at_call 41
               with_reducible refine Calls.mono (HG.out _ (by repeat' (first | with_reducible exact Ext.refl _ | with_reducible refine Ext.drew' ?_ | with_reducible refine Ext.alloc' ?_ _))) ?_
               rintro e w5 ⟨rfl, hb5⟩
               have X5 : Hid (Ext wr w5) := Ext.trans (by repeat' (first | with_reducible exact Ext.refl _ | with_reducible refine Ext.drew' ?_ | with_reducible refine Ext.alloc' ?_ _)) hb5
               clear hb5)
            | (go_at_call 42
               with_reducible refine Calls.mono (HP.out _ _ (wf_wrap _ _) (by repeat' (first | with_reducible exact X5.out | with_reducible refine Ext.drew' ?_ | with_reducible refine Ext.alloc' ?_ _))) ?_
               rintro e w6 ⟨rfl, hb6⟩
               have X6 : Hid (Ext wr w6) := Ext.trans (by repeat' (first | with_reducible exact X5.out | with_reducible refine Ext.drew' ?_ | with_reducible refine Ext.alloc' ?_ _)) hb6
               clear hb6)
            | (go_at_call 42
               with_reducible refine Calls.mono (HN.out _ _ (wf_wrap _ _)) ?_
               rintro e w7 ⟨rfl, hb7⟩
               have X7 : Hid (Ext wr w7) := Ext.trans (by repeat' (first | with_reducible exact X6.out | with_reducible refine Ext.drew' ?_ | with_reducible refine Ext.alloc' ?_ _)) hb7
               clear hb7)))
          clear hcx hcy
          go_wp2_with fail
          go_roundw
          case rel => exact ⟨j + 1, by omega, by go_num, X2.out.trans X7.out⟩
          case measure => simp [intOf]; omega
        · obtain rfl : j = 12 := by omega
          obtain ⟨x, hcx, wx⟩ := HE.out _ hx2 k hlt
          have hwr := Nat.lt_of_lt_of_le hz hx2.size
          have HS : Hid (∀ W, Ext wr W → W.cell? ⟨w.heap.size, k, none⟩ = some (.int .i64 x)) := fun W hX => hX.cell (by omega) hcx
          have HB1 : Hid (∀ W g, Ext wr W → W.heap[g]? = some (.cells #[.bool true, .bool false, .bool true] 4 (0, 0)) → Calls Try.prog 43 #[.slice (some ⟨g, 0, none⟩) 3 3, .slice (some ⟨w.heap.size + 1, 9, none⟩) 1 1, .int .i64 x] W (RetQ W true)) := fun W g hX hh => by
            refine (lawPackBits [true, false, true] _ 3 3 (tenL.drop 9) _ 1 1 x W (Rd.of_heap (ys := []) hh rfl rfl) (by omega) (by omega) (by omega) ?_ (by omega) (by omega) (by omega) wx).mono fun e w' ⟨h1, h2⟩ => ⟨h1, Ext.of h2⟩
            have h := Rd.from8 (k := 9) (c := 10) ((HT.out.ext hx2).ext hX) (by omega) (by omega)
            simpa [Addr.add_lit] using h
          have HB2 : Hid (∀ W g, W.heap[g]? = some (.cells #[.int .u8 255, .int .u8 1] 5 (0, 0)) → Calls Try.prog 43 #[.slice none 0 0, .slice (some ⟨g, 0, none⟩) 2 2, .int .i64 x] W (RetQ W true)) := fun W g hh =>
            (lawPackBits [] none 0 0 [255, 1] _ 2 2 x W (Rd.nil_ _) (by omega) (by omega) (by omega) (Rd.of_heap (ys := []) hh rfl rfl) (by omega) (by omega) (by omega) wx).mono fun e w' ⟨h1, h2⟩ => ⟨h1, Ext.of h2⟩
          have X2 := Lib.hid hx2
          clear wx hx hx2
          go_wp2_with fail
          go_region_held3 (fun W => W.cell? ⟨w.heap.size, k, none⟩ = some (.int .i64 x)) (first | go_keep | exact HS.out _ X8.out | exact HS.out _ X9.out) ((first
            | (go_at_call 43
               with_reducible refine Calls.mono (HB1.out _ _ (by repeat' (first | with_reducible exact Ext.refl _ | with_reducible refine Ext.drew' ?_ | with_reducible refine Ext.alloc' ?_ _)) (by first | exact heap_alloc_new _ _ | exact (Ext.draw _).block (heap_alloc_new _ _) | exact (Ext.drew' (Ext.draw _)).block (heap_alloc_new _ _) | exact (Ext.drew' (Ext.drew' (Ext.draw _))).block (heap_alloc_new _ _))) ?_
               rintro e w8 ⟨rfl, hb8⟩
               have X8 : Hid (Ext wr w8) := Ext.trans (by repeat' (first | with_reducible exact Ext.refl _ | with_reducible refine Ext.drew' ?_ | with_reducible refine Ext.alloc' ?_ _)) hb8
               clear hb8)
            | (go_at_call 43
               with_reducible refine Calls.mono (HB2.out _ _ (by first | exact heap_alloc_new _ _ | exact (Ext.draw _).block (heap_alloc_new _ _) | exact (Ext.drew' (Ext.draw _)).block (heap_alloc_new _ _) | exact (Ext.drew' (Ext.drew' (Ext.draw _))).block (heap_alloc_new _ _))) ?_
               rintro e w9 ⟨rfl, hb9⟩
               have X9 : Hid (Ext wr w9) := Ext.trans (by repeat' (first | with_reducible exact X8.out | with_reducible refine Ext.drew' ?_ | with_reducible refine Ext.alloc' ?_ _)) hb9
               clear hb9)))
          clear hcx
          go_wp2_with fail
          go_roundw
          case rel => exact ⟨k + 1, by omega, by go_num, X2.out.trans X9.out⟩
          case measure => simp [intOf]; omega
    · obtain rfl : k = 12 := by omega
      have X2 := Lib.hid hx
      clear hx hk hge HE HT hz
      go_wp2_with fail
      obtain ⟨V, hV⟩ : ∃ V, wr.alloc (.cells #[.bool true, .bool true, .bool true, .bool true, .bool true, .bool true, .bool true, .bool true, .bool true] 4) = V := ⟨_, rfl⟩
      have H9 : Hid (∀ W, Ext V W → Rd W (some ⟨wr.heap.size, 0, none⟩) 9 (([true, true, true, true, true, true, true, true, true] : List Bool).map cL)) := fun W hX => (show Rd V _ _ _ from hV ▸ Rd.lit wr (([true, true, true, true, true, true, true, true, true] : List Bool).map cL) _ _ 9 _ rfl rfl).ext hX
      have XV := Lib.hid (show Ext w2 V from X2.out.trans (hV ▸ Ext.alloc _ _))
      rw [hV]
      clear hV
      refine (bits_any [true, true, true, true, true, true, true, true, true] _ 9 9 V (H9.out _ (Ext.refl _)) (by omega)).mono ?_
      rintro e w3 ⟨A1, c1, rfl, ho1, hb1⟩
      rw [show need 9 = 2 from by decide] at ho1 ⊢
      rw [show bitsF [true, true, true, true, true, true, true, true, true] = [255, 1] from by decide] at ho1
      have X3 := Lib.hid (show Ext V w3 from hb1)
      have HO1 := Lib.hid ho1
      clear ho1 hb1
      go_wp2_with fail
      refine (same_any [255, 1] [255, 1] _ _ _ _ _ _ _ (HO1.out.rd.ext (Ext.alloc _ _)) (Rd.lit _ (([255, 1] : List UInt8).map cB) _ _ 2 _ rfl (by simp)) (by unfold maxLen; omega)).mono ?_
      rintro e w4 ⟨rfl, hb4⟩
      rw [decide_eq_true rfl]
      have X4 := Lib.hid (X3.out.trans ((Ext.alloc _ _).trans (Ext.of hb4)))
      clear hb4
      go_wp2_with fail
      refine (lawPackBits [true, true, true, true, true, true, true, true, true] _ 9 9 [5] _ 1 1 3 _ (H9.out _ (X4.out.trans (Ext.alloc _ _))) (by omega) (by omega) (by omega) (Rd.lit _ (([5] : List UInt8).map cB) _ _ 1 _ rfl (by simp)) (by omega) (by omega) (by omega) (by decide)).mono ?_
      rintro e w5 ⟨rfl, hb5⟩
      have X5 := Lib.hid (X4.out.trans ((Ext.alloc _ _).trans (Ext.of hb5)))
      clear hb5
      go_wp2_with fail
      refine (lawPackBits [] _ 0 0 [] _ 0 0 0 _ (Rd.nil_ _) (by omega) (by omega) (by omega) (Rd.nil_ _) (by omega) (by omega) (by omega) (by decide)).mono ?_
      rintro e w6 ⟨rfl, hb6⟩
      have X6 := Lib.hid (X5.out.trans (Ext.of hb6))
      clear hb6
      go_wp2_with fail
      refine (lawPackWords [1, 512] _ 2 2 [0] _ 1 1 _ ((Rd.lit _ (([1, 512] : List UInt16).map cW) _ _ 2 _ rfl (by simp)).ext (Ext.alloc _ _)) (by omega) (by omega) (by omega) (Rd.lit _ (([0] : List UInt8).map cB) _ _ 1 _ rfl (by simp)) (by omega) (by omega) (by omega)).mono ?_
      rintro e w7 ⟨rfl, hb7⟩
      have X7 := Lib.hid (X6.out.trans ((Ext.alloc _ _).trans ((Ext.alloc _ _).trans (Ext.of hb7))))
      clear hb7
      go_wp2_with fail
      refine (lawPackWords [] _ 0 0 [0, 1, 2, 0] _ 4 4 _ (Rd.nil_ _) (by omega) (by omega) (by omega) (Rd.lit _ (([0, 1, 2, 0] : List UInt8).map cB) _ _ 4 _ rfl (by simp)) (by omega) (by omega) (by omega)).mono ?_
      rintro e w8 ⟨rfl, hb8⟩
      have X8 := Lib.hid (X7.out.trans ((Ext.alloc _ _).trans (Ext.of hb8)))
      clear hb8
      go_wp2_with fail
      refine (lawPackPuts [] _ 0 0 18446744073709551615 8 _ (Rd.nil_ _) (by omega) (by omega) (by omega) (by decide) (by decide)).mono ?_
      rintro e w9 ⟨rfl, hb9⟩
      have X9 := Lib.hid (X8.out.trans (Ext.of hb9))
      clear hb9
      go_wp2_with fail
      refine (lawPackPuts [] _ 0 0 72057594037927936 7 _ (Rd.nil_ _) (by omega) (by omega) (by omega) (by decide) (by decide)).mono ?_
      rintro e w10 ⟨rfl, hb10⟩
      have X10 := Lib.hid (X9.out.trans (Ext.of hb10))
      clear hb10
      go_wp2_with fail
      refine (works_any _).mono ?_
      rintro e w11 ⟨rfl, hb11⟩
      go_wp2_with fail
      go_ret
      exact ⟨rfl, (HX.out.trans (XV.out.trans (X10.out.trans (Ext.of hb11)))).below⟩
end Go.Proofs.Ytjmddiffeffgnaa
