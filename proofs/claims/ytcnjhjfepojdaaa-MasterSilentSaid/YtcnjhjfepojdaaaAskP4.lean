/- Contracts of the requests: a request as a PDU: one register, coils, registers. -/
import Derived.Test.YtcnjhjfepojdaaaAskP
import Derived.Test.YtcnjhjfepojdaaaPackL2
import Derived.Test.YtcnjhjfepojdaaaPackW
import Derived.Deep.RegionWith
import Derived.Test.YtcnjhjfepojdaaaPackL
namespace Go.Proofs.Ytcnjhjfepojdaaa
set_option linter.unusedVariables false
set_option linter.unusedSimpArgs false
set_option maxRecDepth 100000
set_option maxHeartbeats 400000
open Go Go.RowKit Go.Out

theorem askReg (A : Nat) (x : UInt16) (s : AskS) (w : World) (hr : AskRd w ⟨6, A, 0, [], [x], []⟩ s) (h : checkF ⟨6, A, 0, [], [x], []⟩ = 0) (hA : A ≤ 65535) :
    Calls Try.prog 15 #[askV ⟨6, A, 0, [], [x], []⟩ s] w (RetU w (6 :: (two A ++ two x.toNat)) 0) := by
  have HC := Lib.hid (askOk hr h)
  have h1 := hr.n2
  have hr1 := hr.set
  clear hr h
  obtain ⟨A1, n1, c1, A2, n2, c2, A3, n3, c3⟩ := s
  simp only [askV] at HC h1 hr1 ⊢
  obtain rfl : 1 = n2 := h1
  obtain ⟨bx, ox, rfl, hbx, hlx, hcx⟩ := hr1.u16at (k := 0) (by omega)
  simp only [List.getElem_cons_zero, Nat.add_zero] at hcx
  clear hr1
  have hx16 := x.toNat_lt
  have h01 : (0 : Int) < (1 : Int) := by omega
  generalize x.toNat = v at *
  go_enter Try.func15, Try.ntmps15
  go_wp2_with fail
  refine (HC.out _ (Ext.alloc _ _)).mono ?_
  rintro e w1 ⟨rfl, hb⟩
  have D := fun o : Obj => ask_cells _ (hb.trans (Ext.alloc _ o))
  have hcy := fun o : Obj => ((Ext.alloc w _).trans (hb.trans (Ext.alloc _ o))).cell hbx hcx
  obtain ⟨d0, -⟩ := ask_cells _ hb
  have d1 := fun o => (D o).2.1
  have d4 := fun o => (D o).2.2.2.2.1
  have d0' := fun o => (D o).1
  have X1 := Lib.hid ((Ext.alloc _ _).trans hb)
  clear hb D
  go_wp2_with fail
  have hwv : IntKind.i64.wrap (v : Int) = (v : Int) := IntWalk.i64_in _ (by omega)
  go_region_with ((go_at_call 28
                   refine (first_two w _ 6 _ _ A v (by omega) (by omega) ((Own.first w1 _ X1.out.size 6 6 rfl).ext (Ext.drew' (Ext.alloc _ _))) (X1.out.trans ((Ext.alloc _ _).trans (Ext.drew' (Ext.alloc _ _)))) (heap_at _ _ _ (by simp)) (by omega)).mono ?_
                   rintro e w2 ⟨A', c', rfl, ho, hx, -⟩
                   have Ho := Lib.hid ho
                   have HX := Lib.hid hx
                   clear ho hx))
  all_goals
    go_wp2_with fail
    go_ret2
    exact RetU.of rfl Ho.out HX.out
end Go.Proofs.Ytcnjhjfepojdaaa

namespace Go.Proofs.Ytcnjhjfepojdaaa
set_option linter.unusedVariables false
set_option linter.unusedSimpArgs false
set_option maxRecDepth 100000
set_option maxHeartbeats 1000000
open Go Go.RowKit Go.Out

theorem askCoils (A n : Nat) (l : List Bool) (s : AskS) (w : World) (hr : AskRd w ⟨15, A, 0, l, [], []⟩ s) (h : checkF ⟨15, A, 0, l, [], []⟩ = 0) (hA : A ≤ 65535) (hl : l.length = n) (hn : n ≤ 1968) :
    Calls Try.prog 15 #[askV ⟨15, A, 0, l, [], []⟩ s] w (RetU w (15 :: (two A ++ (two n ++ UInt8.ofNat (need n) :: bitsF l))) 0) := by
  have HC := Lib.hid (askOk hr h)
  have h1 := hr.n1
  have hr1 := hr.on
  clear hr h
  obtain ⟨A1, n1, c1, A2, n2, c2, A3, n3, c3⟩ := s
  simp only [askV] at HC h1 hr1 ⊢
  obtain rfl : n = n1 := hl.symm.trans h1
  have Hr := Lib.hid hr1; have Hl := Lib.hid hl; clear hr1 hl h1
  have hnd : need n ≤ 246 := by unfold need; omega
  obtain ⟨N, hN⟩ : ∃ N, need n = N := ⟨_, rfl⟩
  rw [hN] at hnd ⊢
  have hN8 : (UInt8.ofNat N).toNat = N := by simp; omega
  have hcall := fun W (hX : Ext w W) => bits_any l A1 n c1 W (Hr.out.ext hX) (by omega)
  rw [hN] at hcall
  have HCALL := Lib.hid hcall
  clear hN hcall
  go_enter Try.func15, Try.ntmps15
  go_wp2_with fail
  refine (HC.out _ (Ext.alloc _ _)).mono ?_
  rintro e w1 ⟨rfl, hb⟩
  have D := fun o : Obj => ask_cells _ (hb.trans (Ext.alloc _ o))
  obtain ⟨d0, -⟩ := ask_cells _ hb
  have d1 := fun o => (D o).2.1
  have d3 := fun o => (D o).2.2.2.1
  have d0' := fun o => (D o).1
  have Hb := Lib.hid hb
  have X1 := Lib.hid ((Ext.alloc _ _).trans hb)
  clear hb D
  go_wp2_with fail
  refine (HCALL.out _ (X1.out.trans (Ext.alloc _ _))).mono ?_
  rintro e w2 ⟨A4, c4, rfl, ho4, hb4⟩
  have Ho4 := Lib.hid ho4
  clear d1 d3
  obtain ⟨-, d1, -, d3, d4, -⟩ := ask_cells _ (Hb.out.trans ((Ext.alloc _ _).trans hb4))
  have X2 := Lib.hid (X1.out.trans ((Ext.alloc _ _).trans hb4))
  have Hf := Lib.hid ((Own.first w1 _ X1.out.size 15 15 rfl).ext (Ext.of hb4))
  have Y2 := Lib.hid (Ext.of hb4)
  clear ho4 hb4 d0'
  go_wp2_with fail
  refine (first_two w _ 15 _ _ A n (by omega) (by omega) (Hf.out.ext (Ext.alloc _ _)) (X2.out.trans (Ext.alloc _ _)) (heap_at _ _ _ rfl) (by have := Y2.out.size; simp at this; omega)).mono ?_
  rintro e w3 ⟨A5, c5, rfl, ho, hx, hG⟩
  have hne : ∀ g, blk A4 = some g → blk (some (⟨w1.heap.size, 0, none⟩ : Addr)) ≠ some g := fun g hg e => by
    have h1 := (Ho4.out.lt g hg).1
    simp [blk] at h1 e
    omega
  have HO4 := Lib.hid (hG.own (Ho4.out.ext (Ext.alloc w2 (.cells #[.int .i64 (A : Int), .int .i64 (n : Int)] 3))) hne)
  have HN4 : Hid (∀ g, blk A4 = some g → blk A5 ≠ some g) := fun g hg => hG.ne (by have := (Ho4.out.lt g hg).2; simp; omega) (hne g hg)
  have Ho := Lib.hid ho; have X3 := Lib.hid hx; clear ho hx hG hne
  have Hlit : Hid ((#[.int .u8 (N : Int)] : Array Value).toList = [UInt8.ofNat N].map cB ++ []) := by show _ = _; simp only [List.map_cons, List.map_nil, cB, hN8, List.append_nil]
  clear hN8
  go_wp2_with (at_builtin; first
    | (refine app_u8 _ rfl (.tmp 58) (.tmp 62) rfl rfl (Ho.out.ext (Ext.alloc _ _)) rfl (Rd.of_heap (ys := []) (heap_alloc_new w3 _) Hlit.out rfl) isU8_map (by omega) (X3.out.trans (Ext.alloc _ _)).size ?_
       intro A6 c6 w4 hown hg hbk
       rw [← List.map_append] at hown
       have HG6 := Lib.hid (Grow.of_alloc hg hbk)
       have HO6 := Lib.hid hown
       have HR6 := Lib.hid (HG6.out.own HO4.out HN4.out)
       have X6 := Lib.hid (HG6.out.ext X3.out Ho.out)
       clear hown hg hbk)
    | (go_must (refine app_u8 _ rfl (.tmp 63) (.tmp 64) rfl rfl HO6.out rfl HR6.out.rd isU8_map (by omega) X6.out.size ?_)
       intro A7 c7 w5 hown hg hbk
       rw [← List.map_append] at hown
       have HO7 := Lib.hid hown
       have X7 := Lib.hid (X6.out.grown' hg (fun g hg => (HO6.out.lt g hg).1))
       clear hown hg hbk))
  go_ret2
  exact RetU.of (by simp) HO7.out X7.out
end Go.Proofs.Ytcnjhjfepojdaaa

namespace Go.Proofs.Ytcnjhjfepojdaaa
set_option linter.unusedVariables false
set_option linter.unusedSimpArgs false
set_option maxRecDepth 100000
set_option maxHeartbeats 1000000
open Go Go.RowKit Go.Out

theorem askRegs (A n : Nat) (l : List UInt16) (s : AskS) (w : World) (hr : AskRd w ⟨16, A, 0, [], l, []⟩ s) (h : checkF ⟨16, A, 0, [], l, []⟩ = 0) (hA : A ≤ 65535) (hl : l.length = n) (hn : n ≤ 123) :
    Calls Try.prog 15 #[askV ⟨16, A, 0, [], l, []⟩ s] w (RetU w (16 :: (two A ++ (two n ++ UInt8.ofNat (2 * n) :: wb l))) 0) := by
  have HC := Lib.hid (askOk hr h)
  have h1 := hr.n2
  have hr1 := hr.set
  clear hr h
  obtain ⟨A1, n1, c1, A2, n2, c2, A3, n3, c3⟩ := s
  simp only [askV] at HC h1 hr1 ⊢
  obtain rfl : n = n2 := hl.symm.trans h1
  have Hr := Lib.hid hr1; have Hl := Lib.hid hl; clear hr1 hl h1
  have hnd : 2 * n ≤ 246 := by omega
  obtain ⟨N, hN⟩ : ∃ N, 2 * n = N := ⟨_, rfl⟩
  rw [hN] at hnd ⊢
  have hN8 : (UInt8.ofNat N).toNat = N := by simp; omega
  have hcall := fun W (hX : Ext w W) => bytes_any l A2 n c2 W (Hr.out.ext hX) (by omega)
  rw [hN] at hcall
  have HCALL := Lib.hid hcall
  clear hN hcall
  go_enter Try.func15, Try.ntmps15
  go_wp2_with fail
  refine (HC.out _ (Ext.alloc _ _)).mono ?_
  rintro e w1 ⟨rfl, hb⟩
  have D := fun o : Obj => ask_cells _ (hb.trans (Ext.alloc _ o))
  obtain ⟨d0, -⟩ := ask_cells _ hb
  have d1 := fun o => (D o).2.1
  have d3 := fun o => (D o).2.2.2.2.1
  have d0' := fun o => (D o).1
  have Hb := Lib.hid hb
  have X1 := Lib.hid ((Ext.alloc _ _).trans hb)
  clear hb D
  go_wp2_with fail
  refine (HCALL.out _ (X1.out.trans (Ext.alloc _ _))).mono ?_
  rintro e w2 ⟨A4, c4, rfl, ho4, hb4⟩
  have Ho4 := Lib.hid ho4
  clear d1 d3
  obtain ⟨-, d1, -, d3, d4, -⟩ := ask_cells _ (Hb.out.trans ((Ext.alloc _ _).trans hb4))
  have X2 := Lib.hid (X1.out.trans ((Ext.alloc _ _).trans hb4))
  have Hf := Lib.hid ((Own.first w1 _ X1.out.size 16 16 rfl).ext (Ext.of hb4))
  have Y2 := Lib.hid (Ext.of hb4)
  clear ho4 hb4 d0'
  go_wp2_with fail
  refine (first_two w _ 16 _ _ A n (by omega) (by omega) (Hf.out.ext (Ext.alloc _ _)) (X2.out.trans (Ext.alloc _ _)) (heap_at _ _ _ rfl) (by have := Y2.out.size; simp at this; omega)).mono ?_
  rintro e w3 ⟨A5, c5, rfl, ho, hx, hG⟩
  have hne : ∀ g, blk A4 = some g → blk (some (⟨w1.heap.size, 0, none⟩ : Addr)) ≠ some g := fun g hg e => by
    have h1 := (Ho4.out.lt g hg).1
    simp [blk] at h1 e
    omega
  have HO4 := Lib.hid (hG.own (Ho4.out.ext (Ext.alloc w2 (.cells #[.int .i64 (A : Int), .int .i64 (n : Int)] 3))) hne)
  have HN4 : Hid (∀ g, blk A4 = some g → blk A5 ≠ some g) := fun g hg => hG.ne (by have := (Ho4.out.lt g hg).2; simp; omega) (hne g hg)
  have Ho := Lib.hid ho; have X3 := Lib.hid hx; clear ho hx hG hne
  have Hlit : Hid ((#[.int .u8 (N : Int)] : Array Value).toList = [UInt8.ofNat N].map cB ++ []) := by show _ = _; simp only [List.map_cons, List.map_nil, cB, hN8, List.append_nil]
  clear hN8
  go_wp2_with (at_builtin; first
    | (refine app_u8 _ rfl (.tmp 78) (.tmp 82) rfl rfl (Ho.out.ext (Ext.alloc _ _)) rfl (Rd.of_heap (ys := []) (heap_alloc_new w3 _) Hlit.out rfl) isU8_map (by omega) (X3.out.trans (Ext.alloc _ _)).size ?_
       intro A6 c6 w4 hown hg hbk
       rw [← List.map_append] at hown
       have HG6 := Lib.hid (Grow.of_alloc hg hbk)
       have HO6 := Lib.hid hown
       have HR6 := Lib.hid (HG6.out.own HO4.out HN4.out)
       have X6 := Lib.hid (HG6.out.ext X3.out Ho.out)
       clear hown hg hbk)
    | (go_must (refine app_u8 _ rfl (.tmp 83) (.tmp 84) rfl rfl HO6.out rfl HR6.out.rd isU8_map (by omega) X6.out.size ?_)
       intro A7 c7 w5 hown hg hbk
       rw [← List.map_append] at hown
       have HO7 := Lib.hid hown
       have X7 := Lib.hid (X6.out.grown' hg (fun g hg => (HO6.out.lt g hg).1))
       clear hown hg hbk))
  go_ret2
  exact RetU.of (by simp) HO7.out X7.out
end Go.Proofs.Ytcnjhjfepojdaaa
