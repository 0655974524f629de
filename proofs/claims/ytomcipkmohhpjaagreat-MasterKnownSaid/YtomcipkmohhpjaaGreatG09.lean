/- Contracts of the requests: the reference's PDU of a request: reads, one coil, one register. -/
import Derived.Test.YtomcipkmohhpjaaGreatG08
import Derived.Test.YtomcipkmohhpjaaGreatG02
import Derived.Test.YtomcipkmohhpjaaGreatG06
import Derived.Test.YtomcipkmohhpjaaGreatRepR
namespace Go.Proofs.YtomcipkmohhpjaaGreat
set_option linter.unusedVariables false
set_option linter.unusedSimpArgs false
set_option maxRecDepth 100000
set_option maxHeartbeats 2000000
open Go Go.RowKit Go.Out

/-- A number of two bytes behind a row of the call's own. -/
theorem ref_two (w V : World) (xs : List UInt8) (v n : Nat) (A : Option Addr) (c : Nat) (hv : v < 65536) (hn : n ≤ 1000000) (ho : Own V w.heap.size 5 IsU8 A n c (xs.map cB)) (hX : Ext w V) :
    Calls Tryz.prog 89 #[.slice A n c, .int .i64 (v : Int)] V fun e w' => ∃ A' c', e = .returned (.slice A' (n + 2) c') ∧ Own w' w.heap.size 5 IsU8 A' (n + 2) c' ((xs ++ two v).map cB) ∧ Ext w w' ∧ Grow V w' A A' := by
  have hl := ho.len
  refine (two3_any xs v n hv A c w.heap.size V ho hX.size (by omega)).mono ?_
  rintro e w' ⟨A', c', rfl, ho', hG⟩
  have e2 : (xs ++ two v).length = n + 2 := by simp [two] at hl ⊢; omega
  rw [e2] at ho' ⊢
  exact ⟨A', c', rfl, ho', hG.ext hX ho, hG⟩
theorem ref3Ok {a : AskD} {s : AskS} {w : World} (hr : AskRd w a s) (h : checkF a = 0) : ∀ W, Ext w W → Calls Tryz.prog 45 #[askV a s] W (RetI W 0) := by
  intro W hX
  have := refCheck_any a s W (hr.ext hX)
  rwa [h] at this
theorem RetU.up {w w0 w' : World} {xs xs' : List UInt8} {A : Option Addr} {n c : Nat} (h : xs' = xs) (h0 : Ext w w0) (ho : Own w' w0.heap.size 5 IsU8 A n c (xs'.map cB)) (hx : Ext w0 w') : RetU w xs 0 (.returned (.tuple #[.slice A n c, .int .i64 0])) w' := ⟨A, n, c, rfl, h ▸ ho.mono h0.size, h0.trans hx⟩

theorem refNo (a : AskD) (s : AskS) (w : World) (hr : AskRd w a s) (h : checkF a ≠ 0) : Calls Tryz.prog 46 #[askV a s] w (RetU w [] (checkF a)) := by
  have hc := fun W (hX : Ext w W) => refCheck_any a s W (hr.ext hX)
  obtain ⟨k, hk⟩ : ∃ k, checkF a = k := ⟨_, rfl⟩
  simp only [hk] at hc h ⊢
  have ht : (k != 0) = true := by simpa using h
  have HC := Lib.hid hc; clear hc hr hk h
  obtain ⟨code, addr, count, on, set, parts⟩ := a
  obtain ⟨A1, n1, c1, A2, n2, c2, A3, n3, c3⟩ := s
  simp only [askV] at HC ⊢
  go_enter Tryz.func46, Tryz.ntmps46
  go_wp2_with fail
  refine (HC.out _ (Ext.alloc _ _)).mono ?_
  rintro e w1 ⟨rfl, hb⟩
  have X1 := (Ext.alloc _ _).trans hb
  clear hb
  go_wp2_with fail
  go_ret2
  exact ⟨none, 0, 0, rfl, Own.nil_ _ _ _ _, X1⟩

theorem refCnt (c A n : Nat) (s : AskS) (w : World) (hr : AskRd w ⟨c, A, n, [], [], []⟩ s) (h : checkF ⟨c, A, n, [], [], []⟩ = 0) (h1 : 1 ≤ c) (h4 : c ≤ 4) (hA : A ≤ 65535) (hn : n ≤ 2000) :
    Calls Tryz.prog 46 #[askV ⟨c, A, n, [], [], []⟩ s] w (RetU w (UInt8.ofNat c :: (two A ++ two n)) 0) := by
  have HC := Lib.hid (ref3Ok hr h); clear hr h
  obtain ⟨A1, n1, c1, A2, n2, c2, A3, n3, c3⟩ := s
  simp only [askV] at HC ⊢
  have hc8 : (UInt8.ofNat c).toNat = c := by simp; omega
  go_enter Tryz.func46, Tryz.ntmps46
  go_wp2_with fail
  refine (HC.out _ (Ext.alloc _ _)).mono ?_
  rintro e w1 ⟨rfl, hb⟩
  have D := fun o : Obj => ask_cells _ (hb.trans (Ext.alloc _ o))
  obtain ⟨d0, -⟩ := ask_cells _ hb
  have d1 := fun o => (D o).2.1
  have d0' := fun o => (D o).1
  have Y1 := Lib.hid hb
  clear hb D
  go_wp2_with fail
  have HF := Own.first w1 _ Y1.out.size (UInt8.ofNat c) c hc8
  have XF := Y1.out.trans (Ext.alloc w1 (.cells #[.int .u8 (c : Int)] 5))
  have hcall := ref_two _ _ [UInt8.ofNat c] A 1 _ _ (by omega) (by omega) HF XF
  refine hcall.mono ?_
  rintro e w2 ⟨A', c', rfl, ho, hx, -⟩
  clear d0 d1 d0'
  obtain ⟨d0, -, d2, -⟩ := ask_cells _ hx
  have Y2 := Lib.hid hx
  have HO := Lib.hid ho
  clear hx ho
  go_wp2_with fail
  refine (ref_two _ _ _ n _ _ _ (by omega) (by omega) HO.out Y2.out).mono ?_
  rintro e w3 ⟨A'', c'', rfl, ho, hx, -⟩
  go_wp2_with fail
  go_ret2
  exact RetU.up (by simp) (Ext.alloc _ _) ho hx

theorem refCoil (A : Nat) (x : Bool) (s : AskS) (w : World) (hr : AskRd w ⟨5, A, 0, [x], [], []⟩ s) (h : checkF ⟨5, A, 0, [x], [], []⟩ = 0) (hA : A ≤ 65535) :
    Calls Tryz.prog 46 #[askV ⟨5, A, 0, [x], [], []⟩ s] w (RetU w (5 :: (two A ++ two (if x then 65280 else 0))) 0) := by
  have HC := Lib.hid (ref3Ok hr h)
  have h1 := hr.n1
  have hr1 := hr.on
  clear hr h
  obtain ⟨A1, n1, c1, A2, n2, c2, A3, n3, c3⟩ := s
  simp only [askV] at HC h1 hr1 ⊢
  obtain rfl : 1 = n1 := h1
  obtain ⟨bx, ox, rfl, hbx, hlx, hcx⟩ := hr1.boat (k := 0) (by omega)
  simp only [List.getElem_cons_zero, Nat.add_zero] at hcx
  clear hr1
  cases x
  · go_enter Tryz.func46, Tryz.ntmps46
    go_wp2_with fail
    refine (HC.out _ (Ext.alloc _ _)).mono ?_
    rintro e w1 ⟨rfl, hb⟩
    have D := fun o : Obj => ask_cells _ (hb.trans (Ext.alloc _ o))
    obtain ⟨d0, -⟩ := ask_cells _ hb
    have d1 := fun o => (D o).2.1
    have d0' := fun o => (D o).1
    have Y1 := Lib.hid hb
    clear hb D
    go_wp2_with fail
    refine (ref_two _ _ [5] A 1 _ _ (by omega) (by omega) (Own.first w1 _ Y1.out.size 5 5 rfl) (Y1.out.trans (Ext.alloc _ _))).mono ?_
    rintro e w2 ⟨A', c', rfl, ho, hx, -⟩
    clear d0 d1 d0'
    obtain ⟨d0, -, -, d3, -⟩ := ask_cells _ hx
    have hcy := ((Ext.alloc w _).trans hx).cell hbx hcx
    have Y2 := Lib.hid hx
    have HO := Lib.hid ho
    clear hx ho
    go_wp2_with fail
    have hcall := ref_two _ _ _ 0 _ _ _ (by omega) (by omega) HO.out Y2.out
    refine hcall.mono ?_
    rintro e w3 ⟨A'', c'', rfl, ho, hx, -⟩
    go_wp2_with fail
    go_ret2
    exact RetU.up (by simp) (Ext.alloc _ _) ho hx
  · go_enter Tryz.func46, Tryz.ntmps46
    go_wp2_with fail
    refine (HC.out _ (Ext.alloc _ _)).mono ?_
    rintro e w1 ⟨rfl, hb⟩
    have D := fun o : Obj => ask_cells _ (hb.trans (Ext.alloc _ o))
    obtain ⟨d0, -⟩ := ask_cells _ hb
    have d1 := fun o => (D o).2.1
    have d0' := fun o => (D o).1
    have Y1 := Lib.hid hb
    clear hb D
    go_wp2_with fail
    refine (ref_two _ _ [5] A 1 _ _ (by omega) (by omega) (Own.first w1 _ Y1.out.size 5 5 rfl) (Y1.out.trans (Ext.alloc _ _))).mono ?_
    rintro e w2 ⟨A', c', rfl, ho, hx, -⟩
    clear d0 d1 d0'
    obtain ⟨d0, -, -, d3, -⟩ := ask_cells _ hx
    have hcy := ((Ext.alloc w _).trans hx).cell hbx hcx
    have Y2 := Lib.hid hx
    have HO := Lib.hid ho
    clear hx ho
    go_wp2_with fail
    have hcall := ref_two _ _ _ 65280 _ _ _ (by omega) (by omega) HO.out Y2.out
    refine hcall.mono ?_
    rintro e w3 ⟨A'', c'', rfl, ho, hx, -⟩
    go_wp2_with fail
    go_ret2
    exact RetU.up (by simp) (Ext.alloc _ _) ho hx

theorem refReg (A : Nat) (x : UInt16) (s : AskS) (w : World) (hr : AskRd w ⟨6, A, 0, [], [x], []⟩ s) (h : checkF ⟨6, A, 0, [], [x], []⟩ = 0) (hA : A ≤ 65535) :
    Calls Tryz.prog 46 #[askV ⟨6, A, 0, [], [x], []⟩ s] w (RetU w (6 :: (two A ++ two x.toNat)) 0) := by
  have HC := Lib.hid (ref3Ok hr h)
  have h1 := hr.n2
  have hr1 := hr.set
  clear hr h
  obtain ⟨A1, n1, c1, A2, n2, c2, A3, n3, c3⟩ := s
  simp only [askV] at HC h1 hr1 ⊢
  obtain rfl : 1 = n2 := h1
  obtain ⟨bx, ox, rfl, hbx, hlx, hcx⟩ := hr1.u16at (k := 0) (by omega)
  simp only [List.getElem_cons_zero, Nat.add_zero] at hcx
  clear hr1
  have hx16 := x.toNat_lt
  have h01 : (0 : Int) < (1 : Int) := by omega
  generalize x.toNat = v at *
  go_enter Tryz.func46, Tryz.ntmps46
  go_wp2_with fail
  refine (HC.out _ (Ext.alloc _ _)).mono ?_
  rintro e w1 ⟨rfl, hb⟩
  have D := fun o : Obj => ask_cells _ (hb.trans (Ext.alloc _ o))
  obtain ⟨d0, -⟩ := ask_cells _ hb
  have d1 := fun o => (D o).2.1
  have d0' := fun o => (D o).1
  have Y1 := Lib.hid hb
  clear hb D
  go_wp2_with fail
  refine (ref_two _ _ [6] A 1 _ _ (by omega) (by omega) (Own.first w1 _ Y1.out.size 6 6 rfl) (Y1.out.trans (Ext.alloc _ _))).mono ?_
  rintro e w2 ⟨A', c', rfl, ho, hx, -⟩
  clear d0 d1 d0'
  obtain ⟨d0, -, -, -, d4, -⟩ := ask_cells _ hx
  have hcy := ((Ext.alloc w _).trans hx).cell hbx hcx
  have Y2 := Lib.hid hx
  have HO := Lib.hid ho
  clear hx ho
  have hwv : IntKind.i64.wrap (v : Int) = (v : Int) := IntWalk.i64_in _ (by omega)
  go_wp2_with fail
  refine (ref_two _ _ _ v _ _ _ (by omega) (by omega) HO.out Y2.out).mono ?_
  rintro e w3 ⟨A'', c'', rfl, ho, hx, -⟩
  go_wp2_with fail
  go_ret2
  exact RetU.up (by simp) (Ext.alloc _ _) ho hx

theorem refCoils (A n : Nat) (l : List Bool) (s : AskS) (w : World) (hr : AskRd w ⟨15, A, 0, l, [], []⟩ s) (h : checkF ⟨15, A, 0, l, [], []⟩ = 0) (hA : A ≤ 65535) (hl : l.length = n) (hn : n ≤ 1968) :
    Calls Tryz.prog 46 #[askV ⟨15, A, 0, l, [], []⟩ s] w (RetU w (15 :: (two A ++ (two n ++ UInt8.ofNat (need n) :: bitsF l))) 0) := by
  have HC := Lib.hid (ref3Ok hr h)
  have h1 := hr.n1
  have hr1 := hr.on
  clear hr h
  obtain ⟨A1, n1, c1, A2, n2, c2, A3, n3, c3⟩ := s
  simp only [askV] at HC h1 hr1 ⊢
  obtain rfl : n = n1 := hl.symm.trans h1
  have Hr := Lib.hid hr1; have Hl := Lib.hid hl; clear hr1 hl h1
  have hnd : need n ≤ 246 := by unfold need; omega
  obtain ⟨N, hN⟩ : ∃ N, need n = N := ⟨_, rfl⟩
  rw [hN] at hnd ⊢
  have hN8 : (UInt8.ofNat N).toNat = N := by simp; omega
  have hcall := fun W (hX : Ext w W) => packed3_any l A1 n c1 W (Hr.out.ext hX) (by omega)
  rw [hN] at hcall
  have HCALL := Lib.hid hcall
  clear hN hcall
  go_enter Tryz.func46, Tryz.ntmps46
  go_wp2_with fail
  refine (HC.out _ (Ext.alloc _ _)).mono ?_
  rintro e w1 ⟨rfl, hb⟩
  have D := fun o : Obj => ask_cells _ (hb.trans (Ext.alloc _ o))
  obtain ⟨d0, -⟩ := ask_cells _ hb
  have d1 := fun o => (D o).2.1
  have d0' := fun o => (D o).1
  have Y1 := Lib.hid hb
  clear hb D
  go_wp2_with fail
  refine (ref_two _ _ [15] A 1 _ _ (by omega) (by omega) (Own.first w1 _ Y1.out.size 15 15 rfl) (Y1.out.trans (Ext.alloc _ _))).mono ?_
  rintro e w2 ⟨A', c', rfl, ho, hx, -⟩
  clear d0 d1 d0'
  obtain ⟨d0, -, -, d3, -⟩ := ask_cells _ hx
  have Y2 := Lib.hid hx
  have HO := Lib.hid ho
  clear hx ho
  go_wp2_with fail
  refine (HCALL.out _ ((Ext.alloc _ _).trans Y2.out)).mono ?_
  rintro e w3 ⟨A4, c4, rfl, ho4, hb4⟩
  have Ho4 := Lib.hid ho4
  have Y3 := Lib.hid (Y2.out.trans (Ext.of hb4))
  have HO3 := Lib.hid (HO.out.ext (Ext.of hb4))
  have hsep : ∀ g, blk A4 = some g → blk A' ≠ some g := fun g hg e => by
    have h1 := (ho4.lt g hg).1
    have h2 := (HO.out.lt g e).2
    omega
  have HSEP := Lib.hid hsep
  clear d0 d3 ho4 hb4 hsep
  obtain ⟨d0, -, -, d3, -⟩ := ask_cells _ Y3.out
  go_wp2_with fail
  refine (ref_two _ _ _ n _ _ _ (by omega) (by omega) HO3.out Y3.out).mono ?_
  rintro e w4 ⟨A5, c5, rfl, ho, hx, hG⟩
  have HO4 := Lib.hid (hG.own Ho4.out HSEP.out)
  have HN4 : Hid (∀ g, blk A4 = some g → blk A5 ≠ some g) := fun g hg => hG.ne (Ho4.out.lt g hg).2 (HSEP.out g hg)
  have Ho := Lib.hid ho; have X4 := Lib.hid hx; clear ho hx hG d0 d3
  have Hlit : Hid ((#[.int .u8 (N : Int)] : Array Value).toList = [UInt8.ofNat N].map cB ++ []) := by show _ = _; simp only [List.map_cons, List.map_nil, cB, hN8, List.append_nil]
  clear hN8
  go_wp2_with (at_builtin; first
    | (refine app_u8 _ rfl (.tmp 99) (.tmp 103) rfl rfl (Ho.out.ext (Ext.alloc _ _)) rfl (Rd.of_heap (ys := []) (heap_alloc_new w4 _) Hlit.out rfl) isU8_map (by omega) (X4.out.trans (Ext.alloc _ _)).size ?_
       intro A6 c6 w5 hown hg hbk
       rw [← List.map_append] at hown
       have HG6 := Lib.hid (Grow.of_alloc hg hbk)
       have HO6 := Lib.hid hown
       have HR6 := Lib.hid (HG6.out.own HO4.out HN4.out)
       have X6 := Lib.hid (HG6.out.ext X4.out Ho.out)
       clear hown hg hbk)
    | (go_must (refine app_u8 _ rfl (.tmp 104) (.tmp 105) rfl rfl HO6.out rfl HR6.out.rd isU8_map (by omega) X6.out.size ?_)
       intro A7 c7 w6 hown hg hbk
       rw [← List.map_append] at hown
       have HO7 := Lib.hid hown
       have X7 := Lib.hid (X6.out.grown' hg (fun g hg => (HO6.out.lt g hg).1))
       clear hown hg hbk))
  go_ret2
  exact RetU.up (by simp) (Ext.alloc _ _) HO7.out X7.out
end Go.Proofs.YtomcipkmohhpjaaGreat

namespace Go.Proofs.YtomcipkmohhpjaaGreat
set_option linter.unusedVariables false
set_option linter.unusedSimpArgs false
set_option maxRecDepth 100000
set_option maxHeartbeats 1000000
open Go Go.RowKit Go.Out

theorem ref_two1 (w V : World) (o : Obj) (xs : List UInt8) (v n : Nat) (A : Option Addr) (c : Nat) (hv : v < 65536) (hn : n ≤ 1000000) (ho : Own V (w.heap.size + 1) 5 IsU8 A n c (xs.map cB)) (hX : Ext (w.alloc o) V) :
    Calls Tryz.prog 89 #[.slice A n c, .int .i64 (v : Int)] V fun e w' => ∃ A' c', e = .returned (.slice A' (n + 2) c') ∧ Own w' (w.heap.size + 1) 5 IsU8 A' (n + 2) c' ((xs ++ two v).map cB) ∧ Ext (w.alloc o) w' ∧ Grow V w' A A' := by
  have e : (w.alloc o).heap.size = w.heap.size + 1 := by simp
  have h := ref_two (w.alloc o) V xs v n A c hv hn (by rw [e]; exact ho) hX
  rw [e] at h; exact h
theorem RetU.up1 {w w' : World} {o : Obj} {xs xs' : List UInt8} {A : Option Addr} {n c : Nat} (h : xs' = xs) (ho : Own w' (w.heap.size + 1) 5 IsU8 A n c (xs'.map cB)) (hx : Ext (w.alloc o) w') : RetU w xs 0 (.returned (.tuple #[.slice A n c, .int .i64 0])) w' :=
  ⟨A, n, c, rfl, h ▸ ho.mono (by omega), (Ext.alloc _ _).trans hx⟩

theorem refRegs (A n : Nat) (l : List UInt16) (s : AskS) (w : World) (hr : AskRd w ⟨16, A, 0, [], l, []⟩ s) (h : checkF ⟨16, A, 0, [], l, []⟩ = 0) (hA : A ≤ 65535) (hl : l.length = n) (hn : n ≤ 123) :
    Calls Tryz.prog 46 #[askV ⟨16, A, 0, [], l, []⟩ s] w (RetU w (16 :: (two A ++ (two n ++ UInt8.ofNat (2 * n) :: wb l))) 0) := by
  have HC := Lib.hid (ref3Ok hr h)
  have h1 := hr.n2
  have hr1 := hr.set
  clear hr h
  obtain ⟨A1, n1, c1, A2, n2, c2, A3, n3, c3⟩ := s
  simp only [askV] at HC h1 hr1 ⊢
  obtain rfl : n = n2 := hl.symm.trans h1
  have Hr := Lib.hid hr1; have Hl := Lib.hid hl; clear hr1 hl h1
  have hN8 : (UInt8.ofNat (2 * n)).toNat = 2 * n := by simp; omega
  have hw2 : IntKind.i64.wrap (2 * (n : Int)) = 2 * (n : Int) := IntWalk.i64_in _ (by omega)
  have hw8 : IntKind.u8.wrap (2 * (n : Int)) = 2 * (n : Int) := by rw [IntKind.wrap_u8]; omega
  have Hlit : Hid ((#[.int .u8 (2 * (n : Int))] : Array Value).toList = [UInt8.ofNat (2 * n)].map cB ++ []) := by show _ = _; simp only [List.map_cons, List.map_nil, cB, hN8, List.append_nil]; rw [Int.natCast_mul]; rfl
  clear hN8
  go_enter Tryz.func46, Tryz.ntmps46
  go_wp2_with fail
  refine (HC.out _ (Ext.alloc _ _)).mono ?_
  rintro e w1 ⟨rfl, hb⟩
  have D := fun o : Obj => ask_cells _ (hb.trans (Ext.alloc _ o))
  obtain ⟨d0, -⟩ := ask_cells _ hb
  have d1 := fun o => (D o).2.1
  have d0' := fun o => (D o).1
  have Y1 := Lib.hid hb
  clear hb D
  go_wp2_with fail
  have hcall := ref_two _ _ [16] A 1 _ _ (by omega) (by omega) (Own.first w1 _ Y1.out.size 16 16 rfl) (Y1.out.trans (Ext.alloc _ _))
  refine hcall.mono ?_
  clear hcall
  rintro e w2 ⟨A', c', rfl, ho, hx, -⟩
  clear d0 d1 d0'
  obtain ⟨d0, -, -, -, d4, -⟩ := ask_cells _ hx
  have hzb : w.heap.size < w2.heap.size := by have := hx.size; simp at this; omega
  have Y2 := Lib.hid hx
  have HO := Lib.hid ho
  have HLT := Lib.hid (fun g hg => (ho.lt g hg).2)
  clear hx ho
  go_wp2_with fail
  have xr := Ext.draw w2
  have xa := fun o => Ext.drew' (Ext.alloc w2 o)
  have hl2 : (w2.alloc (.cells #[.int .u8 (2 * (n : Int))] 5)).drew.heap[w2.heap.size]? = some (.cells #[.int .u8 (2 * (n : Int))] 5) := heap_alloc_new w2 _
  have HL2 := Lib.hid hl2
  clear hl2
  go_region_held3 (fun w' => w'.cell? ⟨w.heap.size, 4, none⟩ = some (.slice A2 n c2)) (go_keep) ((first
    | (go_at_call 89
       first
         | (refine (ref_two _ _ _ n _ _ _ (by omega) (by omega) (HO.out.ext xr) (Y2.out.trans xr)).mono ?_
            rintro e w4 ⟨A5, c5, rfl, ho, hx4, hG⟩
            have k4 := (ask_cells _ hx4).2.2.2.2.1
            have hz4 : w.heap.size < w4.heap.size := by have := hx4.size; simp at this; omega
            have HO4 := Lib.hid ho
            have X4 := Lib.hid hx4
            clear ho hx4 hG)
         | (refine (ref_two _ _ _ n _ _ _ (by omega) (by omega) (HO.out.ext (xa _)) (Y2.out.trans (xa _))).mono ?_
            rintro e w4 ⟨A5, c5, rfl, ho, hx4, hG⟩
            have k4 := (ask_cells _ hx4).2.2.2.2.1
            have hz4 : w.heap.size < w4.heap.size := by have := hx4.size; simp at this; omega
            have HO4 := Lib.hid ho
            have X4 := Lib.hid hx4
            have HL4 := Lib.hid ((hG.1.block w2.heap.size (by simp) (fun e => by have := HLT.out _ e.symm; omega)).trans HL2.out)
            clear ho hx4 hG))
    | (first
         | refine step_u8 (base := (w.alloc _).heap.size) rfl (.tmp 113) (.tmp 119) rfl rfl HO4.out rfl (Rd.of_heap (ys := []) HL4.out Hlit.out rfl) isU8_map (by omega) X4.out.size ?_
         | refine step_u8 (base := (w.alloc _).heap.size) rfl (.tmp 113) (.tmp 119) rfl rfl (HO4.out.ext (Ext.alloc _ _)) rfl (Rd.of_heap (ys := []) (heap_alloc_new w4 _) Hlit.out rfl) isU8_map (by omega) (X4.out.trans (Ext.alloc _ _)).size ?_
       intro A7 c7 w5 hown hg hbk
       rw [← List.map_append] at hown
       first
         | have X7 := Lib.hid (X4.out.grown' hg (fun g hg => (HO4.out.lt g hg).1))
         | have X7 := Lib.hid ((X4.out.trans (Ext.alloc _ _)).grown' hg (fun g hg => (HO4.out.lt g hg).1))
       have k7 := (ask_cells _ X7.out).2.2.2.2.1
       have HO7 := Lib.hid hown
       clear hown hg hbk)))
  all_goals
    go_wp2_with fail
    simp only [Nat.reduceAdd]
    go_loopw [5, 9] (fun b i wr => ∃ (k : Nat) (A5 : Option Addr) (c5 : Nat), k ≤ n ∧ b = .slice A5 (6 + 2 * k) c5 ∧ i = .int .i64 (k : Int) ∧ Hid (Own wr (w.heap.size + 1) 5 IsU8 A5 (6 + 2 * k) c5 ((16 :: (two A ++ (two n ++ UInt8.ofNat (2 * n) :: wb (l.take k)))).map cB)) ∧ Hid (Ext (w.alloc (.cells #[.int .i64 16, .int .i64 (A : Int), .int .i64 0, .slice A1 n1 c1, .slice A2 n c2, .slice A3 n3 c3] 37)) wr)) (fun _ i _ => n - (intOf i).toNat)
    case atStart => exact ⟨0, _, _, Nat.zero_le _, rfl, rfl, by simpa [Hid, wb] using HO7.out, X7⟩
    case round =>
      obtain ⟨k, A6, c6, hk, rfl, rfl, HOk, HX⟩ := hrel
      have d4 := (ask_cells _ HX.out).2.2.2.2.1
      rcases Nat.lt_or_ge k n with hlt | hge
      · obtain ⟨bx, ox, hA2, hbx, hlx, hcx⟩ := (Hr.out.ext ((Ext.alloc _ _).trans HX.out)).u16at hlt
        subst hA2
        have hst := wb_snoc l k hlx
        have hx16 := (l[k]'hlx).toNat_lt
        generalize (l[k]'hlx).toNat = v at *
        have Hst := Lib.hid hst; clear hst
        have hwv : IntKind.i64.wrap (v : Int) = (v : Int) := IntWalk.i64_in _ (by omega)
        go_wp2_with fail
        refine (ref_two1 w _ _ _ v _ _ _ (by omega) (by omega) HOk.out HX.out).mono ?_
        rintro e w8 ⟨A8, c8, rfl, ho, hx8, -⟩
        have HO8 := Lib.hid ho
        have X8 := Lib.hid hx8
        clear ho hx8
        go_wp2_with fail
        go_roundw
        case rel => exact ⟨k + 1, A8, c8, by omega, rfl, by go_num, by rw [Hst.out, show 6 + 2 * (k + 1) = 6 + 2 * k + 2 by omega]; simpa [Hid, two] using HO8.out, X8⟩
        case measure => simp [intOf]; omega
      · obtain rfl : n = k := by omega
        have ho := HOk.out
        rw [List.take_of_length_le (by have := Hl.out; omega)] at ho
        have Ho := Lib.hid ho
        clear ho
        go_wp2_with fail
        go_ret2
        exact RetU.up1 rfl Ho.out HX.out
end Go.Proofs.YtomcipkmohhpjaaGreat

namespace Go.Proofs.YtomcipkmohhpjaaGreat
set_option linter.unusedVariables false
set_option linter.unusedSimpArgs false
set_option maxRecDepth 100000
set_option maxHeartbeats 6000000
open Go Go.RowKit Go.Out

theorem refFile (l : List PartD) (s : AskS) (w : World) (hr : AskRd w ⟨20, 0, 0, [], [], l⟩ s) (h : checkF ⟨20, 0, 0, [], [], l⟩ = 0) (hl : l.length ≤ 35) (hp : partsF l = 0) :
    Calls Tryz.prog 46 #[askV ⟨20, 0, 0, [], [], l⟩ s] w (RetU w (20 :: UInt8.ofNat (7 * l.length) :: partsB l) 0) := by
  have HC := Lib.hid (ref3Ok hr h)
  have h1 := hr.n3
  have hr1 := hr.parts
  have hgood : ∀ k p, l[k]? = some p → ¬ badP p := fun k p hk hb => by
    obtain ⟨hk', rfl⟩ := List.getElem?_eq_some_iff.1 hk
    rw [partsF_bad hk' hb] at hp
    cases hp
  clear hr h hp
  obtain ⟨A1, n1, c1, A2, n2, c2, A3, n3, c3⟩ := s
  simp only [askV] at HC h1 hr1 ⊢
  subst h1
  have Hr := Lib.hid hr1; have Hgood := Lib.hid hgood; clear hr1 hgood
  obtain ⟨n, hn⟩ : ∃ n, l.length = n := ⟨_, rfl⟩
  rw [hn] at HC Hr hl ⊢
  have hN8 : (UInt8.ofNat (7 * n)).toNat = 7 * n := by simp; omega
  have Hlen := Lib.hid hn; clear hn
  have hw7 : IntKind.i64.wrap (7 * (n : Int)) = 7 * (n : Int) := IntWalk.i64_in _ (by omega)
  have hw8 : IntKind.u8.wrap (7 * (n : Int)) = 7 * (n : Int) := by rw [IntKind.wrap_u8]; omega
  have Hlit : Hid ((#[.int .u8 (7 * (n : Int))] : Array Value).toList = [UInt8.ofNat (7 * n)].map cB ++ []) := by show _ = _; simp only [List.map_cons, List.map_nil, cB, hN8, List.append_nil]; rw [Int.natCast_mul]; rfl
  clear hN8
  go_enter Tryz.func46, Tryz.ntmps46
  go_wp2_with fail
  refine (HC.out _ (Ext.alloc _ _)).mono ?_
  rintro e w1 ⟨rfl, hb⟩
  have D := fun o : Obj => ask_cells _ (hb.trans (Ext.alloc _ o))
  obtain ⟨d0, -⟩ := ask_cells _ hb
  have d5 := fun o => (D o).2.2.2.2.2
  have d0' := fun o => (D o).1
  have Hb := Lib.hid hb
  have X1 := Lib.hid ((Ext.alloc _ _).trans hb)
  have Hf := Lib.hid (Own.first w1 (w.heap.size + 1) (by have := hb.size; simpa using this) 20 20 rfl)
  clear hb D
  go_wp2_with (at_builtin
               go_must (refine app_u8 _ rfl (.tmp 22) (.tmp 28) rfl rfl (Hf.out.ext (Ext.alloc _ _)) rfl (Rd.of_heap (ys := []) (heap_at _ _ _ (by simp)) Hlit.out rfl) isU8_map (by omega) (by have := (Hb.out.trans ((Ext.alloc w1 (.cells #[.int .u8 20] 5)).trans (Ext.alloc _ (.cells #[.int .u8 (7 * (n : Int))] 5)))).size; simp at this ⊢; omega) ?_)
               intro A6 c6 w2 hown hg hbk
               rw [← List.map_append] at hown
               have HO6 := Lib.hid hown
               have Y2 : Hid (Ext (w.alloc (.cells #[.int .i64 20, .int .i64 0, .int .i64 0, .slice A1 n1 c1, .slice A2 n2 c2, .slice A3 n c3] 37)) w2) := (Hb.out.trans ((Ext.alloc _ _).trans (Ext.alloc _ _))).grown' hg (fun g hg => by simp [blk] at hg; subst hg; exact Hb.out.size)
               clear hown hg hbk d5 d0' d0 Hf)
  try simp only [Nat.reduceAdd]
  go_loopw [5, 6] (fun b i wr => ∃ (k : Nat) (A5 : Option Addr) (c5 : Nat), k ≤ n ∧ b = .slice A5 (2 + 7 * k) c5 ∧ i = .int .i64 (k : Int) ∧ Hid (Own wr (w.heap.size + 1) 5 IsU8 A5 (2 + 7 * k) c5 ((20 :: UInt8.ofNat (7 * n) :: partsB (l.take k)).map cB)) ∧ Hid (Ext (w.alloc (.cells #[.int .i64 20, .int .i64 0, .int .i64 0, .slice A1 n1 c1, .slice A2 n2 c2, .slice A3 n c3] 37)) wr)) (fun _ i _ => n - (intOf i).toNat)
  case atStart => exact ⟨0, A6, c6, Nat.zero_le _, rfl, rfl, by simpa [Hid, partsB] using HO6.out, Y2⟩
  case round =>
    obtain ⟨k, A5, c5, hk, rfl, rfl, HO, HX⟩ := hrel
    have d5 := (ask_cells _ HX.out).2.2.2.2.2
    rcases Nat.lt_or_ge k n with hlt | hge
    · obtain ⟨b1, o1, p, hp, hA3, hb1, e0, e1, e2, -⟩ := part_cells Hr.out hlt
      obtain ⟨F, R, L, hF, hR, hL, hF6, hR6, hL6⟩ := part_nat (Hgood.out k p hp)
      rw [hF] at e0; rw [hR] at e1; rw [hL] at e2
      have hst := partsB_take hp
      rw [show partB p = 6 :: (two F ++ two R ++ two L) by unfold partB; rw [hF, hR, hL]; rfl] at hst
      have Hst := Lib.hid hst
      clear hst hF hR hL hp
      subst hA3
      have HKK : Hid (∀ W, Ext (w.alloc (.cells #[.int .i64 20, .int .i64 0, .int .i64 0, .slice A1 n1 c1, .slice A2 n2 c2, .slice (some ⟨b1, o1, none⟩) n c3] 37)) W →
          W.cell? ⟨w.heap.size, 5, none⟩ = some (.slice (some ⟨b1, o1, none⟩) n c3) ∧ W.cell? ⟨b1, o1 + k * 3, none⟩ = some (.int .i64 (F : Int)) ∧ W.cell? ⟨b1, o1 + k * 3 + 1, none⟩ = some (.int .i64 (R : Int)) ∧ W.cell? ⟨b1, o1 + k * 3 + 2, none⟩ = some (.int .i64 (L : Int))) :=
        fun W hX => ⟨(ask_cells _ hX).2.2.2.2.2, ((Ext.alloc _ _).trans hX).cell hb1 e0, ((Ext.alloc _ _).trans hX).cell hb1 e1, ((Ext.alloc _ _).trans hX).cell hb1 e2⟩
      have hbr : b1 < wr.heap.size := Nat.lt_of_lt_of_le hb1 ((Ext.alloc _ _).trans HX.out).size
      have hzr : w.heap.size < wr.heap.size := by have := HX.out.size; simp at this; omega
      clear e0 e1 e2 hb1 d5
      obtain ⟨q5, q0, q1, q2⟩ := HKK.out _ HX.out
      clear HC Hb Hlit Hgood hw7 hw8 Hlen HO6 Y2
      have h0k : (0 : Int) ≤ (k : Int) := by omega
      have hkn : (k : Int) < (n : Int) := by omega
      have hkt : ((k : Int)).toNat = k := by omega
      have H6 : Hid ((#[.int .u8 6] : Array Value).toList = ([6] : List UInt8).map cB ++ []) := rfl
      have HL := Lib.hid (show (wr.alloc (.cells #[.int .u8 6] 5)).drew.heap[wr.heap.size]? = some (.cells #[.int .u8 6] 5) from heap_alloc_new wr _)
      have XA := Lib.hid (fun o => Ext.drew' (Ext.alloc wr o))
      go_wp2_with fail
      go_region_held3 (fun w' => w'.cell? ⟨w.heap.size, 5, none⟩ = some (.slice (some ⟨b1, o1, none⟩) n c3) ∧ w'.cell? ⟨b1, o1 + k * 3, none⟩ = some (.int .i64 (F : Int)) ∧ w'.cell? ⟨b1, o1 + k * 3 + 1, none⟩ = some (.int .i64 (R : Int)) ∧ w'.cell? ⟨b1, o1 + k * 3 + 2, none⟩ = some (.int .i64 (L : Int))) (go_keep) ((first
        | (go_at_call 89
           first
             | (refine (ref_two1 w _ _ _ L _ _ _ hL6 (by omega) HO5.out X5.out).mono ?_
                rintro e w6 ⟨Aa, ca, rfl, ho, hx, -⟩
                obtain ⟨v5, v0, v1, v2⟩ := HKK.out _ hx
                have HO8 := Lib.hid ho
                have X8 := Lib.hid hx
                clear ho hx)
             | (refine (ref_two1 w _ _ _ R _ _ _ hR6 (by omega) HO4.out X4.out).mono ?_
                rintro e w5 ⟨A9, c9, rfl, ho, hx, -⟩
                obtain ⟨t5, t0, t1, t2⟩ := HKK.out _ hx
                have HO5 := Lib.hid ho
                have X5 := Lib.hid hx
                clear ho hx)
             | (refine (ref_two1 w _ _ _ F _ _ _ hF6 (by omega) HO3.out X3.out).mono ?_
                rintro e w4 ⟨A8, c8, rfl, ho, hx, -⟩
                obtain ⟨s5, s0, s1, s2⟩ := HKK.out _ hx
                have HO4 := Lib.hid ho
                have X4 := Lib.hid hx
                clear ho hx))
        | (refine step_u8 (base := w.heap.size + 1) rfl (.tmp 37) (.tmp 38) rfl rfl (HO.out.ext (XA.out _)) rfl (Rd.of_heap (ys := []) HL.out H6.out rfl) isU8_map (by omega) (Nat.le_trans (by have := HX.out.size; simpa using this) (XA.out _).size) ?_
           intro A7 c7 w3 hown hg hbk
           rw [← List.map_append] at hown
           have X3 := Lib.hid ((HX.out.trans (XA.out _)).grown' hg (fun g hg => by have := (HO.out.lt g hg).1; simp; omega))
           obtain ⟨r5, r0, r1, r2⟩ := HKK.out _ X3.out
           have HO3 := Lib.hid hown
           clear hown hg hbk)))
      all_goals
        go_wp2_with fail
        go_roundw
        case rel => exact ⟨k + 1, Aa, ca, by omega, by first | rfl | (congr 1; omega), by go_num, by rw [Hst.out, show 2 + 7 * (k + 1) = 2 + 7 * k + 1 + 2 + 2 + 2 by omega]; simpa [Hid] using HO8.out, X8⟩
        case measure => simp [intOf]; omega
    · obtain rfl : n = k := by omega
      have ho := HO.out
      rw [List.take_of_length_le (by have := Hlen.out; omega)] at ho
      have Ho := Lib.hid ho
      clear ho
      go_wp2_with fail
      go_ret2
      exact RetU.up1 rfl Ho.out HX.out

theorem ref3Put_any (a : AskD) (s : AskS) (w : World) (hr : AskRd w a s) : Calls Tryz.prog 46 #[askV a s] w (RetU w (putA a).1 (putA a).2) := by
  by_cases h : checkF a = 0
  · rw [putA_ok h]
    rcases Go.Out.ask_cases h with ⟨c, A, n, h1, h4, hA, h1n, hn, rfl⟩ | ⟨A, x, hA, rfl⟩ | ⟨A, v, hA, rfl⟩ | ⟨A, l, hA, h1l, hl, rfl⟩ | ⟨A, l, hA, h1l, hl, rfl⟩ | ⟨l, h1l, hl, hp, rfl⟩
    · have e : bodyF ⟨c, A, n, [], [], []⟩ = two A ++ two n := by
        unfold bodyF
        rw [if_neg (by simp; omega), if_neg (by simp; omega), if_neg (by simp; omega), if_neg (by simp; omega), if_neg (by simp; omega)]
        simp
      rw [e]
      exact refCnt c A n s w hr h h1 h4 hA hn
    · exact refCoil A x s w hr h hA
    · exact refReg A v s w hr h hA
    · exact refCoils A _ l s w hr h hA rfl hl
    · exact refRegs A _ l s w hr h hA rfl hl
    · exact refFile l s w hr h hl hp
  · rw [putA_no h]
    exact refNo a s w hr h
end Go.Proofs.YtomcipkmohhpjaaGreat

namespace Go.Out
open Go Go.RowKit
set_option linter.unusedVariables false
theorem check_lens {a : AskD} (h : checkF a = 0) : a.on.length ≤ 70000 ∧ a.set.length ≤ 70000 ∧ a.parts.length ≤ 70000 := by
  rcases Go.Out.ask_cases h with ⟨c, A, n, h1, h4, hA, h1n, hn, rfl⟩ | ⟨A, x, hA, rfl⟩ | ⟨A, v, hA, rfl⟩ | ⟨A, l, hA, h1l, hl, rfl⟩ | ⟨A, l, hA, h1l, hl, rfl⟩ | ⟨l, h1l, hl, hp, rfl⟩ <;> simp <;> omega
end Go.Out
namespace Go.Proofs.YtomcipkmohhpjaaGreat
set_option linter.unusedVariables false
set_option linter.unusedSimpArgs false
set_option maxRecDepth 100000
set_option maxHeartbeats 1000000
open Go Go.RowKit Go.Out

def remRow (d : MasD) (s : AskS) (A : Option Addr) (n c : Nat) : Obj :=
  .cells #[.int .i64 (d.timeout : Int), .int .i64 (d.retries : Int), .bool d.under, .int .i64 (d.unit : Int), .int .i64 (d.tries : Int), .int .i64 (d.last : Int), .int .i64 d.ask.code, .int .i64 d.ask.addr, .int .i64 d.ask.count, .slice s.A1 s.n1 s.c1, .slice s.A2 s.n2 s.c2, .slice s.A3 s.n3 s.c3, .slice A n c] 45 (0, 0)
/-- The document's master lies at p; all that belongs to it lies in F. -/
def RemAt (w : World) (p : Nat) (F : Nat → Prop) (d : MasD) : Prop :=
  ∃ s A n c, w.heap[p]? = some (remRow d s A n c) ∧ (∀ W, Agr (fun k => F k ∧ k ≠ p) w W → AskRd W d.ask s ∧ Rd W A n (d.frame.map cB)) ∧ n ≤ c ∧ c ≤ 9223372036854775807 ∧ F p ∧ ∀ k, F k → k < w.heap.size
section
variable {w w' : World} {F G : Nat → Prop} {p : Nat} {d : MasD}
theorem RemAt.lt (h : RemAt w p F d) : ∀ k, F k → k < w.heap.size := by obtain ⟨s, A, n, c, -, -, -, -, -, h⟩ := h; exact h
theorem RemAt.foot (h : RemAt w p F d) : F p := by obtain ⟨s, A, n, c, -, -, -, -, h, -⟩ := h; exact h
theorem RemAt.keep (h : RemAt w p F d) (hk : ∀ k, F k → w'.heap[k]? = w.heap[k]?) (hs : w.heap.size ≤ w'.heap.size) : RemAt w' p F d := by
  obtain ⟨s, A, n, c, h1, h2, h3, h4, h5, h6⟩ := h
  exact ⟨s, A, n, c, (hk p h5).trans h1, fun W hW => h2 W (Agr.trans ⟨hs, fun k q => hk k q.1⟩ hW), h3, h4, h5, fun k q => Nat.lt_of_lt_of_le (h6 k q) hs⟩
theorem RemAt.only (h : RemAt w p F d) (ho : Only G w w') (hd : ∀ k, F k → ¬ G k) : RemAt w' p F d := h.keep (fun k q => ho.block k (h.lt k q) (hd k q)) ho.size
theorem RemAt.ext (h : RemAt w p F d) (hx : Ext w w') : RemAt w' p F d := h.keep (fun k q => Below.block hx k (h.lt k q)) hx.size
theorem RemAt.set_far {w : World} {p : Nat} {F : Nat → Prop} {d : MasD} (h : RemAt w p F d) {q : Addr} (hq : ¬ F q.block) (u : Value) : RemAt (w.setCell q u) p F d :=
  h.keep (fun k hk => Below.heap_setCell w q u k (fun e => hq (e ▸ hk))) (by simp [World.setCell])
end
theorem cells13 {W : World} {g : Nat} {t : TypeId} {v0 v1 v2 v3 v4 v5 v6 v7 v8 v9 v10 v11 v12 : Value} (h : W.heap[g]? = some (.cells #[v0, v1, v2, v3, v4, v5, v6, v7, v8, v9, v10, v11, v12] t (0, 0))) :
    W.cell? ⟨g, 0, none⟩ = some v0 ∧ W.cell? ⟨g, 1, none⟩ = some v1 ∧ W.cell? ⟨g, 2, none⟩ = some v2 ∧ W.cell? ⟨g, 3, none⟩ = some v3 ∧ W.cell? ⟨g, 4, none⟩ = some v4 ∧ W.cell? ⟨g, 5, none⟩ = some v5 ∧ W.cell? ⟨g, 6, none⟩ = some v6 ∧ W.cell? ⟨g, 7, none⟩ = some v7 ∧ W.cell? ⟨g, 8, none⟩ = some v8 ∧ W.cell? ⟨g, 9, none⟩ = some v9 ∧ W.cell? ⟨g, 10, none⟩ = some v10 ∧ W.cell? ⟨g, 11, none⟩ = some v11 ∧ W.cell? ⟨g, 12, none⟩ = some v12 :=
  ⟨(cell_of_row _ _ _ _ _ _ h).trans rfl, (cell_of_row _ _ _ _ _ _ h).trans rfl, (cell_of_row _ _ _ _ _ _ h).trans rfl, (cell_of_row _ _ _ _ _ _ h).trans rfl, (cell_of_row _ _ _ _ _ _ h).trans rfl, (cell_of_row _ _ _ _ _ _ h).trans rfl, (cell_of_row _ _ _ _ _ _ h).trans rfl, (cell_of_row _ _ _ _ _ _ h).trans rfl, (cell_of_row _ _ _ _ _ _ h).trans rfl, (cell_of_row _ _ _ _ _ _ h).trans rfl, (cell_of_row _ _ _ _ _ _ h).trans rfl, (cell_of_row _ _ _ _ _ _ h).trans rfl, (cell_of_row _ _ _ _ _ _ h).trans rfl⟩

theorem rem_new (t r : Nat) (h : newE t r = 0) (w : World) : Calls Tryz.prog 8 #[.int .i64 (t : Int), .int .i64 (r : Int)] w (RetNewM RemAt w (newM t r)) := by
  have hh : (1 : Int) ≤ (t : Int) ∧ (t : Int) ≤ 1048576 ∧ (r : Int) ≤ 5 := by
    unfold newE at h
    split at h
    · cases h
    · omega
  obtain ⟨h1, h2, h3⟩ := hh
  have h4 : ¬ (t : Int) < 1 := by omega
  have h5 : ¬ (1048576 : Int) < (t : Int) := by omega
  have h6 : ¬ (r : Int) < 0 := by omega
  have h7 : ¬ (5 : Int) < (r : Int) := by omega
  clear h
  go_enter Tryz.func8, Tryz.ntmps8
  go_wp2_with fail
  go_ret2
  exact ⟨w.heap.size, fun k => k = w.heap.size, rfl, ⟨⟨none, 0, 0, none, 0, 0, none, 0, 0⟩, none, 0, 0, heap_alloc_new _ _, fun W _ => ⟨askZ_rd W, Rd.nil_ _⟩, Nat.le_refl _, Nat.zero_le _, rfl, fun k hk => by rw [hk]; simp⟩, Ext.alloc _ _, fun k hk => by rw [hk]; exact Nat.le_refl _⟩
theorem rem_newNo (t r : Int) (h : newE t r ≠ 0) (w : World) : Calls Tryz.prog 8 #[.int .i64 t, .int .i64 r] w (fun e w' => e = .returned (.tuple #[.pointer none, .int .i64 3]) ∧ w = w') := by
  have hh : t < 1 ∨ (¬ t < 1 ∧ 1048576 < t) ∨ (¬ t < 1 ∧ ¬ 1048576 < t ∧ r < 0) ∨ (¬ t < 1 ∧ ¬ 1048576 < t ∧ ¬ r < 0 ∧ 5 < r) := by
    unfold newE at h
    split at h
    · omega
    · exact absurd rfl h
  clear h
  go_enter Tryz.func8, Tryz.ntmps8
  rcases hh with h1 | ⟨h1, h2⟩ | ⟨h1, h2, h3⟩ | ⟨h1, h2, h3, h4⟩
  all_goals
    go_wp2_with fail
    go_ret2
    exact ⟨rfl, rfl⟩
theorem remRow_set {w : World} {p k : Nat} {cur : Array Value} (v : Value) (h : w.heap[p]? = some (.cells cur 45 (0, 0))) : (w.setCell ⟨p, k, none⟩ v).heap[p]? = some (.cells (cur.setIfInBounds k v) 45 (0, 0)) := heap_setCell_same w p k _ _ v h
theorem RetStart.noR {w w' : World} {p : Nat} {F : Nat → Prop} {d : MasD} {err : Int} (h : RemAt w' p F d) (hx : Ext w w') : RetStart RemAt w p F d [] err (.returned (.tuple #[.slice none 0 0, .int .i64 err])) w' :=
  ⟨F, none, 0, 0, rfl, h, .of_ext hx, fun _ => .inl, Own.nil_ _ _ _ _, by simp [blk]⟩

theorem rem_start_no (now unit : Int) (a : AskD) (s : AskS) (w : World) (p : Nat) (F : Nat → Prop) (d : MasD) (h : RemAt w p F d) (ha : AskRd w a s) (he : startE d now unit a ≠ 0) :
    Calls Tryz.prog 21 #[pM p, .int .i64 now, .int .i64 unit, askV a s] w (RetStart RemAt w p F d [] (startE d now unit a)) := by
  have HM := Lib.hid h
  have HCK := Lib.hid (fun W (hX : Ext w W) => refCheck_any a s W (ha.ext hX))
  have hlt := h.lt p h.foot
  obtain ⟨s0, A0, n0, c0, hrow, -⟩ := h
  unfold remRow at hrow
  have c2 := fun o : Obj => (cells13 ((Ext.alloc w o).block hrow)).2.2.1
  rcases startE_cases d now unit a with ⟨h1, h2⟩ | ⟨h1, h2, h3⟩ | ⟨h1, h2, h3, h4⟩ | ⟨h1, h2, h3, h4, h5⟩ | ⟨-, -, -, -, h5⟩
  · rw [h2]
    rw [h1] at c2
    clear h1 h2 ha he hrow
    obtain ⟨code, addr, count, on, set, parts⟩ := a
    obtain ⟨B1, m1, k1, B2, m2, k2, B3, m3, k3⟩ := s
    simp only [askV] at HCK ⊢
    unfold pM
    go_enter Tryz.func21, Tryz.ntmps21
    go_wp2_with fail
    go_ret2
    exact .noR (HM.out.ext (Ext.alloc _ _)) (Ext.alloc _ _)
  · rw [h3]
    rw [h1] at c2
    have h2 : unit < 1 ∨ (¬ unit < 1 ∧ 247 < unit) := by omega
    clear h1 h3 ha he hrow
    obtain ⟨code, addr, count, on, set, parts⟩ := a
    obtain ⟨B1, m1, k1, B2, m2, k2, B3, m3, k3⟩ := s
    simp only [askV] at HCK ⊢
    unfold pM
    go_enter Tryz.func21, Tryz.ntmps21
    rcases h2 with h2 | ⟨h2, h3⟩
    all_goals
      go_wp2_with fail
      go_ret2
      exact .noR (HM.out.ext (Ext.alloc _ _)) (Ext.alloc _ _)
  · rw [h4]
    rw [h1] at c2
    have t1 : ¬ unit < 1 := by omega
    have t2 : ¬ 247 < unit := by omega
    have t3 : (checkF a != 0) = true := by simp [h3]
    clear h1 h2 h3 h4 ha he hrow
    generalize checkF a = K at *
    obtain ⟨code, addr, count, on, set, parts⟩ := a
    obtain ⟨B1, m1, k1, B2, m2, k2, B3, m3, k3⟩ := s
    simp only [askV] at HCK ⊢
    unfold pM
    go_enter Tryz.func21, Tryz.ntmps21
    go_wp2_with fail
    refine (HCK.out _ (Ext.alloc _ _)).mono ?_
    rintro e2 w2 ⟨rfl, hx2⟩
    have X2 := Lib.hid ((Ext.alloc _ _).trans hx2)
    clear hx2 HCK c2
    go_wp2_with fail
    go_ret2
    exact .noR (HM.out.ext X2.out) X2.out
  · rw [h5]
    rw [h1] at c2
    rw [h3] at HCK
    have t1 : ¬ unit < 1 := by omega
    have t2 : ¬ 247 < unit := by omega
    have t3 : now < 0 ∨ (¬ now < 0 ∧ 1099511627776 < now) := by omega
    clear h1 h2 h3 h4 h5 ha he hrow
    obtain ⟨code, addr, count, on, set, parts⟩ := a
    obtain ⟨B1, m1, k1, B2, m2, k2, B3, m3, k3⟩ := s
    simp only [askV] at HCK ⊢
    unfold pM
    go_enter Tryz.func21, Tryz.ntmps21
    go_wp2_with fail
    refine (HCK.out _ (Ext.alloc _ _)).mono ?_
    rintro e2 w2 ⟨rfl, hx2⟩
    have X2 := Lib.hid ((Ext.alloc _ _).trans hx2)
    clear hx2 HCK c2
    rcases t3 with t3 | ⟨t3, t4⟩
    all_goals
      go_wp2_with fail
      go_ret2
      exact .noR (HM.out.ext X2.out) X2.out
  · exact absurd h5 he

theorem rem_start_ok (u nw : Nat) (a : AskD) (s : AskS) (w : World) (p : Nat) (F : Nat → Prop) (d : MasD) (h : RemAt w p F d) (ha : ∀ W, Only F w W → AskRd W a s) (hu : d.under = false) (hU : 1 ≤ u ∧ u ≤ 247) (hk : checkF a = 0) (hnw : nw ≤ 1099511627776) :
    Calls Tryz.prog 21 #[pM p, .int .i64 (nw : Int), .int .i64 (u : Int), askV a s] w (RetStart RemAt w p F ⟨d.timeout, d.retries, true, u, 1, nw, a, frameF (u : Int) a⟩ (frameF (u : Int) a) 0) := by
  have HCK := Lib.hid (fun W (hX : Ext w W) => refCheck_any a s W (ha W (.of_ext hX)))
  rw [hk] at HCK
  have HPA := Lib.hid (fun W (hX : Ext w W) => ref3Put_any a s W (ha W (.of_ext hX)))
  obtain ⟨l1, l2, l3⟩ := check_lens hk
  have ha0 := ha w (Only.refl _ _)
  have HCP := Lib.hid (fun W (hX : Only F w W) => copyAsk_ow a s W (ha W hX) (by have := ha0.n1; omega) (by have := ha0.n2; omega) (by have := ha0.n3; omega))
  have hp2 : (putA a).2 = 0 := by rw [putA_ok hk]
  have hpl := (getA_put hk).2
  obtain ⟨fl, fr, -⟩ := frameF_len (unit := (u : Int)) ⟨by omega, by omega⟩ hk
  have hun : (UInt8.ofNat u).toNat = u := toNat_ofNat8 (by omega)
  have hF : (rtuF (UInt8.ofNat u) (putA a).1) = (frameF (u : Int) a, 0) := by
    have e1 : (rtuF (UInt8.ofNat u) (putA a).1).2 = 0 := fr
    rw [← e1]; rfl
  rw [hp2] at HPA
  generalize (putA a).1 = pdu at *
  generalize frameF (u : Int) a = fm at *
  have HRT := Lib.hid (fun W A m c (hr : Rd W A m (pdu.map cB)) (hm : m ≤ 253) => refRtu_any (UInt8.ofNat u) pdu A m c W hr (by omega))
  rw [hF, hun] at HRT
  have HPL := Lib.hid hpl
  have HFL := Lib.hid fl
  obtain ⟨s0, A0, n0, c0, hrow, -, -, -, hfp, hlt⟩ := h
  have HROW : Hid (w.heap[p]? = some (remRow d s0 A0 n0 c0)) := hrow
  unfold remRow at hrow
  rw [hu] at hrow
  have c2 := fun o : Obj => (cells13 ((Ext.alloc w o).block hrow)).2.2.1
  have HFP := Lib.hid hfp; have HLT := Lib.hid hlt
  have hpz := hlt p hfp
  have hu8 : IntKind.u8.wrap (u : Int) = (u : Int) := by rw [IntKind.wrap_u8]; omega
  have t1 : ¬ (u : Int) < 1 := by omega
  have t2 : ¬ (247 : Int) < (u : Int) := by omega
  have t3 : ¬ (nw : Int) < 0 := by omega
  have t4 : ¬ (1099511627776 : Int) < (nw : Int) := by omega
  clear hrow hfp hlt hpl fl fr hF hp2 hk ha ha0 l1 l2 l3 hun
  obtain ⟨code, addr, count, on, set, parts⟩ := a
  obtain ⟨B1, m1, k1, B2, m2, k2, B3, m3, k3⟩ := s
  simp only [askV] at HCK HPA HCP ⊢
  unfold pM
  have HBW := Lib.hid (heap_alloc_new w (.cells #[.int .i64 code, .int .i64 addr, .int .i64 count, .slice B1 m1 k1, .slice B2 m2 k2, .slice B3 m3 k3] 37))
  go_enter Tryz.func21, Tryz.ntmps21
  go_wp2_with fail
  refine (HCK.out _ (Ext.alloc _ _)).mono ?_
  rintro e1 w1 ⟨rfl, hx1⟩
  have HB1 := Lib.hid (hx1.block HBW.out)
  have X1 := Lib.hid ((Ext.alloc _ _).trans hx1)
  obtain ⟨b0, b1, b2, b3, b4, b5⟩ := cells6 HB1.out
  clear hx1 HCK HBW c2
  go_wp2_with fail
  refine (HPA.out _ X1.out).mono ?_
  rintro e2 w2 ⟨A2, n2, c2, rfl, ho2, hx2⟩
  have hn2 : n2 ≤ 253 := by have h1 := ho2.rd.length; have h2 := HPL.out.2; omega
  have O2 := Lib.hid (ho2.mono (base' := w.heap.size) X1.out.size)
  have X2 := Lib.hid (X1.out.trans hx2)
  have HB2 := Lib.hid (hx2.block HB1.out)
  clear ho2 hx2 HPA X1 HB1 b0 b1 b2 b3 b4 b5
  go_wp2_with fail
  refine (HRT.out _ _ _ _ O2.out.rd hn2).mono ?_
  rintro e4 w4 ⟨A4, n4, c4, rfl, ho4, hb4⟩
  have O4 : Hid (Own w4 w.heap.size 5 IsU8 A4 n4 c4 (fm.map cB)) := ho4.mono X2.out.size
  have X4 := Lib.hid (X2.out.trans (Ext.of hb4))
  have HB4 := Lib.hid ((Ext.of hb4).block HB2.out)
  have hr4 := X4.out.block HROW.out
  unfold remRow at hr4
  rw [hu] at hr4
  have HR4 := Lib.hid hr4
  obtain ⟨q0, q1, q2, q3, q4, q5, q6, q7, q8, q9, q10, q11, q12⟩ := cells13 hr4
  have z2 := frozen_of_row _ _ 2 _ _ hr4
  have z3 := frozen_of_row _ _ 3 _ _ hr4
  have z4 := frozen_of_row _ _ 4 _ _ hr4
  have z5 := frozen_of_row _ _ 5 _ _ hr4
  have z12 := frozen_of_row _ _ 12 _ _ hr4
  have r1 := remRow_set (k := 12) (.slice A4 n4 c4) HR4.out
  have r2 := remRow_set (k := 2) (.bool true) r1
  have r3 := remRow_set (k := 3) (.int .i64 (u : Int)) r2
  have r4 := remRow_set (k := 4) (.int .i64 1) r3
  have r5 := remRow_set (k := 5) (.int .i64 (nw : Int)) r4
  have hfar := (((((Far.refl F p w4).set HFP.out 12 (.slice A4 n4 c4)).set HFP.out 2 (.bool true)).set HFP.out 3 (.int .i64 (u : Int))).set HFP.out 4 (.int .i64 1)).set HFP.out 5 (.int .i64 (nw : Int))
  have HR5 := Lib.hid r5; have FAR5 := Lib.hid hfar.far; have SZ5 := Lib.hid hfar.size; have ON5 := Lib.hid hfar.only
  have HB5 := Lib.hid ((FAR5.out w.heap.size (by omega)).trans HB4.out)
  clear r1 r2 r3 r4 r5 hfar hr4 ho4 hb4 O2 X2 HRT HB2 HB4 q0 q1 q6 q7 q8 q9 q10 q11 t1 t2 t3 t4
  obtain ⟨b0, b1, b2, b3, b4, b5⟩ := cells6 HB5.out
  go_wp2_with fail
  clear b0 b1 b2 b3 b4 b5 q2 q3 q4 q5 q12 z2 z3 z4 z5 z12 HR4
  generalize ((((w4.setCell ⟨p, 12, none⟩ (.slice A4 n4 c4)).setCell ⟨p, 2, none⟩ (.bool true)).setCell ⟨p, 3, none⟩ (.int .i64 (u : Int))).setCell ⟨p, 4, none⟩ (.int .i64 1)).setCell ⟨p, 5, none⟩ (.int .i64 (nw : Int)) = w5 at *
  have hne : ∀ k, w.heap.size ≤ k → k ≠ p := fun k hk => by omega
  have OF5 := Lib.hid (O4.out.kept (w' := w5) fun g hg => FAR5.out g (hne g (O4.out.lt g hg).1))
  have ON45 := Lib.hid ((Only.of_ext (F := F) X4.out).trans ON5.out (fun _ _ h => h))
  refine (HCP.out w5 ON45.out).mono ?_
  rintro e6 w6 ⟨s6, rfl, ho6, hx6⟩
  have HR6 := Lib.hid (hx6.block HR5.out)
  have OF6 := Lib.hid (OF5.out.ext hx6)
  have OA6 := Lib.hid ho6
  have X56 := Lib.hid hx6
  obtain ⟨C1, j1, l1, C2, j2, l2, C3, j3, l3⟩ := s6
  simp only [askV]
  obtain ⟨q0, q1, q2, q3, q4, q5, q6, q7, q8, q9, q10, q11, q12⟩ := cells13 HR6.out
  have z6 := frozen_of_row _ _ 6 _ _ HR6.out
  have z7 := frozen_of_row _ _ 7 _ _ HR6.out
  have z8 := frozen_of_row _ _ 8 _ _ HR6.out
  have z9 := frozen_of_row _ _ 9 _ _ HR6.out
  have z10 := frozen_of_row _ _ 10 _ _ HR6.out
  have z11 := frozen_of_row _ _ 11 _ _ HR6.out
  have r1 := remRow_set (k := 6) (.int .i64 code) HR6.out
  have r2 := remRow_set (k := 7) (.int .i64 addr) r1
  have r3 := remRow_set (k := 8) (.int .i64 count) r2
  have r4 := remRow_set (k := 9) (.slice C1 j1 l1) r3
  have r5 := remRow_set (k := 10) (.slice C2 j2 l2) r4
  have r6 := remRow_set (k := 11) (.slice C3 j3 l3) r5
  have hfar := ((((((Far.refl F p w6).set HFP.out 6 (.int .i64 code)).set HFP.out 7 (.int .i64 addr)).set HFP.out 8 (.int .i64 count)).set HFP.out 9 (.slice C1 j1 l1)).set HFP.out 10 (.slice C2 j2 l2)).set HFP.out 11 (.slice C3 j3 l3)
  have HR7 := Lib.hid r6; have FAR7 := Lib.hid hfar.far; have SZ7 := Lib.hid hfar.size; have ON7 := Lib.hid hfar.only
  clear ho6 hx6 HCP O4 OF5 r1 r2 r3 r4 r5 r6 hfar
  have f12 := (cell_of_row _ _ 12 _ _ _ HR7.out).trans (show _ = some (.slice A4 n4 c4) by simp)
  go_wp2_with fail
  clear f12 q0 q1 q2 q3 q4 q5 q6 q7 q8 q9 q10 q11 q12 z6 z7 z8 z9 z10 z11 HR6
  generalize ((((((w6.setCell ⟨p, 6, none⟩ (.int .i64 code)).setCell ⟨p, 7, none⟩ (.int .i64 addr)).setCell ⟨p, 8, none⟩ (.int .i64 count)).setCell ⟨p, 9, none⟩ (.slice C1 j1 l1)).setCell ⟨p, 10, none⟩ (.slice C2 j2 l2)).setCell ⟨p, 11, none⟩ (.slice C3 j3 l3)) = w7 at *
  have OF7 := Lib.hid (OF6.out.kept (w' := w7) fun g hg => FAR7.out g (hne g (OF6.out.lt g hg).1))
  refine (copy_any fm A4 n4 c4 w7 OF7.out.rd (by have h1 := OF7.out.rd.length; have h2 := HFL.out; omega)).mono ?_
  rintro e8 w8 ⟨A8, c8, rfl, ho8, hx8⟩
  have O8 := Lib.hid ho8; have X8 := Lib.hid (Ext.of hx8)
  clear ho8 hx8
  go_wp2_with fail
  go_ret2
  have hx4 := X4.out.size
  have hb5 : w.heap.size ≤ w5.heap.size := by rw [SZ5.out]; exact hx4
  have s5 := SZ5.out; have s56 := X56.out.size; have s7 := SZ7.out; have s8 := X8.out.size
  refine ⟨fun k => F k ∨ (w.heap.size ≤ k ∧ k < w6.heap.size), A8, _, c8, rfl, ⟨⟨C1, j1, l1, C2, j2, l2, C3, j3, l3⟩, A4, n4, c4, ?_, fun W hW => ?_, OF7.out.cap, OF7.out.capLe, .inl HFP.out, fun k hk => ?_⟩, ?_, fun k hk => ?_, O8.out.mono (by omega), fun g hg hf => ?_⟩
  · exact (X8.out.block HR7.out).trans (by unfold remRow; simp)
  · have hk : ∀ k, w.heap.size ≤ k → k < w6.heap.size → W.heap[k]? = w6.heap[k]? := fun k h1 h2 =>
      (hW.2 k ⟨.inr ⟨h1, h2⟩, hne k h1⟩).trans ((Below.block X8.out k (by omega)).trans (FAR7.out k (hne k h1)))
    have g1 : AskOw W w5.heap.size _ _ := AskOw.agr OA6.out (fun k h1 h2 => hk k (Nat.le_trans hb5 h1) h2)
    have g2 := Own.agr OF6.out hk
    exact ⟨g1.rd, g2.rd⟩
  · rcases hk with hk | hk
    · have := HLT.out k hk; omega
    · omega
  · exact ((((Only.of_ext (F := F) X4.out).trans ON5.out (fun _ _ h => h)).trans (Only.of_ext (F := F) X56.out) (fun _ _ h => h)).trans ON7.out (fun _ _ h => h)).trans (Only.of_ext (F := F) X8.out) (fun _ _ h => h)
  · rcases hk with hk | hk
    · exact .inl hk
    · exact .inr hk.1
  · have h1 := (O8.out.lt g hg).1
    rcases hf with hf | hf
    · have := HLT.out g hf; omega
    · omega
theorem rem_start (now unit : Int) (a : AskD) (s : AskS) (w : World) (p : Nat) (F : Nat → Prop) (d : MasD) (h : RemAt w p F d) (ha : ∀ W, Only F w W → AskRd W a s) :
    Calls Tryz.prog 21 #[pM p, .int .i64 now, .int .i64 unit, askV a s] w (RetStart RemAt w p F (startM d now unit a) (startB d now unit a) (startE d now unit a)) := by
  by_cases he : startE d now unit a = 0
  · obtain ⟨h1, h2, h3, h4, h5⟩ := startE_zero he
    unfold startM startB
    rw [if_pos he, if_pos he, he]
    obtain ⟨u, rfl⟩ : ∃ u : Nat, unit = (u : Int) := ⟨unit.toNat, by omega⟩
    obtain ⟨nw, rfl⟩ : ∃ k : Nat, now = (k : Int) := ⟨now.toNat, by omega⟩
    exact rem_start_ok u nw a s w p F d h ha h1 (by omega) h3 (by omega)
  · have := rem_start_no now unit a s w p F d h (ha w (Only.refl _ _)) he
    unfold startM startB
    rw [if_neg he, if_neg he]
    exact this
end Go.Proofs.YtomcipkmohhpjaaGreat

namespace Go.Proofs.YtomcipkmohhpjaaGreat
set_option linter.unusedVariables false
set_option linter.unusedSimpArgs false
set_option maxRecDepth 100000
set_option maxHeartbeats 2000000
open Go Go.RowKit Go.Out

theorem OwL.set_belowO {w : World} {base : Nat} {e : TypeId} {v : Value} {l : List (List UInt16)} (h : OwL (fileO base) w base e v l) {q : Addr} (hq : q.block < base) (u : Value) : OwL (fileO base) (w.setCell q u) base e v l := by
  obtain ⟨xs, h1, h2⟩ := h
  refine ⟨xs, ?_, h2.mono fun cs x ⟨A, n, c, e1, e2, e3⟩ => ⟨A, n, c, e1, e2.set_below hq u, e3⟩⟩
  obtain ⟨h3, h4⟩ := h1
  refine ⟨h3, ?_⟩
  rcases h4 with h4 | ⟨g, cap, cur, hv, hb, hg, r⟩
  · exact .inl h4
  · exact .inr ⟨g, cap, cur, hv, hb, (Below.heap_setCell w q u g (by omega)).trans hg, r⟩
theorem fileO_mono {base base' : Nat} {w : World} {cs : List Value} {x : List UInt16} (h : (fileO base).R w cs x) (hb : base' ≤ base) : (fileO base').R w cs x := by
  obtain ⟨A, n, c, h1, h2, h3⟩ := h
  exact ⟨A, n, c, h1, h2.mono hb, h3⟩
theorem OwL.monoO {w : World} {base base' : Nat} {e : TypeId} {v : Value} {l : List (List UInt16)} (h : OwL (fileO base) w base e v l) (hb : base' ≤ base) : OwL (fileO base') w base' e v l := by
  obtain ⟨xs, h1, h2⟩ := OwL.mono h hb
  exact ⟨xs, h1, ⟨h2.1, fun i x hi => fileO_mono (h2.2 i x hi) hb⟩⟩
theorem RepOw.mono {w : World} {base base' : Nat} {r : RepD} {t : RepS} (h : RepOw w base r t) (hb : base' ≤ base) : RepOw w base' r t :=
  ⟨h.on.mono hb, h.set.mono hb, OwL.monoO h.files hb, h.n3, h.cap3, h.exc⟩
theorem RepOw.set_below {w : World} {base : Nat} {r : RepD} {t : RepS} (h : RepOw w base r t) {q : Addr} (hq : q.block < base) (u : Value) : RepOw (w.setCell q u) base r t :=
  ⟨h.on.set_below hq u, h.set.set_below hq u, OwL.set_belowO h.files hq u, h.n3, h.cap3, h.exc⟩
theorem repOwE (w : World) (base : Nat) (e : Int) (h : i64P e) : RepOw w base ⟨e, [], [], []⟩ repS0 := ⟨Own.nil_ _ _ _ _, Own.nil_ _ _ _ _, OwL.nil_ _ _ _ _, rfl, by simp [repS0], h⟩
/-- What reply.Get hands back. -/
def RetGR (w : World) (r : RepD × Int) (e : Ending) (w' : World) : Prop :=
  ∃ t, e = .returned (.tuple #[repV r.1 t, .int .i64 r.2]) ∧ RepOw w' w.heap.size r.1 t ∧ Ext w w'

theorem exception_any (b : List UInt8) (A : Option Addr) (N c : Nat) (w : World) (hb : Rd w A N (b.map cB)) (hN : N ≤ 140737488355328) :
    Calls Tryz.prog 102 #[.slice A N c] w (RetGR w (exR b)) := by
  have hl := hb.length
  rcases Nat.lt_or_ge N 2 with h2 | h2
  · have he : exR b = (rep0, 1) := by unfold exR; rw [if_pos (by omega)]
    rw [he]
    clear hb hl he
    go_enter Tryz.func102, Tryz.ntmps102
    go_wp2_with fail
    refine bodyPost_ret (v := .tuple #[repV rep0 repS0, .int .i64 1]) (by simp [results, Tryz.results102, go_sem, repV, rep0, repS0, *]) rfl ⟨repS0, rfl, repOw0 _ _, ?_⟩
    repeat' (first | with_reducible exact Ext.refl _ | with_reducible refine Ext.alloc' ?_ _ | with_reducible refine Ext.drew' ?_ | with_reducible refine Ext.set' ?_ (by simp) _)
  · rcases Nat.lt_or_ge 2 N with h3 | h3
    · have he : exR b = (rep0, 2) := by unfold exR; rw [if_neg (by omega), if_pos (by omega)]
      rw [he]
      clear hb hl he
      go_enter Tryz.func102, Tryz.ntmps102
      go_wp2_with fail
      refine bodyPost_ret (v := .tuple #[repV rep0 repS0, .int .i64 2]) (by simp [results, Tryz.results102, go_sem, repV, rep0, repS0, *]) rfl ⟨repS0, rfl, repOw0 _ _, ?_⟩
      repeat' (first | with_reducible exact Ext.refl _ | with_reducible refine Ext.alloc' ?_ _ | with_reducible refine Ext.drew' ?_ | with_reducible refine Ext.set' ?_ (by simp) _)
    · obtain rfl : N = 2 := by omega
      obtain ⟨x0, x1, r, rfl⟩ := len2 (b := b) (by omega)
      have hr : r = [] := by simpa using hl
      subst hr
      obtain ⟨bk, off, rfl, hbk, hcl⟩ := hb.2 (by omega)
      have c1 : w.cell? ⟨bk, off + 1, none⟩ = some (.int .u8 (x1.toNat : Int)) := hcl 1 _ rfl
      have hlt := x1.toNat_lt
      have he : exR [x0, x1] = if x1 = 0 ∨ 127 < x1.toNat then (rep0, 3) else (⟨(x1.toNat : Nat), [], [], []⟩, 0) := by
        unfold exR; rw [if_neg (by simp), if_neg (by simp)]; rfl
      rw [he]
      have hz : x1 = 0 ↔ x1.toNat = 0 := ⟨fun h => by rw [h]; rfl, fun h => UInt8.toNat.inj (by rw [h]; rfl)⟩
      by_cases hbad : x1 = 0 ∨ 127 < x1.toNat
      · rw [if_pos hbad]
        rw [hz] at hbad
        clear hb hl he hcl hz
        generalize x1.toNat = X at *
        rcases Nat.eq_zero_or_pos X with rfl | hX
        · go_enter Tryz.func102, Tryz.ntmps102
          go_wp2_with fail
          refine bodyPost_ret (v := .tuple #[repV rep0 repS0, .int .i64 3]) (by simp [results, Tryz.results102, go_sem, repV, rep0, repS0, *]) rfl ⟨repS0, rfl, repOw0 _ _, ?_⟩
          repeat' (first | with_reducible exact Ext.refl _ | with_reducible refine Ext.alloc' ?_ _ | with_reducible refine Ext.drew' ?_ | with_reducible refine Ext.set' ?_ (by simp) _)
        · have n0 : ¬ (X : Int) = 0 := by omega
          have n1 : (128 : Int) ≤ (X : Int) := by omega
          have q0 : ((X : Int) == 0) = false := by simpa using n0
          go_enter Tryz.func102, Tryz.ntmps102
          go_wp2_with fail
          refine bodyPost_ret (v := .tuple #[repV rep0 repS0, .int .i64 3]) (by simp [results, Tryz.results102, go_sem, repV, rep0, repS0, *]) rfl ⟨repS0, rfl, repOw0 _ _, ?_⟩
          repeat' (first | with_reducible exact Ext.refl _ | with_reducible refine Ext.alloc' ?_ _ | with_reducible refine Ext.drew' ?_ | with_reducible refine Ext.set' ?_ (by simp) _)
      · rw [if_neg hbad]
        rw [hz] at hbad
        clear hb hl he hcl hz
        generalize x1.toNat = X at *
        have n0 : ¬ (X : Int) = 0 := by omega
        have n1 : ¬ (128 : Int) ≤ (X : Int) := by omega
        have n2 : IntKind.i64.wrap (X : Int) = (X : Int) := IntWalk.i64_in _ (by omega)
        have q0 : ((X : Int) == 0) = false := by simpa using n0
        go_enter Tryz.func102, Tryz.ntmps102
        go_wp2_with fail
        refine bodyPost_ret (v := .tuple #[repV ⟨(X : Int), [], [], []⟩ repS0, .int .i64 0]) (by simp [results, Tryz.results102, go_sem, repV, repS0, *]) rfl ⟨repS0, rfl, repOwE _ _ _ (by unfold i64P; omega), ?_⟩
        repeat' (first | with_reducible exact Ext.refl _ | with_reducible refine Ext.alloc' ?_ _ | with_reducible refine Ext.drew' ?_ | with_reducible refine Ext.set' ?_ (by simp) _)
end Go.Proofs.YtomcipkmohhpjaaGreat

namespace Go.Out
open Go Go.RowKit
set_option linter.unusedVariables false
/-- Nothing has turned below block lo, nor from block hi on. -/
structure Mid (lo hi : Nat) (w w' : World) : Prop where
  below : Below lo w w'
  block : ∀ i, hi ≤ i → i < w.heap.size → w'.heap[i]? = w.heap[i]?
theorem Mid.refl (lo hi : Nat) (w : World) : Mid lo hi w w := ⟨Below.refl _ _, fun _ _ _ => rfl⟩
theorem Mid.grown {lo hi : Nat} {w w1 w2 : World} {row : Option Nat} (h : Mid lo hi w w1) (hlo : lo ≤ w1.heap.size) (hg : w1.grownBy w2 row) (hr : ∀ g, row = some g → lo ≤ g ∧ g < hi) : Mid lo hi w w2 :=
  ⟨h.below.grown hg hlo (fun g e => (hr g e).1), fun i hi' hlt => (hg.block i (Nat.lt_of_lt_of_le hlt h.below.size) (fun e => by have := (hr i e.symm).2; omega)).trans (h.block i hi' hlt)⟩
theorem Mid.own {lo hi base : Nat} {w w' : World} {e : TypeId} {p : Value → Prop} {A : Option Addr} {n c : Nat} {xs : List Value} (h : Mid lo hi w w') (ho : Own w base e p A n c xs) (hb : hi ≤ base) : Own w' base e p A n c xs :=
  ho.kept fun g hg => h.block g (Nat.le_trans hb (ho.lt g hg).1) (ho.lt g hg).2
end Go.Out
namespace Go.Proofs.YtomcipkmohhpjaaGreat
set_option linter.unusedVariables false
set_option linter.unusedSimpArgs false
set_option maxRecDepth 100000
set_option maxHeartbeats 2000000
open Go Go.RowKit Go.Out

theorem info_u16s : (Tryz.prog.info? 34).map (fun i => (i.zero, i.size, i.bytes)) = some (some (.slice none 0 0), 1, 24) := by kernel_rfl
theorem app_file {ops : Array Oper} {rest : List Oper} {o : Oper} {a : Act} {Q : Exit → Act → World → Prop} (w : World) (hgd : o.guard = none) (s x : Operand)
    (ho : o.op = .call { callee := .builtin .append, args := #[s, x], argTypes := #[38, 38] })
    {base g n c : Nat} {A : Option Addr} {v : Value} {l : List (List UInt16)} {f : List UInt16} (hs : a.eval s = v) (hown : OwL (fileO base) w base 34 v l)
    (hx : a.eval x = .slice (some ⟨g, 0, none⟩) 1 1) (hh : w.heap[g]? = some (.cells #[.slice A n c] 34 (0, 0)))
    (hf : Own w base 48 IsU16 A n c (f.map cW)) (hn : n ≤ 70368744175616) (hsz : l.length + 1 ≤ 4398046511104) (hbase : base ≤ w.heap.size)
    (h : ∀ v' w', OwL (fileO base) w' base 34 v' (l ++ [f]) → w.grownBy w' v.ownBlock → (∀ g, v.ownBlock = some g → base ≤ g) → wpList Tryz.prog ops Q rest (a.put o.dst v') w') :
    wpList Tryz.prog ops Q (o :: rest) a w := by
  obtain ⟨i0, hi, hz0, hz1, hz2⟩ := info_parts info_u16s
  obtain ⟨xs, hrow, hit⟩ := hown
  refine wpList_append_own w hgd s x 38 ho base 34 i0 _ 1 24 Tryz.underlying38 hi hz0 hz1 hz2 rfl (by decide) v l.length xs hs hrow ⟨g, 0, none⟩ 1 1 [.slice A n c] hx rfl
    (fun j u hu => by rw [Addr.add_lit, cell_of_row _ _ _ _ _ _ hh, Nat.zero_add]; simpa using hu) (by simp [Value.oneCell']) (by unfold maxLen; omega) (by omega) hbase fun v' w' h2 h3 _ => h v' w' ?_ h3 fun g hg => (hrow.lt g hg).1
  have hit' : Items (fileO base) w' xs l := hit.mono fun cs y ⟨A', n', c', e, ho', hn'⟩ => ⟨A', n', c', e, ho'.grown_ty hrow (by decide) h3, hn'⟩
  exact ⟨_, by show w'.ownsRow base _ 1 v' _ _; simpa using h2, hit'.snoc ⟨A, n, c, rfl, hf.grown_ty hrow (by decide) h3, hn⟩ rfl⟩

end Go.Proofs.YtomcipkmohhpjaaGreat
