/- Contracts of the requests: the reference's PDU of a request: reads, one coil, one register. -/
import Derived.Test.YtpjmhckdeeonbaaAskQ
import Derived.Test.YtpjmhckdeeonbaaAsk9
import Derived.Test.YtpjmhckdeeonbaaAskP5
import Derived.Test.YtpjmhckdeeonbaaAskP6
namespace Go.Proofs.Ytpjmhckdeeonbaa
set_option linter.unusedVariables false
set_option linter.unusedSimpArgs false
set_option maxRecDepth 100000
set_option maxHeartbeats 2000000
open Go Go.RowKit Go.Out

/-- A number of two bytes behind a row of the call's own. -/
theorem ref_two (w V : World) (xs : List UInt8) (v n : Nat) (A : Option Addr) (c : Nat) (hv : v < 65536) (hn : n ≤ 1000000) (ho : Own V w.heap.size 5 IsU8 A n c (xs.map cB)) (hX : Ext w V) :
    Calls Try.prog 105 #[.slice A n c, .int .i64 (v : Int)] V fun e w' => ∃ A' c', e = .returned (.slice A' (n + 2) c') ∧ Own w' w.heap.size 5 IsU8 A' (n + 2) c' ((xs ++ two v).map cB) ∧ Ext w w' ∧ Grow V w' A A' := by
  have hl := ho.len
  refine (two3_any xs v n hv A c w.heap.size V ho hX.size (by omega)).mono ?_
  rintro e w' ⟨A', c', rfl, ho', hG⟩
  have e2 : (xs ++ two v).length = n + 2 := by simp [two] at hl ⊢; omega
  rw [e2] at ho' ⊢
  exact ⟨A', c', rfl, ho', hG.ext hX ho, hG⟩
theorem ref3Ok {a : AskD} {s : AskS} {w : World} (hr : AskRd w a s) (h : checkF a = 0) : ∀ W, Ext w W → Calls Try.prog 55 #[askV a s] W (RetI W 0) := by
  intro W hX
  have := refCheck_any a s W (hr.ext hX)
  rwa [h] at this
theorem RetU.up {w w0 w' : World} {xs xs' : List UInt8} {A : Option Addr} {n c : Nat} (h : xs' = xs) (h0 : Ext w w0) (ho : Own w' w0.heap.size 5 IsU8 A n c (xs'.map cB)) (hx : Ext w0 w') : RetU w xs 0 (.returned (.tuple #[.slice A n c, .int .i64 0])) w' := ⟨A, n, c, rfl, h ▸ ho.mono h0.size, h0.trans hx⟩

theorem refNo (a : AskD) (s : AskS) (w : World) (hr : AskRd w a s) (h : checkF a ≠ 0) : Calls Try.prog 69 #[askV a s] w (RetU w [] (checkF a)) := by
  have hc := fun W (hX : Ext w W) => refCheck_any a s W (hr.ext hX)
  obtain ⟨k, hk⟩ : ∃ k, checkF a = k := ⟨_, rfl⟩
  simp only [hk] at hc h ⊢
  have ht : (k != 0) = true := by simpa using h
  have HC := Lib.hid hc; clear hc hr hk h
  obtain ⟨code, addr, count, on, set, parts⟩ := a
  obtain ⟨A1, n1, c1, A2, n2, c2, A3, n3, c3⟩ := s
  simp only [askV] at HC ⊢
  go_enter Try.func69, Try.ntmps69
  go_wp2_with fail
  refine (HC.out _ (Ext.alloc _ _)).mono ?_
  rintro e w1 ⟨rfl, hb⟩
  have X1 := (Ext.alloc _ _).trans hb
  clear hb
  go_wp2_with fail
  go_ret2
  exact ⟨none, 0, 0, rfl, Own.nil_ _ _ _ _, X1⟩

theorem refCnt (c A n : Nat) (s : AskS) (w : World) (hr : AskRd w ⟨c, A, n, [], [], []⟩ s) (h : checkF ⟨c, A, n, [], [], []⟩ = 0) (h1 : 1 ≤ c) (h4 : c ≤ 4) (hA : A ≤ 65535) (hn : n ≤ 2000) :
    Calls Try.prog 69 #[askV ⟨c, A, n, [], [], []⟩ s] w (RetU w (UInt8.ofNat c :: (two A ++ two n)) 0) := by
  have HC := Lib.hid (ref3Ok hr h); clear hr h
  obtain ⟨A1, n1, c1, A2, n2, c2, A3, n3, c3⟩ := s
  simp only [askV] at HC ⊢
  have hc8 : (UInt8.ofNat c).toNat = c := by simp; omega
  go_enter Try.func69, Try.ntmps69
  go_wp2_with fail
  refine (HC.out _ (Ext.alloc _ _)).mono ?_
  rintro e w1 ⟨rfl, hb⟩
  have D := fun o : Obj => ask_cells _ (hb.trans (Ext.alloc _ o))
  obtain ⟨d0, -⟩ := ask_cells _ hb
  have d1 := fun o => (D o).2.1
  have d0' := fun o => (D o).1
  have Y1 := Lib.hid hb
  clear hb D
  go_wp2_with fail
  have HF := Own.first w1 _ Y1.out.size (UInt8.ofNat c) c hc8
  have XF := Y1.out.trans (Ext.alloc w1 (.cells #[.int .u8 (c : Int)] 5))
  have hcall := ref_two _ _ [UInt8.ofNat c] A 1 _ _ (by omega) (by omega) HF XF
  refine hcall.mono ?_
  rintro e w2 ⟨A', c', rfl, ho, hx, -⟩
  clear d0 d1 d0'
  obtain ⟨d0, -, d2, -⟩ := ask_cells _ hx
  have Y2 := Lib.hid hx
  have HO := Lib.hid ho
  clear hx ho
  go_wp2_with fail
  refine (ref_two _ _ _ n _ _ _ (by omega) (by omega) HO.out Y2.out).mono ?_
  rintro e w3 ⟨A'', c'', rfl, ho, hx, -⟩
  go_wp2_with fail
  go_ret2
  exact RetU.up (by simp) (Ext.alloc _ _) ho hx

theorem refCoil (A : Nat) (x : Bool) (s : AskS) (w : World) (hr : AskRd w ⟨5, A, 0, [x], [], []⟩ s) (h : checkF ⟨5, A, 0, [x], [], []⟩ = 0) (hA : A ≤ 65535) :
    Calls Try.prog 69 #[askV ⟨5, A, 0, [x], [], []⟩ s] w (RetU w (5 :: (two A ++ two (if x then 65280 else 0))) 0) := by
  have HC := Lib.hid (ref3Ok hr h)
  have h1 := hr.n1
  have hr1 := hr.on
  clear hr h
  obtain ⟨A1, n1, c1, A2, n2, c2, A3, n3, c3⟩ := s
  simp only [askV] at HC h1 hr1 ⊢
  obtain rfl : 1 = n1 := h1
  obtain ⟨bx, ox, rfl, hbx, hlx, hcx⟩ := hr1.boat (k := 0) (by omega)
  simp only [List.getElem_cons_zero, Nat.add_zero] at hcx
  clear hr1
  cases x
  · go_enter Try.func69, Try.ntmps69
    go_wp2_with fail
    refine (HC.out _ (Ext.alloc _ _)).mono ?_
    rintro e w1 ⟨rfl, hb⟩
    have D := fun o : Obj => ask_cells _ (hb.trans (Ext.alloc _ o))
    obtain ⟨d0, -⟩ := ask_cells _ hb
    have d1 := fun o => (D o).2.1
    have d0' := fun o => (D o).1
    have Y1 := Lib.hid hb
    clear hb D
    go_wp2_with fail
    refine (ref_two _ _ [5] A 1 _ _ (by omega) (by omega) (Own.first w1 _ Y1.out.size 5 5 rfl) (Y1.out.trans (Ext.alloc _ _))).mono ?_
    rintro e w2 ⟨A', c', rfl, ho, hx, -⟩
    clear d0 d1 d0'
    obtain ⟨d0, -, -, d3, -⟩ := ask_cells _ hx
    have hcy := ((Ext.alloc w _).trans hx).cell hbx hcx
    have Y2 := Lib.hid hx
    have HO := Lib.hid ho
    clear hx ho
    go_wp2_with fail
    have hcall := ref_two _ _ _ 0 _ _ _ (by omega) (by omega) HO.out Y2.out
    refine hcall.mono ?_
    rintro e w3 ⟨A'', c'', rfl, ho, hx, -⟩
    go_wp2_with fail
    go_ret2
    exact RetU.up (by simp) (Ext.alloc _ _) ho hx
  · go_enter Try.func69, Try.ntmps69
    go_wp2_with fail
    refine (HC.out _ (Ext.alloc _ _)).mono ?_
    rintro e w1 ⟨rfl, hb⟩
    have D := fun o : Obj => ask_cells _ (hb.trans (Ext.alloc _ o))
    obtain ⟨d0, -⟩ := ask_cells _ hb
    have d1 := fun o => (D o).2.1
    have d0' := fun o => (D o).1
    have Y1 := Lib.hid hb
    clear hb D
    go_wp2_with fail
    refine (ref_two _ _ [5] A 1 _ _ (by omega) (by omega) (Own.first w1 _ Y1.out.size 5 5 rfl) (Y1.out.trans (Ext.alloc _ _))).mono ?_
    rintro e w2 ⟨A', c', rfl, ho, hx, -⟩
    clear d0 d1 d0'
    obtain ⟨d0, -, -, d3, -⟩ := ask_cells _ hx
    have hcy := ((Ext.alloc w _).trans hx).cell hbx hcx
    have Y2 := Lib.hid hx
    have HO := Lib.hid ho
    clear hx ho
    go_wp2_with fail
    have hcall := ref_two _ _ _ 65280 _ _ _ (by omega) (by omega) HO.out Y2.out
    refine hcall.mono ?_
    rintro e w3 ⟨A'', c'', rfl, ho, hx, -⟩
    go_wp2_with fail
    go_ret2
    exact RetU.up (by simp) (Ext.alloc _ _) ho hx

theorem refReg (A : Nat) (x : UInt16) (s : AskS) (w : World) (hr : AskRd w ⟨6, A, 0, [], [x], []⟩ s) (h : checkF ⟨6, A, 0, [], [x], []⟩ = 0) (hA : A ≤ 65535) :
    Calls Try.prog 69 #[askV ⟨6, A, 0, [], [x], []⟩ s] w (RetU w (6 :: (two A ++ two x.toNat)) 0) := by
  have HC := Lib.hid (ref3Ok hr h)
  have h1 := hr.n2
  have hr1 := hr.set
  clear hr h
  obtain ⟨A1, n1, c1, A2, n2, c2, A3, n3, c3⟩ := s
  simp only [askV] at HC h1 hr1 ⊢
  obtain rfl : 1 = n2 := h1
  obtain ⟨bx, ox, rfl, hbx, hlx, hcx⟩ := hr1.u16at (k := 0) (by omega)
  simp only [List.getElem_cons_zero, Nat.add_zero] at hcx
  clear hr1
  have hx16 := x.toNat_lt
  have h01 : (0 : Int) < (1 : Int) := by omega
  generalize x.toNat = v at *
  go_enter Try.func69, Try.ntmps69
  go_wp2_with fail
  refine (HC.out _ (Ext.alloc _ _)).mono ?_
  rintro e w1 ⟨rfl, hb⟩
  have D := fun o : Obj => ask_cells _ (hb.trans (Ext.alloc _ o))
  obtain ⟨d0, -⟩ := ask_cells _ hb
  have d1 := fun o => (D o).2.1
  have d0' := fun o => (D o).1
  have Y1 := Lib.hid hb
  clear hb D
  go_wp2_with fail
  refine (ref_two _ _ [6] A 1 _ _ (by omega) (by omega) (Own.first w1 _ Y1.out.size 6 6 rfl) (Y1.out.trans (Ext.alloc _ _))).mono ?_
  rintro e w2 ⟨A', c', rfl, ho, hx, -⟩
  clear d0 d1 d0'
  obtain ⟨d0, -, -, -, d4, -⟩ := ask_cells _ hx
  have hcy := ((Ext.alloc w _).trans hx).cell hbx hcx
  have Y2 := Lib.hid hx
  have HO := Lib.hid ho
  clear hx ho
  have hwv : IntKind.i64.wrap (v : Int) = (v : Int) := IntWalk.i64_in _ (by omega)
  go_wp2_with fail
  refine (ref_two _ _ _ v _ _ _ (by omega) (by omega) HO.out Y2.out).mono ?_
  rintro e w3 ⟨A'', c'', rfl, ho, hx, -⟩
  go_wp2_with fail
  go_ret2
  exact RetU.up (by simp) (Ext.alloc _ _) ho hx

theorem refCoils (A n : Nat) (l : List Bool) (s : AskS) (w : World) (hr : AskRd w ⟨15, A, 0, l, [], []⟩ s) (h : checkF ⟨15, A, 0, l, [], []⟩ = 0) (hA : A ≤ 65535) (hl : l.length = n) (hn : n ≤ 1968) :
    Calls Try.prog 69 #[askV ⟨15, A, 0, l, [], []⟩ s] w (RetU w (15 :: (two A ++ (two n ++ UInt8.ofNat (need n) :: bitsF l))) 0) := by
  have HC := Lib.hid (ref3Ok hr h)
  have h1 := hr.n1
  have hr1 := hr.on
  clear hr h
  obtain ⟨A1, n1, c1, A2, n2, c2, A3, n3, c3⟩ := s
  simp only [askV] at HC h1 hr1 ⊢
  obtain rfl : n = n1 := hl.symm.trans h1
  have Hr := Lib.hid hr1; have Hl := Lib.hid hl; clear hr1 hl h1
  have hnd : need n ≤ 246 := by unfold need; omega
  obtain ⟨N, hN⟩ : ∃ N, need n = N := ⟨_, rfl⟩
  rw [hN] at hnd ⊢
  have hN8 : (UInt8.ofNat N).toNat = N := by simp; omega
  have hcall := fun W (hX : Ext w W) => packed3_any l A1 n c1 W (Hr.out.ext hX) (by omega)
  rw [hN] at hcall
  have HCALL := Lib.hid hcall
  clear hN hcall
  go_enter Try.func69, Try.ntmps69
  go_wp2_with fail
  refine (HC.out _ (Ext.alloc _ _)).mono ?_
  rintro e w1 ⟨rfl, hb⟩
  have D := fun o : Obj => ask_cells _ (hb.trans (Ext.alloc _ o))
  obtain ⟨d0, -⟩ := ask_cells _ hb
  have d1 := fun o => (D o).2.1
  have d0' := fun o => (D o).1
  have Y1 := Lib.hid hb
  clear hb D
  go_wp2_with fail
  refine (ref_two _ _ [15] A 1 _ _ (by omega) (by omega) (Own.first w1 _ Y1.out.size 15 15 rfl) (Y1.out.trans (Ext.alloc _ _))).mono ?_
  rintro e w2 ⟨A', c', rfl, ho, hx, -⟩
  clear d0 d1 d0'
  obtain ⟨d0, -, -, d3, -⟩ := ask_cells _ hx
  have Y2 := Lib.hid hx
  have HO := Lib.hid ho
  clear hx ho
  go_wp2_with fail
  refine (HCALL.out _ ((Ext.alloc _ _).trans Y2.out)).mono ?_
  rintro e w3 ⟨A4, c4, rfl, ho4, hb4⟩
  have Ho4 := Lib.hid ho4
  have Y3 := Lib.hid (Y2.out.trans (Ext.of hb4))
  have HO3 := Lib.hid (HO.out.ext (Ext.of hb4))
  have hsep : ∀ g, blk A4 = some g → blk A' ≠ some g := fun g hg e => by
    have h1 := (ho4.lt g hg).1
    have h2 := (HO.out.lt g e).2
    omega
  have HSEP := Lib.hid hsep
  clear d0 d3 ho4 hb4 hsep
  obtain ⟨d0, -, -, d3, -⟩ := ask_cells _ Y3.out
  go_wp2_with fail
  refine (ref_two _ _ _ n _ _ _ (by omega) (by omega) HO3.out Y3.out).mono ?_
  rintro e w4 ⟨A5, c5, rfl, ho, hx, hG⟩
  have HO4 := Lib.hid (hG.own Ho4.out HSEP.out)
  have HN4 : Hid (∀ g, blk A4 = some g → blk A5 ≠ some g) := fun g hg => hG.ne (Ho4.out.lt g hg).2 (HSEP.out g hg)
  have Ho := Lib.hid ho; have X4 := Lib.hid hx; clear ho hx hG d0 d3
  have Hlit : Hid ((#[.int .u8 (N : Int)] : Array Value).toList = [UInt8.ofNat N].map cB ++ []) := by show _ = _; simp only [List.map_cons, List.map_nil, cB, hN8, List.append_nil]
  clear hN8
  go_wp2_with (at_builtin; first
    | (refine app_u8 _ rfl (.tmp 99) (.tmp 103) rfl rfl (Ho.out.ext (Ext.alloc _ _)) rfl (Rd.of_heap (ys := []) (heap_alloc_new w4 _) Hlit.out rfl) isU8_map (by omega) (X4.out.trans (Ext.alloc _ _)).size ?_
       intro A6 c6 w5 hown hg hbk
       rw [← List.map_append] at hown
       have HG6 := Lib.hid (Grow.of_alloc hg hbk)
       have HO6 := Lib.hid hown
       have HR6 := Lib.hid (HG6.out.own HO4.out HN4.out)
       have X6 := Lib.hid (HG6.out.ext X4.out Ho.out)
       clear hown hg hbk)
    | (go_must (refine app_u8 _ rfl (.tmp 104) (.tmp 105) rfl rfl HO6.out rfl HR6.out.rd isU8_map (by omega) X6.out.size ?_)
       intro A7 c7 w6 hown hg hbk
       rw [← List.map_append] at hown
       have HO7 := Lib.hid hown
       have X7 := Lib.hid (X6.out.grown' hg (fun g hg => (HO6.out.lt g hg).1))
       clear hown hg hbk))
  go_ret2
  exact RetU.up (by simp) (Ext.alloc _ _) HO7.out X7.out
end Go.Proofs.Ytpjmhckdeeonbaa

namespace Go.Proofs.Ytpjmhckdeeonbaa
set_option linter.unusedVariables false
set_option linter.unusedSimpArgs false
set_option maxRecDepth 100000
set_option maxHeartbeats 1000000
open Go Go.RowKit Go.Out

theorem ref_two1 (w V : World) (o : Obj) (xs : List UInt8) (v n : Nat) (A : Option Addr) (c : Nat) (hv : v < 65536) (hn : n ≤ 1000000) (ho : Own V (w.heap.size + 1) 5 IsU8 A n c (xs.map cB)) (hX : Ext (w.alloc o) V) :
    Calls Try.prog 105 #[.slice A n c, .int .i64 (v : Int)] V fun e w' => ∃ A' c', e = .returned (.slice A' (n + 2) c') ∧ Own w' (w.heap.size + 1) 5 IsU8 A' (n + 2) c' ((xs ++ two v).map cB) ∧ Ext (w.alloc o) w' ∧ Grow V w' A A' := by
  have e : (w.alloc o).heap.size = w.heap.size + 1 := by simp
  have h := ref_two (w.alloc o) V xs v n A c hv hn (by rw [e]; exact ho) hX
  rw [e] at h; exact h
theorem RetU.up1 {w w' : World} {o : Obj} {xs xs' : List UInt8} {A : Option Addr} {n c : Nat} (h : xs' = xs) (ho : Own w' (w.heap.size + 1) 5 IsU8 A n c (xs'.map cB)) (hx : Ext (w.alloc o) w') : RetU w xs 0 (.returned (.tuple #[.slice A n c, .int .i64 0])) w' :=
  ⟨A, n, c, rfl, h ▸ ho.mono (by omega), (Ext.alloc _ _).trans hx⟩

theorem refRegs (A n : Nat) (l : List UInt16) (s : AskS) (w : World) (hr : AskRd w ⟨16, A, 0, [], l, []⟩ s) (h : checkF ⟨16, A, 0, [], l, []⟩ = 0) (hA : A ≤ 65535) (hl : l.length = n) (hn : n ≤ 123) :
    Calls Try.prog 69 #[askV ⟨16, A, 0, [], l, []⟩ s] w (RetU w (16 :: (two A ++ (two n ++ UInt8.ofNat (2 * n) :: wb l))) 0) := by
  have HC := Lib.hid (ref3Ok hr h)
  have h1 := hr.n2
  have hr1 := hr.set
  clear hr h
  obtain ⟨A1, n1, c1, A2, n2, c2, A3, n3, c3⟩ := s
  simp only [askV] at HC h1 hr1 ⊢
  obtain rfl : n = n2 := hl.symm.trans h1
  have Hr := Lib.hid hr1; have Hl := Lib.hid hl; clear hr1 hl h1
  have hN8 : (UInt8.ofNat (2 * n)).toNat = 2 * n := by simp; omega
  have hw2 : IntKind.i64.wrap (2 * (n : Int)) = 2 * (n : Int) := IntWalk.i64_in _ (by omega)
  have hw8 : IntKind.u8.wrap (2 * (n : Int)) = 2 * (n : Int) := by rw [IntKind.wrap_u8]; omega
  have Hlit : Hid ((#[.int .u8 (2 * (n : Int))] : Array Value).toList = [UInt8.ofNat (2 * n)].map cB ++ []) := by show _ = _; simp only [List.map_cons, List.map_nil, cB, hN8, List.append_nil]; rw [Int.natCast_mul]; rfl
  clear hN8
  go_enter Try.func69, Try.ntmps69
  go_wp2_with fail
  refine (HC.out _ (Ext.alloc _ _)).mono ?_
  rintro e w1 ⟨rfl, hb⟩
  have D := fun o : Obj => ask_cells _ (hb.trans (Ext.alloc _ o))
  obtain ⟨d0, -⟩ := ask_cells _ hb
  have d1 := fun o => (D o).2.1
  have d0' := fun o => (D o).1
  have Y1 := Lib.hid hb
  clear hb D
  go_wp2_with fail
  have hcall := ref_two _ _ [16] A 1 _ _ (by omega) (by omega) (Own.first w1 _ Y1.out.size 16 16 rfl) (Y1.out.trans (Ext.alloc _ _))
  refine hcall.mono ?_
  clear hcall
  rintro e w2 ⟨A', c', rfl, ho, hx, -⟩
  clear d0 d1 d0'
  obtain ⟨d0, -, -, -, d4, -⟩ := ask_cells _ hx
  have hzb : w.heap.size < w2.heap.size := by have := hx.size; simp at this; omega
  have Y2 := Lib.hid hx
  have HO := Lib.hid ho
  have HLT := Lib.hid (fun g hg => (ho.lt g hg).2)
  clear hx ho
  go_wp2_with fail
  have xr := Ext.draw w2
  have xa := fun o => Ext.drew' (Ext.alloc w2 o)
  have hl2 : (w2.alloc (.cells #[.int .u8 (2 * (n : Int))] 5)).drew.heap[w2.heap.size]? = some (.cells #[.int .u8 (2 * (n : Int))] 5) := heap_alloc_new w2 _
  have HL2 := Lib.hid hl2
  clear hl2
  go_region_held3 (fun w' => w'.cell? ⟨w.heap.size, 4, none⟩ = some (.slice A2 n c2)) (go_keep) ((first
    | (go_at_call 105
       first
         | (refine (ref_two _ _ _ n _ _ _ (by omega) (by omega) (HO.out.ext xr) (Y2.out.trans xr)).mono ?_
            rintro e w4 ⟨A5, c5, rfl, ho, hx4, hG⟩
            have k4 := (ask_cells _ hx4).2.2.2.2.1
            have hz4 : w.heap.size < w4.heap.size := by have := hx4.size; simp at this; omega
            have HO4 := Lib.hid ho
            have X4 := Lib.hid hx4
            clear ho hx4 hG)
         | (refine (ref_two _ _ _ n _ _ _ (by omega) (by omega) (HO.out.ext (xa _)) (Y2.out.trans (xa _))).mono ?_
            rintro e w4 ⟨A5, c5, rfl, ho, hx4, hG⟩
            have k4 := (ask_cells _ hx4).2.2.2.2.1
            have hz4 : w.heap.size < w4.heap.size := by have := hx4.size; simp at this; omega
            have HO4 := Lib.hid ho
            have X4 := Lib.hid hx4
            have HL4 := Lib.hid ((hG.1.block w2.heap.size (by simp) (fun e => by have := HLT.out _ e.symm; omega)).trans HL2.out)
            clear ho hx4 hG))
    | (first
         | refine step_u8 (base := (w.alloc _).heap.size) rfl (.tmp 113) (.tmp 119) rfl rfl HO4.out rfl (Rd.of_heap (ys := []) HL4.out Hlit.out rfl) isU8_map (by omega) X4.out.size ?_
         | refine step_u8 (base := (w.alloc _).heap.size) rfl (.tmp 113) (.tmp 119) rfl rfl (HO4.out.ext (Ext.alloc _ _)) rfl (Rd.of_heap (ys := []) (heap_alloc_new w4 _) Hlit.out rfl) isU8_map (by omega) (X4.out.trans (Ext.alloc _ _)).size ?_
       intro A7 c7 w5 hown hg hbk
       rw [← List.map_append] at hown
       first
         | have X7 := Lib.hid (X4.out.grown' hg (fun g hg => (HO4.out.lt g hg).1))
         | have X7 := Lib.hid ((X4.out.trans (Ext.alloc _ _)).grown' hg (fun g hg => (HO4.out.lt g hg).1))
       have k7 := (ask_cells _ X7.out).2.2.2.2.1
       have HO7 := Lib.hid hown
       clear hown hg hbk)))
  all_goals
    go_wp2_with fail
    simp only [Nat.reduceAdd]
    go_loopw [5, 9] (fun b i wr => ∃ (k : Nat) (A5 : Option Addr) (c5 : Nat), k ≤ n ∧ b = .slice A5 (6 + 2 * k) c5 ∧ i = .int .i64 (k : Int) ∧ Hid (Own wr (w.heap.size + 1) 5 IsU8 A5 (6 + 2 * k) c5 ((16 :: (two A ++ (two n ++ UInt8.ofNat (2 * n) :: wb (l.take k)))).map cB)) ∧ Hid (Ext (w.alloc (.cells #[.int .i64 16, .int .i64 (A : Int), .int .i64 0, .slice A1 n1 c1, .slice A2 n c2, .slice A3 n3 c3] 26)) wr)) (fun _ i _ => n - (intOf i).toNat)
    case atStart => exact ⟨0, _, _, Nat.zero_le _, rfl, rfl, by simpa [Hid, wb] using HO7.out, X7⟩
    case round =>
      obtain ⟨k, A6, c6, hk, rfl, rfl, HOk, HX⟩ := hrel
      have d4 := (ask_cells _ HX.out).2.2.2.2.1
      rcases Nat.lt_or_ge k n with hlt | hge
      · obtain ⟨bx, ox, hA2, hbx, hlx, hcx⟩ := (Hr.out.ext ((Ext.alloc _ _).trans HX.out)).u16at hlt
        subst hA2
        have hst := wb_snoc l k hlx
        have hx16 := (l[k]'hlx).toNat_lt
        generalize (l[k]'hlx).toNat = v at *
        have Hst := Lib.hid hst; clear hst
        have hwv : IntKind.i64.wrap (v : Int) = (v : Int) := IntWalk.i64_in _ (by omega)
        go_wp2_with fail
        refine (ref_two1 w _ _ _ v _ _ _ (by omega) (by omega) HOk.out HX.out).mono ?_
        rintro e w8 ⟨A8, c8, rfl, ho, hx8, -⟩
        have HO8 := Lib.hid ho
        have X8 := Lib.hid hx8
        clear ho hx8
        go_wp2_with fail
        go_roundw
        case rel => exact ⟨k + 1, A8, c8, by omega, rfl, by go_num, by rw [Hst.out, show 6 + 2 * (k + 1) = 6 + 2 * k + 2 by omega]; simpa [Hid, two] using HO8.out, X8⟩
        case measure => simp [intOf]; omega
      · obtain rfl : n = k := by omega
        have ho := HOk.out
        rw [List.take_of_length_le (by have := Hl.out; omega)] at ho
        have Ho := Lib.hid ho
        clear ho
        go_wp2_with fail
        go_ret2
        exact RetU.up1 rfl Ho.out HX.out
end Go.Proofs.Ytpjmhckdeeonbaa

namespace Go.Proofs.Ytpjmhckdeeonbaa
set_option linter.unusedVariables false
set_option linter.unusedSimpArgs false
set_option maxRecDepth 100000
set_option maxHeartbeats 6000000
open Go Go.RowKit Go.Out

theorem refFile (l : List PartD) (s : AskS) (w : World) (hr : AskRd w ⟨20, 0, 0, [], [], l⟩ s) (h : checkF ⟨20, 0, 0, [], [], l⟩ = 0) (hl : l.length ≤ 35) (hp : partsF l = 0) :
    Calls Try.prog 69 #[askV ⟨20, 0, 0, [], [], l⟩ s] w (RetU w (20 :: UInt8.ofNat (7 * l.length) :: partsB l) 0) := by
  have HC := Lib.hid (ref3Ok hr h)
  have h1 := hr.n3
  have hr1 := hr.parts
  have hgood : ∀ k p, l[k]? = some p → ¬ badP p := fun k p hk hb => by
    obtain ⟨hk', rfl⟩ := List.getElem?_eq_some_iff.1 hk
    rw [partsF_bad hk' hb] at hp
    cases hp
  clear hr h hp
  obtain ⟨A1, n1, c1, A2, n2, c2, A3, n3, c3⟩ := s
  simp only [askV] at HC h1 hr1 ⊢
  subst h1
  have Hr := Lib.hid hr1; have Hgood := Lib.hid hgood; clear hr1 hgood
  obtain ⟨n, hn⟩ : ∃ n, l.length = n := ⟨_, rfl⟩
  rw [hn] at HC Hr hl ⊢
  have hN8 : (UInt8.ofNat (7 * n)).toNat = 7 * n := by simp; omega
  have Hlen := Lib.hid hn; clear hn
  have hw7 : IntKind.i64.wrap (7 * (n : Int)) = 7 * (n : Int) := IntWalk.i64_in _ (by omega)
  have hw8 : IntKind.u8.wrap (7 * (n : Int)) = 7 * (n : Int) := by rw [IntKind.wrap_u8]; omega
  have Hlit : Hid ((#[.int .u8 (7 * (n : Int))] : Array Value).toList = [UInt8.ofNat (7 * n)].map cB ++ []) := by show _ = _; simp only [List.map_cons, List.map_nil, cB, hN8, List.append_nil]; rw [Int.natCast_mul]; rfl
  clear hN8
  go_enter Try.func69, Try.ntmps69
  go_wp2_with fail
  refine (HC.out _ (Ext.alloc _ _)).mono ?_
  rintro e w1 ⟨rfl, hb⟩
  have D := fun o : Obj => ask_cells _ (hb.trans (Ext.alloc _ o))
  obtain ⟨d0, -⟩ := ask_cells _ hb
  have d5 := fun o => (D o).2.2.2.2.2
  have d0' := fun o => (D o).1
  have Hb := Lib.hid hb
  have X1 := Lib.hid ((Ext.alloc _ _).trans hb)
  have Hf := Lib.hid (Own.first w1 (w.heap.size + 1) (by have := hb.size; simpa using this) 20 20 rfl)
  clear hb D
  go_wp2_with (at_builtin
               go_must (refine app_u8 _ rfl (.tmp 22) (.tmp 28) rfl rfl (Hf.out.ext (Ext.alloc _ _)) rfl (Rd.of_heap (ys := []) (heap_at _ _ _ (by simp)) Hlit.out rfl) isU8_map (by omega) (by have := (Hb.out.trans ((Ext.alloc w1 (.cells #[.int .u8 20] 5)).trans (Ext.alloc _ (.cells #[.int .u8 (7 * (n : Int))] 5)))).size; simp at this ⊢; omega) ?_)
               intro A6 c6 w2 hown hg hbk
               rw [← List.map_append] at hown
               have HO6 := Lib.hid hown
               have Y2 : Hid (Ext (w.alloc (.cells #[.int .i64 20, .int .i64 0, .int .i64 0, .slice A1 n1 c1, .slice A2 n2 c2, .slice A3 n c3] 26)) w2) := (Hb.out.trans ((Ext.alloc _ _).trans (Ext.alloc _ _))).grown' hg (fun g hg => by simp [blk] at hg; subst hg; exact Hb.out.size)
               clear hown hg hbk d5 d0' d0 Hf)
  try simp only [Nat.reduceAdd]
  go_loopw [5, 6] (fun b i wr => ∃ (k : Nat) (A5 : Option Addr) (c5 : Nat), k ≤ n ∧ b = .slice A5 (2 + 7 * k) c5 ∧ i = .int .i64 (k : Int) ∧ Hid (Own wr (w.heap.size + 1) 5 IsU8 A5 (2 + 7 * k) c5 ((20 :: UInt8.ofNat (7 * n) :: partsB (l.take k)).map cB)) ∧ Hid (Ext (w.alloc (.cells #[.int .i64 20, .int .i64 0, .int .i64 0, .slice A1 n1 c1, .slice A2 n2 c2, .slice A3 n c3] 26)) wr)) (fun _ i _ => n - (intOf i).toNat)
  case atStart => exact ⟨0, A6, c6, Nat.zero_le _, rfl, rfl, by simpa [Hid, partsB] using HO6.out, Y2⟩
  case round =>
    obtain ⟨k, A5, c5, hk, rfl, rfl, HO, HX⟩ := hrel
    have d5 := (ask_cells _ HX.out).2.2.2.2.2
    rcases Nat.lt_or_ge k n with hlt | hge
    · obtain ⟨b1, o1, p, hp, hA3, hb1, e0, e1, e2, -⟩ := part_cells Hr.out hlt
      obtain ⟨F, R, L, hF, hR, hL, hF6, hR6, hL6⟩ := part_nat (Hgood.out k p hp)
      rw [hF] at e0; rw [hR] at e1; rw [hL] at e2
      have hst := partsB_take hp
      rw [show partB p = 6 :: (two F ++ two R ++ two L) by unfold partB; rw [hF, hR, hL]; rfl] at hst
      have Hst := Lib.hid hst
      clear hst hF hR hL hp
      subst hA3
      have HKK : Hid (∀ W, Ext (w.alloc (.cells #[.int .i64 20, .int .i64 0, .int .i64 0, .slice A1 n1 c1, .slice A2 n2 c2, .slice (some ⟨b1, o1, none⟩) n c3] 26)) W →
          W.cell? ⟨w.heap.size, 5, none⟩ = some (.slice (some ⟨b1, o1, none⟩) n c3) ∧ W.cell? ⟨b1, o1 + k * 3, none⟩ = some (.int .i64 (F : Int)) ∧ W.cell? ⟨b1, o1 + k * 3 + 1, none⟩ = some (.int .i64 (R : Int)) ∧ W.cell? ⟨b1, o1 + k * 3 + 2, none⟩ = some (.int .i64 (L : Int))) :=
        fun W hX => ⟨(ask_cells _ hX).2.2.2.2.2, ((Ext.alloc _ _).trans hX).cell hb1 e0, ((Ext.alloc _ _).trans hX).cell hb1 e1, ((Ext.alloc _ _).trans hX).cell hb1 e2⟩
      have hbr : b1 < wr.heap.size := Nat.lt_of_lt_of_le hb1 ((Ext.alloc _ _).trans HX.out).size
      have hzr : w.heap.size < wr.heap.size := by have := HX.out.size; simp at this; omega
      clear e0 e1 e2 hb1 d5
      obtain ⟨q5, q0, q1, q2⟩ := HKK.out _ HX.out
      clear HC Hb Hlit Hgood hw7 hw8 Hlen HO6 Y2
      have h0k : (0 : Int) ≤ (k : Int) := by omega
      have hkn : (k : Int) < (n : Int) := by omega
      have hkt : ((k : Int)).toNat = k := by omega
      have H6 : Hid ((#[.int .u8 6] : Array Value).toList = ([6] : List UInt8).map cB ++ []) := rfl
      have HL := Lib.hid (show (wr.alloc (.cells #[.int .u8 6] 5)).drew.heap[wr.heap.size]? = some (.cells #[.int .u8 6] 5) from heap_alloc_new wr _)
      have XA := Lib.hid (fun o => Ext.drew' (Ext.alloc wr o))
      go_wp2_with fail
      go_region_held3 (fun w' => w'.cell? ⟨w.heap.size, 5, none⟩ = some (.slice (some ⟨b1, o1, none⟩) n c3) ∧ w'.cell? ⟨b1, o1 + k * 3, none⟩ = some (.int .i64 (F : Int)) ∧ w'.cell? ⟨b1, o1 + k * 3 + 1, none⟩ = some (.int .i64 (R : Int)) ∧ w'.cell? ⟨b1, o1 + k * 3 + 2, none⟩ = some (.int .i64 (L : Int))) (go_keep) ((first
        | (go_at_call 105
           first
             | (refine (ref_two1 w _ _ _ L _ _ _ hL6 (by omega) HO5.out X5.out).mono ?_
                rintro e w6 ⟨Aa, ca, rfl, ho, hx, -⟩
                obtain ⟨v5, v0, v1, v2⟩ := HKK.out _ hx
                have HO8 := Lib.hid ho
                have X8 := Lib.hid hx
                clear ho hx)
             | (refine (ref_two1 w _ _ _ R _ _ _ hR6 (by omega) HO4.out X4.out).mono ?_
                rintro e w5 ⟨A9, c9, rfl, ho, hx, -⟩
                obtain ⟨t5, t0, t1, t2⟩ := HKK.out _ hx
                have HO5 := Lib.hid ho
                have X5 := Lib.hid hx
                clear ho hx)
             | (refine (ref_two1 w _ _ _ F _ _ _ hF6 (by omega) HO3.out X3.out).mono ?_
                rintro e w4 ⟨A8, c8, rfl, ho, hx, -⟩
                obtain ⟨s5, s0, s1, s2⟩ := HKK.out _ hx
                have HO4 := Lib.hid ho
                have X4 := Lib.hid hx
                clear ho hx))
        | (refine step_u8 (base := w.heap.size + 1) rfl (.tmp 37) (.tmp 38) rfl rfl (HO.out.ext (XA.out _)) rfl (Rd.of_heap (ys := []) HL.out H6.out rfl) isU8_map (by omega) (Nat.le_trans (by have := HX.out.size; simpa using this) (XA.out _).size) ?_
           intro A7 c7 w3 hown hg hbk
           rw [← List.map_append] at hown
           have X3 := Lib.hid ((HX.out.trans (XA.out _)).grown' hg (fun g hg => by have := (HO.out.lt g hg).1; simp; omega))
           obtain ⟨r5, r0, r1, r2⟩ := HKK.out _ X3.out
           have HO3 := Lib.hid hown
           clear hown hg hbk)))
      all_goals
        go_wp2_with fail
        go_roundw
        case rel => exact ⟨k + 1, Aa, ca, by omega, by first | rfl | (congr 1; omega), by go_num, by rw [Hst.out, show 2 + 7 * (k + 1) = 2 + 7 * k + 1 + 2 + 2 + 2 by omega]; simpa [Hid] using HO8.out, X8⟩
        case measure => simp [intOf]; omega
    · obtain rfl : n = k := by omega
      have ho := HO.out
      rw [List.take_of_length_le (by have := Hlen.out; omega)] at ho
      have Ho := Lib.hid ho
      clear ho
      go_wp2_with fail
      go_ret2
      exact RetU.up1 rfl Ho.out HX.out

theorem ref3Put_any (a : AskD) (s : AskS) (w : World) (hr : AskRd w a s) : Calls Try.prog 69 #[askV a s] w (RetU w (putA a).1 (putA a).2) := by
  by_cases h : checkF a = 0
  · rw [putA_ok h]
    rcases Go.Out.ask_cases h with ⟨c, A, n, h1, h4, hA, h1n, hn, rfl⟩ | ⟨A, x, hA, rfl⟩ | ⟨A, v, hA, rfl⟩ | ⟨A, l, hA, h1l, hl, rfl⟩ | ⟨A, l, hA, h1l, hl, rfl⟩ | ⟨l, h1l, hl, hp, rfl⟩
    · have e : bodyF ⟨c, A, n, [], [], []⟩ = two A ++ two n := by
        unfold bodyF
        rw [if_neg (by simp; omega), if_neg (by simp; omega), if_neg (by simp; omega), if_neg (by simp; omega), if_neg (by simp; omega)]
        simp
      rw [e]
      exact refCnt c A n s w hr h h1 h4 hA hn
    · exact refCoil A x s w hr h hA
    · exact refReg A v s w hr h hA
    · exact refCoils A _ l s w hr h hA rfl hl
    · exact refRegs A _ l s w hr h hA rfl hl
    · exact refFile l s w hr h hl hp
  · rw [putA_no h]
    exact refNo a s w hr h
end Go.Proofs.Ytpjmhckdeeonbaa
