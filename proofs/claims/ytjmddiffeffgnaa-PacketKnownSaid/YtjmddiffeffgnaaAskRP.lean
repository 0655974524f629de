/- Contracts of the requests: the reference's PDU of a request: reads, one coil, one register. -/
import Derived.Test.YtjmddiffeffgnaaAskQ
import Derived.Test.YtjmddiffeffgnaaAsk9
namespace Go.Proofs.Ytjmddiffeffgnaa
set_option linter.unusedVariables false
set_option linter.unusedSimpArgs false
set_option maxRecDepth 100000
set_option maxHeartbeats 2000000
open Go Go.RowKit Go.Out

/-- A number of two bytes behind a row of the call's own. -/
theorem ref_two (w V : World) (xs : List UInt8) (v n : Nat) (A : Option Addr) (c : Nat) (hv : v < 65536) (hn : n ≤ 1000000) (ho : Own V w.heap.size 5 IsU8 A n c (xs.map cB)) (hX : Ext w V) :
    Calls Try.prog 126 #[.slice A n c, .int .i64 (v : Int)] V fun e w' => ∃ A' c', e = .returned (.slice A' (n + 2) c') ∧ Own w' w.heap.size 5 IsU8 A' (n + 2) c' ((xs ++ two v).map cB) ∧ Ext w w' ∧ Grow V w' A A' := by
  have hl := ho.len
  refine (two3_any xs v n hv A c w.heap.size V ho hX.size (by omega)).mono ?_
  rintro e w' ⟨A', c', rfl, ho', hG⟩
  have e2 : (xs ++ two v).length = n + 2 := by simp [two] at hl ⊢; omega
  rw [e2] at ho' ⊢
  exact ⟨A', c', rfl, ho', hG.ext hX ho, hG⟩
theorem ref3Ok {a : AskD} {s : AskS} {w : World} (hr : AskRd w a s) (h : checkF a = 0) : ∀ W, Ext w W → Calls Try.prog 101 #[askV a s] W (RetI W 0) := by
  intro W hX
  have := refCheck_any a s W (hr.ext hX)
  rwa [h] at this
theorem RetU.up {w w0 w' : World} {xs xs' : List UInt8} {A : Option Addr} {n c : Nat} (h : xs' = xs) (h0 : Ext w w0) (ho : Own w' w0.heap.size 5 IsU8 A n c (xs'.map cB)) (hx : Ext w0 w') : RetU w xs 0 (.returned (.tuple #[.slice A n c, .int .i64 0])) w' := ⟨A, n, c, rfl, h ▸ ho.mono h0.size, h0.trans hx⟩

theorem refNo (a : AskD) (s : AskS) (w : World) (hr : AskRd w a s) (h : checkF a ≠ 0) : Calls Try.prog 76 #[askV a s] w (RetU w [] (checkF a)) := by
  have hc := fun W (hX : Ext w W) => refCheck_any a s W (hr.ext hX)
  obtain ⟨k, hk⟩ : ∃ k, checkF a = k := ⟨_, rfl⟩
  simp only [hk] at hc h ⊢
  have ht : (k != 0) = true := by simpa using h
  have HC := Lib.hid hc; clear hc hr hk h
  obtain ⟨code, addr, count, on, set, parts⟩ := a
  obtain ⟨A1, n1, c1, A2, n2, c2, A3, n3, c3⟩ := s
  simp only [askV] at HC ⊢
  go_enter Try.func76, Try.ntmps76
  go_wp2_with fail
  refine (HC.out _ (Ext.alloc _ _)).mono ?_
  rintro e w1 ⟨rfl, hb⟩
  have X1 := (Ext.alloc _ _).trans hb
  clear hb
  go_wp2_with fail
  go_ret2
  exact ⟨none, 0, 0, rfl, Own.nil_ _ _ _ _, X1⟩

theorem refCnt (c A n : Nat) (s : AskS) (w : World) (hr : AskRd w ⟨c, A, n, [], [], []⟩ s) (h : checkF ⟨c, A, n, [], [], []⟩ = 0) (h1 : 1 ≤ c) (h4 : c ≤ 4) (hA : A ≤ 65535) (hn : n ≤ 2000) :
    Calls Try.prog 76 #[askV ⟨c, A, n, [], [], []⟩ s] w (RetU w (UInt8.ofNat c :: (two A ++ two n)) 0) := by
  have HC := Lib.hid (ref3Ok hr h); clear hr h
  obtain ⟨A1, n1, c1, A2, n2, c2, A3, n3, c3⟩ := s
  simp only [askV] at HC ⊢
  have hc8 : (UInt8.ofNat c).toNat = c := by simp; omega
  go_enter Try.func76, Try.ntmps76
  go_wp2_with fail
  refine (HC.out _ (Ext.alloc _ _)).mono ?_
  rintro e w1 ⟨rfl, hb⟩
  have D := fun o : Obj => ask_cells _ (hb.trans (Ext.alloc _ o))
  obtain ⟨d0, -⟩ := ask_cells _ hb
  have d1 := fun o => (D o).2.1
  have d0' := fun o => (D o).1
  have Y1 := Lib.hid hb
  clear hb D
  go_wp2_with fail
  have HF := Own.first w1 _ Y1.out.size (UInt8.ofNat c) c hc8
  have XF := Y1.out.trans (Ext.alloc w1 (.cells #[.int .u8 (c : Int)] 5))
  have hcall := ref_two _ _ [UInt8.ofNat c] A 1 _ _ (by omega) (by omega) HF XF
  refine hcall.mono ?_
  rintro e w2 ⟨A', c', rfl, ho, hx, -⟩
  clear d0 d1 d0'
  obtain ⟨d0, -, d2, -⟩ := ask_cells _ hx
  have Y2 := Lib.hid hx
  have HO := Lib.hid ho
  clear hx ho
  go_wp2_with fail
  refine (ref_two _ _ _ n _ _ _ (by omega) (by omega) HO.out Y2.out).mono ?_
  rintro e w3 ⟨A'', c'', rfl, ho, hx, -⟩
  go_wp2_with fail
  go_ret2
  exact RetU.up (by simp) (Ext.alloc _ _) ho hx

theorem refCoil (A : Nat) (x : Bool) (s : AskS) (w : World) (hr : AskRd w ⟨5, A, 0, [x], [], []⟩ s) (h : checkF ⟨5, A, 0, [x], [], []⟩ = 0) (hA : A ≤ 65535) :
    Calls Try.prog 76 #[askV ⟨5, A, 0, [x], [], []⟩ s] w (RetU w (5 :: (two A ++ two (if x then 65280 else 0))) 0) := by
  have HC := Lib.hid (ref3Ok hr h)
  have h1 := hr.n1
  have hr1 := hr.on
  clear hr h
  obtain ⟨A1, n1, c1, A2, n2, c2, A3, n3, c3⟩ := s
  simp only [askV] at HC h1 hr1 ⊢
  obtain rfl : 1 = n1 := h1
  obtain ⟨bx, ox, rfl, hbx, hlx, hcx⟩ := hr1.boat (k := 0) (by omega)
  simp only [List.getElem_cons_zero, Nat.add_zero] at hcx
  clear hr1
  cases x
  · go_enter Try.func76, Try.ntmps76
    go_wp2_with fail
    refine (HC.out _ (Ext.alloc _ _)).mono ?_
    rintro e w1 ⟨rfl, hb⟩
    have D := fun o : Obj => ask_cells _ (hb.trans (Ext.alloc _ o))
    obtain ⟨d0, -⟩ := ask_cells _ hb
    have d1 := fun o => (D o).2.1
    have d0' := fun o => (D o).1
    have Y1 := Lib.hid hb
    clear hb D
    go_wp2_with fail
    refine (ref_two _ _ [5] A 1 _ _ (by omega) (by omega) (Own.first w1 _ Y1.out.size 5 5 rfl) (Y1.out.trans (Ext.alloc _ _))).mono ?_
    rintro e w2 ⟨A', c', rfl, ho, hx, -⟩
    clear d0 d1 d0'
    obtain ⟨d0, -, -, d3, -⟩ := ask_cells _ hx
    have hcy := ((Ext.alloc w _).trans hx).cell hbx hcx
    have Y2 := Lib.hid hx
    have HO := Lib.hid ho
    clear hx ho
    go_wp2_with fail
    have hcall := ref_two _ _ _ 0 _ _ _ (by omega) (by omega) HO.out Y2.out
    refine hcall.mono ?_
    rintro e w3 ⟨A'', c'', rfl, ho, hx, -⟩
    go_wp2_with fail
    go_ret2
    exact RetU.up (by simp) (Ext.alloc _ _) ho hx
  · go_enter Try.func76, Try.ntmps76
    go_wp2_with fail
    refine (HC.out _ (Ext.alloc _ _)).mono ?_
    rintro e w1 ⟨rfl, hb⟩
    have D := fun o : Obj => ask_cells _ (hb.trans (Ext.alloc _ o))
    obtain ⟨d0, -⟩ := ask_cells _ hb
    have d1 := fun o => (D o).2.1
    have d0' := fun o => (D o).1
    have Y1 := Lib.hid hb
    clear hb D
    go_wp2_with fail
    refine (ref_two _ _ [5] A 1 _ _ (by omega) (by omega) (Own.first w1 _ Y1.out.size 5 5 rfl) (Y1.out.trans (Ext.alloc _ _))).mono ?_
    rintro e w2 ⟨A', c', rfl, ho, hx, -⟩
    clear d0 d1 d0'
    obtain ⟨d0, -, -, d3, -⟩ := ask_cells _ hx
    have hcy := ((Ext.alloc w _).trans hx).cell hbx hcx
    have Y2 := Lib.hid hx
    have HO := Lib.hid ho
    clear hx ho
    go_wp2_with fail
    have hcall := ref_two _ _ _ 65280 _ _ _ (by omega) (by omega) HO.out Y2.out
    refine hcall.mono ?_
    rintro e w3 ⟨A'', c'', rfl, ho, hx, -⟩
    go_wp2_with fail
    go_ret2
    exact RetU.up (by simp) (Ext.alloc _ _) ho hx

theorem refReg (A : Nat) (x : UInt16) (s : AskS) (w : World) (hr : AskRd w ⟨6, A, 0, [], [x], []⟩ s) (h : checkF ⟨6, A, 0, [], [x], []⟩ = 0) (hA : A ≤ 65535) :
    Calls Try.prog 76 #[askV ⟨6, A, 0, [], [x], []⟩ s] w (RetU w (6 :: (two A ++ two x.toNat)) 0) := by
  have HC := Lib.hid (ref3Ok hr h)
  have h1 := hr.n2
  have hr1 := hr.set
  clear hr h
  obtain ⟨A1, n1, c1, A2, n2, c2, A3, n3, c3⟩ := s
  simp only [askV] at HC h1 hr1 ⊢
  obtain rfl : 1 = n2 := h1
  obtain ⟨bx, ox, rfl, hbx, hlx, hcx⟩ := hr1.u16at (k := 0) (by omega)
  simp only [List.getElem_cons_zero, Nat.add_zero] at hcx
  clear hr1
  have hx16 := x.toNat_lt
  have h01 : (0 : Int) < (1 : Int) := by omega
  generalize x.toNat = v at *
  go_enter Try.func76, Try.ntmps76
  go_wp2_with fail
  refine (HC.out _ (Ext.alloc _ _)).mono ?_
  rintro e w1 ⟨rfl, hb⟩
  have D := fun o : Obj => ask_cells _ (hb.trans (Ext.alloc _ o))
  obtain ⟨d0, -⟩ := ask_cells _ hb
  have d1 := fun o => (D o).2.1
  have d0' := fun o => (D o).1
  have Y1 := Lib.hid hb
  clear hb D
  go_wp2_with fail
  refine (ref_two _ _ [6] A 1 _ _ (by omega) (by omega) (Own.first w1 _ Y1.out.size 6 6 rfl) (Y1.out.trans (Ext.alloc _ _))).mono ?_
  rintro e w2 ⟨A', c', rfl, ho, hx, -⟩
  clear d0 d1 d0'
  obtain ⟨d0, -, -, -, d4, -⟩ := ask_cells _ hx
  have hcy := ((Ext.alloc w _).trans hx).cell hbx hcx
  have Y2 := Lib.hid hx
  have HO := Lib.hid ho
  clear hx ho
  have hwv : IntKind.i64.wrap (v : Int) = (v : Int) := IntWalk.i64_in _ (by omega)
  go_wp2_with fail
  refine (ref_two _ _ _ v _ _ _ (by omega) (by omega) HO.out Y2.out).mono ?_
  rintro e w3 ⟨A'', c'', rfl, ho, hx, -⟩
  go_wp2_with fail
  go_ret2
  exact RetU.up (by simp) (Ext.alloc _ _) ho hx

theorem refCoils (A n : Nat) (l : List Bool) (s : AskS) (w : World) (hr : AskRd w ⟨15, A, 0, l, [], []⟩ s) (h : checkF ⟨15, A, 0, l, [], []⟩ = 0) (hA : A ≤ 65535) (hl : l.length = n) (hn : n ≤ 1968) :
    Calls Try.prog 76 #[askV ⟨15, A, 0, l, [], []⟩ s] w (RetU w (15 :: (two A ++ (two n ++ UInt8.ofNat (need n) :: bitsF l))) 0) := by
  have HC := Lib.hid (ref3Ok hr h)
  have h1 := hr.n1
  have hr1 := hr.on
  clear hr h
  obtain ⟨A1, n1, c1, A2, n2, c2, A3, n3, c3⟩ := s
  simp only [askV] at HC h1 hr1 ⊢
  obtain rfl : n = n1 := hl.symm.trans h1
  have Hr := Lib.hid hr1; have Hl := Lib.hid hl; clear hr1 hl h1
  have hnd : need n ≤ 246 := by unfold need; omega
  obtain ⟨N, hN⟩ : ∃ N, need n = N := ⟨_, rfl⟩
  rw [hN] at hnd ⊢
  have hN8 : (UInt8.ofNat N).toNat = N := by simp; omega
  have hcall := fun W (hX : Ext w W) => packed3_any l A1 n c1 W (Hr.out.ext hX) (by omega)
  rw [hN] at hcall
  have HCALL := Lib.hid hcall
  clear hN hcall
  go_enter Try.func76, Try.ntmps76
  go_wp2_with fail
  refine (HC.out _ (Ext.alloc _ _)).mono ?_
  rintro e w1 ⟨rfl, hb⟩
  have D := fun o : Obj => ask_cells _ (hb.trans (Ext.alloc _ o))
  obtain ⟨d0, -⟩ := ask_cells _ hb
  have d1 := fun o => (D o).2.1
  have d0' := fun o => (D o).1
  have Y1 := Lib.hid hb
  clear hb D
  go_wp2_with fail
  refine (ref_two _ _ [15] A 1 _ _ (by omega) (by omega) (Own.first w1 _ Y1.out.size 15 15 rfl) (Y1.out.trans (Ext.alloc _ _))).mono ?_
  rintro e w2 ⟨A', c', rfl, ho, hx, -⟩
  clear d0 d1 d0'
  obtain ⟨d0, -, -, d3, -⟩ := ask_cells _ hx
  have Y2 := Lib.hid hx
  have HO := Lib.hid ho
  clear hx ho
  go_wp2_with fail
  refine (HCALL.out _ ((Ext.alloc _ _).trans Y2.out)).mono ?_
  rintro e w3 ⟨A4, c4, rfl, ho4, hb4⟩
  have Ho4 := Lib.hid ho4
  have Y3 := Lib.hid (Y2.out.trans (Ext.of hb4))
  have HO3 := Lib.hid (HO.out.ext (Ext.of hb4))
  have hsep : ∀ g, blk A4 = some g → blk A' ≠ some g := fun g hg e => by
    have h1 := (ho4.lt g hg).1
    have h2 := (HO.out.lt g e).2
    omega
  have HSEP := Lib.hid hsep
  clear d0 d3 ho4 hb4 hsep
  obtain ⟨d0, -, -, d3, -⟩ := ask_cells _ Y3.out
  go_wp2_with fail
  refine (ref_two _ _ _ n _ _ _ (by omega) (by omega) HO3.out Y3.out).mono ?_
  rintro e w4 ⟨A5, c5, rfl, ho, hx, hG⟩
  have HO4 := Lib.hid (hG.own Ho4.out HSEP.out)
  have HN4 : Hid (∀ g, blk A4 = some g → blk A5 ≠ some g) := fun g hg => hG.ne (Ho4.out.lt g hg).2 (HSEP.out g hg)
  have Ho := Lib.hid ho; have X4 := Lib.hid hx; clear ho hx hG d0 d3
  have Hlit : Hid ((#[.int .u8 (N : Int)] : Array Value).toList = [UInt8.ofNat N].map cB ++ []) := by show _ = _; simp only [List.map_cons, List.map_nil, cB, hN8, List.append_nil]
  clear hN8
  go_wp2_with (at_builtin; first
    | (refine app_u8 _ rfl (.tmp 99) (.tmp 103) rfl rfl (Ho.out.ext (Ext.alloc _ _)) rfl (Rd.of_heap (ys := []) (heap_alloc_new w4 _) Hlit.out rfl) isU8_map (by omega) (X4.out.trans (Ext.alloc _ _)).size ?_
       intro A6 c6 w5 hown hg hbk
       rw [← List.map_append] at hown
       have HG6 := Lib.hid (Grow.of_alloc hg hbk)
       have HO6 := Lib.hid hown
       have HR6 := Lib.hid (HG6.out.own HO4.out HN4.out)
       have X6 := Lib.hid (HG6.out.ext X4.out Ho.out)
       clear hown hg hbk)
    | (go_must (refine app_u8 _ rfl (.tmp 104) (.tmp 105) rfl rfl HO6.out rfl HR6.out.rd isU8_map (by omega) X6.out.size ?_)
       intro A7 c7 w6 hown hg hbk
       rw [← List.map_append] at hown
       have HO7 := Lib.hid hown
       have X7 := Lib.hid (X6.out.grown' hg (fun g hg => (HO6.out.lt g hg).1))
       clear hown hg hbk))
  go_ret2
  exact RetU.up (by simp) (Ext.alloc _ _) HO7.out X7.out
end Go.Proofs.Ytjmddiffeffgnaa
