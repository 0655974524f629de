/- Contracts of the requests: a request as a PDU: one register, coils, registers. -/
import Derived.Test.YtomcipkmohhpjaaGreatG02
import Derived.Test.YtomcipkmohhpjaaGreatG04
import Derived.Deep.RegionWith
import Derived.Deep.RegionHeld3
import Derived.Test.YtomcipkmohhpjaaGreatG05
import Derived.Test.YtomcipkmohhpjaaGreatG03
import Derived.Deep.RegionLaw
import Derived.StillTailTactics
import Derived.Lib.SliceRun
namespace Go.Proofs.YtomcipkmohhpjaaGreat
set_option linter.unusedVariables false
set_option linter.unusedSimpArgs false
set_option maxRecDepth 100000
set_option maxHeartbeats 400000
open Go Go.RowKit Go.Out

theorem askReg (A : Nat) (x : UInt16) (s : AskS) (w : World) (hr : AskRd w ⟨6, A, 0, [], [x], []⟩ s) (h : checkF ⟨6, A, 0, [], [x], []⟩ = 0) (hA : A ≤ 65535) :
    Calls Tryz.prog 36 #[askV ⟨6, A, 0, [], [x], []⟩ s] w (RetU w (6 :: (two A ++ two x.toNat)) 0) := by
  have HC := Lib.hid (askOk hr h)
  have h1 := hr.n2
  have hr1 := hr.set
  clear hr h
  obtain ⟨A1, n1, c1, A2, n2, c2, A3, n3, c3⟩ := s
  simp only [askV] at HC h1 hr1 ⊢
  obtain rfl : 1 = n2 := h1
  obtain ⟨bx, ox, rfl, hbx, hlx, hcx⟩ := hr1.u16at (k := 0) (by omega)
  simp only [List.getElem_cons_zero, Nat.add_zero] at hcx
  clear hr1
  have hx16 := x.toNat_lt
  have h01 : (0 : Int) < (1 : Int) := by omega
  generalize x.toNat = v at *
  go_enter Tryz.func36, Tryz.ntmps36
  go_wp2_with fail
  refine (HC.out _ (Ext.alloc _ _)).mono ?_
  rintro e w1 ⟨rfl, hb⟩
  have D := fun o : Obj => ask_cells _ (hb.trans (Ext.alloc _ o))
  have hcy := fun o : Obj => ((Ext.alloc w _).trans (hb.trans (Ext.alloc _ o))).cell hbx hcx
  obtain ⟨d0, -⟩ := ask_cells _ hb
  have d1 := fun o => (D o).2.1
  have d4 := fun o => (D o).2.2.2.2.1
  have d0' := fun o => (D o).1
  have X1 := Lib.hid ((Ext.alloc _ _).trans hb)
  clear hb D
  go_wp2_with fail
  have hwv : IntKind.i64.wrap (v : Int) = (v : Int) := IntWalk.i64_in _ (by omega)
  go_region_with ((go_at_call 80
                   refine (first_two w _ 6 _ _ A v (by omega) (by omega) ((Own.first w1 _ X1.out.size 6 6 rfl).ext (Ext.drew' (Ext.alloc _ _))) (X1.out.trans ((Ext.alloc _ _).trans (Ext.drew' (Ext.alloc _ _)))) (heap_at _ _ _ (by simp)) (by omega)).mono ?_
                   rintro e w2 ⟨A', c', rfl, ho, hx, -⟩
                   have Ho := Lib.hid ho
                   have HX := Lib.hid hx
                   clear ho hx))
  all_goals
    go_wp2_with fail
    go_ret2
    exact RetU.of rfl Ho.out HX.out
end Go.Proofs.YtomcipkmohhpjaaGreat

namespace Go.Proofs.YtomcipkmohhpjaaGreat
set_option linter.unusedVariables false
set_option linter.unusedSimpArgs false
set_option maxRecDepth 100000
set_option maxHeartbeats 1000000
open Go Go.RowKit Go.Out

theorem askCoils (A n : Nat) (l : List Bool) (s : AskS) (w : World) (hr : AskRd w ⟨15, A, 0, l, [], []⟩ s) (h : checkF ⟨15, A, 0, l, [], []⟩ = 0) (hA : A ≤ 65535) (hl : l.length = n) (hn : n ≤ 1968) :
    Calls Tryz.prog 36 #[askV ⟨15, A, 0, l, [], []⟩ s] w (RetU w (15 :: (two A ++ (two n ++ UInt8.ofNat (need n) :: bitsF l))) 0) := by
  have HC := Lib.hid (askOk hr h)
  have h1 := hr.n1
  have hr1 := hr.on
  clear hr h
  obtain ⟨A1, n1, c1, A2, n2, c2, A3, n3, c3⟩ := s
  simp only [askV] at HC h1 hr1 ⊢
  obtain rfl : n = n1 := hl.symm.trans h1
  have Hr := Lib.hid hr1; have Hl := Lib.hid hl; clear hr1 hl h1
  have hnd : need n ≤ 246 := by unfold need; omega
  obtain ⟨N, hN⟩ : ∃ N, need n = N := ⟨_, rfl⟩
  rw [hN] at hnd ⊢
  have hN8 : (UInt8.ofNat N).toNat = N := by simp; omega
  have hcall := fun W (hX : Ext w W) => bits_any l A1 n c1 W (Hr.out.ext hX) (by omega)
  rw [hN] at hcall
  have HCALL := Lib.hid hcall
  clear hN hcall
  go_enter Tryz.func36, Tryz.ntmps36
  go_wp2_with fail
  refine (HC.out _ (Ext.alloc _ _)).mono ?_
  rintro e w1 ⟨rfl, hb⟩
  have D := fun o : Obj => ask_cells _ (hb.trans (Ext.alloc _ o))
  obtain ⟨d0, -⟩ := ask_cells _ hb
  have d1 := fun o => (D o).2.1
  have d3 := fun o => (D o).2.2.2.1
  have d0' := fun o => (D o).1
  have Hb := Lib.hid hb
  have X1 := Lib.hid ((Ext.alloc _ _).trans hb)
  clear hb D
  go_wp2_with fail
  refine (HCALL.out _ (X1.out.trans (Ext.alloc _ _))).mono ?_
  rintro e w2 ⟨A4, c4, rfl, ho4, hb4⟩
  have Ho4 := Lib.hid ho4
  clear d1 d3
  obtain ⟨-, d1, -, d3, d4, -⟩ := ask_cells _ (Hb.out.trans ((Ext.alloc _ _).trans hb4))
  have X2 := Lib.hid (X1.out.trans ((Ext.alloc _ _).trans hb4))
  have Hf := Lib.hid ((Own.first w1 _ X1.out.size 15 15 rfl).ext (Ext.of hb4))
  have Y2 := Lib.hid (Ext.of hb4)
  clear ho4 hb4 d0'
  go_wp2_with fail
  refine (first_two w _ 15 _ _ A n (by omega) (by omega) (Hf.out.ext (Ext.alloc _ _)) (X2.out.trans (Ext.alloc _ _)) (heap_at _ _ _ rfl) (by have := Y2.out.size; simp at this; omega)).mono ?_
  rintro e w3 ⟨A5, c5, rfl, ho, hx, hG⟩
  have hne : ∀ g, blk A4 = some g → blk (some (⟨w1.heap.size, 0, none⟩ : Addr)) ≠ some g := fun g hg e => by
    have h1 := (Ho4.out.lt g hg).1
    simp [blk] at h1 e
    omega
  have HO4 := Lib.hid (hG.own (Ho4.out.ext (Ext.alloc w2 (.cells #[.int .i64 (A : Int), .int .i64 (n : Int)] 3))) hne)
  have HN4 : Hid (∀ g, blk A4 = some g → blk A5 ≠ some g) := fun g hg => hG.ne (by have := (Ho4.out.lt g hg).2; simp; omega) (hne g hg)
  have Ho := Lib.hid ho; have X3 := Lib.hid hx; clear ho hx hG hne
  have Hlit : Hid ((#[.int .u8 (N : Int)] : Array Value).toList = [UInt8.ofNat N].map cB ++ []) := by show _ = _; simp only [List.map_cons, List.map_nil, cB, hN8, List.append_nil]
  clear hN8
  go_wp2_with (at_builtin; first
    | (refine app_u8 _ rfl (.tmp 58) (.tmp 62) rfl rfl (Ho.out.ext (Ext.alloc _ _)) rfl (Rd.of_heap (ys := []) (heap_alloc_new w3 _) Hlit.out rfl) isU8_map (by omega) (X3.out.trans (Ext.alloc _ _)).size ?_
       intro A6 c6 w4 hown hg hbk
       rw [← List.map_append] at hown
       have HG6 := Lib.hid (Grow.of_alloc hg hbk)
       have HO6 := Lib.hid hown
       have HR6 := Lib.hid (HG6.out.own HO4.out HN4.out)
       have X6 := Lib.hid (HG6.out.ext X3.out Ho.out)
       clear hown hg hbk)
    | (go_must (refine app_u8 _ rfl (.tmp 63) (.tmp 64) rfl rfl HO6.out rfl HR6.out.rd isU8_map (by omega) X6.out.size ?_)
       intro A7 c7 w5 hown hg hbk
       rw [← List.map_append] at hown
       have HO7 := Lib.hid hown
       have X7 := Lib.hid (X6.out.grown' hg (fun g hg => (HO6.out.lt g hg).1))
       clear hown hg hbk))
  go_ret2
  exact RetU.of (by simp) HO7.out X7.out
end Go.Proofs.YtomcipkmohhpjaaGreat

namespace Go.Proofs.YtomcipkmohhpjaaGreat
set_option linter.unusedVariables false
set_option linter.unusedSimpArgs false
set_option maxRecDepth 100000
set_option maxHeartbeats 1000000
open Go Go.RowKit Go.Out

theorem askRegs (A n : Nat) (l : List UInt16) (s : AskS) (w : World) (hr : AskRd w ⟨16, A, 0, [], l, []⟩ s) (h : checkF ⟨16, A, 0, [], l, []⟩ = 0) (hA : A ≤ 65535) (hl : l.length = n) (hn : n ≤ 123) :
    Calls Tryz.prog 36 #[askV ⟨16, A, 0, [], l, []⟩ s] w (RetU w (16 :: (two A ++ (two n ++ UInt8.ofNat (2 * n) :: wb l))) 0) := by
  have HC := Lib.hid (askOk hr h)
  have h1 := hr.n2
  have hr1 := hr.set
  clear hr h
  obtain ⟨A1, n1, c1, A2, n2, c2, A3, n3, c3⟩ := s
  simp only [askV] at HC h1 hr1 ⊢
  obtain rfl : n = n2 := hl.symm.trans h1
  have Hr := Lib.hid hr1; have Hl := Lib.hid hl; clear hr1 hl h1
  have hnd : 2 * n ≤ 246 := by omega
  obtain ⟨N, hN⟩ : ∃ N, 2 * n = N := ⟨_, rfl⟩
  rw [hN] at hnd ⊢
  have hN8 : (UInt8.ofNat N).toNat = N := by simp; omega
  have hcall := fun W (hX : Ext w W) => bytes_any l A2 n c2 W (Hr.out.ext hX) (by omega)
  rw [hN] at hcall
  have HCALL := Lib.hid hcall
  clear hN hcall
  go_enter Tryz.func36, Tryz.ntmps36
  go_wp2_with fail
  refine (HC.out _ (Ext.alloc _ _)).mono ?_
  rintro e w1 ⟨rfl, hb⟩
  have D := fun o : Obj => ask_cells _ (hb.trans (Ext.alloc _ o))
  obtain ⟨d0, -⟩ := ask_cells _ hb
  have d1 := fun o => (D o).2.1
  have d3 := fun o => (D o).2.2.2.2.1
  have d0' := fun o => (D o).1
  have Hb := Lib.hid hb
  have X1 := Lib.hid ((Ext.alloc _ _).trans hb)
  clear hb D
  go_wp2_with fail
  refine (HCALL.out _ (X1.out.trans (Ext.alloc _ _))).mono ?_
  rintro e w2 ⟨A4, c4, rfl, ho4, hb4⟩
  have Ho4 := Lib.hid ho4
  clear d1 d3
  obtain ⟨-, d1, -, d3, d4, -⟩ := ask_cells _ (Hb.out.trans ((Ext.alloc _ _).trans hb4))
  have X2 := Lib.hid (X1.out.trans ((Ext.alloc _ _).trans hb4))
  have Hf := Lib.hid ((Own.first w1 _ X1.out.size 16 16 rfl).ext (Ext.of hb4))
  have Y2 := Lib.hid (Ext.of hb4)
  clear ho4 hb4 d0'
  go_wp2_with fail
  refine (first_two w _ 16 _ _ A n (by omega) (by omega) (Hf.out.ext (Ext.alloc _ _)) (X2.out.trans (Ext.alloc _ _)) (heap_at _ _ _ rfl) (by have := Y2.out.size; simp at this; omega)).mono ?_
  rintro e w3 ⟨A5, c5, rfl, ho, hx, hG⟩
  have hne : ∀ g, blk A4 = some g → blk (some (⟨w1.heap.size, 0, none⟩ : Addr)) ≠ some g := fun g hg e => by
    have h1 := (Ho4.out.lt g hg).1
    simp [blk] at h1 e
    omega
  have HO4 := Lib.hid (hG.own (Ho4.out.ext (Ext.alloc w2 (.cells #[.int .i64 (A : Int), .int .i64 (n : Int)] 3))) hne)
  have HN4 : Hid (∀ g, blk A4 = some g → blk A5 ≠ some g) := fun g hg => hG.ne (by have := (Ho4.out.lt g hg).2; simp; omega) (hne g hg)
  have Ho := Lib.hid ho; have X3 := Lib.hid hx; clear ho hx hG hne
  have Hlit : Hid ((#[.int .u8 (N : Int)] : Array Value).toList = [UInt8.ofNat N].map cB ++ []) := by show _ = _; simp only [List.map_cons, List.map_nil, cB, hN8, List.append_nil]
  clear hN8
  go_wp2_with (at_builtin; first
    | (refine app_u8 _ rfl (.tmp 78) (.tmp 82) rfl rfl (Ho.out.ext (Ext.alloc _ _)) rfl (Rd.of_heap (ys := []) (heap_alloc_new w3 _) Hlit.out rfl) isU8_map (by omega) (X3.out.trans (Ext.alloc _ _)).size ?_
       intro A6 c6 w4 hown hg hbk
       rw [← List.map_append] at hown
       have HG6 := Lib.hid (Grow.of_alloc hg hbk)
       have HO6 := Lib.hid hown
       have HR6 := Lib.hid (HG6.out.own HO4.out HN4.out)
       have X6 := Lib.hid (HG6.out.ext X3.out Ho.out)
       clear hown hg hbk)
    | (go_must (refine app_u8 _ rfl (.tmp 83) (.tmp 84) rfl rfl HO6.out rfl HR6.out.rd isU8_map (by omega) X6.out.size ?_)
       intro A7 c7 w5 hown hg hbk
       rw [← List.map_append] at hown
       have HO7 := Lib.hid hown
       have X7 := Lib.hid (X6.out.grown' hg (fun g hg => (HO6.out.lt g hg).1))
       clear hown hg hbk))
  go_ret2
  exact RetU.of (by simp) HO7.out X7.out
end Go.Proofs.YtomcipkmohhpjaaGreat

namespace Go.Proofs.YtomcipkmohhpjaaGreat
set_option linter.unusedVariables false
set_option linter.unusedSimpArgs false
set_option maxRecDepth 100000
set_option maxHeartbeats 1000000
open Go Go.RowKit Go.Out

theorem part_nat {p : PartD} (h : ¬ badP p) : ∃ F R L : Nat, p.file = F ∧ p.record = R ∧ p.len = L ∧ F < 65536 ∧ R < 65536 ∧ L < 65536 := by
  unfold badP at h
  exact ⟨p.file.toNat, p.record.toNat, p.len.toNat, by omega, by omega, by omega, by omega, by omega, by omega⟩
theorem partsB_take {l : List PartD} {k : Nat} {p : PartD} (h : l[k]? = some p) : partsB (l.take (k + 1)) = partsB (l.take k) ++ partB p := by
  obtain ⟨hk, rfl⟩ := List.getElem?_eq_some_iff.1 h
  unfold partsB
  rw [List.take_succ_eq_append_getElem hk, List.flatMap_append]
  simp

theorem lt_of_cell {w : World} {q off : Nat} {v : Value} (h : w.cell? ⟨q, off, none⟩ = some v) : q < w.heap.size := by
  rcases Nat.lt_or_ge q w.heap.size with h1 | h1
  · exact h1
  · unfold World.cell? at h
    rw [Array.getElem?_eq_none (by simpa using h1)] at h
    cases h
theorem part_two (w V : World) (x y : UInt8) (pre : List UInt8) (F R L k : Nat) (hF : F < 65536) (hR : R < 65536) (hL : L < 65536) (A L' : Option Addr) (c cl : Nat) (hk : k ≤ 35) (ho : Own V w.heap.size 5 IsU8 A (2 + 7 * k + 1) c ((x :: y :: pre ++ [6]).map cB)) (hX : Ext w V)
    (hr : Rd V L' 3 ([F, R, L].map fun (v : Nat) => (Value.int .i64 (v : Int)))) (hne : ∀ g, blk L' = some g → blk A ≠ some g) :
    Calls Tryz.prog 80 #[.slice A (2 + 7 * k + 1) c, .slice L' 3 cl] V fun e w' => ∃ A8 c8, e = .returned (.slice A8 (2 + 7 * (k + 1)) c8) ∧ Own w' w.heap.size 5 IsU8 A8 (2 + 7 * (k + 1)) c8 ((x :: y :: (pre ++ 6 :: (two F ++ two R ++ two L))).map cB) ∧ Ext w w' ∧ Grow V w' A A8 := by
  have hlen := ho.len
  refine (two_any (x :: y :: pre ++ [6]) [F, R, L] _ 3 (by intro v hv; simp at hv; omega) rfl _ _ _ _ w.heap.size _ ho hX.size (by omega) (by omega) hr hne).mono ?_
  rintro e w' ⟨A8, c8, rfl, ho8, hG⟩
  have e1 : x :: y :: pre ++ [6] ++ [F, R, L].flatMap two = x :: y :: (pre ++ 6 :: (two F ++ two R ++ two L)) := by simp
  rw [e1] at ho8 ⊢
  have e2 : (x :: y :: (pre ++ 6 :: (two F ++ two R ++ two L))).length = 2 + 7 * (k + 1) := by simp [two] at hlen ⊢; omega
  rw [e2] at ho8 ⊢
  exact ⟨A8, c8, rfl, ho8, hG.ext hX ho, hG⟩

theorem askFile (l : List PartD) (s : AskS) (w : World) (hr : AskRd w ⟨20, 0, 0, [], [], l⟩ s) (h : checkF ⟨20, 0, 0, [], [], l⟩ = 0) (hl : l.length ≤ 35) (hp : partsF l = 0) :
    Calls Tryz.prog 36 #[askV ⟨20, 0, 0, [], [], l⟩ s] w (RetU w (20 :: UInt8.ofNat (7 * l.length) :: partsB l) 0) := by
  have HC := Lib.hid (askOk hr h)
  have h1 := hr.n3
  have hr1 := hr.parts
  have hgood : ∀ k p, l[k]? = some p → ¬ badP p := fun k p hk hb => by
    obtain ⟨hk', rfl⟩ := List.getElem?_eq_some_iff.1 hk
    rw [partsF_bad hk' hb] at hp
    cases hp
  clear hr h hp
  obtain ⟨A1, n1, c1, A2, n2, c2, A3, n3, c3⟩ := s
  simp only [askV] at HC h1 hr1 ⊢
  subst h1
  have Hr := Lib.hid hr1; have Hgood := Lib.hid hgood; clear hr1 hgood
  obtain ⟨n, hn⟩ : ∃ n, l.length = n := ⟨_, rfl⟩
  rw [hn] at HC Hr hl ⊢
  obtain ⟨N, hN⟩ : ∃ N, 7 * n = N := ⟨_, rfl⟩
  have hN8 : (UInt8.ofNat (7 * n)).toNat = 7 * n := by simp; omega
  have Hlen := Lib.hid hn; clear hn
  have hw7 : IntKind.i64.wrap (7 * (n : Int)) = 7 * (n : Int) := IntWalk.i64_in _ (by omega)
  have hw8 : IntKind.u8.wrap (7 * (n : Int)) = 7 * (n : Int) := by rw [IntKind.wrap_u8]; omega
  have Hlit : Hid ((#[.int .u8 (7 * (n : Int))] : Array Value).toList = [UInt8.ofNat (7 * n)].map cB ++ []) := by show _ = _; simp only [List.map_cons, List.map_nil, cB, hN8, List.append_nil]; rw [Int.natCast_mul]; rfl
  clear hN hN8
  go_enter Tryz.func36, Tryz.ntmps36
  go_wp2_with fail
  refine (HC.out _ (Ext.alloc _ _)).mono ?_
  rintro e w1 ⟨rfl, hb⟩
  have D := fun o : Obj => ask_cells _ (hb.trans (Ext.alloc _ o))
  obtain ⟨d0, -⟩ := ask_cells _ hb
  have d5 := fun o => (D o).2.2.2.2.2
  have d0' := fun o => (D o).1
  have Hb := Lib.hid hb
  have X1 := Lib.hid ((Ext.alloc _ _).trans hb)
  have Hf := Lib.hid (Own.first w1 _ X1.out.size 20 20 rfl)
  clear hb D
  go_wp2_with (at_builtin
               go_must (refine app_u8 _ rfl (.tmp 88) (.tmp 94) rfl rfl (Hf.out.ext (Ext.alloc _ _)) rfl (Rd.of_heap (ys := []) (heap_at _ _ _ (by simp)) Hlit.out rfl) isU8_map (by omega) (X1.out.trans ((Ext.alloc _ _).trans (Ext.alloc _ _))).size ?_)
               intro A6 c6 w2 hown hg hbk
               rw [← List.map_append] at hown
               have HO6 := Lib.hid hown
               have X2 := Lib.hid ((X1.out.trans ((Ext.alloc _ _).trans (Ext.alloc _ _))).grown' hg (fun g hg => (Hf.out.lt g hg).1))
               have Y2 : Hid (Ext (w.alloc (.cells #[.int .i64 20, .int .i64 0, .int .i64 0, .slice A1 n1 c1, .slice A2 n2 c2, .slice A3 n c3] 37)) w2) := (Hb.out.trans ((Ext.alloc _ _).trans (Ext.alloc _ _))).grown' hg (fun g hg => by simp [blk] at hg; subst hg; exact Hb.out.size)
               clear hown hg hbk d5 d0' d0 Hf
               have d5 := (ask_cells _ Y2.out).2.2.2.2.2)
  go_loopw [5, 10, 99] (fun b _ i wr => ∃ (k : Nat) (A5 : Option Addr) (c5 : Nat), k ≤ n ∧ b = .slice A5 (2 + 7 * k) c5 ∧ i = .int .i64 (k : Int) ∧ Hid (Own wr w.heap.size 5 IsU8 A5 (2 + 7 * k) c5 ((20 :: UInt8.ofNat (7 * n) :: partsB (l.take k)).map cB)) ∧ Ext w wr) (fun _ _ i _ => n - (intOf i).toNat)
  case atStart => exact ⟨0, A6, c6, Nat.zero_le _, rfl, rfl, by simpa [Hid, partsB] using HO6.out, X2.out⟩
  case round =>
    obtain ⟨k, A5, c5, hk, rfl, rfl, HO, hx⟩ := hrel
    rcases Nat.lt_or_ge k n with hlt | hge
    · obtain ⟨b1, o1, p, hp, rfl, hb1, e0, e1, e2, -⟩ := part_cells (Hr.out.ext hx) hlt
      obtain ⟨F, R, L, hF, hR, hL, hF6, hR6, hL6⟩ := part_nat (Hgood.out k p hp)
      rw [hF] at e0; rw [hR] at e1; rw [hL] at e2
      have hst := partsB_take hp
      rw [show partB p = 6 :: (two F ++ two R ++ two L) by unfold partB; rw [hF, hR, hL]; rfl] at hst
      have Hst := Lib.hid hst
      clear hst hF hR hL hp
      go_wp2_with fail
      have hq : blk A5 ≠ some wr.heap.size := fun e => by have := (HO.out.lt _ e).2; omega
      have hcs := heap_alloc_new wr (.cells #[.int .i64 (F : Int), .int .i64 (R : Int), .int .i64 (L : Int)] 107)
      have HO0 := Lib.hid (HO.out.ext (Ext.alloc wr (.cells #[.int .i64 (F : Int), .int .i64 (R : Int), .int .i64 (L : Int)] 107)))
      have HX0 := Lib.hid (hx.trans (Ext.alloc wr (.cells #[.int .i64 (F : Int), .int .i64 (R : Int), .int .i64 (L : Int)] 107)))
      generalize wr.alloc (.cells #[.int .i64 (F : Int), .int .i64 (R : Int), .int .i64 (L : Int)] 107) = W0 at *
      generalize wr.heap.size = q at *
      have c0 : W0.cell? ⟨q, 0, none⟩ = some (.int .i64 (F : Int)) := (cell_of_row _ _ _ _ _ _ hcs).trans rfl
      have c1' : W0.cell? ⟨q, 1, none⟩ = some (.int .i64 (R : Int)) := (cell_of_row _ _ _ _ _ _ hcs).trans rfl
      have c2' : W0.cell? ⟨q, 2, none⟩ = some (.int .i64 (L : Int)) := (cell_of_row _ _ _ _ _ _ hcs).trans rfl
      have hql : q < W0.heap.size := lt_of_heap hcs
      have Hq := Lib.hid hq
      clear hq hcs e0 e1 e2 hb1 HO hx
      have hqb := Lib.hid (fun g (hg : blk A5 = some g) => (HO0.out.lt g hg).2)
      clear HC Hb Y2 d5 Hlit Hgood hw7 hw8 Hlen HO6 X2 X1
      have H6 : Hid ((#[.int .u8 6] : Array Value).toList = ([6] : List UInt8).map cB ++ []) := rfl
      have H9 : Hid ((#[.int .i64 (F : Int), .int .i64 (R : Int), .int .i64 (L : Int)] : Array Value).toList = ([F, R, L].map fun (v : Nat) => (Value.int .i64 (v : Int))) ++ []) := rfl
      have Hv : Hid (∀ v ∈ [F, R, L], v < 65536) := by intro v hv; simp at hv; omega
      have HRA := Lib.hid (show Rd (W0.alloc (.cells #[.int .u8 6] 5)).drew (some ⟨W0.heap.size, 0, none⟩) 1 (([6] : List UInt8).map cB) from Rd.of_heap (ys := []) (heap_alloc_new W0 (.cells #[.int .u8 6] 5)) rfl rfl)
      have HRB := Lib.hid (show Rd ((W0.alloc (.cells #[.int .u8 6] 5)).alloc (.cells #[.int .i64 (F : Int), .int .i64 (R : Int), .int .i64 (L : Int)] 3)).drew (some ⟨W0.heap.size, 0, none⟩) 1 (([6] : List UInt8).map cB) from Rd.of_heap (ys := []) ((Ext.alloc _ _).block (heap_alloc_new W0 (.cells #[.int .u8 6] 5))) rfl rfl)
      have HRC := Lib.hid (show Rd ((W0.alloc (.cells #[.int .i64 (F : Int), .int .i64 (R : Int), .int .i64 (L : Int)] 3)).alloc (.cells #[.int .u8 6] 5)).drew (some ⟨W0.heap.size + 1, 0, none⟩) 1 (([6] : List UInt8).map cB) from Rd.of_heap (ys := []) (heap_at (W0.alloc (.cells #[.int .i64 (F : Int), .int .i64 (R : Int), .int .i64 (L : Int)] 3)) (.cells #[.int .u8 6] 5) _ (by simp)) rfl rfl)
      have HLB := Lib.hid (show ((W0.alloc (.cells #[.int .u8 6] 5)).alloc (.cells #[.int .i64 (F : Int), .int .i64 (R : Int), .int .i64 (L : Int)] 3)).drew.heap[W0.heap.size + 1]? = some (.cells #[.int .i64 (F : Int), .int .i64 (R : Int), .int .i64 (L : Int)] 3) from heap_at (W0.alloc (.cells #[.int .u8 6] 5)) (.cells #[.int .i64 (F : Int), .int .i64 (R : Int), .int .i64 (L : Int)] 3) _ (by simp))
      have HLC := Lib.hid (show ((W0.alloc (.cells #[.int .i64 (F : Int), .int .i64 (R : Int), .int .i64 (L : Int)] 3)).alloc (.cells #[.int .u8 6] 5)).drew.heap[W0.heap.size]? = some (.cells #[.int .i64 (F : Int), .int .i64 (R : Int), .int .i64 (L : Int)] 3) from (Ext.alloc _ _).block (heap_alloc_new W0 (.cells #[.int .i64 (F : Int), .int .i64 (R : Int), .int .i64 (L : Int)] 3)))
      have hr9 : ∀ (V : World) (g : Nat), V.heap[g]? = some (.cells #[.int .i64 (F : Int), .int .i64 (R : Int), .int .i64 (L : Int)] 3) → Rd V (some ⟨g, 0, none⟩) 3 ([F, R, L].map fun (v : Nat) => (Value.int .i64 (v : Int))) := fun V g h => Rd.of_heap (ys := []) h rfl rfl
      have HR9 := Lib.hid hr9
      clear hr9
      go_region_held3 (fun w' => w'.cell? ⟨q, 0, none⟩ = some (.int .i64 (F : Int)) ∧ w'.cell? ⟨q, 1, none⟩ = some (.int .i64 (R : Int)) ∧ w'.cell? ⟨q, 2, none⟩ = some (.int .i64 (L : Int))) (go_keep) ((first
        | (refine step_u8 (base := w.heap.size) rfl (.tmp 103) (.tmp 104) rfl rfl (HO0.out.ext (by first | with_reducible exact Ext.drew' (Ext.alloc _ _) | with_reducible exact Ext.drew' ((Ext.alloc _ _).trans (Ext.alloc _ _)))) rfl (by first | with_reducible exact HRA.out | with_reducible exact HRB.out | with_reducible exact HRC.out) isU8_map (by omega) (Nat.le_trans HX0.out.size (Ext.size (by first | with_reducible exact Ext.drew' (Ext.alloc _ _) | with_reducible exact Ext.drew' ((Ext.alloc _ _).trans (Ext.alloc _ _))))) ?_
           intro A7 c7 w3 hown hg hbk
           rw [← List.map_append] at hown
           have hblk : w3.heap[q]? = W0.heap[q]? := (hg.block q (Nat.lt_of_lt_of_le hql (Ext.size (by first | with_reducible exact Ext.drew' (Ext.alloc _ _) | with_reducible exact Ext.drew' ((Ext.alloc _ _).trans (Ext.alloc _ _))))) (fun e => Hq.out e.symm)).trans ((Ext.below (by first | with_reducible exact Ext.drew' (Ext.alloc _ _) | with_reducible exact Ext.drew' ((Ext.alloc _ _).trans (Ext.alloc _ _)))).block q hql)
           have k0 := (World.cell?_of_block (a := ⟨q, 0, none⟩) hblk).trans c0
           have k1 := (World.cell?_of_block (a := ⟨q, 1, none⟩) hblk).trans c1'
           have k2 := (World.cell?_of_block (a := ⟨q, 2, none⟩) hblk).trans c2'
           have HX3 := Lib.hid ((HX0.out.trans (by first | with_reducible exact Ext.drew' (Ext.alloc _ _) | with_reducible exact Ext.drew' ((Ext.alloc _ _).trans (Ext.alloc _ _)))).grown' hg (fun g hg => (HO0.out.lt g hg).1))
           have HO3 := Lib.hid hown
           have HNq : Hid (blk A7 ≠ some q) := fun e => by
             rcases hbk with h | h
             · exact Hq.out (h ▸ e)
             · exact Nat.ne_of_gt (Nat.lt_of_lt_of_le hql (Ext.size (by first | with_reducible exact Ext.drew' (Ext.alloc _ _) | with_reducible exact Ext.drew' ((Ext.alloc _ _).trans (Ext.alloc _ _))))) (Option.some.inj (h.symm.trans e))
           first
             | (have HL3 := Lib.hid ((hg.block (W0.heap.size + 1) (by simp) (fun e => by have := hqb.out _ e.symm; omega)).trans (by with_reducible exact HLB.out))
                have HN3 : Hid (blk A7 ≠ some (W0.heap.size + 1)) := fun e => by
                  rcases hbk with h | h
                  · rw [h] at e; have := hqb.out _ e; omega
                  · rw [h] at e; simp at e)
             | (have HL3 := Lib.hid ((hg.block W0.heap.size (by simp <;> omega) (fun e => by have := hqb.out _ e.symm; omega)).trans (by with_reducible exact HLC.out))
                have HN3 : Hid (blk A7 ≠ some W0.heap.size) := fun e => by
                  rcases hbk with h | h
                  · rw [h] at e; have := hqb.out _ e; omega
                  · rw [h] at e; simp at e; try omega)
             | skip
           clear hown hg hbk hblk)
        | (go_at_call 80
           first
             | refine (part_two w _ 20 _ _ F R L k hF6 hR6 hL6 _ _ _ _ (by omega) HO3.out HX3.out (HR9.out _ _ HL3.out) (fun g hg e => HN3.out (by simp only [blk, Option.map_some] at hg; rw [hg]; exact e))).mono ?_
             | refine (part_two w _ 20 _ _ F R L k hF6 hR6 hL6 _ _ _ _ (by omega) (HO3.out.ext (Ext.alloc _ _)) (HX3.out.trans (Ext.alloc _ _)) (HR9.out _ _ (heap_alloc_new w3 _)) (fun g hg e => by have := (HO3.out.lt g e).2; simp only [blk, Option.map_some, Option.some.injEq] at hg; omega)).mono ?_
           rintro e w4 ⟨A8, c8, rfl, ho8, hx8, hG8⟩
           have hblk : w4.heap[q]? = w3.heap[q]? := by
             first
               | exact hG8.1.block q (lt_of_cell k0) (fun e => HNq.out e.symm)
               | exact (hG8.1.block q (Nat.lt_of_lt_of_le (lt_of_cell k0) (Ext.alloc _ _).size) (fun e => HNq.out e.symm)).trans ((Ext.alloc w3 _).below.block q (lt_of_cell k0))
           have l0 := (World.cell?_of_block (a := ⟨q, 0, none⟩) hblk).trans k0
           have l1 := (World.cell?_of_block (a := ⟨q, 1, none⟩) hblk).trans k1
           have l2 := (World.cell?_of_block (a := ⟨q, 2, none⟩) hblk).trans k2
           have HO8 := Lib.hid ho8; have HX8 := Lib.hid hx8
           clear ho8 hx8 hG8 hblk)))
      all_goals
        go_wp2_with fail
        go_roundw
        case rel => exact ⟨k + 1, A8, c8, by omega, rfl, by go_num, by rw [Hst.out]; exact HO8, HX8.out⟩
        case measure => simp [intOf]; omega
    · obtain rfl : n = k := by omega
      go_wp2_with fail
      go_ret2
      have ho := HO.out
      rw [List.take_of_length_le (by have := Hlen.out; omega)] at ho
      exact RetU.of rfl ho hx
end Go.Proofs.YtomcipkmohhpjaaGreat

namespace Go.Proofs.YtomcipkmohhpjaaGreat
set_option linter.unusedVariables false
set_option linter.unusedSimpArgs false
open Go Go.RowKit Go.Out

theorem askPut_any (a : AskD) (s : AskS) (w : World) (hr : AskRd w a s) : Calls Tryz.prog 36 #[askV a s] w (RetU w (putA a).1 (putA a).2) := by
  by_cases h : checkF a = 0
  · rw [putA_ok h]
    rcases Go.Out.ask_cases h with ⟨c, A, n, h1, h4, hA, h1n, hn, rfl⟩ | ⟨A, x, hA, rfl⟩ | ⟨A, v, hA, rfl⟩ | ⟨A, l, hA, h1l, hl, rfl⟩ | ⟨A, l, hA, h1l, hl, rfl⟩ | ⟨l, h1l, hl, hp, rfl⟩
    · have e : bodyF ⟨c, A, n, [], [], []⟩ = two A ++ two n := by
        unfold bodyF
        rw [if_neg (by simp; omega), if_neg (by simp; omega), if_neg (by simp; omega), if_neg (by simp; omega), if_neg (by simp; omega)]
        simp
      rw [e]
      exact askCnt c A n s w hr h h1 h4 hA hn
    · exact askCoil A x s w hr h hA
    · exact askReg A v s w hr h hA
    · exact askCoils A _ l s w hr h hA rfl hl
    · exact askRegs A _ l s w hr h hA rfl hl
    · exact askFile l s w hr h hl hp
  · rw [putA_no h]
    exact askNo a s w hr h
end Go.Proofs.YtomcipkmohhpjaaGreat

namespace Go.Out
open Go Go.RowKit
set_option linter.unusedVariables false

structure MasD where
  timeout : Nat
  retries : Nat
  under : Bool
  unit : Nat
  tries : Nat
  last : Nat
  ask : AskD
  frame : List UInt8
structure OutD where
  what : Int
  rep : RepD
  tries : Nat
def askZ : AskD := ⟨0, 0, 0, [], [], []⟩
def out0 : OutD := ⟨0, rep0, 0⟩
def newE (t r : Int) : Int := if t < 1 ∨ 1048576 < t ∨ r < 0 ∨ 5 < r then 3 else 0
def newM (t r : Nat) : MasD := ⟨t, r, false, 0, 0, 0, askZ, []⟩
def startE (d : MasD) (now unit : Int) (a : AskD) : Int :=
  if d.under = true then 11 else if unit < 1 ∨ 247 < unit then 24 else if checkF a ≠ 0 then checkF a else if now < 0 ∨ 1099511627776 < now then 3 else 0
def frameF (unit : Int) (a : AskD) : List UInt8 := (rtuF (UInt8.ofNat unit.toNat) (putA a).1).1
def startM (d : MasD) (now unit : Int) (a : AskD) : MasD := if startE d now unit a = 0 then ⟨d.timeout, d.retries, true, unit.toNat, 1, now.toNat, a, frameF unit a⟩ else d
def startB (d : MasD) (now unit : Int) (a : AskD) : List UInt8 := if startE d now unit a = 0 then frameF unit a else []
def hearsB (d : MasD) (b : List UInt8) : Bool := d.under && decide ((openRtuF b).2.2 = 0) && decide ((openRtuF b).1.toNat = d.unit) && decide ((getR d.ask (openRtuF b).2.1).2 = 0)
def hearM (d : MasD) (b : List UInt8) : MasD := if hearsB d b = true then { d with under := false } else d
def hearO (d : MasD) (b : List UInt8) : OutD := if hearsB d b = true then ⟨if (getR d.ask (openRtuF b).2.1).1.exc ≠ 0 then 2 else 1, (getR d.ask (openRtuF b).2.1).1, d.tries⟩ else out0
/-- What time does: 0: nothing; 1: the frame once more; 2: it is given up. -/
def tickK (d : MasD) (now : Int) : Nat := if d.under = false ∨ now < 0 ∨ 1099511627776 < now ∨ now < d.last + d.timeout then 0 else if d.retries < d.tries then 2 else 1
def tickM (d : MasD) (now : Int) : MasD := if tickK d now = 0 then d else if tickK d now = 2 then { d with under := false } else { d with tries := d.tries + 1, last := now.toNat }
def tickB (d : MasD) (now : Int) : List UInt8 := if tickK d now = 1 then d.frame else []
def tickO (d : MasD) (now : Int) : OutD := if tickK d now = 2 then ⟨3, rep0, d.tries⟩ else out0
structure MasOk (d : MasD) : Prop where
  t : 1 ≤ d.timeout ∧ d.timeout ≤ 1048576
  r : d.retries ≤ 5
  u : d.under = true → 1 ≤ d.tries ∧ 1 ≤ d.unit
  tr : d.tries ≤ d.retries + 1
  l : d.last ≤ 1099511627776
  un : d.unit ≤ 247
  a : 1 ≤ d.unit → checkF d.ask = 0
  f : d.frame.length ≤ 256
theorem newM_ok {t r : Nat} (h : newE t r = 0) : MasOk (newM t r) := by
  unfold newE at h
  split at h
  · cases h
  · rename_i h0
    exact ⟨show 1 ≤ t ∧ t ≤ 1048576 by omega, show r ≤ 5 by omega, fun e => absurd e (by simp [newM]), Nat.zero_le _, Nat.zero_le _, Nat.zero_le _, fun e => absurd e (by simp [newM]), Nat.zero_le _⟩
theorem startE_zero {d : MasD} {now unit : Int} {a : AskD} (h : startE d now unit a = 0) : d.under = false ∧ (1 ≤ unit ∧ unit ≤ 247) ∧ checkF a = 0 ∧ 0 ≤ now ∧ now ≤ 1099511627776 := by
  unfold startE at h
  split at h
  · cases h
  · rename_i h1
    split at h
    · cases h
    · split at h
      · rename_i h2; exact absurd h h2
      · rename_i h2
        split at h
        · cases h
        · exact ⟨by simpa using h1, by omega, Classical.not_not.1 h2, by omega, by omega⟩
theorem frameF_len {unit : Int} {a : AskD} (h : 1 ≤ unit ∧ unit ≤ 247) (hk : checkF a = 0) : (frameF unit a).length ≤ 256 ∧ (rtuF (UInt8.ofNat unit.toNat) (putA a).1).2 = 0 ∧ openRtuF (frameF unit a) = (UInt8.ofNat unit.toNat, (putA a).1, 0) := by
  have hn : (UInt8.ofNat unit.toNat).toNat = unit.toNat := toNat_ofNat8 (by omega)
  obtain ⟨g1, g2, g3⟩ := getA_put hk
  have hr : (rtuF (UInt8.ofNat unit.toNat) (putA a).1).2 = 0 := rtu_fits.2 (by rw [hn]; omega)
  obtain ⟨o1, o2⟩ := openRtu_rtu hr
  exact ⟨by have := o2.1; unfold frameF; omega, hr, o1⟩
end Go.Out

namespace Go.Proofs.YtomcipkmohhpjaaGreat
set_option linter.unusedVariables false
set_option linter.unusedSimpArgs false
set_option maxRecDepth 100000
set_option maxHeartbeats 1000000
open Go Go.RowKit Go.Out

/-- The blocks of F are there, and as they were. -/
def Agr (F : Nat → Prop) (w W : World) : Prop := w.heap.size ≤ W.heap.size ∧ ∀ k, F k → W.heap[k]? = w.heap[k]?
theorem Agr.trans {F : Nat → Prop} {w W V : World} (h : Agr F w W) (k : Agr F W V) : Agr F w V := ⟨Nat.le_trans h.1 k.1, fun g hg => (k.2 g hg).trans (h.2 g hg)⟩
theorem ownsRow_agr {w W : World} {base n size : Nat} {e : TypeId} {v : Value} {xs : List Value} (h : w.ownsRow base e size v n xs) (hk : ∀ k, base ≤ k → k < w.heap.size → W.heap[k]? = w.heap[k]?) : W.ownsRow base e size v n xs := by
  refine ⟨h.1, ?_⟩
  rcases h.2 with h2 | ⟨g, cap, cur, hv, hb, hg, r⟩
  · exact .inl h2
  · exact .inr ⟨g, cap, cur, hv, hb, (hk g hb (lt_of_heap hg)).trans hg, r⟩
theorem Own.agr {w W : World} {base : Nat} {e : TypeId} {q : Value → Prop} {A : Option Addr} {n c : Nat} {xs : List Value} (h : Own w base e q A n c xs) (hk : ∀ k, base ≤ k → k < w.heap.size → W.heap[k]? = w.heap[k]?) : Own W base e q A n c xs :=
  Own.kept h fun g hg => hk g (Own.lt h g hg).1 (Own.lt h g hg).2
theorem OwP.agr {w W : World} {base : Nat} {v : Value} {l : List PartD} (h : OwP w base v l) (hk : ∀ k, base ≤ k → k < w.heap.size → W.heap[k]? = w.heap[k]?) : OwP W base v l := by
  obtain ⟨⟨xs, h1, h2⟩, h3⟩ := h
  exact ⟨⟨xs, ownsRow_agr h1 hk, h2.mono fun cs x hr => hr⟩, h3.kept fun g hg => hk g (h1.lt g hg).1 (h1.lt g hg).2⟩
theorem AskOw.agr {w W : World} {base : Nat} {a : AskD} {s : AskS} (h : AskOw w base a s) (hk : ∀ k, base ≤ k → k < w.heap.size → W.heap[k]? = w.heap[k]?) : AskOw W base a s :=
  ⟨Own.agr h.on hk, Own.agr h.set hk, h.parts.agr hk, h.code, h.addr, h.count⟩

def busyN (d : MasD) : Nat := if d.under = true then d.tries else 0
def masRow (d : MasD) (s : AskS) (A : Option Addr) (n c : Nat) : Obj :=
  .cells #[.int .i64 (d.timeout : Int), .int .i64 (d.retries : Int), .int .i64 (busyN d : Int), .int .i64 (d.last : Int), .int .i64 (d.unit : Int), .int .i64 d.ask.code, .int .i64 d.ask.addr, .int .i64 d.ask.count, .slice s.A1 s.n1 s.c1, .slice s.A2 s.n2 s.c2, .slice s.A3 s.n3 s.c3, .slice A n c] 64 (0, 0)
/-- A master lies at p; all that belongs to it lies in F. -/
def MasAt (w : World) (p : Nat) (F : Nat → Prop) (d : MasD) : Prop :=
  ∃ s A n c, w.heap[p]? = some (masRow d s A n c) ∧ (∀ W, Agr (fun k => F k ∧ k ≠ p) w W → AskRd W d.ask s ∧ Rd W A n (d.frame.map cB)) ∧ n ≤ c ∧ c ≤ 9223372036854775807 ∧ F p ∧ ∀ k, F k → k < w.heap.size
section
variable {w w' : World} {F G : Nat → Prop} {p : Nat} {d : MasD}
theorem MasAt.lt (h : MasAt w p F d) : ∀ k, F k → k < w.heap.size := by obtain ⟨s, A, n, c, -, -, -, -, -, h⟩ := h; exact h
theorem MasAt.foot (h : MasAt w p F d) : F p := by obtain ⟨s, A, n, c, -, -, -, -, h, -⟩ := h; exact h
theorem MasAt.keep (h : MasAt w p F d) (hk : ∀ k, F k → w'.heap[k]? = w.heap[k]?) (hs : w.heap.size ≤ w'.heap.size) : MasAt w' p F d := by
  obtain ⟨s, A, n, c, h1, h2, h3, h4, h5, h6⟩ := h
  exact ⟨s, A, n, c, (hk p h5).trans h1, fun W hW => h2 W (Agr.trans ⟨hs, fun k q => hk k q.1⟩ hW), h3, h4, h5, fun k q => Nat.lt_of_lt_of_le (h6 k q) hs⟩
theorem MasAt.only (h : MasAt w p F d) (ho : Only G w w') (hd : ∀ k, F k → ¬ G k) : MasAt w' p F d := h.keep (fun k q => ho.block k (h.lt k q) (hd k q)) ho.size
theorem MasAt.ext (h : MasAt w p F d) (hx : Ext w w') : MasAt w' p F d := h.keep (fun k q => Below.block hx k (h.lt k q)) hx.size
end
def pM (p : Nat) : Value := .pointer (some ⟨p, 0, none⟩)
theorem cells12 {W : World} {g : Nat} {t : TypeId} {v0 v1 v2 v3 v4 v5 v6 v7 v8 v9 v10 v11 : Value} (h : W.heap[g]? = some (.cells #[v0, v1, v2, v3, v4, v5, v6, v7, v8, v9, v10, v11] t (0, 0))) :
    W.cell? ⟨g, 0, none⟩ = some v0 ∧ W.cell? ⟨g, 1, none⟩ = some v1 ∧ W.cell? ⟨g, 2, none⟩ = some v2 ∧ W.cell? ⟨g, 3, none⟩ = some v3 ∧ W.cell? ⟨g, 4, none⟩ = some v4 ∧ W.cell? ⟨g, 5, none⟩ = some v5 ∧ W.cell? ⟨g, 6, none⟩ = some v6 ∧ W.cell? ⟨g, 7, none⟩ = some v7 ∧ W.cell? ⟨g, 8, none⟩ = some v8 ∧ W.cell? ⟨g, 9, none⟩ = some v9 ∧ W.cell? ⟨g, 10, none⟩ = some v10 ∧ W.cell? ⟨g, 11, none⟩ = some v11 :=
  ⟨(cell_of_row _ _ _ _ _ _ h).trans rfl, (cell_of_row _ _ _ _ _ _ h).trans rfl, (cell_of_row _ _ _ _ _ _ h).trans rfl, (cell_of_row _ _ _ _ _ _ h).trans rfl, (cell_of_row _ _ _ _ _ _ h).trans rfl, (cell_of_row _ _ _ _ _ _ h).trans rfl, (cell_of_row _ _ _ _ _ _ h).trans rfl, (cell_of_row _ _ _ _ _ _ h).trans rfl, (cell_of_row _ _ _ _ _ _ h).trans rfl, (cell_of_row _ _ _ _ _ _ h).trans rfl, (cell_of_row _ _ _ _ _ _ h).trans rfl, (cell_of_row _ _ _ _ _ _ h).trans rfl⟩
theorem askZ_rd (W : World) : AskRd W askZ ⟨none, 0, 0, none, 0, 0, none, 0, 0⟩ := ⟨Rd.nil_ _, Rd.nil_ _, RdL.nil_ _ _ _, by unfold i64P askZ; simp, by unfold i64P askZ; simp, by unfold i64P askZ; simp, ⟨Nat.le_refl _, Nat.zero_le _⟩, ⟨Nat.le_refl _, Nat.zero_le _⟩, ⟨Nat.le_refl _, Nat.zero_le _⟩⟩

/-- What New hands back. -/
def RetNewM (At : World → Nat → (Nat → Prop) → MasD → Prop) (w : World) (d : MasD) (e : Ending) (w' : World) : Prop := ∃ p F, e = .returned (.tuple #[pM p, .int .i64 0]) ∧ At w' p F d ∧ Ext w w' ∧ ∀ k, F k → w.heap.size ≤ k
theorem mas_new (t r : Nat) (h : newE t r = 0) (w : World) : Calls Tryz.prog 7 #[.int .i64 (t : Int), .int .i64 (r : Int)] w (RetNewM MasAt w (newM t r)) := by
  have hh : (1 : Int) ≤ (t : Int) ∧ (t : Int) ≤ 1048576 ∧ (r : Int) ≤ 5 := by
    unfold newE at h
    split at h
    · cases h
    · omega
  obtain ⟨h1, h2, h3⟩ := hh
  have h4 : ¬ (t : Int) < 1 := by omega
  have h5 : ¬ (1048576 : Int) < (t : Int) := by omega
  have h6 : ¬ (r : Int) < 0 := by omega
  have h7 : ¬ (5 : Int) < (r : Int) := by omega
  clear h
  go_enter Tryz.func7, Tryz.ntmps7
  go_wp2_with fail
  go_ret2
  exact ⟨w.heap.size, fun k => k = w.heap.size, rfl, ⟨⟨none, 0, 0, none, 0, 0, none, 0, 0⟩, none, 0, 0, heap_alloc_new _ _, fun W _ => ⟨askZ_rd W, Rd.nil_ _⟩, Nat.le_refl _, Nat.zero_le _, rfl, fun k hk => by rw [hk]; simp⟩, Ext.alloc _ _, fun k hk => by rw [hk]; exact Nat.le_refl _⟩
theorem mas_newNo (t r : Int) (h : newE t r ≠ 0) (w : World) : Calls Tryz.prog 7 #[.int .i64 t, .int .i64 r] w (fun e w' => e = .returned (.tuple #[.pointer none, .int .i64 3]) ∧ w = w') := by
  have hh : t < 1 ∨ (¬ t < 1 ∧ 1048576 < t) ∨ (¬ t < 1 ∧ ¬ 1048576 < t ∧ r < 0) ∨ (¬ t < 1 ∧ ¬ 1048576 < t ∧ ¬ r < 0 ∧ 5 < r) := by
    unfold newE at h
    split at h
    · omega
    · exact absurd rfl h
  clear h
  go_enter Tryz.func7, Tryz.ntmps7
  rcases hh with h1 | ⟨h1, h2⟩ | ⟨h1, h2, h3⟩ | ⟨h1, h2, h3, h4⟩
  all_goals
    go_wp2_with fail
    go_ret2
    exact ⟨rfl, rfl⟩
theorem mas_busy (p : Nat) (F : Nat → Prop) (d : MasD) (w : World) (h : MasAt w p F d) (hok : MasOk d) : Calls Tryz.prog 10 #[pM p] w (fun e w' => e = .returned (.bool d.under) ∧ w = w') := by
  obtain ⟨s, A, n, c, h1, -⟩ := h
  unfold masRow at h1
  obtain ⟨-, -, c2, -⟩ := cells12 h1
  have hb : decide ((0 : Int) < (busyN d : Int)) = d.under := by
    unfold busyN
    rcases hu : d.under with _ | _
    · simp
    · have := (hok.u hu).1
      simp; omega
  clear h1 hok
  generalize busyN d = N at *
  generalize d.under = u at *
  have hb2 : (0 : Int) < (N : Int) ↔ u = true := by rw [← hb]; simp
  unfold pM
  cases u
  · have h0 : ¬ (0 : Int) < (N : Int) := by simpa using hb2
    clear hb hb2
    go_enter Tryz.func10, Tryz.ntmps10
    go_wp2_with fail
    go_ret
    exact ⟨by simpa using h0, rfl⟩
  · have h0 : (0 : Int) < (N : Int) := by simpa using hb2
    clear hb hb2
    go_enter Tryz.func10, Tryz.ntmps10
    go_wp2_with fail
    go_ret
    exact ⟨by simpa using h0, rfl⟩
theorem mas_timely (now : Int) (w : World) : Calls Tryz.prog 37 #[.int .i64 now] w (fun e w' => e = .returned (.bool (decide (0 ≤ now ∧ now ≤ 1099511627776))) ∧ w = w') := by
  by_cases h1 : 0 ≤ now
  · by_cases h2 : now ≤ 1099511627776
    · rw [decide_eq_true (show 0 ≤ now ∧ now ≤ 1099511627776 from ⟨h1, h2⟩)]
      go_enter Tryz.func37, Tryz.ntmps37
      go_wp2_with fail
      go_ret
      exact ⟨rfl, rfl⟩
    · rw [decide_eq_false (show ¬ (0 ≤ now ∧ now ≤ 1099511627776) from fun h => h2 h.2)]
      go_enter Tryz.func37, Tryz.ntmps37
      go_wp2_with fail
      go_ret
      exact ⟨rfl, rfl⟩
  · rw [decide_eq_false (show ¬ (0 ≤ now ∧ now ≤ 1099511627776) from fun h => h1 h.1)]
    go_enter Tryz.func37, Tryz.ntmps37
    go_wp2_with fail
    go_ret
    exact ⟨rfl, rfl⟩
theorem sclone_any (l : List UInt8) (A : Option Addr) (n c : Nat) (w : World) (hr : Rd w A n (l.map cB)) (hn : n ≤ 1000000) : Calls Tryz.prog 39 #[.slice A n c] w (fun e w' => ∃ A' n' c', e = .returned (.slice A' n' c') ∧ Own w' w.heap.size 5 IsU8 A' n' c' (l.map cB) ∧ Ext w w') := by
  have HR := Lib.hid hr
  have hnil := fun (W : World) (a : Option Addr) (n c : Nat) => Lib.run_eql_slice_nil (P := Tryz.prog) W 41 5 a n c 0 0 Tryz.underlying41
  clear hr
  rcases A with _ | a
  · have h0 : n = 0 := by
      rcases Nat.eq_zero_or_pos n with h | h
      · exact h
      · obtain ⟨b, off, e, -⟩ := HR.out.2 h; cases e
    subst h0
    have hl : l = [] := List.eq_nil_of_length_eq_zero HR.out.length
    subst hl
    go_enter Tryz.func39, Tryz.ntmps39
    go_wp2_with fail
    go_ret
    exact ⟨none, 0, 0, rfl, Own.nil_ _ _ _ _, Ext.refl _⟩
  · have HE0 : Hid (Own (w.alloc (.cells #[] 5)) w.heap.size 5 IsU8 (some ⟨w.heap.size, 0, none⟩) 0 0 []) := by
      have := Own.new w (Nat.le_refl _) 5 (#[] : Array Value) 0 (Nat.le_refl _) (by simp) (p := IsU8) (by simp)
      exact this
    go_enter Tryz.func39, Tryz.ntmps39
    go_wp2_with (at_builtin
                 go_must (refine app_u8 (base := w.heap.size) _ rfl (.tmp 5) (.tmp 6) rfl rfl HE0.out rfl (HR.out.ext (Ext.alloc _ _)) isU8_map (by omega) (by simp) ?_)
                 intro A2 c2 w2 hown hg hbk
                 rw [Nat.zero_add, List.nil_append] at hown
                 have HO := Lib.hid hown
                 have X2 := Lib.hid ((Ext.alloc w (.cells #[] 5)).grown' hg (fun g hg => (HE0.out.lt g hg).1))
                 clear hown hg hbk)
    go_wp2_with fail
    go_ret
    exact ⟨A2, _, c2, rfl, HO.out, X2.out⟩
end Go.Proofs.YtomcipkmohhpjaaGreat
