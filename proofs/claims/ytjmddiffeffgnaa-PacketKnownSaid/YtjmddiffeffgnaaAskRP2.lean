/- Contracts of the requests: the reference's PDU of a request: registers, parts of files. -/
import Derived.Test.YtjmddiffeffgnaaAskRP
import Derived.Test.YtjmddiffeffgnaaAskP5
namespace Go.Proofs.Ytjmddiffeffgnaa
set_option linter.unusedVariables false
set_option linter.unusedSimpArgs false
set_option maxRecDepth 100000
set_option maxHeartbeats 1000000
open Go Go.RowKit Go.Out

theorem ref_two1 (w V : World) (o : Obj) (xs : List UInt8) (v n : Nat) (A : Option Addr) (c : Nat) (hv : v < 65536) (hn : n ≤ 1000000) (ho : Own V (w.heap.size + 1) 5 IsU8 A n c (xs.map cB)) (hX : Ext (w.alloc o) V) :
    Calls Try.prog 126 #[.slice A n c, .int .i64 (v : Int)] V fun e w' => ∃ A' c', e = .returned (.slice A' (n + 2) c') ∧ Own w' (w.heap.size + 1) 5 IsU8 A' (n + 2) c' ((xs ++ two v).map cB) ∧ Ext (w.alloc o) w' ∧ Grow V w' A A' := by
  have e : (w.alloc o).heap.size = w.heap.size + 1 := by simp
  have h := ref_two (w.alloc o) V xs v n A c hv hn (by rw [e]; exact ho) hX
  rw [e] at h; exact h
theorem RetU.up1 {w w' : World} {o : Obj} {xs xs' : List UInt8} {A : Option Addr} {n c : Nat} (h : xs' = xs) (ho : Own w' (w.heap.size + 1) 5 IsU8 A n c (xs'.map cB)) (hx : Ext (w.alloc o) w') : RetU w xs 0 (.returned (.tuple #[.slice A n c, .int .i64 0])) w' :=
  ⟨A, n, c, rfl, h ▸ ho.mono (by omega), (Ext.alloc _ _).trans hx⟩

theorem refRegs (A n : Nat) (l : List UInt16) (s : AskS) (w : World) (hr : AskRd w ⟨16, A, 0, [], l, []⟩ s) (h : checkF ⟨16, A, 0, [], l, []⟩ = 0) (hA : A ≤ 65535) (hl : l.length = n) (hn : n ≤ 123) :
    Calls Try.prog 76 #[askV ⟨16, A, 0, [], l, []⟩ s] w (RetU w (16 :: (two A ++ (two n ++ UInt8.ofNat (2 * n) :: wb l))) 0) := by
  have HC := Lib.hid (ref3Ok hr h)
  have h1 := hr.n2
  have hr1 := hr.set
  clear hr h
  obtain ⟨A1, n1, c1, A2, n2, c2, A3, n3, c3⟩ := s
  simp only [askV] at HC h1 hr1 ⊢
  obtain rfl : n = n2 := hl.symm.trans h1
  have Hr := Lib.hid hr1; have Hl := Lib.hid hl; clear hr1 hl h1
  have hN8 : (UInt8.ofNat (2 * n)).toNat = 2 * n := by simp; omega
  have hw2 : IntKind.i64.wrap (2 * (n : Int)) = 2 * (n : Int) := IntWalk.i64_in _ (by omega)
  have hw8 : IntKind.u8.wrap (2 * (n : Int)) = 2 * (n : Int) := by rw [IntKind.wrap_u8]; omega
  have Hlit : Hid ((#[.int .u8 (2 * (n : Int))] : Array Value).toList = [UInt8.ofNat (2 * n)].map cB ++ []) := by show _ = _; simp only [List.map_cons, List.map_nil, cB, hN8, List.append_nil]; rw [Int.natCast_mul]; rfl
  clear hN8
  go_enter Try.func76, Try.ntmps76
  go_wp2_with fail
  refine (HC.out _ (Ext.alloc _ _)).mono ?_
  rintro e w1 ⟨rfl, hb⟩
  have D := fun o : Obj => ask_cells _ (hb.trans (Ext.alloc _ o))
  obtain ⟨d0, -⟩ := ask_cells _ hb
  have d1 := fun o => (D o).2.1
  have d0' := fun o => (D o).1
  have Y1 := Lib.hid hb
  clear hb D
  go_wp2_with fail
  have hcall := ref_two _ _ [16] A 1 _ _ (by omega) (by omega) (Own.first w1 _ Y1.out.size 16 16 rfl) (Y1.out.trans (Ext.alloc _ _))
  refine hcall.mono ?_
  clear hcall
  rintro e w2 ⟨A', c', rfl, ho, hx, -⟩
  clear d0 d1 d0'
  obtain ⟨d0, -, -, -, d4, -⟩ := ask_cells _ hx
  have hzb : w.heap.size < w2.heap.size := by have := hx.size; simp at this; omega
  have Y2 := Lib.hid hx
  have HO := Lib.hid ho
  have HLT := Lib.hid (fun g hg => (ho.lt g hg).2)
  clear hx ho
  go_wp2_with fail
  have xr := Ext.draw w2
  have xa := fun o => Ext.drew' (Ext.alloc w2 o)
  have hl2 : (w2.alloc (.cells #[.int .u8 (2 * (n : Int))] 5)).drew.heap[w2.heap.size]? = some (.cells #[.int .u8 (2 * (n : Int))] 5) := heap_alloc_new w2 _
  have HL2 := Lib.hid hl2
  clear hl2
  go_region_held3 (fun w' => w'.cell? ⟨w.heap.size, 4, none⟩ = some (.slice A2 n c2)) (go_keep) ((first
    | (go_at_call 126
       first
         | (refine (ref_two _ _ _ n _ _ _ (by omega) (by omega) (HO.out.ext xr) (Y2.out.trans xr)).mono ?_
            rintro e w4 ⟨A5, c5, rfl, ho, hx4, hG⟩
            have k4 := (ask_cells _ hx4).2.2.2.2.1
            have hz4 : w.heap.size < w4.heap.size := by have := hx4.size; simp at this; omega
            have HO4 := Lib.hid ho
            have X4 := Lib.hid hx4
            clear ho hx4 hG)
         | (refine (ref_two _ _ _ n _ _ _ (by omega) (by omega) (HO.out.ext (xa _)) (Y2.out.trans (xa _))).mono ?_
            rintro e w4 ⟨A5, c5, rfl, ho, hx4, hG⟩
            have k4 := (ask_cells _ hx4).2.2.2.2.1
            have hz4 : w.heap.size < w4.heap.size := by have := hx4.size; simp at this; omega
            have HO4 := Lib.hid ho
            have X4 := Lib.hid hx4
            have HL4 := Lib.hid ((hG.1.block w2.heap.size (by simp) (fun e => by have := HLT.out _ e.symm; omega)).trans HL2.out)
            clear ho hx4 hG))
    | (first
         | refine step_u8 (base := (w.alloc _).heap.size) rfl (.tmp 113) (.tmp 119) rfl rfl HO4.out rfl (Rd.of_heap (ys := []) HL4.out Hlit.out rfl) isU8_map (by omega) X4.out.size ?_
         | refine step_u8 (base := (w.alloc _).heap.size) rfl (.tmp 113) (.tmp 119) rfl rfl (HO4.out.ext (Ext.alloc _ _)) rfl (Rd.of_heap (ys := []) (heap_alloc_new w4 _) Hlit.out rfl) isU8_map (by omega) (X4.out.trans (Ext.alloc _ _)).size ?_
       intro A7 c7 w5 hown hg hbk
       rw [← List.map_append] at hown
       first
         | have X7 := Lib.hid (X4.out.grown' hg (fun g hg => (HO4.out.lt g hg).1))
         | have X7 := Lib.hid ((X4.out.trans (Ext.alloc _ _)).grown' hg (fun g hg => (HO4.out.lt g hg).1))
       have k7 := (ask_cells _ X7.out).2.2.2.2.1
       have HO7 := Lib.hid hown
       clear hown hg hbk)))
  all_goals
    go_wp2_with fail
    simp only [Nat.reduceAdd]
    go_loopw [5, 9] (fun b i wr => ∃ (k : Nat) (A5 : Option Addr) (c5 : Nat), k ≤ n ∧ b = .slice A5 (6 + 2 * k) c5 ∧ i = .int .i64 (k : Int) ∧ Hid (Own wr (w.heap.size + 1) 5 IsU8 A5 (6 + 2 * k) c5 ((16 :: (two A ++ (two n ++ UInt8.ofNat (2 * n) :: wb (l.take k)))).map cB)) ∧ Hid (Ext (w.alloc (.cells #[.int .i64 16, .int .i64 (A : Int), .int .i64 0, .slice A1 n1 c1, .slice A2 n c2, .slice A3 n3 c3] 26)) wr)) (fun _ i _ => n - (intOf i).toNat)
    case atStart => exact ⟨0, _, _, Nat.zero_le _, rfl, rfl, by simpa [Hid, wb] using HO7.out, X7⟩
    case round =>
      obtain ⟨k, A6, c6, hk, rfl, rfl, HOk, HX⟩ := hrel
      have d4 := (ask_cells _ HX.out).2.2.2.2.1
      rcases Nat.lt_or_ge k n with hlt | hge
      · obtain ⟨bx, ox, hA2, hbx, hlx, hcx⟩ := (Hr.out.ext ((Ext.alloc _ _).trans HX.out)).u16at hlt
        subst hA2
        have hst := wb_snoc l k hlx
        have hx16 := (l[k]'hlx).toNat_lt
        generalize (l[k]'hlx).toNat = v at *
        have Hst := Lib.hid hst; clear hst
        have hwv : IntKind.i64.wrap (v : Int) = (v : Int) := IntWalk.i64_in _ (by omega)
        go_wp2_with fail
        refine (ref_two1 w _ _ _ v _ _ _ (by omega) (by omega) HOk.out HX.out).mono ?_
        rintro e w8 ⟨A8, c8, rfl, ho, hx8, -⟩
        have HO8 := Lib.hid ho
        have X8 := Lib.hid hx8
        clear ho hx8
        go_wp2_with fail
        go_roundw
        case rel => exact ⟨k + 1, A8, c8, by omega, rfl, by go_num, by rw [Hst.out, show 6 + 2 * (k + 1) = 6 + 2 * k + 2 by omega]; simpa [Hid, two] using HO8.out, X8⟩
        case measure => simp [intOf]; omega
      · obtain rfl : n = k := by omega
        have ho := HOk.out
        rw [List.take_of_length_le (by have := Hl.out; omega)] at ho
        have Ho := Lib.hid ho
        clear ho
        go_wp2_with fail
        go_ret2
        exact RetU.up1 rfl Ho.out HX.out
end Go.Proofs.Ytjmddiffeffgnaa
