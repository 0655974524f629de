/- Contracts of the requests: a request as a PDU: parts of files. -/
import Derived.Test.YtcnjhjfepojdaaaAskP
import Derived.Test.YtcnjhjfepojdaaaAskKit
import Derived.Deep.RegionHeld3
namespace Go.Proofs.Ytcnjhjfepojdaaa
set_option linter.unusedVariables false
set_option linter.unusedSimpArgs false
set_option maxRecDepth 100000
set_option maxHeartbeats 1000000
open Go Go.RowKit Go.Out

theorem step_u8 {ops : Array Oper} {o : Oper} {a : Act} {w : World} {K : Act → World → Prop} {Q : Exit → Act → World → Prop} {E : Prop} (hgd : o.guard = none) (s x : Operand)
    (ho : o.op = .call { callee := .builtin .append, args := #[s, x], argTypes := #[34, 34] })
    {base : Nat} {A : Option Addr} {n c : Nat} {xs : List Value} (hs : a.eval s = .slice A n c) (hown : Own w base 5 IsU8 A n c xs)
    {A' : Option Addr} {m c' : Nat} {news : List Value} (hx : a.eval x = .slice A' m c') (hr : Rd w A' m news) (hnp : ∀ u ∈ news, IsU8 u) (hsz : n + m ≤ 140737488355328) (hbase : base ≤ w.heap.size)
    (h : ∀ A1 c1 w1, Own w1 base 5 IsU8 A1 (n + m) c1 (xs ++ news) → w.grownBy w1 (blk A) → (blk A1 = blk A ∨ blk A1 = some w.heap.size) → K (a.put o.dst (.slice A1 (n + m) c1)) w1) :
    if Region.wanted o (yielded ops a.tmps) = true then Oper.wp Try.prog o a w K Q else E :=
  step_append_Own hgd s x _ ho IsU8 base _ (.int .u8 0) 1 Try.underlying34 info_u8 rfl ⟨0, rfl⟩ (fun _ => isU8_one) A n c xs hs hown A' m c' news hx hr hnp (by omega) (by omega) hbase h


theorem part_nat {p : PartD} (h : ¬ badP p) : ∃ F R L : Nat, p.file = F ∧ p.record = R ∧ p.len = L ∧ F < 65536 ∧ R < 65536 ∧ L < 65536 := by
  unfold badP at h
  exact ⟨p.file.toNat, p.record.toNat, p.len.toNat, by omega, by omega, by omega, by omega, by omega, by omega⟩
theorem partsB_take {l : List PartD} {k : Nat} {p : PartD} (h : l[k]? = some p) : partsB (l.take (k + 1)) = partsB (l.take k) ++ partB p := by
  obtain ⟨hk, rfl⟩ := List.getElem?_eq_some_iff.1 h
  unfold partsB
  rw [List.take_succ_eq_append_getElem hk, List.flatMap_append]
  simp

theorem lt_of_cell {w : World} {q off : Nat} {v : Value} (h : w.cell? ⟨q, off, none⟩ = some v) : q < w.heap.size := by
  rcases Nat.lt_or_ge q w.heap.size with h1 | h1
  · exact h1
  · unfold World.cell? at h
    rw [Array.getElem?_eq_none (by simpa using h1)] at h
    cases h
theorem part_two (w V : World) (x y : UInt8) (pre : List UInt8) (F R L k : Nat) (hF : F < 65536) (hR : R < 65536) (hL : L < 65536) (A L' : Option Addr) (c cl : Nat) (hk : k ≤ 35) (ho : Own V w.heap.size 5 IsU8 A (2 + 7 * k + 1) c ((x :: y :: pre ++ [6]).map cB)) (hX : Ext w V)
    (hr : Rd V L' 3 ([F, R, L].map fun (v : Nat) => (Value.int .i64 (v : Int)))) (hne : ∀ g, blk L' = some g → blk A ≠ some g) :
    Calls Try.prog 28 #[.slice A (2 + 7 * k + 1) c, .slice L' 3 cl] V fun e w' => ∃ A8 c8, e = .returned (.slice A8 (2 + 7 * (k + 1)) c8) ∧ Own w' w.heap.size 5 IsU8 A8 (2 + 7 * (k + 1)) c8 ((x :: y :: (pre ++ 6 :: (two F ++ two R ++ two L))).map cB) ∧ Ext w w' ∧ Grow V w' A A8 := by
  have hlen := ho.len
  refine (two_any (x :: y :: pre ++ [6]) [F, R, L] _ 3 (by intro v hv; simp at hv; omega) rfl _ _ _ _ w.heap.size _ ho hX.size (by omega) (by omega) hr hne).mono ?_
  rintro e w' ⟨A8, c8, rfl, ho8, hG⟩
  have e1 : x :: y :: pre ++ [6] ++ [F, R, L].flatMap two = x :: y :: (pre ++ 6 :: (two F ++ two R ++ two L)) := by simp
  rw [e1] at ho8 ⊢
  have e2 : (x :: y :: (pre ++ 6 :: (two F ++ two R ++ two L))).length = 2 + 7 * (k + 1) := by simp [two] at hlen ⊢; omega
  rw [e2] at ho8 ⊢
  exact ⟨A8, c8, rfl, ho8, hG.ext hX ho, hG⟩

theorem askFile (l : List PartD) (s : AskS) (w : World) (hr : AskRd w ⟨20, 0, 0, [], [], l⟩ s) (h : checkF ⟨20, 0, 0, [], [], l⟩ = 0) (hl : l.length ≤ 35) (hp : partsF l = 0) :
    Calls Try.prog 15 #[askV ⟨20, 0, 0, [], [], l⟩ s] w (RetU w (20 :: UInt8.ofNat (7 * l.length) :: partsB l) 0) := by
  have HC := Lib.hid (askOk hr h)
  have h1 := hr.n3
  have hr1 := hr.parts
  have hgood : ∀ k p, l[k]? = some p → ¬ badP p := fun k p hk hb => by
    obtain ⟨hk', rfl⟩ := List.getElem?_eq_some_iff.1 hk
    rw [partsF_bad hk' hb] at hp
    cases hp
  clear hr h hp
  obtain ⟨A1, n1, c1, A2, n2, c2, A3, n3, c3⟩ := s
  simp only [askV] at HC h1 hr1 ⊢
  subst h1
  have Hr := Lib.hid hr1; have Hgood := Lib.hid hgood; clear hr1 hgood
  obtain ⟨n, hn⟩ : ∃ n, l.length = n := ⟨_, rfl⟩
  rw [hn] at HC Hr hl ⊢
  obtain ⟨N, hN⟩ : ∃ N, 7 * n = N := ⟨_, rfl⟩
  have hN8 : (UInt8.ofNat (7 * n)).toNat = 7 * n := by simp; omega
  have Hlen := Lib.hid hn; clear hn
  have hw7 : IntKind.i64.wrap (7 * (n : Int)) = 7 * (n : Int) := IntWalk.i64_in _ (by omega)
  have hw8 : IntKind.u8.wrap (7 * (n : Int)) = 7 * (n : Int) := by rw [IntKind.wrap_u8]; omega
  have Hlit : Hid ((#[.int .u8 (7 * (n : Int))] : Array Value).toList = [UInt8.ofNat (7 * n)].map cB ++ []) := by show _ = _; simp only [List.map_cons, List.map_nil, cB, hN8, List.append_nil]; rw [Int.natCast_mul]; rfl
  clear hN hN8
  go_enter Try.func15, Try.ntmps15
  go_wp2_with fail
  refine (HC.out _ (Ext.alloc _ _)).mono ?_
  rintro e w1 ⟨rfl, hb⟩
  have D := fun o : Obj => ask_cells _ (hb.trans (Ext.alloc _ o))
  obtain ⟨d0, -⟩ := ask_cells _ hb
  have d5 := fun o => (D o).2.2.2.2.2
  have d0' := fun o => (D o).1
  have Hb := Lib.hid hb
  have X1 := Lib.hid ((Ext.alloc _ _).trans hb)
  have Hf := Lib.hid (Own.first w1 _ X1.out.size 20 20 rfl)
  clear hb D
  go_wp2_with (at_builtin
               go_must (refine app_u8 _ rfl (.tmp 88) (.tmp 94) rfl rfl (Hf.out.ext (Ext.alloc _ _)) rfl (Rd.of_heap (ys := []) (heap_at _ _ _ (by simp)) Hlit.out rfl) isU8_map (by omega) (X1.out.trans ((Ext.alloc _ _).trans (Ext.alloc _ _))).size ?_)
               intro A6 c6 w2 hown hg hbk
               rw [← List.map_append] at hown
               have HO6 := Lib.hid hown
               have X2 := Lib.hid ((X1.out.trans ((Ext.alloc _ _).trans (Ext.alloc _ _))).grown' hg (fun g hg => (Hf.out.lt g hg).1))
               have Y2 : Hid (Ext (w.alloc (.cells #[.int .i64 20, .int .i64 0, .int .i64 0, .slice A1 n1 c1, .slice A2 n2 c2, .slice A3 n c3] 26)) w2) := (Hb.out.trans ((Ext.alloc _ _).trans (Ext.alloc _ _))).grown' hg (fun g hg => by simp [blk] at hg; subst hg; exact Hb.out.size)
               clear hown hg hbk d5 d0' d0 Hf
               have d5 := (ask_cells _ Y2.out).2.2.2.2.2)
  go_loopw [5, 10, 99] (fun b _ i wr => ∃ (k : Nat) (A5 : Option Addr) (c5 : Nat), k ≤ n ∧ b = .slice A5 (2 + 7 * k) c5 ∧ i = .int .i64 (k : Int) ∧ Hid (Own wr w.heap.size 5 IsU8 A5 (2 + 7 * k) c5 ((20 :: UInt8.ofNat (7 * n) :: partsB (l.take k)).map cB)) ∧ Ext w wr) (fun _ _ i _ => n - (intOf i).toNat)
  case atStart => exact ⟨0, A6, c6, Nat.zero_le _, rfl, rfl, by simpa [Hid, partsB] using HO6.out, X2.out⟩
  case round =>
    obtain ⟨k, A5, c5, hk, rfl, rfl, HO, hx⟩ := hrel
    rcases Nat.lt_or_ge k n with hlt | hge
    · obtain ⟨b1, o1, p, hp, rfl, hb1, e0, e1, e2, -⟩ := part_cells (Hr.out.ext hx) hlt
      obtain ⟨F, R, L, hF, hR, hL, hF6, hR6, hL6⟩ := part_nat (Hgood.out k p hp)
      rw [hF] at e0; rw [hR] at e1; rw [hL] at e2
      have hst := partsB_take hp
      rw [show partB p = 6 :: (two F ++ two R ++ two L) by unfold partB; rw [hF, hR, hL]; rfl] at hst
      have Hst := Lib.hid hst
      clear hst hF hR hL hp
      go_wp2_with fail
      have hq : blk A5 ≠ some wr.heap.size := fun e => by have := (HO.out.lt _ e).2; omega
      have hcs := heap_alloc_new wr (.cells #[.int .i64 (F : Int), .int .i64 (R : Int), .int .i64 (L : Int)] 71)
      have HO0 := Lib.hid (HO.out.ext (Ext.alloc wr (.cells #[.int .i64 (F : Int), .int .i64 (R : Int), .int .i64 (L : Int)] 71)))
      have HX0 := Lib.hid (hx.trans (Ext.alloc wr (.cells #[.int .i64 (F : Int), .int .i64 (R : Int), .int .i64 (L : Int)] 71)))
      generalize wr.alloc (.cells #[.int .i64 (F : Int), .int .i64 (R : Int), .int .i64 (L : Int)] 71) = W0 at *
      generalize wr.heap.size = q at *
      have c0 : W0.cell? ⟨q, 0, none⟩ = some (.int .i64 (F : Int)) := (cell_of_row _ _ _ _ _ _ hcs).trans rfl
      have c1' : W0.cell? ⟨q, 1, none⟩ = some (.int .i64 (R : Int)) := (cell_of_row _ _ _ _ _ _ hcs).trans rfl
      have c2' : W0.cell? ⟨q, 2, none⟩ = some (.int .i64 (L : Int)) := (cell_of_row _ _ _ _ _ _ hcs).trans rfl
      have hql : q < W0.heap.size := lt_of_heap hcs
      have Hq := Lib.hid hq
      clear hq hcs e0 e1 e2 hb1 HO hx
      have hqb := Lib.hid (fun g (hg : blk A5 = some g) => (HO0.out.lt g hg).2)
      clear HC Hb Y2 d5 Hlit Hgood hw7 hw8 Hlen HO6 X2 X1
      have H6 : Hid ((#[.int .u8 6] : Array Value).toList = ([6] : List UInt8).map cB ++ []) := rfl
      have H9 : Hid ((#[.int .i64 (F : Int), .int .i64 (R : Int), .int .i64 (L : Int)] : Array Value).toList = ([F, R, L].map fun (v : Nat) => (Value.int .i64 (v : Int))) ++ []) := rfl
      have Hv : Hid (∀ v ∈ [F, R, L], v < 65536) := by intro v hv; simp at hv; omega
      have HRA := Lib.hid (show Rd (W0.alloc (.cells #[.int .u8 6] 5)).drew (some ⟨W0.heap.size, 0, none⟩) 1 (([6] : List UInt8).map cB) from Rd.of_heap (ys := []) (heap_alloc_new W0 (.cells #[.int .u8 6] 5)) rfl rfl)
      have HRB := Lib.hid (show Rd ((W0.alloc (.cells #[.int .u8 6] 5)).alloc (.cells #[.int .i64 (F : Int), .int .i64 (R : Int), .int .i64 (L : Int)] 3)).drew (some ⟨W0.heap.size, 0, none⟩) 1 (([6] : List UInt8).map cB) from Rd.of_heap (ys := []) ((Ext.alloc _ _).block (heap_alloc_new W0 (.cells #[.int .u8 6] 5))) rfl rfl)
      have HRC := Lib.hid (show Rd ((W0.alloc (.cells #[.int .i64 (F : Int), .int .i64 (R : Int), .int .i64 (L : Int)] 3)).alloc (.cells #[.int .u8 6] 5)).drew (some ⟨W0.heap.size + 1, 0, none⟩) 1 (([6] : List UInt8).map cB) from Rd.of_heap (ys := []) (heap_at (W0.alloc (.cells #[.int .i64 (F : Int), .int .i64 (R : Int), .int .i64 (L : Int)] 3)) (.cells #[.int .u8 6] 5) _ (by simp)) rfl rfl)
      have HLB := Lib.hid (show ((W0.alloc (.cells #[.int .u8 6] 5)).alloc (.cells #[.int .i64 (F : Int), .int .i64 (R : Int), .int .i64 (L : Int)] 3)).drew.heap[W0.heap.size + 1]? = some (.cells #[.int .i64 (F : Int), .int .i64 (R : Int), .int .i64 (L : Int)] 3) from heap_at (W0.alloc (.cells #[.int .u8 6] 5)) (.cells #[.int .i64 (F : Int), .int .i64 (R : Int), .int .i64 (L : Int)] 3) _ (by simp))
      have HLC := Lib.hid (show ((W0.alloc (.cells #[.int .i64 (F : Int), .int .i64 (R : Int), .int .i64 (L : Int)] 3)).alloc (.cells #[.int .u8 6] 5)).drew.heap[W0.heap.size]? = some (.cells #[.int .i64 (F : Int), .int .i64 (R : Int), .int .i64 (L : Int)] 3) from (Ext.alloc _ _).block (heap_alloc_new W0 (.cells #[.int .i64 (F : Int), .int .i64 (R : Int), .int .i64 (L : Int)] 3)))
      have hr9 : ∀ (V : World) (g : Nat), V.heap[g]? = some (.cells #[.int .i64 (F : Int), .int .i64 (R : Int), .int .i64 (L : Int)] 3) → Rd V (some ⟨g, 0, none⟩) 3 ([F, R, L].map fun (v : Nat) => (Value.int .i64 (v : Int))) := fun V g h => Rd.of_heap (ys := []) h rfl rfl
      have HR9 := Lib.hid hr9
      clear hr9
      go_region_held3 (fun w' => w'.cell? ⟨q, 0, none⟩ = some (.int .i64 (F : Int)) ∧ w'.cell? ⟨q, 1, none⟩ = some (.int .i64 (R : Int)) ∧ w'.cell? ⟨q, 2, none⟩ = some (.int .i64 (L : Int))) (go_keep) ((first
        | (refine step_u8 (base := w.heap.size) rfl (.tmp 103) (.tmp 104) rfl rfl (HO0.out.ext (by first | with_reducible exact Ext.drew' (Ext.alloc _ _) | with_reducible exact Ext.drew' ((Ext.alloc _ _).trans (Ext.alloc _ _)))) rfl (by first | with_reducible exact HRA.out | with_reducible exact HRB.out | with_reducible exact HRC.out) isU8_map (by omega) (Nat.le_trans HX0.out.size (Ext.size (by first | with_reducible exact Ext.drew' (Ext.alloc _ _) | with_reducible exact Ext.drew' ((Ext.alloc _ _).trans (Ext.alloc _ _))))) ?_
           intro A7 c7 w3 hown hg hbk
           rw [← List.map_append] at hown
           have hblk : w3.heap[q]? = W0.heap[q]? := (hg.block q (Nat.lt_of_lt_of_le hql (Ext.size (by first | with_reducible exact Ext.drew' (Ext.alloc _ _) | with_reducible exact Ext.drew' ((Ext.alloc _ _).trans (Ext.alloc _ _))))) (fun e => Hq.out e.symm)).trans ((Ext.below (by first | with_reducible exact Ext.drew' (Ext.alloc _ _) | with_reducible exact Ext.drew' ((Ext.alloc _ _).trans (Ext.alloc _ _)))).block q hql)
           have k0 := (World.cell?_of_block (a := ⟨q, 0, none⟩) hblk).trans c0
           have k1 := (World.cell?_of_block (a := ⟨q, 1, none⟩) hblk).trans c1'
           have k2 := (World.cell?_of_block (a := ⟨q, 2, none⟩) hblk).trans c2'
           have HX3 := Lib.hid ((HX0.out.trans (by first | with_reducible exact Ext.drew' (Ext.alloc _ _) | with_reducible exact Ext.drew' ((Ext.alloc _ _).trans (Ext.alloc _ _)))).grown' hg (fun g hg => (HO0.out.lt g hg).1))
           have HO3 := Lib.hid hown
           have HNq : Hid (blk A7 ≠ some q) := fun e => by
             rcases hbk with h | h
             · exact Hq.out (h ▸ e)
             · exact Nat.ne_of_gt (Nat.lt_of_lt_of_le hql (Ext.size (by first | with_reducible exact Ext.drew' (Ext.alloc _ _) | with_reducible exact Ext.drew' ((Ext.alloc _ _).trans (Ext.alloc _ _))))) (Option.some.inj (h.symm.trans e))
           first
             | (have HL3 := Lib.hid ((hg.block (W0.heap.size + 1) (by simp) (fun e => by have := hqb.out _ e.symm; omega)).trans (by with_reducible exact HLB.out))
                have HN3 : Hid (blk A7 ≠ some (W0.heap.size + 1)) := fun e => by
                  rcases hbk with h | h
                  · rw [h] at e; have := hqb.out _ e; omega
                  · rw [h] at e; simp at e)
             | (have HL3 := Lib.hid ((hg.block W0.heap.size (by simp <;> omega) (fun e => by have := hqb.out _ e.symm; omega)).trans (by with_reducible exact HLC.out))
                have HN3 : Hid (blk A7 ≠ some W0.heap.size) := fun e => by
                  rcases hbk with h | h
                  · rw [h] at e; have := hqb.out _ e; omega
                  · rw [h] at e; simp at e; try omega)
             | skip
           clear hown hg hbk hblk)
        | (go_at_call 28
           first
             | refine (part_two w _ 20 _ _ F R L k hF6 hR6 hL6 _ _ _ _ (by omega) HO3.out HX3.out (HR9.out _ _ HL3.out) (fun g hg e => HN3.out (by simp only [blk, Option.map_some] at hg; rw [hg]; exact e))).mono ?_
             | refine (part_two w _ 20 _ _ F R L k hF6 hR6 hL6 _ _ _ _ (by omega) (HO3.out.ext (Ext.alloc _ _)) (HX3.out.trans (Ext.alloc _ _)) (HR9.out _ _ (heap_alloc_new w3 _)) (fun g hg e => by have := (HO3.out.lt g e).2; simp only [blk, Option.map_some, Option.some.injEq] at hg; omega)).mono ?_
           rintro e w4 ⟨A8, c8, rfl, ho8, hx8, hG8⟩
           have hblk : w4.heap[q]? = w3.heap[q]? := by
             first
               | exact hG8.1.block q (lt_of_cell k0) (fun e => HNq.out e.symm)
               | exact (hG8.1.block q (Nat.lt_of_lt_of_le (lt_of_cell k0) (Ext.alloc _ _).size) (fun e => HNq.out e.symm)).trans ((Ext.alloc w3 _).below.block q (lt_of_cell k0))
           have l0 := (World.cell?_of_block (a := ⟨q, 0, none⟩) hblk).trans k0
           have l1 := (World.cell?_of_block (a := ⟨q, 1, none⟩) hblk).trans k1
           have l2 := (World.cell?_of_block (a := ⟨q, 2, none⟩) hblk).trans k2
           have HO8 := Lib.hid ho8; have HX8 := Lib.hid hx8
           clear ho8 hx8 hG8 hblk)))
      all_goals
        go_wp2_with fail
        go_roundw
        case rel => exact ⟨k + 1, A8, c8, by omega, rfl, by go_num, by rw [Hst.out]; exact HO8, HX8.out⟩
        case measure => simp [intOf]; omega
    · obtain rfl : n = k := by omega
      go_wp2_with fail
      go_ret2
      have ho := HO.out
      rw [List.take_of_length_le (by have := Hlen.out; omega)] at ho
      exact RetU.of rfl ho hx
end Go.Proofs.Ytcnjhjfepojdaaa
