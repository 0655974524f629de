/- Contracts of the requests: the reference's PDU of a request: parts of files; every request. -/
import Derived.Test.YtjmddiffeffgnaaAskRP2
import Derived.Test.YtjmddiffeffgnaaAskP6
namespace Go.Proofs.Ytjmddiffeffgnaa
set_option linter.unusedVariables false
set_option linter.unusedSimpArgs false
set_option maxRecDepth 100000
set_option maxHeartbeats 6000000
open Go Go.RowKit Go.Out

theorem refFile (l : List PartD) (s : AskS) (w : World) (hr : AskRd w ⟨20, 0, 0, [], [], l⟩ s) (h : checkF ⟨20, 0, 0, [], [], l⟩ = 0) (hl : l.length ≤ 35) (hp : partsF l = 0) :
    Calls Try.prog 76 #[askV ⟨20, 0, 0, [], [], l⟩ s] w (RetU w (20 :: UInt8.ofNat (7 * l.length) :: partsB l) 0) := by
  have HC := Lib.hid (ref3Ok hr h)
  have h1 := hr.n3
  have hr1 := hr.parts
  have hgood : ∀ k p, l[k]? = some p → ¬ badP p := fun k p hk hb => by
    obtain ⟨hk', rfl⟩ := List.getElem?_eq_some_iff.1 hk
    rw [partsF_bad hk' hb] at hp
    cases hp
  clear hr h hp
  obtain ⟨A1, n1, c1, A2, n2, c2, A3, n3, c3⟩ := s
  simp only [askV] at HC h1 hr1 ⊢
  subst h1
  have Hr := Lib.hid hr1; have Hgood := Lib.hid hgood; clear hr1 hgood
  obtain ⟨n, hn⟩ : ∃ n, l.length = n := ⟨_, rfl⟩
  rw [hn] at HC Hr hl ⊢
  have hN8 : (UInt8.ofNat (7 * n)).toNat = 7 * n := by simp; omega
  have Hlen := Lib.hid hn; clear hn
  have hw7 : IntKind.i64.wrap (7 * (n : Int)) = 7 * (n : Int) := IntWalk.i64_in _ (by omega)
  have hw8 : IntKind.u8.wrap (7 * (n : Int)) = 7 * (n : Int) := by rw [IntKind.wrap_u8]; omega
  have Hlit : Hid ((#[.int .u8 (7 * (n : Int))] : Array Value).toList = [UInt8.ofNat (7 * n)].map cB ++ []) := by show _ = _; simp only [List.map_cons, List.map_nil, cB, hN8, List.append_nil]; rw [Int.natCast_mul]; rfl
  clear hN8
  go_enter Try.func76, Try.ntmps76
  go_wp2_with fail
  refine (HC.out _ (Ext.alloc _ _)).mono ?_
  rintro e w1 ⟨rfl, hb⟩
  have D := fun o : Obj => ask_cells _ (hb.trans (Ext.alloc _ o))
  obtain ⟨d0, -⟩ := ask_cells _ hb
  have d5 := fun o => (D o).2.2.2.2.2
  have d0' := fun o => (D o).1
  have Hb := Lib.hid hb
  have X1 := Lib.hid ((Ext.alloc _ _).trans hb)
  have Hf := Lib.hid (Own.first w1 (w.heap.size + 1) (by have := hb.size; simpa using this) 20 20 rfl)
  clear hb D
  go_wp2_with (at_builtin
               go_must (refine app_u8 _ rfl (.tmp 22) (.tmp 28) rfl rfl (Hf.out.ext (Ext.alloc _ _)) rfl (Rd.of_heap (ys := []) (heap_at _ _ _ (by simp)) Hlit.out rfl) isU8_map (by omega) (by have := (Hb.out.trans ((Ext.alloc w1 (.cells #[.int .u8 20] 5)).trans (Ext.alloc _ (.cells #[.int .u8 (7 * (n : Int))] 5)))).size; simp at this ⊢; omega) ?_)
               intro A6 c6 w2 hown hg hbk
               rw [← List.map_append] at hown
               have HO6 := Lib.hid hown
               have Y2 : Hid (Ext (w.alloc (.cells #[.int .i64 20, .int .i64 0, .int .i64 0, .slice A1 n1 c1, .slice A2 n2 c2, .slice A3 n c3] 26)) w2) := (Hb.out.trans ((Ext.alloc _ _).trans (Ext.alloc _ _))).grown' hg (fun g hg => by simp [blk] at hg; subst hg; exact Hb.out.size)
               clear hown hg hbk d5 d0' d0 Hf)
  try simp only [Nat.reduceAdd]
  go_loopw [5, 6] (fun b i wr => ∃ (k : Nat) (A5 : Option Addr) (c5 : Nat), k ≤ n ∧ b = .slice A5 (2 + 7 * k) c5 ∧ i = .int .i64 (k : Int) ∧ Hid (Own wr (w.heap.size + 1) 5 IsU8 A5 (2 + 7 * k) c5 ((20 :: UInt8.ofNat (7 * n) :: partsB (l.take k)).map cB)) ∧ Hid (Ext (w.alloc (.cells #[.int .i64 20, .int .i64 0, .int .i64 0, .slice A1 n1 c1, .slice A2 n2 c2, .slice A3 n c3] 26)) wr)) (fun _ i _ => n - (intOf i).toNat)
  case atStart => exact ⟨0, A6, c6, Nat.zero_le _, rfl, rfl, by simpa [Hid, partsB] using HO6.out, Y2⟩
  case round =>
    obtain ⟨k, A5, c5, hk, rfl, rfl, HO, HX⟩ := hrel
    have d5 := (ask_cells _ HX.out).2.2.2.2.2
    rcases Nat.lt_or_ge k n with hlt | hge
    · obtain ⟨b1, o1, p, hp, hA3, hb1, e0, e1, e2, -⟩ := part_cells Hr.out hlt
      obtain ⟨F, R, L, hF, hR, hL, hF6, hR6, hL6⟩ := part_nat (Hgood.out k p hp)
      rw [hF] at e0; rw [hR] at e1; rw [hL] at e2
      have hst := partsB_take hp
      rw [show partB p = 6 :: (two F ++ two R ++ two L) by unfold partB; rw [hF, hR, hL]; rfl] at hst
      have Hst := Lib.hid hst
      clear hst hF hR hL hp
      subst hA3
      have HKK : Hid (∀ W, Ext (w.alloc (.cells #[.int .i64 20, .int .i64 0, .int .i64 0, .slice A1 n1 c1, .slice A2 n2 c2, .slice (some ⟨b1, o1, none⟩) n c3] 26)) W →
          W.cell? ⟨w.heap.size, 5, none⟩ = some (.slice (some ⟨b1, o1, none⟩) n c3) ∧ W.cell? ⟨b1, o1 + k * 3, none⟩ = some (.int .i64 (F : Int)) ∧ W.cell? ⟨b1, o1 + k * 3 + 1, none⟩ = some (.int .i64 (R : Int)) ∧ W.cell? ⟨b1, o1 + k * 3 + 2, none⟩ = some (.int .i64 (L : Int))) :=
        fun W hX => ⟨(ask_cells _ hX).2.2.2.2.2, ((Ext.alloc _ _).trans hX).cell hb1 e0, ((Ext.alloc _ _).trans hX).cell hb1 e1, ((Ext.alloc _ _).trans hX).cell hb1 e2⟩
      have hbr : b1 < wr.heap.size := Nat.lt_of_lt_of_le hb1 ((Ext.alloc _ _).trans HX.out).size
      have hzr : w.heap.size < wr.heap.size := by have := HX.out.size; simp at this; omega
      clear e0 e1 e2 hb1 d5
      obtain ⟨q5, q0, q1, q2⟩ := HKK.out _ HX.out
      clear HC Hb Hlit Hgood hw7 hw8 Hlen HO6 Y2
      have h0k : (0 : Int) ≤ (k : Int) := by omega
      have hkn : (k : Int) < (n : Int) := by omega
      have hkt : ((k : Int)).toNat = k := by omega
      have H6 : Hid ((#[.int .u8 6] : Array Value).toList = ([6] : List UInt8).map cB ++ []) := rfl
      have HL := Lib.hid (show (wr.alloc (.cells #[.int .u8 6] 5)).drew.heap[wr.heap.size]? = some (.cells #[.int .u8 6] 5) from heap_alloc_new wr _)
      have XA := Lib.hid (fun o => Ext.drew' (Ext.alloc wr o))
      go_wp2_with fail
      go_region_held3 (fun w' => w'.cell? ⟨w.heap.size, 5, none⟩ = some (.slice (some ⟨b1, o1, none⟩) n c3) ∧ w'.cell? ⟨b1, o1 + k * 3, none⟩ = some (.int .i64 (F : Int)) ∧ w'.cell? ⟨b1, o1 + k * 3 + 1, none⟩ = some (.int .i64 (R : Int)) ∧ w'.cell? ⟨b1, o1 + k * 3 + 2, none⟩ = some (.int .i64 (L : Int))) (go_keep) ((first
        | (go_at_call 126
           first
             | (refine (ref_two1 w _ _ _ L _ _ _ hL6 (by omega) HO5.out X5.out).mono ?_
                rintro e w6 ⟨Aa, ca, rfl, ho, hx, -⟩
                obtain ⟨v5, v0, v1, v2⟩ := HKK.out _ hx
                have HO8 := Lib.hid ho
                have X8 := Lib.hid hx
                clear ho hx)
             | (refine (ref_two1 w _ _ _ R _ _ _ hR6 (by omega) HO4.out X4.out).mono ?_
                rintro e w5 ⟨A9, c9, rfl, ho, hx, -⟩
                obtain ⟨t5, t0, t1, t2⟩ := HKK.out _ hx
                have HO5 := Lib.hid ho
                have X5 := Lib.hid hx
                clear ho hx)
             | (refine (ref_two1 w _ _ _ F _ _ _ hF6 (by omega) HO3.out X3.out).mono ?_
                rintro e w4 ⟨A8, c8, rfl, ho, hx, -⟩
                obtain ⟨s5, s0, s1, s2⟩ := HKK.out _ hx
                have HO4 := Lib.hid ho
                have X4 := Lib.hid hx
                clear ho hx))
        | (refine step_u8 (base := w.heap.size + 1) rfl (.tmp 37) (.tmp 38) rfl rfl (HO.out.ext (XA.out _)) rfl (Rd.of_heap (ys := []) HL.out H6.out rfl) isU8_map (by omega) (Nat.le_trans (by have := HX.out.size; simpa using this) (XA.out _).size) ?_
           intro A7 c7 w3 hown hg hbk
           rw [← List.map_append] at hown
           have X3 := Lib.hid ((HX.out.trans (XA.out _)).grown' hg (fun g hg => by have := (HO.out.lt g hg).1; simp; omega))
           obtain ⟨r5, r0, r1, r2⟩ := HKK.out _ X3.out
           have HO3 := Lib.hid hown
           clear hown hg hbk)))
      all_goals
        go_wp2_with fail
        go_roundw
        case rel => exact ⟨k + 1, Aa, ca, by omega, by first | rfl | (congr 1; omega), by go_num, by rw [Hst.out, show 2 + 7 * (k + 1) = 2 + 7 * k + 1 + 2 + 2 + 2 by omega]; simpa [Hid] using HO8.out, X8⟩
        case measure => simp [intOf]; omega
    · obtain rfl : n = k := by omega
      have ho := HO.out
      rw [List.take_of_length_le (by have := Hlen.out; omega)] at ho
      have Ho := Lib.hid ho
      clear ho
      go_wp2_with fail
      go_ret2
      exact RetU.up1 rfl Ho.out HX.out

theorem ref3Put_any (a : AskD) (s : AskS) (w : World) (hr : AskRd w a s) : Calls Try.prog 76 #[askV a s] w (RetU w (putA a).1 (putA a).2) := by
  by_cases h : checkF a = 0
  · rw [putA_ok h]
    rcases Go.Out.ask_cases h with ⟨c, A, n, h1, h4, hA, h1n, hn, rfl⟩ | ⟨A, x, hA, rfl⟩ | ⟨A, v, hA, rfl⟩ | ⟨A, l, hA, h1l, hl, rfl⟩ | ⟨A, l, hA, h1l, hl, rfl⟩ | ⟨l, h1l, hl, hp, rfl⟩
    · have e : bodyF ⟨c, A, n, [], [], []⟩ = two A ++ two n := by
        unfold bodyF
        rw [if_neg (by simp; omega), if_neg (by simp; omega), if_neg (by simp; omega), if_neg (by simp; omega), if_neg (by simp; omega)]
        simp
      rw [e]
      exact refCnt c A n s w hr h h1 h4 hA hn
    · exact refCoil A x s w hr h hA
    · exact refReg A v s w hr h hA
    · exact refCoils A _ l s w hr h hA rfl hl
    · exact refRegs A _ l s w hr h hA rfl hl
    · exact refFile l s w hr h hl hp
  · rw [putA_no h]
    exact refNo a s w hr h
end Go.Proofs.Ytjmddiffeffgnaa
