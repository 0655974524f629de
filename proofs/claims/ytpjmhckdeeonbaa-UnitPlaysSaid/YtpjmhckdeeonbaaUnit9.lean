/- A unit: the contract of Do: a read of bits. -/
import Derived.Test.YtpjmhckdeeonbaaUnit6
import Derived.BigQuiet
import Derived.Deep.QuietTactic
namespace Go.Proofs.Ytpjmhckdeeonbaa
set_option linter.unusedVariables false
set_option linter.unusedSimpArgs false
set_option maxRecDepth 100000
set_option maxHeartbeats 1500000
open Go Go.RowKit Go.Out

theorem bit_eq (v : UInt16) : (((v.toNat : Nat) : Int) == 1) = (v == 1) := by
  rw [Bool.eq_iff_iff, beq_iff_eq, beq_iff_eq]
  constructor
  · intro h
    have h2 : v.toNat = 1 := by omega
    exact UInt16.toNat_inj.1 (by rw [h2]; rfl)
  · rintro rfl; rfl
theorem onR_snoc {l : List UInt16} {a k : Nat} (h : a + k < l.length) : onR ((l.drop a).take (k + 1)) = onR ((l.drop a).take k) ++ [(((l.getD (a + k) 0).toNat : Nat) : Int) == 1] := by
  unfold onR
  rw [List.take_add_one, List.getElem?_drop, List.getElem?_eq_getElem h, List.map_append, bit_eq, List.getD_eq_getElem?_getD, List.getElem?_eq_getElem h]; rfl
theorem do_bits (u : UnitD) (s : UnitS) (a : AskD) (t : AskS) (w : World) (h : UnitAt w s u) (hu : UnitOk u) (ha : AskRd w a t) (h0 : checkF a = 0) (h1 : a.code = 1 ∨ a.code = 2) (hf : ¬ (u.size : Int) < a.addr + manyF a) :
    Calls Try.prog 47 #[pU s, askV a t] w (RetDo w s u a) := by
  have hC := fun W (hX : Ext w W) => check_any a t W (ha.ext hX)
  obtain ⟨m1, m2, m3, m4, m5⟩ := many_of h0
  obtain ⟨e1, e2, e3, e4, e5⟩ := m1 (by omega)
  have hd : doU u a = (u, ⟨0, onR (((tabU u a.code).drop a.addr.toNat).take a.count.toNat), [], []⟩) := by
    unfold doU; rw [if_neg (by omega), if_neg (by simp [h0]), if_neg hf, if_pos h1]
  have HFin := Lib.hid (show ∀ W A m c, Own W w.heap.size 4 IsBo A m c ((onR (((tabU u a.code).drop a.addr.toNat).take a.count.toNat)).map cL) → Ext w W → RetDo w s u a (.returned (.agg #[.int .i64 0, .slice A m c, .slice none 0 0, .slice none 0 0])) W from
    fun W A m c hO hX => ⟨⟨A, m, c, none, 0, 0, none, 0, 0⟩, by rw [hd]; rfl, by rw [hd]; exact ⟨hO, Own.nil_ _ _ _ _, OwL.nil_ _ _ _ _, rfl, by simp, by simp [i64P]⟩, by rw [hd]; exact h.ext hX, .of_ext hX, fun _ => hX⟩)
  have HU := Lib.hid (fun W (hX : Ext w W) => (h.ext hX).cells)
  have HT := Lib.hid (fun W (hX : Ext w W) j (hj : j < u.size) => wordRow_cell ((h.ext hX).tab a.code) (i := j) (by rw [tabU_length hu]; exact hj))
  have HL := Lib.hid (tabU_length hu a.code)
  have hn1 := ha.n1; have hn2 := ha.n2
  have hs := hu.s
  rw [h0] at hC
  rw [e1] at hf
  obtain ⟨code, addr, count, on, set, parts⟩ := a
  obtain ⟨A1, n1, c1, A2, n2, c2, A3, n3, c3⟩ := t
  simp only at h1 hf m4 m5 hn1 hn2 e2 e3 e4 e5 HT HL HFin
  subst e4 e5
  obtain rfl : n1 = 0 := by rw [← hn1]; rfl
  obtain rfl : n2 = 0 := by rw [← hn2]; rfl
  obtain ⟨k0, rfl⟩ : ∃ k : Nat, addr = (k : Int) := ⟨addr.toNat, by omega⟩
  obtain ⟨n, rfl⟩ : ∃ k : Nat, count = (k : Int) := ⟨count.toNat, by omega⟩
  rw [Int.toNat_natCast, Int.toNat_natCast] at HFin
  simp only [askV] at hC ⊢
  have HC := Lib.hid hC
  have hw : IntKind.i64.wrap ((k0 : Int) + (n : Int)) = (k0 : Int) + (n : Int) := IntWalk.i64_in _ (by omega)
  have hk1 : (k0 : Int) + (n : Int) ≤ (u.size : Int) := by omega
  have hk2 : 1 ≤ n ∧ n ≤ 2000 := by omega
  have hk3 : k0 + n ≤ u.size := by omega
  have hk4 : ¬ u.size = k0 := by omega
  have hk5 : (0 : Int) ≤ (k0 : Int) + (n : Int) := by omega
  have hk6 : ((k0 : Int) + (n : Int)).toNat = k0 + n := by omega
  have hk7 : k0 ≤ k0 + n := by omega
  have hk8 : k0 + n - k0 = n := by omega
  have hw0 : IntKind.i64.wrap 0 = 0 := rfl
  have hw1 : IntKind.i64.wrap 1 = 1 := rfl
  obtain ⟨l, hl⟩ : ∃ l, tabU u code = l := ⟨_, rfl⟩
  obtain ⟨g, hg⟩ : ∃ g, tabS s code = g := ⟨_, rfl⟩
  rw [hl] at HT HL HFin
  rw [hg] at HT
  clear hC h ha h0 m1 m2 m3 e1 hd hl
  unfold pU
  generalize RetDo w s u _ = R at HFin ⊢
  obtain ⟨q, hq⟩ : ∃ q, w.heap.size = q := ⟨_, rfl⟩
  rcases h1 with rfl | rfl
  all_goals
    first | obtain rfl : g = s.g1 := hg.symm | obtain rfl : g = s.g2 := hg.symm
    clear hg
    go_enter Try.func47, Try.ntmps47
    go_wp2_with fail
    refine (HC.out _ (duoU _ _ _)).mono ?_
    rintro e2 w2 ⟨rfl, hx⟩
    have HB := Lib.hid (hx.block ((Ext.alloc _ _).block (heap_alloc_new w _)))
    have HR : Hid (w2.heap[q + 1]? = some (.cells #[.int .i64 0, .slice none 0 0, .slice none 0 0, .slice none 0 0] 29 (0, 0))) := by
      have hh := hx.block (heap_alloc_new (w.alloc (.cells #[.int .i64 _, .int .i64 (k0 : Int), .int .i64 (n : Int), .slice A1 0 c1, .slice A2 0 c2, .slice A3 n3 c3] 26)) (.cells #[.int .i64 0, .slice none 0 0, .slice none 0 0, .slice none 0 0] 29))
      simp only [Go.World.size_alloc, hq] at hh
      exact hh
    have hRz := lt_of_heap HR.out
    have HX := Lib.hid ((duoU _ _ _).trans hx)
    obtain ⟨b0, b1, b2, b3, b4, b5⟩ := cells6 HB.out
    obtain ⟨d0, d1, d2, d3, d4, d5⟩ := HU.out _ HX.out
    clear hx
    simp only [Go.World.size_alloc, hq] at b0 b1 b2 b3 b4 b5
    clear HC
    go_wp2_with fail
    go_quiet (fail)
    have HB3 := Lib.hid ((Ext.drewN' (Ext.refl w2) nq).block HB.out)
    have HR3 := Lib.hid ((Ext.drewN' (Ext.refl w2) nq).block HR.out)
    have HX3 := Lib.hid (HX.out.drewN' nq)
    clear b0 b1 b2 b3 b4 b5 d0 d1 d2 d3 d4 d5 HB HR HX hRz
    generalize w2.drewN nq = w3 at *
    have hRz : q + 1 < w3.heap.size := lt_of_heap HR3.out
    have B0 := fun o => (cells6 ((Ext.alloc w3 o).block HB3.out)).1
    have B1 := fun o => (cells6 ((Ext.alloc w3 o).block HB3.out)).2.1
    have E1 := fun o => (HU.out _ (HX3.out.trans (Ext.alloc w3 o))).2.1
    have E2 := fun o => (HU.out _ (HX3.out.trans (Ext.alloc w3 o))).2.2.1
    simp only [hq] at B0 B1
    go_wp2_with fail
    go_quiet (fail)
    go_wp2_with fail
    go_loopw [9, 80] (fun _ i wr => ∃ (k : Nat) (A5 : Option Addr) (c5 : Nat), k ≤ n ∧ i = .int .i64 (k : Int) ∧ Hid (wr.heap[q + 1]? = some (.cells #[.int .i64 0, .slice none 0 0, .slice none 0 0, .slice none 0 0] 29 (0, 0))) ∧
      Hid (wr.heap[w3.heap.size]? = some (.cells #[.int .i64 0, .slice A5 k c5, .slice none 0 0, .slice none 0 0] 29 (0, 0))) ∧ Hid (Own wr (w3.heap.size + 1) 4 IsBo A5 k c5 ((onR ((l.drop k0).take k)).map cL)) ∧ Hid (Ext w wr) ∧ Hid (w3.heap.size + 1 ≤ wr.heap.size)) (fun _ i _ => n - (intOf i).toNat)
    case atStart => exact ⟨0, none, 0, Nat.zero_le _, rfl, (Ext.drewN' (Ext.alloc w3 _) _).block HR3.out, (Ext.drewN' (Ext.refl (w3.alloc _)) _).block (heap_alloc_new w3 _), Own.nil_ _ _ _ _, Ext.drewN' (Ext.alloc' HX3.out _) _, by unfold Hid; simp⟩
    case round =>
      obtain ⟨k, A5, c5, hk, rfl, H2, H3, HO, HX5, HZ⟩ := hrel
      obtain ⟨g0, g1, g2, g3⟩ := cells4 H3.out
      have hlt2 : w3.heap.size < wr.heap.size := lt_of_heap H3.out
      rcases Nat.lt_or_ge k n with hlt | hge
      · have hv := HT.out _ HX5.out (k0 + k) (by omega)
        go_wp2_with (at_builtin; refine app_bo _ rfl (.tmp 85) (.tmp 88) rfl rfl (HO.out.ext (Ext.alloc _ _)) rfl (Rd.one _ _ _) (by intro u hu; simp at hu; subst hu; exact ⟨_, rfl⟩) (by omega) (by simp; have := HZ.out; omega) ?_
                     intro A6 c6 w6 hown hgr hbk
                     have hne : ∀ g', g' ≤ w3.heap.size → some g' ≠ blk A5 := fun g' hg' e => by have := (HO.out.lt g' e.symm).1; omega
                     have K2 := Lib.hid ((hgr.block (q + 1) (by simp; omega) (hne _ (by omega))).trans ((Ext.alloc wr _).block H2.out))
                     have K3 := Lib.hid ((hgr.block w3.heap.size (by simp; omega) (hne _ (by omega))).trans ((Ext.alloc wr _).block H3.out))
                     have KX := Lib.hid ((HX5.out.trans (Ext.alloc _ _)).grown' hgr (fun g' e => by have := (HO.out.lt g' e).1; omega))
                     have KZ := Lib.hid (Nat.le_trans HZ.out (Nat.le_trans (Ext.alloc _ _).size hgr.size))
                     have KO := Lib.hid hown
                     clear g0 g1 g2 g3 hown hgr hbk hne
                     obtain ⟨g0, g1, g2, g3⟩ := cells4 K3.out
                     have z1 := frozen_of_row _ _ 1 _ _ K3.out)
        go_roundw
        case rel =>
          refine ⟨k + 1, A6, c6, by omega, by go_num, Lib.hid ?_, Lib.hid (heap_setCell_same _ _ _ _ _ _ K3.out), Lib.hid ?_, Lib.hid (KX.out.set' (by simp; omega) _), Lib.hid (by simp; exact KZ.out)⟩
          · exact (Below.heap_setCell _ ⟨w3.heap.size, 1, none⟩ _ (q + 1) (by simp; omega)).trans K2.out
          · refine Own.set_below ?_ (by simp) _
            have h := KO.out
            rw [onR_snoc (by have := HL.out; omega), List.map_append]
            exact h
        case measure => simp [intOf]; omega
      · obtain rfl : k = n := by omega
        obtain ⟨q0, q1, q2, q3⟩ := cells4 H2.out
        have f6 := fun k => frozen_of_row _ _ k _ _ H2.out
        go_wp2_with fail
        refine bodyPost_ret (v := .agg #[.int .i64 0, .slice A5 k c5, .slice none 0 0, .slice none 0 0]) (by simp [results, Try.results47, go_sem, q0, q1, q2, q3]) rfl (HFin.out _ _ _ _ (Own.mono (base := w3.heap.size + 1) ?_ (by omega)) ?_)
        · repeat' (first | with_reducible exact HO.out | with_reducible refine Own.set_below ?_ (by simp; omega) _)
        · repeat' (first | with_reducible exact HX5.out | with_reducible refine Ext.set' ?_ (by simp [hq]) _)
end Go.Proofs.Ytpjmhckdeeonbaa

namespace Go.Proofs.Ytpjmhckdeeonbaa
set_option linter.unusedVariables false
set_option linter.unusedSimpArgs false
set_option maxRecDepth 100000
set_option maxHeartbeats 1500000
open Go Go.RowKit Go.Out

theorem row_cut {w : World} {g k0 n : Nat} {l : List UInt16} (h : w.heap[g]? = some (wordRow l)) (hk : k0 + n ≤ l.length) : Rd w (some ⟨g, k0, none⟩) n (((l.drop k0).take n).map cW) := by
  refine ⟨by simp; omega, fun _ => ⟨g, k0, rfl, lt_of_heap h, fun j u hu => ?_⟩⟩
  rw [List.getElem?_map] at hu
  rcases Nat.lt_or_ge j n with hj | hj
  · rw [List.getElem?_take_of_lt hj, List.getElem?_drop, List.getElem?_eq_getElem (by omega)] at hu
    have hc := wordRow_cell h (i := k0 + j) (by omega)
    rw [List.getD_eq_getElem?_getD, List.getElem?_eq_getElem (by omega)] at hc
    rw [hc]
    exact hu
  · rw [List.getElem?_eq_none (by simp; omega)] at hu
    cases hu
theorem do_regs (u : UnitD) (s : UnitS) (a : AskD) (t : AskS) (w : World) (h : UnitAt w s u) (hu : UnitOk u) (ha : AskRd w a t) (h0 : checkF a = 0) (h1 : a.code = 3 ∨ a.code = 4) (hf : ¬ (u.size : Int) < a.addr + manyF a) :
    Calls Try.prog 47 #[pU s, askV a t] w (RetDo w s u a) := by
  have hC := fun W (hX : Ext w W) => check_any a t W (ha.ext hX)
  obtain ⟨m1, m2, m3, m4, m5⟩ := many_of h0
  obtain ⟨e1, e2, e3, e4, e5⟩ := m1 (by omega)
  have hd : doU u a = (u, ⟨0, [], ((tabU u a.code).drop a.addr.toNat).take a.count.toNat, []⟩) := by
    unfold doU; rw [if_neg (by omega), if_neg (by simp [h0]), if_neg hf, if_neg (by omega), if_pos h1]
  have HFin := Lib.hid (show ∀ W A m c, Own W w.heap.size 54 IsU16 A m c ((((tabU u a.code).drop a.addr.toNat).take a.count.toNat).map cW) → Ext w W → RetDo w s u a (.returned (.agg #[.int .i64 0, .slice none 0 0, .slice A m c, .slice none 0 0])) W from
    fun W A m c hO hX => ⟨⟨none, 0, 0, A, m, c, none, 0, 0⟩, by rw [hd]; rfl, by rw [hd]; exact ⟨Own.nil_ _ _ _ _, hO, OwL.nil_ _ _ _ _, rfl, by simp, by simp [i64P]⟩, by rw [hd]; exact h.ext hX, .of_ext hX, fun _ => hX⟩)
  have HU := Lib.hid (fun W (hX : Ext w W) => (h.ext hX).cells)
  have HT := Lib.hid (fun W (hX : Ext w W) => (h.ext hX).tab a.code)
  have HL := Lib.hid (tabU_length hu a.code)
  have hn1 := ha.n1; have hn2 := ha.n2
  have hs := hu.s
  rw [h0] at hC
  rw [e1] at hf
  obtain ⟨code, addr, count, on, set, parts⟩ := a
  obtain ⟨A1, n1, c1, A2, n2, c2, A3, n3, c3⟩ := t
  simp only at h1 hf m4 m5 hn1 hn2 e2 e3 e4 e5 HT HL HFin
  subst e4 e5
  obtain rfl : n1 = 0 := by rw [← hn1]; rfl
  obtain rfl : n2 = 0 := by rw [← hn2]; rfl
  obtain ⟨k0, rfl⟩ : ∃ k : Nat, addr = (k : Int) := ⟨addr.toNat, by omega⟩
  obtain ⟨n, rfl⟩ : ∃ k : Nat, count = (k : Int) := ⟨count.toNat, by omega⟩
  rw [Int.toNat_natCast, Int.toNat_natCast] at HFin
  simp only [askV] at hC ⊢
  have HC := Lib.hid hC
  have hw : IntKind.i64.wrap ((k0 : Int) + (n : Int)) = (k0 : Int) + (n : Int) := IntWalk.i64_in _ (by omega)
  have hk1 : (k0 : Int) + (n : Int) ≤ (u.size : Int) := by omega
  have hk2 : 1 ≤ n ∧ n ≤ 2000 := by omega
  have hk3 : k0 + n ≤ u.size := by omega
  have hk4 : ¬ u.size = k0 := by omega
  have hk5 : (0 : Int) ≤ (k0 : Int) + (n : Int) := by omega
  have hk6 : ((k0 : Int) + (n : Int)).toNat = k0 + n := by omega
  have hk7 : k0 ≤ k0 + n := by omega
  have hk8 : k0 + n - k0 = n := by omega
  have hw0 : IntKind.i64.wrap 2 = 2 := rfl
  have hw1 : IntKind.i64.wrap 3 = 3 := rfl
  obtain ⟨l, hl⟩ : ∃ l, tabU u code = l := ⟨_, rfl⟩
  obtain ⟨g, hg⟩ : ∃ g, tabS s code = g := ⟨_, rfl⟩
  rw [hl] at HT HL HFin
  rw [hg] at HT
  clear hC h ha h0 m1 m2 m3 e1 hd hl
  unfold pU
  generalize RetDo w s u _ = R at HFin ⊢
  obtain ⟨q, hq⟩ : ∃ q, w.heap.size = q := ⟨_, rfl⟩
  rcases h1 with rfl | rfl
  all_goals
    first | obtain rfl : g = s.g3 := hg.symm | obtain rfl : g = s.g4 := hg.symm
    clear hg
    go_enter Try.func47, Try.ntmps47
    go_wp2_with fail
    refine (HC.out _ (duoU _ _ _)).mono ?_
    rintro e2 w2 ⟨rfl, hx⟩
    have HB := Lib.hid (hx.block ((Ext.alloc _ _).block (heap_alloc_new w _)))
    have HR : Hid (w2.heap[q + 1]? = some (.cells #[.int .i64 0, .slice none 0 0, .slice none 0 0, .slice none 0 0] 29 (0, 0))) := by
      have hh := hx.block (heap_alloc_new (w.alloc (.cells #[.int .i64 _, .int .i64 (k0 : Int), .int .i64 (n : Int), .slice A1 0 c1, .slice A2 0 c2, .slice A3 n3 c3] 26)) (.cells #[.int .i64 0, .slice none 0 0, .slice none 0 0, .slice none 0 0] 29))
      simp only [Go.World.size_alloc, hq] at hh
      exact hh
    have hRz := lt_of_heap HR.out
    have HX := Lib.hid ((duoU _ _ _).trans hx)
    obtain ⟨b0, b1, b2, b3, b4, b5⟩ := cells6 HB.out
    obtain ⟨d0, d1, d2, d3, d4, d5⟩ := HU.out _ HX.out
    clear hx
    simp only [Go.World.size_alloc, hq] at b0 b1 b2 b3 b4 b5
    clear HC
    go_wp2_with fail
    go_quiet (fail)
    have HB3 := Lib.hid ((Ext.drewN' (Ext.refl w2) nq).block HB.out)
    have HR3 := Lib.hid ((Ext.drewN' (Ext.refl w2) nq).block HR.out)
    have HX3 := Lib.hid (HX.out.drewN' nq)
    clear b0 b1 b2 b3 b4 b5 d0 d1 d2 d3 d4 d5 HB HR HX hRz
    generalize w2.drewN nq = w3 at *
    have hRz : q + 1 < w3.heap.size := lt_of_heap HR3.out
    have X4 := Lib.hid (HX3.out.trans (Ext.alloc w3 (.cells #[.int .i64 0, .slice none 0 0, .slice none 0 0, .slice none 0 0] 29)))
    have HB4 := Lib.hid ((Ext.alloc w3 (.cells #[.int .i64 0, .slice none 0 0, .slice none 0 0, .slice none 0 0] 29)).block HB3.out)
    have HR4 := Lib.hid ((Ext.alloc w3 (.cells #[.int .i64 0, .slice none 0 0, .slice none 0 0, .slice none 0 0] 29)).block HR3.out)
    have HN4 := Lib.hid (heap_alloc_new w3 (.cells #[.int .i64 0, .slice none 0 0, .slice none 0 0, .slice none 0 0] 29))
    have B0 := fun o => (cells6 ((Ext.alloc w3 o).block HB3.out)).1
    simp only [hq] at B0
    go_wp2_with fail
    generalize w3.alloc (.cells #[.int .i64 0, .slice none 0 0, .slice none 0 0, .slice none 0 0] 29) = w4 at *
    clear B0
    obtain ⟨b0, b1, b2, b3, b4, b5⟩ := cells6 HB4.out
    obtain ⟨d0, d1, d2, d3, d4, d5⟩ := HU.out _ X4.out
    obtain ⟨g0, g1, g2, g3⟩ := cells4 HN4.out
    simp only [hq] at b0 b1 b2 b3 b4 b5
    go_still_tail 17, (by kernel_rfl)
    change wpList _ _ _ _ _ w4.drew
    have hz4 := lt_of_heap HN4.out
    have HRow := Lib.hid (row_cut (HT.out _ (X4.out.trans (Ext.draw _))) (k0 := k0) (n := n) (by have := HL.out; omega))
    go_wp2_with (at_builtin; refine app_u16 _ rfl (.tmp 97) (.tmp 112) rfl rfl (Own.nil_ _ (w3.heap.size + 1) _ _) rfl HRow.out isU16_map (by omega) (by simp; omega) ?_
                 intro A6 c6 w6 hown hgr hbk
                 have hne : ∀ g', some g' ≠ blk none := fun g' e => by cases e
                 have K2 := Lib.hid ((hgr.block (q + 1) (by simp; omega) (hne _)).trans HR4.out)
                 have K3 := Lib.hid ((hgr.block w3.heap.size (by simp; omega) (hne _)).trans HN4.out)
                 have KX := Lib.hid ((X4.out.trans (Ext.draw _)).grown' hgr (fun g' e => by cases e))
                 have KO := Lib.hid hown
                 clear g0 g1 g2 g3 b0 b1 b2 b3 b4 b5 d0 d1 d2 d3 d4 d5 hown hgr hbk hne
                 obtain ⟨g0, g1, g2, g3⟩ := cells4 K3.out
                 obtain ⟨q0, q1, q2, q3⟩ := cells4 K2.out
                 have z1 := frozen_of_row _ _ 2 _ _ K3.out
                 have f6 := fun k => frozen_of_row _ _ k _ _ K2.out)
    have KO2 : Hid (Own w6 (w3.heap.size + 1) 54 IsU16 A6 n c6 (((l.drop k0).take n).map cW)) := by
      have h := KO.out
      rw [List.nil_append, Nat.zero_add] at h
      exact h
    refine bodyPost_ret (v := .agg #[.int .i64 0, .slice none 0 0, .slice A6 n c6, .slice none 0 0]) (by simp [results, Try.results47, go_sem, q0, q1, q2, q3]) rfl (HFin.out _ _ _ _ (Own.mono (base := w3.heap.size + 1) ?_ (by omega)) ?_)
    · repeat' (first | with_reducible exact KO2.out | with_reducible refine Own.set_below ?_ (by simp; try omega) _)
    · repeat' (first | with_reducible exact KX.out | with_reducible refine Ext.set' ?_ (by simp; omega) _)
end Go.Proofs.Ytpjmhckdeeonbaa

namespace Go.Proofs.Ytpjmhckdeeonbaa
set_option linter.unusedVariables false
set_option linter.unusedSimpArgs false
set_option maxRecDepth 100000
set_option maxHeartbeats 1500000
open Go Go.RowKit Go.Out

theorem on_apart {w : World} {s : UnitS} {u : UnitD} {A : Option Addr} {n : Nat} {l : List Bool} (hr : Rd w A n (l.map cL)) (h : UnitAt w s u) : ∀ W, OnlyU s w W → Rd W A n (l.map cL) := by
  intro W hW
  refine ⟨hr.1, fun hn => ?_⟩
  obtain ⟨b, off, rfl, hb, hc⟩ := hr.2 hn
  have hl := hr.length
  have h0 : w.cell? ⟨b, off + 0, none⟩ = some (.bool l[0]) := hc 0 _ (by rw [List.getElem?_map, List.getElem?_eq_getElem (by omega)]; rfl)
  rw [Nat.add_zero] at h0
  have word : ∀ g m, w.heap[g]? = some (wordRow m) → b ≠ g := by
    rintro g m hg rfl
    rw [cell_of_row _ _ _ _ _ _ hg, List.getElem?_toArray, List.getElem?_map] at h0
    cases hm : m[off]? <;> rw [hm] at h0 <;> simp [cW] at h0
  have row : b ≠ s.p := by
    rintro rfl
    rw [cell_of_row _ _ _ _ _ _ h.row] at h0
    rcases off with _ | _ | _ | _ | _ | _ | _ <;> simp at h0
  refine ⟨b, off, rfl, Nat.lt_of_lt_of_le hb hW.size, fun j v hv => ?_⟩
  rw [World.cell?_of_block (a := ⟨b, off + j, none⟩) (hW.block b hb row (word _ _ h.t1) (word _ _ h.t2) (word _ _ h.t3) (word _ _ h.t4))]
  exact hc j v hv
def coilU (u : UnitD) (k0 : Nat) (on : List Bool) (k : Nat) : UnitD := { u with t1 := over u.t1 k0 ((on.take k).map b2w) }
theorem coilU_zero (u : UnitD) (k0 : Nat) (on : List Bool) : coilU u k0 on 0 = u := by unfold coilU; simp [over_nil]
theorem coil_snoc {l : List UInt16} {k0 k : Nat} {on : List Bool} (hk : k < on.length) (h : k0 + on.length ≤ l.length) : over l k0 ((on.take (k + 1)).map b2w) = (over l k0 ((on.take k).map b2w)).set (k0 + k) (b2w on[k]) := by
  have e : (on.take k).length = k := by simp; omega
  rw [List.take_add_one, List.getElem?_eq_getElem hk, List.map_append]
  show over l k0 ((on.take k).map b2w ++ [b2w on[k]]) = _
  rw [over_snoc (by rw [List.length_map, e]; omega), List.length_map, e]
theorem coilU_step {u : UnitD} {k0 k : Nat} {on : List Bool} (hk : k < on.length) (h : k0 + on.length ≤ u.t1.length) : putU (coilU u k0 on k) 1 ((tabU (coilU u k0 on k) 1).set (k0 + k) (b2w on[k])) = coilU u k0 on (k + 1) := by
  unfold coilU putU tabU
  simp only [if_true]
  rw [coil_snoc hk h]
theorem coilU_two {u : UnitD} {k0 k : Nat} {on : List Bool} (x : UInt16) (hk : k < on.length) (h : k0 + on.length ≤ u.t1.length) :
    putU (putU (coilU u k0 on k) 1 ((tabU (coilU u k0 on k) 1).set (k0 + k) x)) 1 ((tabU (putU (coilU u k0 on k) 1 ((tabU (coilU u k0 on k) 1).set (k0 + k) x)) 1).set (k0 + k) (b2w on[k])) = coilU u k0 on (k + 1) := by
  unfold coilU putU tabU
  simp only [if_true, List.set_set]
  rw [coil_snoc hk h]
theorem do_coils (u : UnitD) (s : UnitS) (a : AskD) (t : AskS) (w : World) (h : UnitAt w s u) (hu : UnitOk u) (ha : AskRd w a t) (h0 : checkF a = 0) (h5 : a.code = 5 ∨ a.code = 15) (hf : ¬ (u.size : Int) < a.addr + manyF a) (hwr : u.wrote < 4611686018427387904) :
    Calls Try.prog 47 #[pU s, askV a t] w (RetDo w s u a) := by
  have hC := fun W (hX : Ext w W) => check_any a t W (ha.ext hX)
  have hal := on_apart ha.on h
  have hd : doU u a = ({ u with t1 := over u.t1 a.addr.toNat (a.on.map b2w), wrote := u.wrote + 1 }, rep0) := by
    unfold doU; rw [if_neg (by omega), if_neg (by simp [h0]), if_neg hf, if_neg (by omega), if_neg (by omega), if_pos h5]
  have hp := parts_of h0 (by omega)
  have HFin := Lib.hid (show ∀ W, ActU s w { u with t1 := over u.t1 a.addr.toNat (a.on.map b2w), wrote := u.wrote + 1 } W → RetDo w s u a (.returned (.agg #[.int .i64 0, .slice none 0 0, .slice none 0 0, .slice none 0 0])) W from
    fun W hA => ⟨repS0, by rw [hd]; rfl, by rw [hd]; exact repOwE _ _ 0 (by unfold i64P; omega), by rw [hd]; exact hA.at_, hA.only, fun hq => absurd hp hq⟩)
  have HU := Lib.hid (fun W (hX : Ext w W) => (h.ext hX).cells)
  have HUA := Lib.hid h
  have hn1 := ha.n1; have hn2 := ha.n2
  obtain ⟨m1, m2, m3, m4, m5⟩ := many_of h0
  obtain ⟨e1, e2, e3, e4, e5⟩ := m2 h5
  have hs := hu.s
  have hl1 := hu.l1
  rw [h0] at hC
  rw [e1] at hf
  obtain ⟨code, addr, count, on, set, parts⟩ := a
  obtain ⟨A1, n1, c1, A2, n2, c2, A3, n3, c3⟩ := t
  simp only at h5 hf m4 m5 hn1 hn2 e2 e3 e4 e5 hal HFin
  subst e2 e3
  obtain rfl : n2 = 0 := by rw [← hn2]; rfl
  obtain ⟨k0, rfl⟩ : ∃ k : Nat, addr = (k : Int) := ⟨addr.toNat, by omega⟩
  rw [Int.toNat_natCast] at HFin
  simp only [askV] at hC ⊢
  have HC := Lib.hid hC
  have HAL := Lib.hid hal
  have hw : IntKind.i64.wrap ((k0 : Int) + (n1 : Int)) = (k0 : Int) + (n1 : Int) := IntWalk.i64_in _ (by omega)
  have hk1 : (k0 : Int) + (n1 : Int) ≤ (u.size : Int) := by omega
  have hk2 : 1 ≤ n1 ∧ n1 ≤ 1968 := by omega
  have hwrap : IntKind.i64.wrap ((u.wrote : Int) + 1) = (u.wrote : Int) + 1 := IntWalk.i64_in _ (by omega)
  clear hC h ha hal h0 m1 m2 m3 e1 hd hp
  unfold pU
  generalize RetDo w s u _ = R at HFin ⊢
  obtain ⟨q, hq⟩ : ∃ q, w.heap.size = q := ⟨_, rfl⟩
  have y2 : (code == 20) = false := by simp; omega
  have y3 : (code == 1) = false := by simp; omega
  have y4 : (code == 2) = false := by simp; omega
  have y5 : (code == 3) = false := by simp; omega
  have y6 : (code == 4) = false := by simp; omega
  have H5 := Lib.hid h5
  have HLT := Lib.hid HUA.out.lt
  have HNE := Lib.hid HUA.out.ne
  obtain ⟨kode, hkode⟩ : ∃ x, x = code := ⟨_, rfl⟩
  rcases H5.out with rfl | rfl
  all_goals
    clear H5 h5
    go_enter Try.func47, Try.ntmps47
    go_wp2_with fail
    refine (HC.out _ (duoU _ _ _)).mono ?_
    rintro e2 w2 ⟨rfl, hx⟩
    have HB := Lib.hid (hx.block ((Ext.alloc _ _).block (heap_alloc_new w _)))
    have HR : Hid (w2.heap[q + 1]? = some (.cells #[.int .i64 0, .slice none 0 0, .slice none 0 0, .slice none 0 0] 29 (0, 0))) := by
      have hh := hx.block (heap_alloc_new (w.alloc (.cells #[.int .i64 _, .int .i64 (k0 : Int), .int .i64 0, .slice A1 n1 c1, .slice A2 0 c2, .slice A3 n3 c3] 26)) (.cells #[.int .i64 0, .slice none 0 0, .slice none 0 0, .slice none 0 0] 29))
      simp only [Go.World.size_alloc, hq] at hh
      exact hh
    have HX := Lib.hid ((duoU _ _ _).trans hx)
    obtain ⟨b0, b1, b2, b3, b4, b5⟩ := cells6 HB.out
    obtain ⟨d0, d1, d2, d3, d4, d5⟩ := HU.out _ HX.out
    clear hx
    simp only [Go.World.size_alloc, hq] at b0 b1 b2 b3 b4 b5
    clear HC
    go_wp2_with fail
    go_quiet (fail)
    have HB3 := Lib.hid ((Ext.drewN' (Ext.refl w2) nq).block HB.out)
    have HR3 := Lib.hid ((Ext.drewN' (Ext.refl w2) nq).block HR.out)
    have HX3 := Lib.hid (HX.out.drewN' nq)
    clear b0 b1 b2 b3 b4 b5 d0 d1 d2 d3 d4 d5 HB HR HX
    generalize w2.drewN nq = w3 at *
    have hRz : q + 1 < w3.heap.size := lt_of_heap HR3.out
    have X4 := Lib.hid (HX3.out.trans (Ext.alloc w3 (.cells #[.int .i64 0, .slice none 0 0, .slice none 0 0, .slice none 0 0] 29)))
    have HB4 := Lib.hid ((Ext.alloc w3 (.cells #[.int .i64 0, .slice none 0 0, .slice none 0 0, .slice none 0 0] 29)).block HB3.out)
    have HR4 := Lib.hid ((Ext.alloc w3 (.cells #[.int .i64 0, .slice none 0 0, .slice none 0 0, .slice none 0 0] 29)).block HR3.out)
    have HN4 := Lib.hid (heap_alloc_new w3 (.cells #[.int .i64 0, .slice none 0 0, .slice none 0 0, .slice none 0 0] 29))
    have B0 := fun o => (cells6 ((Ext.alloc w3 o).block HB3.out)).1
    have B3 := fun o => (cells6 ((Ext.alloc w3 o).block HB3.out)).2.2.2.1
    simp only [hq] at B0 B3
    go_wp2_with fail
    generalize w3.alloc (.cells #[.int .i64 0, .slice none 0 0, .slice none 0 0, .slice none 0 0] 29) = w4 at *
    clear B0 B3
    rw [hq] at HB4
    have HA4 := Lib.hid (HUA.out.act.ext X4.out)
    obtain ⟨gr, hgr⟩ : ∃ g, w3.heap.size = g := ⟨_, rfl⟩
    rw [hgr] at HN4 hRz
    have hgq : q ≤ gr := by omega
    simp only [hgr]
    clear HB3 HR3 HX3 HU HUA
    go_loopw [10, 11, 122] (fun _ _ i wr => ∃ k : Nat, k ≤ n1 ∧ i = .int .i64 (k : Int) ∧ Hid (ActU s w (coilU u k0 on k) wr) ∧ Hid (wr.heap[q]? = some (.cells #[.int .i64 kode, .int .i64 (k0 : Int), .int .i64 0, .slice A1 n1 c1, .slice A2 0 c2, .slice A3 n3 c3] 26 (0, 0))) ∧ Hid (wr.heap[q + 1]? = some (.cells #[.int .i64 0, .slice none 0 0, .slice none 0 0, .slice none 0 0] 29 (0, 0))) ∧
      Hid (wr.heap[gr]? = some (.cells #[.int .i64 0, .slice none 0 0, .slice none 0 0, .slice none 0 0] 29 (0, 0)))) (fun _ _ i _ => n1 - (intOf i).toNat)
    case atStart => exact ⟨0, Nat.zero_le _, rfl, by unfold Hid; rw [coilU_zero]; exact HA4.out, by rw [hkode]; exact HB4, HR4, HN4⟩
    case round =>
      obtain ⟨k, hk, rfl, HA, H1, H2, H3⟩ := hrel
      have hs1 := HLT.out.2.1
      have d1 : wr.cell? ⟨s.p, 1, none⟩ = some (.slice (some ⟨s.g1, 0, none⟩) u.size u.size) := HA.out.at_.cells.2.1
      have b1 := (cells6 H1.out).2.1
      rcases Nat.lt_or_ge k n1 with hlt | hge
      · obtain ⟨bb, oo, rfl, hbb, hlo, hcell⟩ := (HAL.out wr HA.out.only).boat hlt
        have hcl : (coilU u k0 on k).t1.length = u.size := by unfold coilU; rw [over_length (by simp; omega)]; exact hl1
        have z1 := frozen_of_row wr s.g1 (k0 + k) _ _ HA.out.at_.t1
        have hc := wordRow_cell HA.out.at_.t1 (i := k0 + k) (by omega)
        have e1 : IntKind.i64.wrap ((k0 : Int) + (k : Int)) = (k0 : Int) + (k : Int) := IntWalk.i64_in _ (by omega)
        have e2 : 0 ≤ (k0 : Int) + (k : Int) := by omega
        have e3 : (k0 : Int) + (k : Int) < (u.size : Int) := by omega
        have e4 : ((k0 : Int) + (k : Int)).toNat = k0 + k := by omega
        have S1 : Hid (ActU s w (putU (coilU u k0 on k) 1 ((tabU (coilU u k0 on k) 1).set (k0 + k) 0)) (wr.setCell ⟨s.g1, k0 + k, none⟩ (.int .u16 0))) := HA.out.set1 1 (k0 + k) 0
        have T0 := Lib.hid (coilU_step (u := u) (k0 := k0) hlo (by omega))
        have T1 := Lib.hid (coilU_two (u := u) (k0 := k0) 0 hlo (by omega))
        generalize on[k] = x at *
        cases x
        · go_wp2_with fail
          go_still_tail 10, (by kernel_rfl)
          change wpList _ _ _ _ _ wr.drew
          go_wp2_with fail
          go_roundw
          case rel =>
            refine ⟨k + 1, by omega, by go_num, ?_, Lib.hid ?_, Lib.hid ?_, Lib.hid ?_⟩
            · unfold Hid; rw [← T0.out]; exact S1.out.drew'
            · exact (Below.heap_setCell wr ⟨s.g1, k0 + k, none⟩ (.int .u16 0) q (by simp; omega)).trans H1.out
            · exact (Below.heap_setCell wr ⟨s.g1, k0 + k, none⟩ (.int .u16 0) (q + 1) (by simp; omega)).trans H2.out
            · exact (Below.heap_setCell wr ⟨s.g1, k0 + k, none⟩ (.int .u16 0) gr (by simp; omega)).trans H3.out
          case measure => simp [intOf]; omega
        · have S1d : Hid (ActU s w (putU (coilU u k0 on k) 1 ((tabU (coilU u k0 on k) 1).set (k0 + k) 0)) (wr.setCell ⟨s.g1, k0 + k, none⟩ (.int .u16 0)).drew) := S1.out.drew'
          have J1 : Hid ((wr.setCell ⟨s.g1, k0 + k, none⟩ (.int .u16 0)).drew.heap[q]? = _) := (Below.heap_setCell wr ⟨s.g1, k0 + k, none⟩ (.int .u16 0) q (by simp; omega)).trans H1.out
          have J2 : Hid ((wr.setCell ⟨s.g1, k0 + k, none⟩ (.int .u16 0)).drew.heap[q + 1]? = _) := (Below.heap_setCell wr ⟨s.g1, k0 + k, none⟩ (.int .u16 0) (q + 1) (by simp; omega)).trans H2.out
          have J3 : Hid ((wr.setCell ⟨s.g1, k0 + k, none⟩ (.int .u16 0)).drew.heap[gr]? = _) := (Below.heap_setCell wr ⟨s.g1, k0 + k, none⟩ (.int .u16 0) gr (by simp; omega)).trans H3.out
          go_wp2_with fail
          go_still_tail 10, (by kernel_rfl)
          change wpList _ _ _ _ _ wr.drew
          go_wp2_with fail
          generalize (wr.setCell ⟨s.g1, k0 + k, none⟩ (.int .u16 0)).drew = wx at *
          have S2 : Hid (ActU s w _ (wx.setCell ⟨s.g1, k0 + k, none⟩ (.int .u16 1))) := S1d.out.set1 1 (k0 + k) 1
          have d1' : wx.cell? ⟨s.p, 1, none⟩ = some (.slice (some ⟨s.g1, 0, none⟩) u.size u.size) := S1d.out.at_.cells.2.1
          have b1' := (cells6 J1.out).2.1
          have z1' := frozen_of_row _ s.g1 (k0 + k) _ _ S1d.out.at_.t1
          have hc' := wordRow_cell S1d.out.at_.t1 (i := k0 + k) (by unfold putU tabU; simp only [if_true, List.length_set]; omega)
          go_still_tail 10, (by kernel_rfl)
          change wpList _ _ _ _ _ wx.drew
          go_wp2_with fail
          go_roundw
          case rel =>
            refine ⟨k + 1, by omega, by go_num, ?_, Lib.hid ?_, Lib.hid ?_, Lib.hid ?_⟩
            · unfold Hid; rw [← T1.out]; exact S2.out.drew'
            · exact (Below.heap_setCell _ ⟨s.g1, k0 + k, none⟩ (.int .u16 1) q (by simp; omega)).trans J1.out
            · exact (Below.heap_setCell _ ⟨s.g1, k0 + k, none⟩ (.int .u16 1) (q + 1) (by simp; omega)).trans J2.out
            · exact (Below.heap_setCell _ ⟨s.g1, k0 + k, none⟩ (.int .u16 1) gr (by simp; omega)).trans J3.out
          case measure => simp [intOf]; omega
      · obtain rfl : k = n1 := by omega
        have HAW : Hid (ActU s w { u with t1 := over u.t1 k0 (on.map b2w), wrote := u.wrote + 1 } (wr.setCell ⟨s.p, 5, none⟩ (.int .i64 ((u.wrote : Int) + 1)))) := by
          have h := HA.out.wrote
          unfold coilU at h
          rw [List.take_of_length_le (by omega)] at h
          exact h
        have c5 : wr.cell? ⟨s.p, 5, none⟩ = some (.int .i64 (u.wrote : Int)) := HA.out.at_.cells.2.2.2.2.2
        have f5 := frozen_of_row _ _ 5 _ _ HA.out.at_.row
        have hs2 := HLT.out.1
        have R6 := (Below.heap_setCell wr ⟨s.p, 5, none⟩ (.int .i64 ((u.wrote : Int) + 1)) gr (by simp; omega)).trans H3.out
        have Q6 := (Below.heap_setCell wr ⟨s.p, 5, none⟩ (.int .i64 ((u.wrote : Int) + 1)) (q + 1) (by simp; omega)).trans H2.out
        obtain ⟨r0, r1, r2, r3⟩ := cells4 R6
        obtain ⟨q0, q1, q2, q3⟩ := cells4 Q6
        have f6 := fun k => frozen_of_row _ _ k _ _ Q6
        clear R6 Q6
        go_wp2_with fail
        refine bodyPost_ret (v := .agg #[.int .i64 0, .slice none 0 0, .slice none 0 0, .slice none 0 0]) (by simp [results, Try.results47, go_sem, q0, q1, q2, q3]) rfl (HFin.out _ ?_)
        repeat' (first | with_reducible exact HAW.out | with_reducible refine ActU.drew' ?_ | with_reducible refine ActU.set' ?_ (by simp [hq]) _)
end Go.Proofs.Ytpjmhckdeeonbaa
