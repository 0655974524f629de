/- The walk of FrameTurned: for every input true; nothing that was there turns. -/
import Derived.Test.YtemiahjdacckgaaFrameW
import Derived.Test.YtemiahjdacckgaaSees
namespace Go.Proofs.Ytemiahjdacckgaa
set_option linter.unusedVariables false
open Go Go.RowKit Go.Out

theorem turn_skip' {l : List UInt8} {at_ M i : Nat} (h : ¬ (M / 2 ^ i % 2 = 1 ∧ (at_ + i) / 8 < l.length)) : turn l at_ M (i + 1) = turn l at_ M i := if_neg h

set_option maxHeartbeats 1000000 in
theorem lawFrameTurned (u : UInt8) (b : List UInt8) (A : Option Addr) (m c M : Nat) (x : Int) (w : World) (hr : Rd w A m (b.map cB)) (hc : m ≤ c) (hb : c * 1 ≤ 140737488351232) (hM : M < 65536) :
    Calls Try.prog 11 #[.agg #[.int .u8 (u.toNat : Int), .slice A m c, .int .i64 x, .int .u16 (M : Int)]] w fun e w' => e = .returned (.bool true) ∧ Below w.heap.size w w' := by
  have Hl := Lib.hid hr.length
  have X0 : Ext w (w.alloc (.cells #[.int .u8 (u.toNat : Int), .slice A m c, .int .i64 x, .int .u16 (M : Int)] 59)) := Ext.alloc _ _
  have Hr0 := Lib.hid hr; have Hr := Lib.hid (hr.ext X0); clear hr
  by_cases h0 : (rtuF u b).2 = 0
  · obtain ⟨h1, h2, h3, h4, h5, h6, h7⟩ := openRtu_rtu h0
    rw [Hl.out] at h6 h7
    have hR : rtuF u b = (sealF 2 (more16 65535) (u :: b), 0) := by rw [← h3, ← h0]
    generalize hS : sealF 2 (more16 65535) (u :: b) = S at *
    have hSl : S.length = 3 + m := by rw [← h3, h2, Hl.out]
    rw [h3] at h1
    have Hturn : Hid (∀ r, (turn S r M 16).2 ≠ 0 → openRtuF (turn S r M 16).1 = (0, [], 5)) := by
      intro r hne
      refine openRtu_bad ?_ ?_ ?_
      · rw [turn_length, hSl]; omega
      · rw [turn_length, hSl]; omega
      · rw [← hS] at hne ⊢; exact open16_turned (u :: b) r M 16 hM hne
    have HR := Lib.hid hR; have HO := Lib.hid h1; have HSl := Lib.hid hSl
    clear h0 h1 h2 h3 hR hS hSl
    go_enter Try.func11, Try.ntmps11
    go_wp2_with fail
    refine (rtu_any u b _ _ _ _ Hr.out (by omega)).mono ?_
    rintro e w1 ⟨A1, n1, c1, rfl, ho, hb1⟩
    rw [HR.out] at ho ⊢
    have hn1 : n1 = 3 + m := by have := ho.len; simp at this; rw [← this, HSl.out]
    have hn4 : 4 ≤ n1 := by omega
    have hn256 : n1 ≤ 256 := by omega
    have HSn : Hid (S.length = n1) := HSl.out.trans hn1.symm
    have Hn1 := Lib.hid hn1; clear hn1
    have hz1 := hb1.size
    simp at hz1
    have X1 : Ext w w1 := X0.trans hb1
    have hF : w1.heap[w.heap.size]? = some (.cells #[.int .u8 (u.toNat : Int), .slice A m c, .int .i64 x, .int .u16 (M : Int)] 59 (0, 0)) := (Ext.of hb1).block (heap_alloc_new w _)
    have Ho := Lib.hid ho; have HF := Lib.hid hF
    have d2 : w1.cell? ⟨w.heap.size, 2, none⟩ = some (.int .i64 x) := (cell_of_row _ _ _ _ _ _ hF).trans rfl
    clear ho hb1 hF
    have hn : 8 * (n1 : Int) = ((8 * n1 : Nat) : Int) := by omega
    have Hn := Lib.hid hn; clear hn
    go_wp2_with fail
    rw [Hn.out]
    refine (pick_any x (8 * n1) _ (by omega) (by omega)).mono ?_
    rintro e v ⟨r, hr8, rfl, rfl⟩
    clear d2
    go_wp2_with fail
    go_loopw [6, 7, 8] (fun n i _ wr => ∃ k : Nat, k ≤ 16 ∧ i = .int .i64 k ∧ n = .int .i64 ((turn S r M k).2 : Nat) ∧ Own wr (w.heap.size + 1) 5 IsU8 A1 n1 c1 ((turn S r M k).1.map cB) ∧ Hid (wr.heap[w.heap.size]? = some (.cells #[.int .u8 (u.toNat : Int), .slice A m c, .int .i64 x, .int .u16 (M : Int)] 59 (0, 0))) ∧ Ext w wr) (fun _ i _ _ => 16 - (intOf i).toNat)
    case atStart => exact ⟨0, by omega, rfl, rfl, Ho.out.mono (by simp), HF, X1⟩
    case round =>
      obtain ⟨k, hk, rfl, rfl, hown, HFr, hx⟩ := hrel
      by_cases hlt : k < 16
      · have d3 : wr.cell? ⟨w.heap.size, 3, none⟩ = some (.int .u16 (M : Int)) := (cell_of_row _ _ _ _ _ _ HFr.out).trans rfl
        have hcnt := turn_count S r M k
        have hlen := turn_length S r M k
        rw [HSn.out] at hlen
        have hskip := @turn_skip' S r M k
        have hhit := @turn_hit S r M k
        rw [HSn.out] at hskip hhit
        obtain ⟨K, hK⟩ : ∃ K, r + k = K := ⟨_, rfl⟩
        have hKi : (r : Int) + (k : Int) = (K : Int) := by omega
        rw [hK] at hskip hhit
        generalize hL : (turn S r M k).1 = L at *
        generalize hC : (turn S r M k).2 = C at *
        have hshr : (M : Int) / 2 ^ k = ((M / 2 ^ k : Nat) : Int) := by simp
        have hXM : M / 2 ^ k < 65536 := Nat.lt_of_le_of_lt (Nat.div_le_self _ _) hM
        have hsk : ¬ (M / 2 ^ k % 2 = 1 ∧ K / 8 < n1) → (turn S r M (k + 1)).1 = L ∧ (turn S r M (k + 1)).2 = C := fun h => by rw [hskip h]; exact ⟨hL, hC⟩
        generalize M / 2 ^ k = X at *
        have Hown := Lib.hid hown; have HK := Lib.hid hK; have Hhit := Lib.hid hhit; have Hskip := Lib.hid hsk; have Hlen := Lib.hid hlen
        clear hown hK hhit hskip hsk hlen hL hC
        have e5 : (X : Int).tmod 2 = (X : Int) % 2 := Int.tmod_eq_emod_of_nonneg (by omega)
        have e1 : IntKind.i64.wrap ((K : Int) / 8) = (K : Int) / 8 := IntWalk.i64_in _ (by omega)
        have e6 : (K : Int).tdiv 8 = (K : Int) / 8 := Int.tdiv_eq_ediv_of_nonneg (by omega)
        have e7 : (K : Int).tmod 8 = (K : Int) % 8 := Int.tmod_eq_emod_of_nonneg (by omega)
        rcases Nat.mod_two_eq_zero_or_one X with hX | hX
        · have ht : ((X : Int) % 2 == 1) = false := by simp; omega
          go_wp2_with fail
          go_roundw
          case rel => exact ⟨k + 1, by omega, by go_num, by rw [(Hskip.out (by omega)).2], by rw [(Hskip.out (by omega)).1]; exact Hown.out, HFr, hx⟩
          case measure => simp [intOf]; omega
        · have ht : ((X : Int) % 2 == 1) = true := by simp; omega
          rcases Nat.lt_or_ge (K / 8) n1 with hKm | hKm
          · have hki : (K : Int) / 8 < (n1 : Int) := by omega
            have e2 : 0 ≤ (K : Int) / 8 := by omega
            have e4 : ((K : Int) / 8).toNat = K / 8 := by omega
            have e8 : 0 ≤ (K : Int) % 8 := by omega
            have e9 : ((K : Int) % 8).toNat = K % 8 := by omega
            obtain ⟨g, off, rfl, hgb, hcx, hfx⟩ := Hown.out.at_ hKm
            have hkl : K / 8 < L.length := by rw [Hlen.out]; exact hKm
            have hfl := flip_cell L K hkl
            have hcy : wr.cell? ⟨g, off + K / 8, none⟩ = some (.int .u8 ((L[K / 8].toNat : Nat) : Int)) := by rw [hcx, List.getElem?_map, List.getElem?_eq_getElem hkl]; rfl
            generalize L[K / 8].toNat = Y at *
            have hgw : ¬ w.heap.size = g := by omega
            have Hfl := Lib.hid hfl; clear hfl hcx hkl
            go_wp2_with fail
            go_roundw
            case rel => exact ⟨k + 1, by omega, by go_num, by rw [Hhit.out ⟨hX, hKm⟩]; simp, by rw [Hhit.out ⟨hX, hKm⟩, Hfl.out]; exact Own.set_ Hown.out (isU8_bits _ _ _), (Below.heap_setCell _ _ _ _ hgw).trans HFr.out, hx.set' (by simp; omega) _⟩
            case measure => simp [intOf]; omega
          · have hki : ¬ (K : Int) / 8 < (n1 : Int) := by omega
            go_wp2_with fail
            go_roundw
            case rel => exact ⟨k + 1, by omega, by go_num, by rw [(Hskip.out (by omega)).2], by rw [(Hskip.out (by omega)).1]; exact Hown.out, HFr, hx⟩
            case measure => simp [intOf]; omega
      · obtain rfl : k = 16 := by omega
        have d0 : wr.cell? ⟨w.heap.size, 0, none⟩ = some (.int .u8 (u.toNat : Int)) := (cell_of_row _ _ _ _ _ _ HFr.out).trans rfl
        have d1 : wr.cell? ⟨w.heap.size, 1, none⟩ = some (.slice A m c) := (cell_of_row _ _ _ _ _ _ HFr.out).trans rfl
        have Hown := Lib.hid hown; clear hown
        by_cases hC : (turn S r M 16).2 = 0
        · rw [turn_same _ _ _ _ hC] at Hown
          rw [hC]
          clear hC
          go_wp2_with fail
          refine (openRtu_any S _ _ _ _ Hown.out.rd Hown.out.cap).mono ?_
          rintro e w2 ⟨A2, n2, c2, rfl, ho, hb2⟩
          rw [HO.out] at ho ⊢
          have X2 : Ext wr w2 := hb2
          have d0' := X2.cell (lt_of_heap HFr.out) d0
          have d1' := X2.cell (lt_of_heap HFr.out) d1
          obtain rfl : m = n2 := by have := ho.len; simp at this; rw [← this, Hl.out]
          have Ho2 := Lib.hid ho; clear ho hb2
          go_wp2_with fail
          refine (same_any b b _ _ _ _ _ _ _ Ho2.out.rd (Hr0.out.ext (hx.trans X2)) (by unfold maxLen; omega)).mono ?_
          rintro e w3 ⟨rfl, hb3⟩
          rw [decide_eq_true rfl]
          go_wp2_with fail
          refine (known5_any _).mono ?_
          rintro e w4 ⟨rfl, hb4⟩
          go_wp2_with fail
          go_ret
          exact ⟨rfl, (hx.trans (X2.trans ((Ext.of hb3).trans hb4))).below⟩
        · have hop := Hturn.out r hC
          have hcnt := turn_count S r M 16
          have ht : (((turn S r M 16).2 : Int) == 0) = false := by simp; omega
          generalize (turn S r M 16).2 = C at *
          generalize (turn S r M 16).1 = L at *
          have Hop := Lib.hid hop; clear hop hC
          go_wp2_with fail
          refine (openRtu_any L _ _ _ _ Hown.out.rd Hown.out.cap).mono ?_
          rintro e w2 ⟨A2, n2, c2, rfl, ho, hb2⟩
          rw [Hop.out] at ho ⊢
          obtain rfl : n2 = 0 := ho.len.symm
          go_wp2_with fail
          refine (known5_any _).mono ?_
          rintro e w4 ⟨rfl, hb4⟩
          go_wp2_with fail
          go_ret
          exact ⟨rfl, (hx.trans ((Ext.of hb2).trans hb4)).below⟩
  · have ht : ((rtuF u b).2 != 0) = true := by simp [h0]
    go_enter Try.func11, Try.ntmps11
    go_wp2_with fail
    refine (rtu_any u b _ _ _ _ Hr.out (by omega)).mono ?_
    rintro e w1 ⟨A1, n1, c1, rfl, ho, hb1⟩
    go_wp2_with fail
    refine (known5_any _).mono ?_
    rintro e w4 ⟨rfl, hb4⟩
    go_wp2_with fail
    go_ret
    exact ⟨rfl, (X0.trans ((Ext.of hb1).trans hb4)).below⟩
end Go.Proofs.Ytemiahjdacckgaa
