/- Contracts of pack.Bits, pack.Unbits and of the document's: what each call returns; nothing that was there turns. -/
import Derived.Test.YtpjmhckdeeonbaaPack2
import Derived.Test.YtpjmhckdeeonbaaKitL
import Derived.Test.YtpjmhckdeeonbaaBitBack
namespace Go.Proofs.Ytpjmhckdeeonbaa
set_option linter.unusedVariables false
set_option maxRecDepth 100000
open Go Go.RowKit Go.Out

theorem need_any (n : Nat) (w : World) (hn : n ≤ 9223372036854775807) : Calls Try.prog 103 #[.int .i64 n] w fun e w' => e = .returned (.int .i64 (need n : Nat)) ∧ w = w' := by
  rcases Nat.eq_zero_or_pos (n % 8) with h | h
  · have ht : ((n : Int) % 8 == 0) = true := by simp; omega
    have H := Lib.hid h; clear h
    go_enter Try.func103, Try.ntmps103
    go_wp2_with fail
    go_ret
    exact ⟨ret_int (by have := H.out; unfold need; omega), rfl⟩
  · have ht : ((n : Int) % 8 == 0) = false := by simp; omega
    have H := Lib.hid h; clear h
    go_enter Try.func103, Try.ntmps103
    go_wp2_with fail
    go_ret
    exact ⟨ret_int (by have := H.out; unfold need; omega), rfl⟩

theorem refNeed_any (n : Nat) (w : World) (hn : n ≤ 9223372036854775807) : Calls Try.prog 113 #[.int .i64 n] w fun e w' => e = .returned (.int .i64 (need n : Nat)) ∧ w = w' := by
  rcases Nat.eq_zero_or_pos (n % 8) with h | h
  · have ht : ¬ (0 : Int) < (n : Int) % 8 := by omega
    have H := Lib.hid h; clear h
    go_enter Try.func113, Try.ntmps113
    go_wp2_with fail
    go_ret
    exact ⟨ret_int (by have := H.out; unfold need; omega), rfl⟩
  · have ht : (0 : Int) < (n : Int) % 8 := by omega
    have H := Lib.hid h; clear h
    go_enter Try.func113, Try.ntmps113
    go_wp2_with fail
    go_ret
    exact ⟨ret_int (by have := H.out; unfold need; omega), rfl⟩

theorem bits_any (l : List Bool) (A : Option Addr) (m c : Nat) (w : World) (hr : Rd w A m (l.map cL)) (hm : m ≤ 140737488355328) :
    Calls Try.prog 64 #[.slice A m c] w (RetOwn w 5 IsU8 (need m) ((bitsF l).map cB)) := by
  have Hr := Lib.hid hr; clear hr
  have hN : need m ≤ 140737488355328 := by unfold need; omega
  have hmk : ∀ W : World, (Instr.makeSlice 36 (.int .i64 ((need m : Nat) : Int)) (.int .i64 ((need m : Nat) : Int))).run Try.prog W = .ok (.slice (some ⟨W.heap.size, 0, none⟩) (need m) (need m)) (W.alloc (.cells (Array.replicate (need m) (.int .u8 0)) 5)) :=
    fun W => run_make1 (P := Try.prog) 36 5 (.int .u8 0) 1 Try.underlying36 info_u8 rfl (need m) (by omega) (by omega) W
  go_enter Try.func64, Try.ntmps64
  go_wp2_with fail
  refine (need_any m _ (by omega)).mono ?_
  rintro e w1 ⟨rfl, rfl⟩
  have HN : Hid (need m = (m + 7) / 8) := by unfold Hid need; rfl
  generalize need m = N at *
  go_wp2_with fail
  go_loopw [12] (fun i wr => ∃ (k : Nat) (cur : Array Value), k ≤ m ∧ i = .int .i64 k ∧ wr.heap[w.heap.size]? = some (.cells cur 5 (0, 0)) ∧ Hid (cur.toList = (bitsN (l.take k) N).map cB) ∧ Hid (cur.size = N) ∧ Below w.heap.size w wr) (fun i _ => m - (intOf i).toNat)
  case atStart => exact ⟨0, _, Nat.zero_le _, rfl, heap_alloc_new w _, by unfold Hid; rw [List.take_zero, bitsN_nil]; simp, by simp [Hid], (Below.refl _ _).alloc (Nat.le_refl _) _⟩
  case round =>
    obtain ⟨k, cur, hk, rfl, hh, hcur, Hcs, hbel⟩ := hrel
    by_cases hlt : k < m
    · obtain ⟨b1, o1, rfl, hb1, hl1, hc1⟩ := Hr.out.boat hlt
      have hcw : wr.cell? ⟨b1, o1 + k, none⟩ = some (.bool l[k]) := (hbel.cell (p := ⟨b1, o1 + k, none⟩) hb1).trans hc1
      clear hc1
      have hkN : k / 8 < N := by have := HN.out; omega
      cases hlk : l[k]
      · rw [hlk] at hcw
        have Hlk := Lib.hid hlk; have Hh := Lib.hid hh; clear hlk hh
        go_wp2_with fail
        go_roundw
        case rel => exact ⟨k + 1, cur, by omega, by go_num, Hh.out, by unfold Hid; rw [bitsN_skip l N k hl1 Hlk.out]; exact hcur.out, Hcs, hbel⟩
        case measure => simp [intOf]; omega
      · rw [hlk] at hcw
        obtain ⟨old, hce, hold⟩ : ∃ old, wr.cell? ⟨w.heap.size, k / 8, none⟩ = some old ∧ old = cB (UInt8.ofNat (bByte (l.take k) (k / 8))) := by
          refine ⟨_, ?_, rfl⟩
          rw [cell_of_row _ _ _ _ _ _ hh, ← Array.getElem?_toList, hcur.out, List.getElem?_map, bitsN_get _ _ _ hkN]; rfl
        have hfz := frozen_of_row wr w.heap.size (k / 8) cur _ hh
        have hlow := bByte_low l k
        rw [show cB (UInt8.ofNat (bByte (l.take k) (k / 8))) = .int .u8 ((bByte (l.take k) (k / 8) : Nat) : Int) from by rw [u8_ofNat]; congr 1; have := bByte_lt (l.take k) (k / 8); omega] at hold
        generalize hX : bByte (l.take k) (k / 8) = X at *
        subst hold
        have Hlow := Lib.hid hlow; have HX := Lib.hid hX; have Hlk := Lib.hid hlk; have Hh := Lib.hid hh; clear hlow hX hlk hh
        go_wp2_with fail
        have e1 : IntKind.i64.wrap ((k : Int) / 8) = (k : Int) / 8 := IntWalk.i64_in _ (by omega)
        have e2 : 0 ≤ (k : Int) / 8 := by omega
        have e3 : (k : Int) / 8 < (N : Int) := by omega
        have e4 : ((k : Int) / 8).toNat = k / 8 := by omega
        have e5 : (k : Int).tmod 8 = (k : Int) % 8 := Int.tmod_eq_emod_of_nonneg (by omega)
        have e6 : 0 ≤ (k : Int) % 8 := by omega
        have e7 : ((k : Int) % 8).toNat = k % 8 := by omega
        go_still_tail 10, (by kernel_rfl)
        clear e1 e2 e3 e4 e5 e6 e7
        go_wp2_with fail
        go_roundw
        case rel => exact ⟨k + 1, _, by omega, by go_num, heap_setCell_same _ _ _ _ _ _ Hh.out, by unfold Hid; rw [Array.toList_setIfInBounds, hcur.out, bit_or'' X (k % 8) Hlow.out (by omega), ← HX.out]; exact bitsN_set l N k hl1 hkN Hlk.out, by have := Hcs.out; simp [Hid]; omega, (hbel.setCell (Nat.le_refl _) _).drew⟩
        case measure => simp [intOf]; omega
    · obtain rfl : k = m := by omega
      have Hh := Lib.hid hh; clear hh
      rw [List.take_of_length_le (by have := Hr.out.length; omega)] at hcur
      go_wp2_with fail
      go_ret
      have hN : N = need l.length := by rw [Hr.out.length]; exact HN.out
      exact ⟨_, _, rfl, Own.bytes (Nat.le_refl _) Hh.out (by rw [hcur.out, hN]; rfl) (by rw [bitsF_length, hN]) (by unfold maxLen; omega), hbel⟩

theorem weight_any (n : Nat) (w : World) (hn : n ≤ 8) : Calls Try.prog 104 #[.int .i64 n] w fun e w' => e = .returned (.int .i64 ((2 ^ n : Nat) : Int)) ∧ w = w' := by
  go_enter Try.func104, Try.ntmps104
  go_wp2_with fail
  go_loop [3, 4] (fun v i => ∃ k : Nat, k ≤ n ∧ i = .int .i64 k ∧ v = .int .i64 ((2 ^ k : Nat) : Int)) (fun _ i => n - (intOf i).toNat)
  case atStart => exact ⟨0, by omega, rfl, rfl⟩
  case round =>
    obtain ⟨k, hk, rfl, rfl⟩ := hrel
    have h2 : (2 : Nat) ^ k ≤ 2 ^ 8 := Nat.pow_le_pow_right (by omega) (by omega)
    generalize hX : (2 : Nat) ^ k = X at *
    have HX := Lib.hid hX; clear hX
    by_cases hlt : k < n
    · go_wp2_with fail
      go_round
      case rel => exact ⟨k + 1, by omega, by go_num, by rw [Nat.pow_succ, HX.out]; go_num⟩
      case measure => simp [intOf]; omega
    · obtain rfl : k = n := by omega
      go_wp2_with fail
      go_ret
      exact ⟨ret_int (by rw [← HX.out]; simp), rfl⟩

theorem refBits_any (l : List Bool) (A : Option Addr) (m c : Nat) (w : World) (hr : Rd w A m (l.map cL)) (hm : m ≤ 140737488355328) :
    Calls Try.prog 67 #[.slice A m c] w (RetOwn w 5 IsU8 (need m) ((bitsF l).map cB)) := by
  have Hr := Lib.hid hr; clear hr
  go_enter Try.func67, Try.ntmps67
  go_wp2_with fail
  go_loopw [3, 4] (fun v i wr => ∃ (k c : Nat) (A : Option Addr), k ≤ m ∧ i = .int .i64 k ∧ v = .slice A (need k) c ∧ Own wr w.heap.size 5 IsU8 A (need k) c ((bitsN (l.take k) (need k)).map cB) ∧ Below w.heap.size w wr) (fun _ i _ => m - (intOf i).toNat)
  case atStart => exact ⟨0, 0, none, Nat.zero_le _, rfl, rfl, Own.nil_ _ _ _ _, Below.refl _ _⟩
  case round =>
    obtain ⟨k, c1, A1, hk, rfl, rfl, hown, hbel⟩ := hrel
    have hbs := hbel.size
    by_cases hlt : k < m
    · obtain ⟨b1, o1, rfl, hb1, hl1, hc1⟩ := Hr.out.boat hlt
      have hcw : wr.cell? ⟨b1, o1 + k, none⟩ = some (.bool l[k]) := (hbel.cell (p := ⟨b1, o1 + k, none⟩) hb1).trans hc1
      clear hc1
      have hres : ∀ (X r : Nat), X < 2 ^ r → r < 8 → IntKind.u8.wrap ((X : Int) + ((2 ^ r : Nat) : Int) % 256) = ((X + 2 ^ r : Nat) : Int) := fun X r h1 h2 => bit_add X r h1 h2
      have Hres := Lib.hid hres; clear hres
      cases hlk : l[k]
      all_goals
        rw [hlk] at hcw
        have Hlk := Lib.hid hlk; clear hlk
      · rcases Nat.eq_zero_or_pos (k % 8) with h8 | h8
        · have ht : ((k : Int) % 8 == 0) = true := by simp; omega
          have H8 := Lib.hid h8; clear h8
          go_wp2_with (at_builtin; refine app_u8 _ rfl (.tmp 14) (.tmp 15) rfl rfl (hown.alloc _) rfl (Rd.one _ _ _) (by intro u hu; simp at hu; subst hu; exact ⟨0, rfl⟩) (by unfold need; omega) (by simp; omega) ?_; intro A2 c2 w2 hown2 hg2 hb2; have hc2 := cell_app hcw hg2 hown hb1 hbs; have hz2 := hg2.size; have hbel2 := below_app hbel hbs hg2 (fun g hg => (hown.lt g hg).1))
          go_roundw
          case rel => exact ⟨k + 1, c2, A2, by omega, by go_num, by rw [show need (k + 1) = need k + 1 from by have := H8.out; unfold need; omega], by rw [show need (k + 1) = need k + 1 from by have := H8.out; unfold need; omega, bitsN_skip l _ k hl1 Hlk.out, bitsN_grow l k _ (by unfold need; omega)]; exact hown2, hbel2⟩
          case measure => simp [intOf]; omega
        · have ht : ((k : Int) % 8 == 0) = false := by simp; omega
          have H8 := Lib.hid h8; clear h8
          go_wp2_with fail
          go_roundw
          case rel => exact ⟨k + 1, c1, A1, by omega, by go_num, by rw [show need (k + 1) = need k from by have := H8.out; unfold need; omega], by rw [show need (k + 1) = need k from by have := H8.out; unfold need; omega, bitsN_skip l _ k hl1 Hlk.out]; exact hown, hbel⟩
          case measure => simp [intOf]; omega
      · have hz1 : True := trivial
        rcases Nat.eq_zero_or_pos (k % 8) with h8 | h8
        · have ht : ((k : Int) % 8 == 0) = true := by simp; omega
          have hnk : need (k + 1) = need k + 1 := by unfold need; omega
          have Hnk := Lib.hid hnk; clear hnk h8
          have hkN : k / 8 < need k + 1 := by unfold need; omega
          go_wp2_with (at_builtin; refine app_u8 _ rfl (.tmp 14) (.tmp 15) rfl rfl (hown.alloc _) rfl (Rd.one _ _ _) (by intro u hu; simp at hu; subst hu; exact ⟨0, rfl⟩) (by unfold need; omega) (by simp; omega) ?_; intro A2 c2 w2 hown2 hg2 hb2; have hc2 := cell_app hcw hg2 hown hb1 hbs; have hz2 := hg2.size; have hbel2 := below_app hbel hbs hg2 (fun g hg => (hown.lt g hg).1))
          rw [← bitsN_grow l k _ (by unfold need; omega)] at hown2
          obtain ⟨g, off, rfl, hgb, hcx, hfx⟩ := hown2.at_ hkN
          rw [List.getElem?_map, bitsN_get _ _ _ hkN] at hcx
          have hlow := bByte_low l k
          have hx256 := bByte_lt (l.take k) (k / 8)
          generalize hX : bByte (l.take k) (k / 8) = X at *
          have hcx2 : w2.cell? ⟨g, off + k / 8, none⟩ = some (.int .u8 (X : Int)) := by rw [hcx, Option.map_some, u8_ofNat]; congr 2; omega
          have Hlow := Lib.hid hlow; have HX := Lib.hid hX; have Hown2 := Lib.hid hown2; clear hlow hX hown2 hcx
          have e1 : IntKind.i64.wrap ((k : Int) / 8) = (k : Int) / 8 := IntWalk.i64_in _ (by omega)
          have e2 : 0 ≤ (k : Int) / 8 := by omega
          have e3 : (k : Int) / 8 < ((need k + 1 : Nat) : Int) := by omega
          have e3' : (k : Int) / 8 < (need k : Int) + 1 := by omega
          have e4 : ((k : Int) / 8).toNat = k / 8 := by omega
          have e5 : (k : Int).tmod 8 = (k : Int) % 8 := Int.tmod_eq_emod_of_nonneg (by omega)
          have e6 : 0 ≤ (k : Int) % 8 := by omega
          have e7 : ((k : Int) % 8).toNat = k % 8 := by omega
          have hwt : ∀ W : World, Calls Try.prog 104 #[.int .i64 ((k : Int) % 8)] W fun e w' => e = .returned (.int .i64 ((2 ^ (k % 8) : Nat) : Int)) ∧ w' = W := fun W => by
            have h := weight_any (k % 8) W (by omega)
            rw [show (((k % 8 : Nat) : Int)) = (k : Int) % 8 from by omega] at h
            exact h.mono fun _ _ ⟨h1, h2⟩ => ⟨h1, h2.symm⟩
          have Hwt := Lib.hid hwt; clear hwt
          go_wp2_with fail
          go_still_tail 14, (by kernel_rfl)
          still_call (Hwt.out _)
          repeat still_step
          try refine wpStill_nil ?_
          clear e1 e2 e3 e3' e4 e5 e6 e7
          go_wp2_with fail
          go_roundw
          case rel => exact ⟨k + 1, c2, _, by omega, by go_num, by rw [Hnk.out], by have hp := pow_le_128 (show k % 8 < 8 by omega); have h2 := Hlow.out; rw [Hnk.out, bit_add' X (k % 8) h2 (by omega)]; have hs := bitsN_set l (need k + 1) k hl1 hkN Hlk.out; rw [HX.out] at hs; rw [← hs]; exact Own.set_ Hown2.out (isU8_of (by omega) (by omega)), (hbel2.setCell hgb _).drew⟩
          case measure => simp [intOf]; omega
        · have ht : ((k : Int) % 8 == 0) = false := by simp; omega
          have hnk : need (k + 1) = need k := by unfold need; omega
          have Hnk := Lib.hid hnk; clear hnk
          have hkN : k / 8 < need k := by unfold need; omega
          clear h8
          have hown2 := hown; clear hown
          obtain ⟨g, off, rfl, hgb, hcx, hfx⟩ := hown2.at_ hkN
          rw [List.getElem?_map, bitsN_get _ _ _ hkN] at hcx
          have hlow := bByte_low l k
          have hx256 := bByte_lt (l.take k) (k / 8)
          generalize hX : bByte (l.take k) (k / 8) = X at *
          have hcx2 : wr.cell? ⟨g, off + k / 8, none⟩ = some (.int .u8 (X : Int)) := by rw [hcx, Option.map_some, u8_ofNat]; congr 2; omega
          have Hlow := Lib.hid hlow; have HX := Lib.hid hX; have Hown2 := Lib.hid hown2; clear hlow hX hown2 hcx
          have e1 : IntKind.i64.wrap ((k : Int) / 8) = (k : Int) / 8 := IntWalk.i64_in _ (by omega)
          have e2 : 0 ≤ (k : Int) / 8 := by omega
          have e3 : (k : Int) / 8 < ((need k : Nat) : Int) := by omega
          have e3' : (k : Int) / 8 < (need k : Int) + 1 := by omega
          have e4 : ((k : Int) / 8).toNat = k / 8 := by omega
          have e5 : (k : Int).tmod 8 = (k : Int) % 8 := Int.tmod_eq_emod_of_nonneg (by omega)
          have e6 : 0 ≤ (k : Int) % 8 := by omega
          have e7 : ((k : Int) % 8).toNat = k % 8 := by omega
          have hwt : ∀ W : World, Calls Try.prog 104 #[.int .i64 ((k : Int) % 8)] W fun e w' => e = .returned (.int .i64 ((2 ^ (k % 8) : Nat) : Int)) ∧ w' = W := fun W => by
            have h := weight_any (k % 8) W (by omega)
            rw [show (((k % 8 : Nat) : Int)) = (k : Int) % 8 from by omega] at h
            exact h.mono fun _ _ ⟨h1, h2⟩ => ⟨h1, h2.symm⟩
          have Hwt := Lib.hid hwt; clear hwt
          go_wp2_with fail
          go_still_tail 14, (by kernel_rfl)
          still_call (Hwt.out _)
          repeat still_step
          try refine wpStill_nil ?_
          clear e1 e2 e3 e3' e4 e5 e6 e7
          go_wp2_with fail
          go_roundw
          case rel => exact ⟨k + 1, c1, _, by omega, by go_num, by rw [Hnk.out], by have hp := pow_le_128 (show k % 8 < 8 by omega); have h2 := Hlow.out; rw [Hnk.out, bit_add' X (k % 8) h2 (by omega)]; have hs := bitsN_set l (need k) k hl1 hkN Hlk.out; rw [HX.out] at hs; rw [← hs]; exact Own.set_ Hown2.out (isU8_of (by omega) (by omega)), (hbel.setCell hgb _).drew⟩
          case measure => simp [intOf]; omega
    · obtain rfl : k = m := by omega
      rw [List.take_of_length_le (by have := Hr.out.length; omega)] at hown
      go_wp2_with fail
      go_ret
      exact ⟨_, _, rfl, by unfold bitsF; rw [Hr.out.length]; exact hown, hbel⟩
end Go.Proofs.Ytpjmhckdeeonbaa
