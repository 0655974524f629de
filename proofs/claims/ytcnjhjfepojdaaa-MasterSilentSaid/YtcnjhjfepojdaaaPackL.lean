/- Contracts of pack.Bits, pack.Unbits and of the document's: what each call returns; nothing that was there turns. -/
import Derived.Test.YtcnjhjfepojdaaaPack2
import Derived.Test.YtcnjhjfepojdaaaKitL
import Derived.Test.YtcnjhjfepojdaaaBitBack
namespace Go.Proofs.Ytcnjhjfepojdaaa
set_option linter.unusedVariables false
set_option maxRecDepth 100000
open Go Go.RowKit Go.Out

theorem need_any (n : Nat) (w : World) (hn : n ≤ 9223372036854775807) : Calls Try.prog 40 #[.int .i64 n] w fun e w' => e = .returned (.int .i64 (need n : Nat)) ∧ w = w' := by
  rcases Nat.eq_zero_or_pos (n % 8) with h | h
  · have ht : ((n : Int) % 8 == 0) = true := by simp; omega
    have H := Lib.hid h; clear h
    go_enter Try.func40, Try.ntmps40
    go_wp2_with fail
    go_ret
    exact ⟨ret_int (by have := H.out; unfold need; omega), rfl⟩
  · have ht : ((n : Int) % 8 == 0) = false := by simp; omega
    have H := Lib.hid h; clear h
    go_enter Try.func40, Try.ntmps40
    go_wp2_with fail
    go_ret
    exact ⟨ret_int (by have := H.out; unfold need; omega), rfl⟩

theorem bits_any (l : List Bool) (A : Option Addr) (m c : Nat) (w : World) (hr : Rd w A m (l.map cL)) (hm : m ≤ 140737488355328) :
    Calls Try.prog 29 #[.slice A m c] w (RetOwn w 5 IsU8 (need m) ((bitsF l).map cB)) := by
  have Hr := Lib.hid hr; clear hr
  have hN : need m ≤ 140737488355328 := by unfold need; omega
  have hmk : ∀ W : World, (Instr.makeSlice 34 (.int .i64 ((need m : Nat) : Int)) (.int .i64 ((need m : Nat) : Int))).run Try.prog W = .ok (.slice (some ⟨W.heap.size, 0, none⟩) (need m) (need m)) (W.alloc (.cells (Array.replicate (need m) (.int .u8 0)) 5)) :=
    fun W => run_make1 (P := Try.prog) 34 5 (.int .u8 0) 1 Try.underlying34 info_u8 rfl (need m) (by omega) (by omega) W
  go_enter Try.func29, Try.ntmps29
  go_wp2_with fail
  refine (need_any m _ (by omega)).mono ?_
  rintro e w1 ⟨rfl, rfl⟩
  have HN : Hid (need m = (m + 7) / 8) := by unfold Hid need; rfl
  generalize need m = N at *
  go_wp2_with fail
  go_loopw [12] (fun i wr => ∃ (k : Nat) (cur : Array Value), k ≤ m ∧ i = .int .i64 k ∧ wr.heap[w.heap.size]? = some (.cells cur 5 (0, 0)) ∧ Hid (cur.toList = (bitsN (l.take k) N).map cB) ∧ Hid (cur.size = N) ∧ Below w.heap.size w wr) (fun i _ => m - (intOf i).toNat)
  case atStart => exact ⟨0, _, Nat.zero_le _, rfl, heap_alloc_new w _, by unfold Hid; rw [List.take_zero, bitsN_nil]; simp, by simp [Hid], (Below.refl _ _).alloc (Nat.le_refl _) _⟩
  case round =>
    obtain ⟨k, cur, hk, rfl, hh, hcur, Hcs, hbel⟩ := hrel
    by_cases hlt : k < m
    · obtain ⟨b1, o1, rfl, hb1, hl1, hc1⟩ := Hr.out.boat hlt
      have hcw : wr.cell? ⟨b1, o1 + k, none⟩ = some (.bool l[k]) := (hbel.cell (p := ⟨b1, o1 + k, none⟩) hb1).trans hc1
      clear hc1
      have hkN : k / 8 < N := by have := HN.out; omega
      cases hlk : l[k]
      · rw [hlk] at hcw
        have Hlk := Lib.hid hlk; have Hh := Lib.hid hh; clear hlk hh
        go_wp2_with fail
        go_roundw
        case rel => exact ⟨k + 1, cur, by omega, by go_num, Hh.out, by unfold Hid; rw [bitsN_skip l N k hl1 Hlk.out]; exact hcur.out, Hcs, hbel⟩
        case measure => simp [intOf]; omega
      · rw [hlk] at hcw
        obtain ⟨old, hce, hold⟩ : ∃ old, wr.cell? ⟨w.heap.size, k / 8, none⟩ = some old ∧ old = cB (UInt8.ofNat (bByte (l.take k) (k / 8))) := by
          refine ⟨_, ?_, rfl⟩
          rw [cell_of_row _ _ _ _ _ _ hh, ← Array.getElem?_toList, hcur.out, List.getElem?_map, bitsN_get _ _ _ hkN]; rfl
        have hfz := frozen_of_row wr w.heap.size (k / 8) cur _ hh
        have hlow := bByte_low l k
        rw [show cB (UInt8.ofNat (bByte (l.take k) (k / 8))) = .int .u8 ((bByte (l.take k) (k / 8) : Nat) : Int) from by rw [u8_ofNat]; congr 1; have := bByte_lt (l.take k) (k / 8); omega] at hold
        generalize hX : bByte (l.take k) (k / 8) = X at *
        subst hold
        have Hlow := Lib.hid hlow; have HX := Lib.hid hX; have Hlk := Lib.hid hlk; have Hh := Lib.hid hh; clear hlow hX hlk hh
        go_wp2_with fail
        have e1 : IntKind.i64.wrap ((k : Int) / 8) = (k : Int) / 8 := IntWalk.i64_in _ (by omega)
        have e2 : 0 ≤ (k : Int) / 8 := by omega
        have e3 : (k : Int) / 8 < (N : Int) := by omega
        have e4 : ((k : Int) / 8).toNat = k / 8 := by omega
        have e5 : (k : Int).tmod 8 = (k : Int) % 8 := Int.tmod_eq_emod_of_nonneg (by omega)
        have e6 : 0 ≤ (k : Int) % 8 := by omega
        have e7 : ((k : Int) % 8).toNat = k % 8 := by omega
        go_still_tail 10, (by kernel_rfl)
        clear e1 e2 e3 e4 e5 e6 e7
        go_wp2_with fail
        go_roundw
        case rel => exact ⟨k + 1, _, by omega, by go_num, heap_setCell_same _ _ _ _ _ _ Hh.out, by unfold Hid; rw [Array.toList_setIfInBounds, hcur.out, bit_or'' X (k % 8) Hlow.out (by omega), ← HX.out]; exact bitsN_set l N k hl1 hkN Hlk.out, by have := Hcs.out; simp [Hid]; omega, (hbel.setCell (Nat.le_refl _) _).drew⟩
        case measure => simp [intOf]; omega
    · obtain rfl : k = m := by omega
      have Hh := Lib.hid hh; clear hh
      rw [List.take_of_length_le (by have := Hr.out.length; omega)] at hcur
      go_wp2_with fail
      go_ret
      have hN : N = need l.length := by rw [Hr.out.length]; exact HN.out
      exact ⟨_, _, rfl, Own.bytes (Nat.le_refl _) Hh.out (by rw [hcur.out, hN]; rfl) (by rw [bitsF_length, hN]) (by unfold maxLen; omega), hbel⟩

end Go.Proofs.Ytcnjhjfepojdaaa
