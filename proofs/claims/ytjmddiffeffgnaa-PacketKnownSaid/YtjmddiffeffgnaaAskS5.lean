/- Contract of ask.read: coils. -/
import Derived.Test.YtjmddiffeffgnaaAskS2
namespace Go.Proofs.Ytjmddiffeffgnaa
set_option linter.unusedVariables false
set_option linter.unusedSimpArgs false
set_option maxRecDepth 100000
set_option maxHeartbeats 1000000
open Go Go.RowKit Go.Out

/-- What lies in the boxes of a call, later on. -/
theorem ask_frozen {w : World} {cs : Array Value} {g : Nat} (hg : g = w.heap.size) : ∀ W : World, Ext (w.alloc (.cells cs 26)) W → ∀ i, W.frozen? ⟨g, i, none⟩ = false := by
  subst hg
  intro W hX i
  exact frozen_of_row _ _ _ _ _ (hX.block (heap_alloc_new w _))
theorem read_coils (b : List UInt8) (A : Option Addr) (m c : Nat) (w : World) (hr : Rd w A m (b.map cB)) (hc : m ≤ c) (hm : 6 ≤ m) (hm2 : m ≤ 17000000000) (hk : b0 b = 15) :
    Calls Try.prog 96 #[.slice A m c] w (RetRead w (saidF b)) := by
  have hs : saidF b = if (unbitsF (b.drop 6) (at2 b 3 : Nat)).2 = 0 then some ⟨15, (at2 b 1 : Nat), 0, (unbitsF (b.drop 6) (at2 b 3 : Nat)).1, [], []⟩ else none := by
    unfold saidF
    rw [hk, if_neg (by omega), if_neg (by omega), if_neg (by omega), if_pos rfl]
  rw [hs]
  clear hs
  have HRD := Lib.hid (hr.from8 (k := 6) (c := c) hm hc)
  obtain ⟨bk, off, rfl, hbk, hcell⟩ := hr.u8all (by omega)
  have n1 : at2 b 1 = (b.getD 1 0).toNat * 256 + (b.getD 2 0).toNat := rfl
  have n3 : at2 b 3 = (b.getD 3 0).toNat * 256 + (b.getD 4 0).toNat := rfl
  have g0 := hcell 0 (by omega); have g1 := hcell 1 (by omega); have g2 := hcell 2 (by omega); have g3 := hcell 3 (by omega); have g4 := hcell 4 (by omega)
  have b1 := (b.getD 1 0).toNat_lt; have b2 := (b.getD 2 0).toNat_lt; have b3 := (b.getD 3 0).toNat_lt; have b4 := (b.getD 4 0).toNat_lt
  rw [n1, n3]
  rw [Nat.add_zero, show (b.getD 0 0).toNat = 15 from hk] at g0
  clear hcell n1 n3 hk hr
  have q1 := or_w64 (b.getD 1 0).toNat (b.getD 2 0).toNat b1 b2
  have q3 := or_w64 (b.getD 3 0).toNat (b.getD 4 0).toNat b3 b4
  have r1 := or_i64 (b.getD 1 0).toNat (b.getD 2 0).toNat b1 b2
  have r3 := or_i64 (b.getD 3 0).toNat (b.getD 4 0).toNat b3 b4
  generalize (b.getD 1 0).toNat = x1 at *
  generalize (b.getD 2 0).toNat = x2 at *
  generalize (b.getD 3 0).toNat = x3 at *
  generalize (b.getD 4 0).toNat = x4 at *
  obtain ⟨F, hF⟩ : ∃ F, x1 * 256 + x2 = F := ⟨_, rfl⟩
  obtain ⟨R, hR⟩ : ∃ R, x3 * 256 + x4 = R := ⟨_, rfl⟩
  rw [hF] at r1 q1 ⊢; rw [hR] at r3 q3 ⊢
  have hF6 : F < 65536 := by omega
  have hR6 : R < 65536 := by omega
  clear hF hR b1 b2 b3 b4
  have i0 : 0 < m := by omega
  have i1 : (1 : Int) < (m : Int) := by omega
  have i2 : (2 : Int) < (m : Int) := by omega
  have i3 : (3 : Int) < (m : Int) := by omega
  have i4 : (4 : Int) < (m : Int) := by omega
  have HC : Hid (∀ (B : Option Addr) (k : Nat) (W : World), Rd W B (m - 6) ((b.drop 6).map cB) → Calls Try.prog 114 #[.slice B (m - 6) k, .int .i64 (R : Int)] W (RetB W 4 (unbitsF (b.drop 6) R).1 (unbitsF (b.drop 6) R).2)) := fun B k W h => unbits_any (b.drop 6) B (m - 6) k R W h (by omega) (by omega)
  generalize unbitsF (b.drop 6) R = U at *
  obtain ⟨l, E⟩ := U
  simp only at HC ⊢
  have HS := Lib.hid (show (if E = 0 then some (⟨15, (F : Nat), 0, l, [], []⟩ : AskD) else none).isSome = (E == 0) by split <;> simp [*])
  have HS2 : Hid (∀ a', (if E = 0 then some (⟨15, (F : Nat), 0, l, [], []⟩ : AskD) else none) = some a' → a' = ⟨15, (F : Nat), 0, l, [], []⟩) := by
    intro a' h
    split at h
    · injection h with h; exact h.symm
    · cases h
  generalize (if E = 0 then some (⟨15, (F : Nat), 0, l, [], []⟩ : AskD) else none) = RR at *
  obtain ⟨t, ht⟩ : ∃ t, (E == 0) = t := ⟨_, rfl⟩
  rw [ht] at HS
  have hl6 : ∀ W : World, Ext ((w.alloc (.cells #[.int .i64 0, .int .i64 0, .int .i64 0, .slice none 0 0, .slice none 0 0, .slice none 0 0] 26)).alloc (.cells #[.int .i64 15, .int .i64 (F : Int), .int .i64 0, .slice none 0 0, .slice none 0 0, .slice none 0 0] 26)).drew.drew W → W.heap[w.heap.size]? = some (.cells #[.int .i64 0, .int .i64 0, .int .i64 0, .slice none 0 0, .slice none 0 0, .slice none 0 0] 26 (0, 0)) ∧ W.heap[w.heap.size + 1]? = some (.cells #[.int .i64 15, .int .i64 (F : Int), .int .i64 0, .slice none 0 0, .slice none 0 0, .slice none 0 0] 26 (0, 0)) := fun W hX =>
    ⟨hX.block ((Ext.alloc _ _).block (heap_alloc_new w _)), hX.block (heap_at _ _ _ (by simp))⟩
  have HL6 := Lib.hid hl6
  clear hl6
  have XW := Lib.hid (show Ext w ((w.alloc (.cells #[.int .i64 0, .int .i64 0, .int .i64 0, .slice none 0 0, .slice none 0 0, .slice none 0 0] 26)).alloc (.cells #[.int .i64 15, .int .i64 (F : Int), .int .i64 0, .slice none 0 0, .slice none 0 0, .slice none 0 0] 26)).drew.drew from ((Ext.alloc _ _).trans (Ext.alloc _ _)).drew'.drew')
  by_cases hc6 : c = 6
  · subst hc6
    rw [if_pos rfl] at HRD
    obtain rfl : m = 6 := by omega
    have HC0 := Lib.hid (HC.out (some ⟨bk, off, none⟩) 0 ((w.alloc (.cells #[.int .i64 0, .int .i64 0, .int .i64 0, .slice none 0 0, .slice none 0 0, .slice none 0 0] 26)).alloc (.cells #[.int .i64 15, .int .i64 (F : Int), .int .i64 0, .slice none 0 0, .slice none 0 0, .slice none 0 0] 26)).drew.drew (HRD.out.ext XW.out))
    simp only [Nat.sub_self] at HC0
    clear HC
    go_enter Try.func96, Try.ntmps96
    go_wp2_with fail
    go_region
    go_wp2_with fail
    go_region
    go_wp2_with fail
    refine HC0.out.mono ?_
    rintro e w3 ⟨A3, n3, c3, rfl, ho3, hb3⟩
    have hX := Ext.of hb3
    obtain ⟨hB, hA⟩ := HL6.out w3 hX
    have d0 : w3.cell? ⟨w.heap.size + 1, 0, none⟩ = some (.int .i64 15) := (cell_of_row _ _ _ _ _ _ hA).trans rfl
    have d1 : w3.cell? ⟨w.heap.size + 1, 1, none⟩ = some (.int .i64 (F : Int)) := (cell_of_row _ _ _ _ _ _ hA).trans rfl
    have d2 : w3.cell? ⟨w.heap.size + 1, 2, none⟩ = some (.int .i64 0) := (cell_of_row _ _ _ _ _ _ hA).trans rfl
    have d4 : w3.cell? ⟨w.heap.size + 1, 4, none⟩ = some (.slice none 0 0) := (cell_of_row _ _ _ _ _ _ hA).trans rfl
    have d5 : w3.cell? ⟨w.heap.size + 1, 5, none⟩ = some (.slice none 0 0) := (cell_of_row _ _ _ _ _ _ hA).trans rfl
    have f0 : w3.cell? ⟨w.heap.size, 0, none⟩ = some (.int .i64 0) := (cell_of_row _ _ _ _ _ _ hB).trans rfl
    have u_0 := frozen_of_row w3 w.heap.size 0 _ _ hB
    have f1 : w3.cell? ⟨w.heap.size, 1, none⟩ = some (.int .i64 0) := (cell_of_row _ _ _ _ _ _ hB).trans rfl
    have u_1 := frozen_of_row w3 w.heap.size 1 _ _ hB
    have f2 : w3.cell? ⟨w.heap.size, 2, none⟩ = some (.int .i64 0) := (cell_of_row _ _ _ _ _ _ hB).trans rfl
    have u_2 := frozen_of_row w3 w.heap.size 2 _ _ hB
    have f3 : w3.cell? ⟨w.heap.size, 3, none⟩ = some (.slice none 0 0) := (cell_of_row _ _ _ _ _ _ hB).trans rfl
    have u_3 := frozen_of_row w3 w.heap.size 3 _ _ hB
    have f4 : w3.cell? ⟨w.heap.size, 4, none⟩ = some (.slice none 0 0) := (cell_of_row _ _ _ _ _ _ hB).trans rfl
    have u_4 := frozen_of_row w3 w.heap.size 4 _ _ hB
    have f5 : w3.cell? ⟨w.heap.size, 5, none⟩ = some (.slice none 0 0) := (cell_of_row _ _ _ _ _ _ hB).trans rfl
    have u_5 := frozen_of_row w3 w.heap.size 5 _ _ hB
    have e3 := frozen_of_row w3 (w.heap.size + 1) 3 _ _ hA
    have d3 : w3.cell? ⟨w.heap.size + 1, 3, none⟩ = some (.slice none 0 0) := (cell_of_row _ _ _ _ _ _ hA).trans rfl
    have HO3 := Lib.hid (show Own w3 (w.heap.size + 2) 4 IsBo A3 n3 c3 (l.map cL) from ho3.mono (by show w.heap.size + 2 ≤ _; simp))
    have HX := Lib.hid (XW.out.trans hX)
    clear hA hB ho3 hb3 hX HL6 XW g0 g1 g2 g3 g4 q1 q3 r1 r3
    go_wp2_with fail
    refine bodyPost_ret (v := .tuple #[askV ⟨15, (F : Nat), 0, l, [], []⟩ ⟨A3, n3, c3, none, 0, 0, none, 0, 0⟩, .bool t]) (by simp [results, Try.results96, go_sem, askV, *]) rfl ⟨_, _, by rw [HS.out], fun a' ha => ⟨HS2.out a' ha, ⟨?_, Own.nil_ _ _ _ _, OwP.nil_ _ _, by unfold i64P; simp, by unfold i64P; simp; omega, by unfold i64P; simp⟩⟩, ?_⟩
    · refine Own.mono (base := w.heap.size + 2) ?_ (by omega)
      repeat' (first | with_reducible exact HO3.out | with_reducible refine Own.set_below ?_ (by simp) _)
    · repeat' (first | with_reducible exact HX.out | with_reducible refine Ext.set' ?_ (by simp) _)
  · rw [if_neg hc6] at HRD
    have HC0 := Lib.hid (HC.out (some ⟨bk, off + 6, none⟩) (c - 6) ((w.alloc (.cells #[.int .i64 0, .int .i64 0, .int .i64 0, .slice none 0 0, .slice none 0 0, .slice none 0 0] 26)).alloc (.cells #[.int .i64 15, .int .i64 (F : Int), .int .i64 0, .slice none 0 0, .slice none 0 0, .slice none 0 0] 26)).drew.drew (HRD.out.ext XW.out))
    clear HC
    go_enter Try.func96, Try.ntmps96
    go_wp2_with fail
    go_region
    go_wp2_with fail
    go_region
    go_wp2_with fail
    refine HC0.out.mono ?_
    rintro e w3 ⟨A3, n3, c3, rfl, ho3, hb3⟩
    have hX := Ext.of hb3
    obtain ⟨hB, hA⟩ := HL6.out w3 hX
    have d0 : w3.cell? ⟨w.heap.size + 1, 0, none⟩ = some (.int .i64 15) := (cell_of_row _ _ _ _ _ _ hA).trans rfl
    have d1 : w3.cell? ⟨w.heap.size + 1, 1, none⟩ = some (.int .i64 (F : Int)) := (cell_of_row _ _ _ _ _ _ hA).trans rfl
    have d2 : w3.cell? ⟨w.heap.size + 1, 2, none⟩ = some (.int .i64 0) := (cell_of_row _ _ _ _ _ _ hA).trans rfl
    have d4 : w3.cell? ⟨w.heap.size + 1, 4, none⟩ = some (.slice none 0 0) := (cell_of_row _ _ _ _ _ _ hA).trans rfl
    have d5 : w3.cell? ⟨w.heap.size + 1, 5, none⟩ = some (.slice none 0 0) := (cell_of_row _ _ _ _ _ _ hA).trans rfl
    have f0 : w3.cell? ⟨w.heap.size, 0, none⟩ = some (.int .i64 0) := (cell_of_row _ _ _ _ _ _ hB).trans rfl
    have u_0 := frozen_of_row w3 w.heap.size 0 _ _ hB
    have f1 : w3.cell? ⟨w.heap.size, 1, none⟩ = some (.int .i64 0) := (cell_of_row _ _ _ _ _ _ hB).trans rfl
    have u_1 := frozen_of_row w3 w.heap.size 1 _ _ hB
    have f2 : w3.cell? ⟨w.heap.size, 2, none⟩ = some (.int .i64 0) := (cell_of_row _ _ _ _ _ _ hB).trans rfl
    have u_2 := frozen_of_row w3 w.heap.size 2 _ _ hB
    have f3 : w3.cell? ⟨w.heap.size, 3, none⟩ = some (.slice none 0 0) := (cell_of_row _ _ _ _ _ _ hB).trans rfl
    have u_3 := frozen_of_row w3 w.heap.size 3 _ _ hB
    have f4 : w3.cell? ⟨w.heap.size, 4, none⟩ = some (.slice none 0 0) := (cell_of_row _ _ _ _ _ _ hB).trans rfl
    have u_4 := frozen_of_row w3 w.heap.size 4 _ _ hB
    have f5 : w3.cell? ⟨w.heap.size, 5, none⟩ = some (.slice none 0 0) := (cell_of_row _ _ _ _ _ _ hB).trans rfl
    have u_5 := frozen_of_row w3 w.heap.size 5 _ _ hB
    have e3 := frozen_of_row w3 (w.heap.size + 1) 3 _ _ hA
    have d3 : w3.cell? ⟨w.heap.size + 1, 3, none⟩ = some (.slice none 0 0) := (cell_of_row _ _ _ _ _ _ hA).trans rfl
    have HO3 := Lib.hid (show Own w3 (w.heap.size + 2) 4 IsBo A3 n3 c3 (l.map cL) from ho3.mono (by show w.heap.size + 2 ≤ _; simp))
    have HX := Lib.hid (XW.out.trans hX)
    clear hA hB ho3 hb3 hX HL6 XW g0 g1 g2 g3 g4 q1 q3 r1 r3
    go_wp2_with fail
    refine bodyPost_ret (v := .tuple #[askV ⟨15, (F : Nat), 0, l, [], []⟩ ⟨A3, n3, c3, none, 0, 0, none, 0, 0⟩, .bool t]) (by simp [results, Try.results96, go_sem, askV, *]) rfl ⟨_, _, by rw [HS.out], fun a' ha => ⟨HS2.out a' ha, ⟨?_, Own.nil_ _ _ _ _, OwP.nil_ _ _, by unfold i64P; simp, by unfold i64P; simp; omega, by unfold i64P; simp⟩⟩, ?_⟩
    · refine Own.mono (base := w.heap.size + 2) ?_ (by omega)
      repeat' (first | with_reducible exact HO3.out | with_reducible refine Own.set_below ?_ (by simp) _)
    · repeat' (first | with_reducible exact HX.out | with_reducible refine Ext.set' ?_ (by simp) _)
end Go.Proofs.Ytjmddiffeffgnaa

namespace Go.Proofs.Ytjmddiffeffgnaa
set_option linter.unusedVariables false
set_option linter.unusedSimpArgs false
set_option maxRecDepth 100000
set_option maxHeartbeats 1000000
open Go Go.RowKit Go.Out

theorem regs_some (b : List UInt8) (m R : Nat) (F : Int) (hl : b.length = m) (hm : 6 ≤ m) :
    (if b.length - 6 = 2 * R then some (⟨16, F, 0, [], bw (b.drop 6), []⟩ : AskD) else none).isSome = (((wordsF (b.drop 6)).2 == 0) && ((((wordsF (b.drop 6)).1.length : Nat) : Int) == (R : Int))) := by
  rcases Nat.mod_two_eq_zero_or_one (m - 6) with h | h
  · have e0 : wordsF (b.drop 6) = (bw (b.drop 6), 0) := by unfold wordsF; rw [if_neg (by rw [List.length_drop, hl]; omega)]
    have e : (bw (b.drop 6)).length = (m - 6) / 2 := by rw [bw_length, List.length_drop, hl]
    rw [e0, hl]
    simp only [e]
    by_cases hR : m - 6 = 2 * R
    · rw [if_pos hR]; simp; omega
    · rw [if_neg hR]; simp; omega
  · have e0 : wordsF (b.drop 6) = ([], 22) := by unfold wordsF; rw [if_pos (by rw [List.length_drop, hl]; exact h)]
    rw [e0, hl, if_neg (by omega)]; rfl
theorem regs_is {b : List UInt8} {m R : Nat} {F : Int} (hl : b.length = m) (hm : 6 ≤ m) : ∀ a', (if b.length - 6 = 2 * R then some (⟨16, F, 0, [], bw (b.drop 6), []⟩ : AskD) else none) = some a' → a' = ⟨16, F, 0, [], (wordsF (b.drop 6)).1, []⟩ := by
  intro a' h
  split at h
  · rename_i hR
    injection h with h
    unfold wordsF
    rw [if_neg (by rw [List.length_drop]; omega)]
    exact h.symm
  · cases h

theorem read_regs (b : List UInt8) (A : Option Addr) (m c : Nat) (w : World) (hr : Rd w A m (b.map cB)) (hc : m ≤ c) (hm : 6 ≤ m) (hm2 : m ≤ 17000000000) (hk : b0 b = 16) :
    Calls Try.prog 96 #[.slice A m c] w (RetRead w (saidF b)) := by
  have hs : saidF b = if b.length - 6 = 2 * at2 b 3 then some ⟨16, (at2 b 1 : Nat), 0, [], bw (b.drop 6), []⟩ else none := by
    unfold saidF
    rw [hk, if_neg (by omega), if_neg (by omega), if_neg (by omega), if_neg (by omega), if_pos rfl]
  rw [hs]
  clear hs
  have HRD := Lib.hid (hr.from8 (k := 6) (c := c) hm hc)
  have hlen := hr.length
  obtain ⟨bk, off, rfl, hbk, hcell⟩ := hr.u8all (by omega)
  have n1 : at2 b 1 = (b.getD 1 0).toNat * 256 + (b.getD 2 0).toNat := rfl
  have n3 : at2 b 3 = (b.getD 3 0).toNat * 256 + (b.getD 4 0).toNat := rfl
  have g0 := hcell 0 (by omega); have g1 := hcell 1 (by omega); have g2 := hcell 2 (by omega); have g3 := hcell 3 (by omega); have g4 := hcell 4 (by omega)
  have b1 := (b.getD 1 0).toNat_lt; have b2 := (b.getD 2 0).toNat_lt; have b3 := (b.getD 3 0).toNat_lt; have b4 := (b.getD 4 0).toNat_lt
  rw [n1, n3]
  rw [Nat.add_zero, show (b.getD 0 0).toNat = 16 from hk] at g0
  clear hcell n1 n3 hk hr
  have q1 := or_w64 (b.getD 1 0).toNat (b.getD 2 0).toNat b1 b2
  have q3 := or_w64 (b.getD 3 0).toNat (b.getD 4 0).toNat b3 b4
  have r1 := or_i64 (b.getD 1 0).toNat (b.getD 2 0).toNat b1 b2
  have r3 := or_i64 (b.getD 3 0).toNat (b.getD 4 0).toNat b3 b4
  generalize (b.getD 1 0).toNat = x1 at *
  generalize (b.getD 2 0).toNat = x2 at *
  generalize (b.getD 3 0).toNat = x3 at *
  generalize (b.getD 4 0).toNat = x4 at *
  obtain ⟨F, hF⟩ : ∃ F, x1 * 256 + x2 = F := ⟨_, rfl⟩
  obtain ⟨R, hR⟩ : ∃ R, x3 * 256 + x4 = R := ⟨_, rfl⟩
  rw [hF] at r1 q1 ⊢; rw [hR] at r3 q3 ⊢
  have hF6 : F < 65536 := by omega
  have hR6 : R < 65536 := by omega
  clear hF hR b1 b2 b3 b4
  have i0 : 0 < m := by omega
  have i1 : (1 : Int) < (m : Int) := by omega
  have i2 : (2 : Int) < (m : Int) := by omega
  have i3 : (3 : Int) < (m : Int) := by omega
  have i4 : (4 : Int) < (m : Int) := by omega
  have HC : Hid (∀ (B : Option Addr) (k : Nat) (W : World), Rd W B (m - 6) ((b.drop 6).map cB) → Calls Try.prog 119 #[.slice B (m - 6) k] W (RetW W 58 (wordsF (b.drop 6)).1 (wordsF (b.drop 6)).2)) := fun B k W h => words_any (b.drop 6) B (m - 6) k W h (by omega)
  have HS := Lib.hid (regs_some b m R (F : Int) hlen hm)
  have HS2 := Lib.hid (regs_is (b := b) (m := m) (R := R) (F := (F : Int)) hlen hm)
  generalize (if b.length - 6 = 2 * R then some (⟨16, (F : Int), 0, [], bw (b.drop 6), []⟩ : AskD) else none) = RR at *
  generalize wordsF (b.drop 6) = U at *
  obtain ⟨l, E⟩ := U
  simp only at HC HS HS2 ⊢
  obtain ⟨N, hN⟩ : ∃ N, l.length = N := ⟨_, rfl⟩
  rw [hN] at HS
  have HN := Lib.hid hN
  obtain ⟨t, ht⟩ : ∃ t, (E == 0) = t := ⟨_, rfl⟩
  obtain ⟨t2, ht2⟩ : ∃ t2, ((N : Int) == (R : Int)) = t2 := ⟨_, rfl⟩
  rw [ht, ht2] at HS
  clear hN hlen
  have hl6 : ∀ W : World, Ext ((w.alloc (.cells #[.int .i64 0, .int .i64 0, .int .i64 0, .slice none 0 0, .slice none 0 0, .slice none 0 0] 26)).alloc (.cells #[.int .i64 16, .int .i64 (F : Int), .int .i64 0, .slice none 0 0, .slice none 0 0, .slice none 0 0] 26)).drew.drew W → W.heap[w.heap.size]? = some (.cells #[.int .i64 0, .int .i64 0, .int .i64 0, .slice none 0 0, .slice none 0 0, .slice none 0 0] 26 (0, 0)) ∧ W.heap[w.heap.size + 1]? = some (.cells #[.int .i64 16, .int .i64 (F : Int), .int .i64 0, .slice none 0 0, .slice none 0 0, .slice none 0 0] 26 (0, 0)) := fun W hX =>
    ⟨hX.block ((Ext.alloc _ _).block (heap_alloc_new w _)), hX.block (heap_at _ _ _ (by simp))⟩
  have HL6 := Lib.hid hl6
  clear hl6
  have XW := Lib.hid (show Ext w ((w.alloc (.cells #[.int .i64 0, .int .i64 0, .int .i64 0, .slice none 0 0, .slice none 0 0, .slice none 0 0] 26)).alloc (.cells #[.int .i64 16, .int .i64 (F : Int), .int .i64 0, .slice none 0 0, .slice none 0 0, .slice none 0 0] 26)).drew.drew from ((Ext.alloc _ _).trans (Ext.alloc _ _)).drew'.drew')
  by_cases hc6 : c = 6
  · subst hc6
    rw [if_pos rfl] at HRD
    obtain rfl : m = 6 := by omega
    have HC0 := Lib.hid (HC.out (some ⟨bk, off, none⟩) 0 ((w.alloc (.cells #[.int .i64 0, .int .i64 0, .int .i64 0, .slice none 0 0, .slice none 0 0, .slice none 0 0] 26)).alloc (.cells #[.int .i64 16, .int .i64 (F : Int), .int .i64 0, .slice none 0 0, .slice none 0 0, .slice none 0 0] 26)).drew.drew (HRD.out.ext XW.out))
    simp only [Nat.sub_self] at HC0
    clear HC
    cases t
    all_goals
      go_enter Try.func96, Try.ntmps96
      go_wp2_with fail
      go_region
      go_wp2_with fail
      go_region
      go_wp2_with fail
      refine HC0.out.mono ?_
      rintro e w3 ⟨A3, n3, c3, rfl, ho3, hb3⟩
      obtain rfl : n3 = N := by have h1 := ho3.len; have h2 := HN.out; simp at h1; omega
      have hX := Ext.of hb3
      obtain ⟨hB, hA⟩ := HL6.out w3 hX
      have d0 : w3.cell? ⟨w.heap.size + 1, 0, none⟩ = some (.int .i64 16) := (cell_of_row _ _ _ _ _ _ hA).trans rfl
      have d1 : w3.cell? ⟨w.heap.size + 1, 1, none⟩ = some (.int .i64 (F : Int)) := (cell_of_row _ _ _ _ _ _ hA).trans rfl
      have d2 : w3.cell? ⟨w.heap.size + 1, 2, none⟩ = some (.int .i64 0) := (cell_of_row _ _ _ _ _ _ hA).trans rfl
      have d3 : w3.cell? ⟨w.heap.size + 1, 3, none⟩ = some (.slice none 0 0) := (cell_of_row _ _ _ _ _ _ hA).trans rfl
      have d4 : w3.cell? ⟨w.heap.size + 1, 4, none⟩ = some (.slice none 0 0) := (cell_of_row _ _ _ _ _ _ hA).trans rfl
      have d5 : w3.cell? ⟨w.heap.size + 1, 5, none⟩ = some (.slice none 0 0) := (cell_of_row _ _ _ _ _ _ hA).trans rfl
      have f0 : w3.cell? ⟨w.heap.size, 0, none⟩ = some (.int .i64 0) := (cell_of_row _ _ _ _ _ _ hB).trans rfl
      have u_0 := frozen_of_row w3 w.heap.size 0 _ _ hB
      have f1 : w3.cell? ⟨w.heap.size, 1, none⟩ = some (.int .i64 0) := (cell_of_row _ _ _ _ _ _ hB).trans rfl
      have u_1 := frozen_of_row w3 w.heap.size 1 _ _ hB
      have f2 : w3.cell? ⟨w.heap.size, 2, none⟩ = some (.int .i64 0) := (cell_of_row _ _ _ _ _ _ hB).trans rfl
      have u_2 := frozen_of_row w3 w.heap.size 2 _ _ hB
      have f3 : w3.cell? ⟨w.heap.size, 3, none⟩ = some (.slice none 0 0) := (cell_of_row _ _ _ _ _ _ hB).trans rfl
      have u_3 := frozen_of_row w3 w.heap.size 3 _ _ hB
      have f4 : w3.cell? ⟨w.heap.size, 4, none⟩ = some (.slice none 0 0) := (cell_of_row _ _ _ _ _ _ hB).trans rfl
      have u_4 := frozen_of_row w3 w.heap.size 4 _ _ hB
      have f5 : w3.cell? ⟨w.heap.size, 5, none⟩ = some (.slice none 0 0) := (cell_of_row _ _ _ _ _ _ hB).trans rfl
      have u_5 := frozen_of_row w3 w.heap.size 5 _ _ hB
      have e4 := frozen_of_row w3 (w.heap.size + 1) 4 _ _ hA
      have HO3 := Lib.hid (show Own w3 (w.heap.size + 2) 58 IsU16 A3 n3 c3 (l.map cW) from ho3.mono (by show w.heap.size + 2 ≤ _; simp))
      have HX := Lib.hid (XW.out.trans hX)
      clear hA hB ho3 hb3 hX HL6 XW g0 g1 g2 g3 g4 q1 q3 r1 r3
      go_wp2_with fail
      refine bodyPost_ret (v := .tuple #[askV ⟨16, (F : Nat), 0, [], l, []⟩ ⟨none, 0, 0, A3, n3, c3, none, 0, 0⟩, .bool RR.isSome]) (by rw [HS.out]; simp [results, Try.results96, go_sem, askV, *]) rfl ⟨_, _, rfl, fun a' ha => ⟨HS2.out a' ha, ⟨Own.nil_ _ _ _ _, ?_, OwP.nil_ _ _, by unfold i64P; simp, by unfold i64P; simp; omega, by unfold i64P; simp⟩⟩, ?_⟩
      · refine Own.mono (base := w.heap.size + 2) ?_ (by omega)
        repeat' (first | with_reducible exact HO3.out | with_reducible refine Own.set_below ?_ (by simp) _)
      · repeat' (first | with_reducible exact HX.out | with_reducible refine Ext.set' ?_ (by simp) _)
  · rw [if_neg hc6] at HRD
    have HC0 := Lib.hid (HC.out (some ⟨bk, off + 6, none⟩) (c - 6) ((w.alloc (.cells #[.int .i64 0, .int .i64 0, .int .i64 0, .slice none 0 0, .slice none 0 0, .slice none 0 0] 26)).alloc (.cells #[.int .i64 16, .int .i64 (F : Int), .int .i64 0, .slice none 0 0, .slice none 0 0, .slice none 0 0] 26)).drew.drew (HRD.out.ext XW.out))
    clear HC
    cases t
    all_goals
      go_enter Try.func96, Try.ntmps96
      go_wp2_with fail
      go_region
      go_wp2_with fail
      go_region
      go_wp2_with fail
      refine HC0.out.mono ?_
      rintro e w3 ⟨A3, n3, c3, rfl, ho3, hb3⟩
      obtain rfl : n3 = N := by have h1 := ho3.len; have h2 := HN.out; simp at h1; omega
      have hX := Ext.of hb3
      obtain ⟨hB, hA⟩ := HL6.out w3 hX
      have d0 : w3.cell? ⟨w.heap.size + 1, 0, none⟩ = some (.int .i64 16) := (cell_of_row _ _ _ _ _ _ hA).trans rfl
      have d1 : w3.cell? ⟨w.heap.size + 1, 1, none⟩ = some (.int .i64 (F : Int)) := (cell_of_row _ _ _ _ _ _ hA).trans rfl
      have d2 : w3.cell? ⟨w.heap.size + 1, 2, none⟩ = some (.int .i64 0) := (cell_of_row _ _ _ _ _ _ hA).trans rfl
      have d3 : w3.cell? ⟨w.heap.size + 1, 3, none⟩ = some (.slice none 0 0) := (cell_of_row _ _ _ _ _ _ hA).trans rfl
      have d4 : w3.cell? ⟨w.heap.size + 1, 4, none⟩ = some (.slice none 0 0) := (cell_of_row _ _ _ _ _ _ hA).trans rfl
      have d5 : w3.cell? ⟨w.heap.size + 1, 5, none⟩ = some (.slice none 0 0) := (cell_of_row _ _ _ _ _ _ hA).trans rfl
      have f0 : w3.cell? ⟨w.heap.size, 0, none⟩ = some (.int .i64 0) := (cell_of_row _ _ _ _ _ _ hB).trans rfl
      have u_0 := frozen_of_row w3 w.heap.size 0 _ _ hB
      have f1 : w3.cell? ⟨w.heap.size, 1, none⟩ = some (.int .i64 0) := (cell_of_row _ _ _ _ _ _ hB).trans rfl
      have u_1 := frozen_of_row w3 w.heap.size 1 _ _ hB
      have f2 : w3.cell? ⟨w.heap.size, 2, none⟩ = some (.int .i64 0) := (cell_of_row _ _ _ _ _ _ hB).trans rfl
      have u_2 := frozen_of_row w3 w.heap.size 2 _ _ hB
      have f3 : w3.cell? ⟨w.heap.size, 3, none⟩ = some (.slice none 0 0) := (cell_of_row _ _ _ _ _ _ hB).trans rfl
      have u_3 := frozen_of_row w3 w.heap.size 3 _ _ hB
      have f4 : w3.cell? ⟨w.heap.size, 4, none⟩ = some (.slice none 0 0) := (cell_of_row _ _ _ _ _ _ hB).trans rfl
      have u_4 := frozen_of_row w3 w.heap.size 4 _ _ hB
      have f5 : w3.cell? ⟨w.heap.size, 5, none⟩ = some (.slice none 0 0) := (cell_of_row _ _ _ _ _ _ hB).trans rfl
      have u_5 := frozen_of_row w3 w.heap.size 5 _ _ hB
      have e4 := frozen_of_row w3 (w.heap.size + 1) 4 _ _ hA
      have HO3 := Lib.hid (show Own w3 (w.heap.size + 2) 58 IsU16 A3 n3 c3 (l.map cW) from ho3.mono (by show w.heap.size + 2 ≤ _; simp))
      have HX := Lib.hid (XW.out.trans hX)
      clear hA hB ho3 hb3 hX HL6 XW g0 g1 g2 g3 g4 q1 q3 r1 r3
      go_wp2_with fail
      refine bodyPost_ret (v := .tuple #[askV ⟨16, (F : Nat), 0, [], l, []⟩ ⟨none, 0, 0, A3, n3, c3, none, 0, 0⟩, .bool RR.isSome]) (by rw [HS.out]; simp [results, Try.results96, go_sem, askV, *]) rfl ⟨_, _, rfl, fun a' ha => ⟨HS2.out a' ha, ⟨Own.nil_ _ _ _ _, ?_, OwP.nil_ _ _, by unfold i64P; simp, by unfold i64P; simp; omega, by unfold i64P; simp⟩⟩, ?_⟩
      · refine Own.mono (base := w.heap.size + 2) ?_ (by omega)
        repeat' (first | with_reducible exact HO3.out | with_reducible refine Own.set_below ?_ (by simp) _)
      · repeat' (first | with_reducible exact HX.out | with_reducible refine Ext.set' ?_ (by simp) _)
end Go.Proofs.Ytjmddiffeffgnaa

namespace Go.Proofs.Ytjmddiffeffgnaa
set_option linter.unusedVariables false
set_option linter.unusedSimpArgs false
set_option maxRecDepth 100000
set_option maxHeartbeats 1000000
open Go Go.RowKit Go.Out

theorem OwP.set_below {w : World} {base : Nat} {v : Value} {l : List PartD} (h : OwP w base v l) {q : Addr} (hq : q.block < base) (u : Value) : OwP (w.setCell q u) base v l := by
  obtain ⟨⟨xs, h1, h2⟩, h3⟩ := h
  exact ⟨⟨xs, ownsRow_setCell_below h1 hq u, h2.mono fun _ _ h => h⟩, h3.kept fun g hg => Below.heap_setCell w q u g (by have := (h1.lt g hg).1; omega)⟩
theorem read_file (b : List UInt8) (A : Option Addr) (m c : Nat) (w : World) (hr : Rd w A m (b.map cB)) (hc : m ≤ c) (hc63 : c ≤ 9223372036854775807) (hm : 2 ≤ m) (hm2 : m ≤ 17000000000) (hk : b0 b = 20) :
    Calls Try.prog 96 #[.slice A m c] w (RetRead w (saidF b)) := by
  have hs : saidF b = (partsOf (b.drop 2)).map fun l => ⟨20, 0, 0, [], [], l⟩ := by
    unfold saidF
    rw [if_pos hk]
  rw [hs]
  clear hs
  have HRD := Lib.hid (hr.from8 (k := 2) (c := c) hm hc)
  obtain ⟨bk, off, rfl, hbk, hcell⟩ := hr.u8all (by omega)
  have g0 := hcell 0 (by omega)
  rw [Nat.add_zero, show (b.getD 0 0).toNat = 20 from hk] at g0
  clear hcell hk hr
  have i0 : 0 < m := by omega
  have HC : Hid (∀ (B : Option Addr) (k : Nat) (W : World), m - 2 ≤ k → k ≤ 9223372036854775807 → Rd W B (m - 2) ((b.drop 2).map cB) → Calls Try.prog 132 #[.slice B (m - 2) k] W (RetPs W (partsOf (b.drop 2)))) := fun B k W h1 h2 h => askParts_any (b.drop 2) B (m - 2) k W h h1 h2 (by omega)
  have HS : Hid (((partsOf (b.drop 2)).map fun l => (⟨20, 0, 0, [], [], l⟩ : AskD)).isSome = (partsOf (b.drop 2)).isSome) := by simp [Hid]
  have HS2 : Hid (∀ a', ((partsOf (b.drop 2)).map fun l => (⟨20, 0, 0, [], [], l⟩ : AskD)) = some a' → ∃ l, partsOf (b.drop 2) = some l ∧ a' = ⟨20, 0, 0, [], [], l⟩) := by
    intro a' h
    obtain ⟨l, h1, h2⟩ := Option.map_eq_some_iff.1 h
    exact ⟨l, h1, h2.symm⟩
  generalize ((partsOf (b.drop 2)).map fun l => (⟨20, 0, 0, [], [], l⟩ : AskD)) = RR at *
  generalize partsOf (b.drop 2) = U at *
  have hl6 : ∀ W : World, Ext ((w.alloc (.cells #[.int .i64 0, .int .i64 0, .int .i64 0, .slice none 0 0, .slice none 0 0, .slice none 0 0] 26)).alloc (.cells #[.int .i64 20, .int .i64 0, .int .i64 0, .slice none 0 0, .slice none 0 0, .slice none 0 0] 26)) W → W.heap[w.heap.size]? = some (.cells #[.int .i64 0, .int .i64 0, .int .i64 0, .slice none 0 0, .slice none 0 0, .slice none 0 0] 26 (0, 0)) ∧ W.heap[w.heap.size + 1]? = some (.cells #[.int .i64 20, .int .i64 0, .int .i64 0, .slice none 0 0, .slice none 0 0, .slice none 0 0] 26 (0, 0)) := fun W hX =>
    ⟨hX.block ((Ext.alloc _ _).block (heap_alloc_new w _)), hX.block (heap_at _ _ _ (by simp))⟩
  have HL6 := Lib.hid hl6
  clear hl6
  have XW := Lib.hid (show Ext w ((w.alloc (.cells #[.int .i64 0, .int .i64 0, .int .i64 0, .slice none 0 0, .slice none 0 0, .slice none 0 0] 26)).alloc (.cells #[.int .i64 20, .int .i64 0, .int .i64 0, .slice none 0 0, .slice none 0 0, .slice none 0 0] 26)) from ((Ext.alloc _ _).trans (Ext.alloc _ _)))
  by_cases hc6 : c = 2
  · subst hc6
    rw [if_pos rfl] at HRD
    obtain rfl : m = 2 := by omega
    have HC0 := Lib.hid (HC.out (some ⟨bk, off, none⟩) 0 ((w.alloc (.cells #[.int .i64 0, .int .i64 0, .int .i64 0, .slice none 0 0, .slice none 0 0, .slice none 0 0] 26)).alloc (.cells #[.int .i64 20, .int .i64 0, .int .i64 0, .slice none 0 0, .slice none 0 0, .slice none 0 0] 26)) (by omega) (by omega) (HRD.out.ext XW.out))
    simp only [Nat.sub_self] at HC0
    clear HC
    go_enter Try.func96, Try.ntmps96
    go_wp2_with fail
    refine HC0.out.mono ?_
    rintro e w3 ⟨A3, n3, c3, rfl, ho3, hb3⟩
    have hX := Ext.of hb3
    obtain ⟨hB, hA⟩ := HL6.out w3 hX
    have d0 : w3.cell? ⟨w.heap.size + 1, 0, none⟩ = some (.int .i64 20) := (cell_of_row _ _ _ _ _ _ hA).trans rfl
    have d1 : w3.cell? ⟨w.heap.size + 1, 1, none⟩ = some (.int .i64 0) := (cell_of_row _ _ _ _ _ _ hA).trans rfl
    have d2 : w3.cell? ⟨w.heap.size + 1, 2, none⟩ = some (.int .i64 0) := (cell_of_row _ _ _ _ _ _ hA).trans rfl
    have d3 : w3.cell? ⟨w.heap.size + 1, 3, none⟩ = some (.slice none 0 0) := (cell_of_row _ _ _ _ _ _ hA).trans rfl
    have d4 : w3.cell? ⟨w.heap.size + 1, 4, none⟩ = some (.slice none 0 0) := (cell_of_row _ _ _ _ _ _ hA).trans rfl
    have d5 : w3.cell? ⟨w.heap.size + 1, 5, none⟩ = some (.slice none 0 0) := (cell_of_row _ _ _ _ _ _ hA).trans rfl
    have f0 : w3.cell? ⟨w.heap.size, 0, none⟩ = some (.int .i64 0) := (cell_of_row _ _ _ _ _ _ hB).trans rfl
    have u_0 := frozen_of_row w3 w.heap.size 0 _ _ hB
    have f1 : w3.cell? ⟨w.heap.size, 1, none⟩ = some (.int .i64 0) := (cell_of_row _ _ _ _ _ _ hB).trans rfl
    have u_1 := frozen_of_row w3 w.heap.size 1 _ _ hB
    have f2 : w3.cell? ⟨w.heap.size, 2, none⟩ = some (.int .i64 0) := (cell_of_row _ _ _ _ _ _ hB).trans rfl
    have u_2 := frozen_of_row w3 w.heap.size 2 _ _ hB
    have f3 : w3.cell? ⟨w.heap.size, 3, none⟩ = some (.slice none 0 0) := (cell_of_row _ _ _ _ _ _ hB).trans rfl
    have u_3 := frozen_of_row w3 w.heap.size 3 _ _ hB
    have f4 : w3.cell? ⟨w.heap.size, 4, none⟩ = some (.slice none 0 0) := (cell_of_row _ _ _ _ _ _ hB).trans rfl
    have u_4 := frozen_of_row w3 w.heap.size 4 _ _ hB
    have f5 : w3.cell? ⟨w.heap.size, 5, none⟩ = some (.slice none 0 0) := (cell_of_row _ _ _ _ _ _ hB).trans rfl
    have u_5 := frozen_of_row w3 w.heap.size 5 _ _ hB
    have e5 := frozen_of_row w3 (w.heap.size + 1) 5 _ _ hA
    have HO3 := Lib.hid (show ∀ l, U = some l → OwP w3 (w.heap.size + 2) (.slice A3 n3 c3) l from fun l hl => (ho3 l hl).mono (by show w.heap.size + 2 ≤ _; simp))
    have HX := Lib.hid (XW.out.trans hX)
    clear hA hB ho3 hb3 hX HL6 XW g0
    go_wp2_with fail
    refine bodyPost_ret (v := .tuple #[askV ⟨20, 0, 0, [], [], (U.getD [])⟩ ⟨none, 0, 0, none, 0, 0, A3, n3, c3⟩, .bool U.isSome]) (by simp [results, Try.results96, go_sem, askV, *]) rfl ⟨_, _, by rw [HS.out], fun a' ha => ?_, ?_⟩
    · obtain ⟨l, hU, rfl⟩ := HS2.out a' ha
      refine ⟨by rw [hU]; rfl, ⟨Own.nil_ _ _ _ _, Own.nil_ _ _ _ _, ?_, by unfold i64P; simp, by unfold i64P; simp, by unfold i64P; simp⟩⟩
      show OwP _ _ (.slice A3 n3 c3) (U.getD [])
      rw [hU]
      show OwP _ _ (.slice A3 n3 c3) l
      have HO4 := Lib.hid (HO3.out l hU)
      refine OwP.mono (base := w.heap.size + 2) ?_ (by omega)
      repeat' (first | with_reducible exact HO4.out | with_reducible refine OwP.set_below ?_ (by simp) _)
    · repeat' (first | with_reducible exact HX.out | with_reducible refine Ext.set' ?_ (by simp) _)
  · rw [if_neg hc6] at HRD
    have HC0 := Lib.hid (HC.out (some ⟨bk, off + 2, none⟩) (c - 2) ((w.alloc (.cells #[.int .i64 0, .int .i64 0, .int .i64 0, .slice none 0 0, .slice none 0 0, .slice none 0 0] 26)).alloc (.cells #[.int .i64 20, .int .i64 0, .int .i64 0, .slice none 0 0, .slice none 0 0, .slice none 0 0] 26)) (by omega) (by omega) (HRD.out.ext XW.out))
    clear HC
    go_enter Try.func96, Try.ntmps96
    go_wp2_with fail
    refine HC0.out.mono ?_
    rintro e w3 ⟨A3, n3, c3, rfl, ho3, hb3⟩
    have hX := Ext.of hb3
    obtain ⟨hB, hA⟩ := HL6.out w3 hX
    have d0 : w3.cell? ⟨w.heap.size + 1, 0, none⟩ = some (.int .i64 20) := (cell_of_row _ _ _ _ _ _ hA).trans rfl
    have d1 : w3.cell? ⟨w.heap.size + 1, 1, none⟩ = some (.int .i64 0) := (cell_of_row _ _ _ _ _ _ hA).trans rfl
    have d2 : w3.cell? ⟨w.heap.size + 1, 2, none⟩ = some (.int .i64 0) := (cell_of_row _ _ _ _ _ _ hA).trans rfl
    have d3 : w3.cell? ⟨w.heap.size + 1, 3, none⟩ = some (.slice none 0 0) := (cell_of_row _ _ _ _ _ _ hA).trans rfl
    have d4 : w3.cell? ⟨w.heap.size + 1, 4, none⟩ = some (.slice none 0 0) := (cell_of_row _ _ _ _ _ _ hA).trans rfl
    have d5 : w3.cell? ⟨w.heap.size + 1, 5, none⟩ = some (.slice none 0 0) := (cell_of_row _ _ _ _ _ _ hA).trans rfl
    have f0 : w3.cell? ⟨w.heap.size, 0, none⟩ = some (.int .i64 0) := (cell_of_row _ _ _ _ _ _ hB).trans rfl
    have u_0 := frozen_of_row w3 w.heap.size 0 _ _ hB
    have f1 : w3.cell? ⟨w.heap.size, 1, none⟩ = some (.int .i64 0) := (cell_of_row _ _ _ _ _ _ hB).trans rfl
    have u_1 := frozen_of_row w3 w.heap.size 1 _ _ hB
    have f2 : w3.cell? ⟨w.heap.size, 2, none⟩ = some (.int .i64 0) := (cell_of_row _ _ _ _ _ _ hB).trans rfl
    have u_2 := frozen_of_row w3 w.heap.size 2 _ _ hB
    have f3 : w3.cell? ⟨w.heap.size, 3, none⟩ = some (.slice none 0 0) := (cell_of_row _ _ _ _ _ _ hB).trans rfl
    have u_3 := frozen_of_row w3 w.heap.size 3 _ _ hB
    have f4 : w3.cell? ⟨w.heap.size, 4, none⟩ = some (.slice none 0 0) := (cell_of_row _ _ _ _ _ _ hB).trans rfl
    have u_4 := frozen_of_row w3 w.heap.size 4 _ _ hB
    have f5 : w3.cell? ⟨w.heap.size, 5, none⟩ = some (.slice none 0 0) := (cell_of_row _ _ _ _ _ _ hB).trans rfl
    have u_5 := frozen_of_row w3 w.heap.size 5 _ _ hB
    have e5 := frozen_of_row w3 (w.heap.size + 1) 5 _ _ hA
    have HO3 := Lib.hid (show ∀ l, U = some l → OwP w3 (w.heap.size + 2) (.slice A3 n3 c3) l from fun l hl => (ho3 l hl).mono (by show w.heap.size + 2 ≤ _; simp))
    have HX := Lib.hid (XW.out.trans hX)
    clear hA hB ho3 hb3 hX HL6 XW g0
    go_wp2_with fail
    refine bodyPost_ret (v := .tuple #[askV ⟨20, 0, 0, [], [], (U.getD [])⟩ ⟨none, 0, 0, none, 0, 0, A3, n3, c3⟩, .bool U.isSome]) (by simp [results, Try.results96, go_sem, askV, *]) rfl ⟨_, _, by rw [HS.out], fun a' ha => ?_, ?_⟩
    · obtain ⟨l, hU, rfl⟩ := HS2.out a' ha
      refine ⟨by rw [hU]; rfl, ⟨Own.nil_ _ _ _ _, Own.nil_ _ _ _ _, ?_, by unfold i64P; simp, by unfold i64P; simp, by unfold i64P; simp⟩⟩
      show OwP _ _ (.slice A3 n3 c3) (U.getD [])
      rw [hU]
      show OwP _ _ (.slice A3 n3 c3) l
      have HO4 := Lib.hid (HO3.out l hU)
      refine OwP.mono (base := w.heap.size + 2) ?_ (by omega)
      repeat' (first | with_reducible exact HO4.out | with_reducible refine OwP.set_below ?_ (by simp) _)
    · repeat' (first | with_reducible exact HX.out | with_reducible refine Ext.set' ?_ (by simp) _)
end Go.Proofs.Ytjmddiffeffgnaa
