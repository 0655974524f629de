/- Contract of ask.read: coils. -/
import Derived.Test.YtomcipkmohhpjaaGreatG05
import Derived.Test.YtomcipkmohhpjaaGreatG02
namespace Go.Proofs.YtomcipkmohhpjaaGreat
set_option linter.unusedVariables false
set_option linter.unusedSimpArgs false
set_option maxRecDepth 100000
set_option maxHeartbeats 1000000
open Go Go.RowKit Go.Out

theorem read_coils (b : List UInt8) (A : Option Addr) (m c : Nat) (w : World) (hr : Rd w A m (b.map cB)) (hc : m ≤ c) (hm : 6 ≤ m) (hm2 : m ≤ 17000000000) (hk : b0 b = 15) :
    Calls Tryz.prog 83 #[.slice A m c] w (RetRead w (saidF b)) := by
  have hs : saidF b = if (unbitsF (b.drop 6) (at2 b 3 : Nat)).2 = 0 then some ⟨15, (at2 b 1 : Nat), 0, (unbitsF (b.drop 6) (at2 b 3 : Nat)).1, [], []⟩ else none := by
    unfold saidF
    rw [hk, if_neg (by omega), if_neg (by omega), if_neg (by omega), if_pos rfl]
  rw [hs]
  clear hs
  have HRD := Lib.hid (hr.from8 (k := 6) (c := c) hm hc)
  obtain ⟨bk, off, rfl, hbk, hcell⟩ := hr.u8all (by omega)
  have n1 : at2 b 1 = (b.getD 1 0).toNat * 256 + (b.getD 2 0).toNat := rfl
  have n3 : at2 b 3 = (b.getD 3 0).toNat * 256 + (b.getD 4 0).toNat := rfl
  have g0 := hcell 0 (by omega); have g1 := hcell 1 (by omega); have g2 := hcell 2 (by omega); have g3 := hcell 3 (by omega); have g4 := hcell 4 (by omega)
  have b1 := (b.getD 1 0).toNat_lt; have b2 := (b.getD 2 0).toNat_lt; have b3 := (b.getD 3 0).toNat_lt; have b4 := (b.getD 4 0).toNat_lt
  rw [n1, n3]
  rw [Nat.add_zero, show (b.getD 0 0).toNat = 15 from hk] at g0
  clear hcell n1 n3 hk hr
  have q1 := or_w64 (b.getD 1 0).toNat (b.getD 2 0).toNat b1 b2
  have q3 := or_w64 (b.getD 3 0).toNat (b.getD 4 0).toNat b3 b4
  have r1 := or_i64 (b.getD 1 0).toNat (b.getD 2 0).toNat b1 b2
  have r3 := or_i64 (b.getD 3 0).toNat (b.getD 4 0).toNat b3 b4
  generalize (b.getD 1 0).toNat = x1 at *
  generalize (b.getD 2 0).toNat = x2 at *
  generalize (b.getD 3 0).toNat = x3 at *
  generalize (b.getD 4 0).toNat = x4 at *
  obtain ⟨F, hF⟩ : ∃ F, x1 * 256 + x2 = F := ⟨_, rfl⟩
  obtain ⟨R, hR⟩ : ∃ R, x3 * 256 + x4 = R := ⟨_, rfl⟩
  rw [hF] at r1 q1 ⊢; rw [hR] at r3 q3 ⊢
  have hF6 : F < 65536 := by omega
  have hR6 : R < 65536 := by omega
  clear hF hR b1 b2 b3 b4
  have i0 : 0 < m := by omega
  have i1 : (1 : Int) < (m : Int) := by omega
  have i2 : (2 : Int) < (m : Int) := by omega
  have i3 : (3 : Int) < (m : Int) := by omega
  have i4 : (4 : Int) < (m : Int) := by omega
  have HC : Hid (∀ (B : Option Addr) (k : Nat) (W : World), Rd W B (m - 6) ((b.drop 6).map cB) → Calls Tryz.prog 110 #[.slice B (m - 6) k, .int .i64 (R : Int)] W (RetB W 4 (unbitsF (b.drop 6) R).1 (unbitsF (b.drop 6) R).2)) := fun B k W h => unbits_any (b.drop 6) B (m - 6) k R W h (by omega) (by omega)
  generalize unbitsF (b.drop 6) R = U at *
  obtain ⟨l, E⟩ := U
  simp only at HC ⊢
  have HS := Lib.hid (show (if E = 0 then some (⟨15, (F : Nat), 0, l, [], []⟩ : AskD) else none).isSome = (E == 0) by split <;> simp [*])
  have HS2 : Hid (∀ a', (if E = 0 then some (⟨15, (F : Nat), 0, l, [], []⟩ : AskD) else none) = some a' → a' = ⟨15, (F : Nat), 0, l, [], []⟩) := by
    intro a' h
    split at h
    · injection h with h; exact h.symm
    · cases h
  generalize (if E = 0 then some (⟨15, (F : Nat), 0, l, [], []⟩ : AskD) else none) = RR at *
  obtain ⟨t, ht⟩ : ∃ t, (E == 0) = t := ⟨_, rfl⟩
  rw [ht] at HS
  have hl6 : ∀ W : World, Ext ((w.alloc (.cells #[.int .i64 0, .int .i64 0, .int .i64 0, .slice none 0 0, .slice none 0 0, .slice none 0 0] 37)).alloc (.cells #[.int .i64 15, .int .i64 (F : Int), .int .i64 0, .slice none 0 0, .slice none 0 0, .slice none 0 0] 37)).drew.drew W → W.heap[w.heap.size]? = some (.cells #[.int .i64 0, .int .i64 0, .int .i64 0, .slice none 0 0, .slice none 0 0, .slice none 0 0] 37 (0, 0)) ∧ W.heap[w.heap.size + 1]? = some (.cells #[.int .i64 15, .int .i64 (F : Int), .int .i64 0, .slice none 0 0, .slice none 0 0, .slice none 0 0] 37 (0, 0)) := fun W hX =>
    ⟨hX.block ((Ext.alloc _ _).block (heap_alloc_new w _)), hX.block (heap_at _ _ _ (by simp))⟩
  have HL6 := Lib.hid hl6
  clear hl6
  have XW := Lib.hid (show Ext w ((w.alloc (.cells #[.int .i64 0, .int .i64 0, .int .i64 0, .slice none 0 0, .slice none 0 0, .slice none 0 0] 37)).alloc (.cells #[.int .i64 15, .int .i64 (F : Int), .int .i64 0, .slice none 0 0, .slice none 0 0, .slice none 0 0] 37)).drew.drew from ((Ext.alloc _ _).trans (Ext.alloc _ _)).drew'.drew')
  by_cases hc6 : c = 6
  · subst hc6
    rw [if_pos rfl] at HRD
    obtain rfl : m = 6 := by omega
    have HC0 := Lib.hid (HC.out (some ⟨bk, off, none⟩) 0 ((w.alloc (.cells #[.int .i64 0, .int .i64 0, .int .i64 0, .slice none 0 0, .slice none 0 0, .slice none 0 0] 37)).alloc (.cells #[.int .i64 15, .int .i64 (F : Int), .int .i64 0, .slice none 0 0, .slice none 0 0, .slice none 0 0] 37)).drew.drew (HRD.out.ext XW.out))
    simp only [Nat.sub_self] at HC0
    clear HC
    go_enter Tryz.func83, Tryz.ntmps83
    go_wp2_with fail
    go_region
    go_wp2_with fail
    go_region
    go_wp2_with fail
    refine HC0.out.mono ?_
    rintro e w3 ⟨A3, n3, c3, rfl, ho3, hb3⟩
    have hX := Ext.of hb3
    obtain ⟨hB, hA⟩ := HL6.out w3 hX
    have d0 : w3.cell? ⟨w.heap.size + 1, 0, none⟩ = some (.int .i64 15) := (cell_of_row _ _ _ _ _ _ hA).trans rfl
    have d1 : w3.cell? ⟨w.heap.size + 1, 1, none⟩ = some (.int .i64 (F : Int)) := (cell_of_row _ _ _ _ _ _ hA).trans rfl
    have d2 : w3.cell? ⟨w.heap.size + 1, 2, none⟩ = some (.int .i64 0) := (cell_of_row _ _ _ _ _ _ hA).trans rfl
    have d4 : w3.cell? ⟨w.heap.size + 1, 4, none⟩ = some (.slice none 0 0) := (cell_of_row _ _ _ _ _ _ hA).trans rfl
    have d5 : w3.cell? ⟨w.heap.size + 1, 5, none⟩ = some (.slice none 0 0) := (cell_of_row _ _ _ _ _ _ hA).trans rfl
    have f0 : w3.cell? ⟨w.heap.size, 0, none⟩ = some (.int .i64 0) := (cell_of_row _ _ _ _ _ _ hB).trans rfl
    have u_0 := frozen_of_row w3 w.heap.size 0 _ _ hB
    have f1 : w3.cell? ⟨w.heap.size, 1, none⟩ = some (.int .i64 0) := (cell_of_row _ _ _ _ _ _ hB).trans rfl
    have u_1 := frozen_of_row w3 w.heap.size 1 _ _ hB
    have f2 : w3.cell? ⟨w.heap.size, 2, none⟩ = some (.int .i64 0) := (cell_of_row _ _ _ _ _ _ hB).trans rfl
    have u_2 := frozen_of_row w3 w.heap.size 2 _ _ hB
    have f3 : w3.cell? ⟨w.heap.size, 3, none⟩ = some (.slice none 0 0) := (cell_of_row _ _ _ _ _ _ hB).trans rfl
    have u_3 := frozen_of_row w3 w.heap.size 3 _ _ hB
    have f4 : w3.cell? ⟨w.heap.size, 4, none⟩ = some (.slice none 0 0) := (cell_of_row _ _ _ _ _ _ hB).trans rfl
    have u_4 := frozen_of_row w3 w.heap.size 4 _ _ hB
    have f5 : w3.cell? ⟨w.heap.size, 5, none⟩ = some (.slice none 0 0) := (cell_of_row _ _ _ _ _ _ hB).trans rfl
    have u_5 := frozen_of_row w3 w.heap.size 5 _ _ hB
    have e3 := frozen_of_row w3 (w.heap.size + 1) 3 _ _ hA
    have d3 : w3.cell? ⟨w.heap.size + 1, 3, none⟩ = some (.slice none 0 0) := (cell_of_row _ _ _ _ _ _ hA).trans rfl
    have HO3 := Lib.hid (show Own w3 (w.heap.size + 2) 4 IsBo A3 n3 c3 (l.map cL) from ho3.mono (by show w.heap.size + 2 ≤ _; simp))
    have HX := Lib.hid (XW.out.trans hX)
    clear hA hB ho3 hb3 hX HL6 XW g0 g1 g2 g3 g4 q1 q3 r1 r3
    go_wp2_with fail
    refine bodyPost_ret (v := .tuple #[askV ⟨15, (F : Nat), 0, l, [], []⟩ ⟨A3, n3, c3, none, 0, 0, none, 0, 0⟩, .bool t]) (by simp [results, Tryz.results83, go_sem, askV, *]) rfl ⟨_, _, by rw [HS.out], fun a' ha => ⟨HS2.out a' ha, ⟨?_, Own.nil_ _ _ _ _, OwP.nil_ _ _, by unfold i64P; simp, by unfold i64P; simp; omega, by unfold i64P; simp⟩⟩, ?_⟩
    · refine Own.mono (base := w.heap.size + 2) ?_ (by omega)
      repeat' (first | with_reducible exact HO3.out | with_reducible refine Own.set_below ?_ (by simp) _)
    · repeat' (first | with_reducible exact HX.out | with_reducible refine Ext.set' ?_ (by simp) _)
  · rw [if_neg hc6] at HRD
    have HC0 := Lib.hid (HC.out (some ⟨bk, off + 6, none⟩) (c - 6) ((w.alloc (.cells #[.int .i64 0, .int .i64 0, .int .i64 0, .slice none 0 0, .slice none 0 0, .slice none 0 0] 37)).alloc (.cells #[.int .i64 15, .int .i64 (F : Int), .int .i64 0, .slice none 0 0, .slice none 0 0, .slice none 0 0] 37)).drew.drew (HRD.out.ext XW.out))
    clear HC
    go_enter Tryz.func83, Tryz.ntmps83
    go_wp2_with fail
    go_region
    go_wp2_with fail
    go_region
    go_wp2_with fail
    refine HC0.out.mono ?_
    rintro e w3 ⟨A3, n3, c3, rfl, ho3, hb3⟩
    have hX := Ext.of hb3
    obtain ⟨hB, hA⟩ := HL6.out w3 hX
    have d0 : w3.cell? ⟨w.heap.size + 1, 0, none⟩ = some (.int .i64 15) := (cell_of_row _ _ _ _ _ _ hA).trans rfl
    have d1 : w3.cell? ⟨w.heap.size + 1, 1, none⟩ = some (.int .i64 (F : Int)) := (cell_of_row _ _ _ _ _ _ hA).trans rfl
    have d2 : w3.cell? ⟨w.heap.size + 1, 2, none⟩ = some (.int .i64 0) := (cell_of_row _ _ _ _ _ _ hA).trans rfl
    have d4 : w3.cell? ⟨w.heap.size + 1, 4, none⟩ = some (.slice none 0 0) := (cell_of_row _ _ _ _ _ _ hA).trans rfl
    have d5 : w3.cell? ⟨w.heap.size + 1, 5, none⟩ = some (.slice none 0 0) := (cell_of_row _ _ _ _ _ _ hA).trans rfl
    have f0 : w3.cell? ⟨w.heap.size, 0, none⟩ = some (.int .i64 0) := (cell_of_row _ _ _ _ _ _ hB).trans rfl
    have u_0 := frozen_of_row w3 w.heap.size 0 _ _ hB
    have f1 : w3.cell? ⟨w.heap.size, 1, none⟩ = some (.int .i64 0) := (cell_of_row _ _ _ _ _ _ hB).trans rfl
    have u_1 := frozen_of_row w3 w.heap.size 1 _ _ hB
    have f2 : w3.cell? ⟨w.heap.size, 2, none⟩ = some (.int .i64 0) := (cell_of_row _ _ _ _ _ _ hB).trans rfl
    have u_2 := frozen_of_row w3 w.heap.size 2 _ _ hB
    have f3 : w3.cell? ⟨w.heap.size, 3, none⟩ = some (.slice none 0 0) := (cell_of_row _ _ _ _ _ _ hB).trans rfl
    have u_3 := frozen_of_row w3 w.heap.size 3 _ _ hB
    have f4 : w3.cell? ⟨w.heap.size, 4, none⟩ = some (.slice none 0 0) := (cell_of_row _ _ _ _ _ _ hB).trans rfl
    have u_4 := frozen_of_row w3 w.heap.size 4 _ _ hB
    have f5 : w3.cell? ⟨w.heap.size, 5, none⟩ = some (.slice none 0 0) := (cell_of_row _ _ _ _ _ _ hB).trans rfl
    have u_5 := frozen_of_row w3 w.heap.size 5 _ _ hB
    have e3 := frozen_of_row w3 (w.heap.size + 1) 3 _ _ hA
    have d3 : w3.cell? ⟨w.heap.size + 1, 3, none⟩ = some (.slice none 0 0) := (cell_of_row _ _ _ _ _ _ hA).trans rfl
    have HO3 := Lib.hid (show Own w3 (w.heap.size + 2) 4 IsBo A3 n3 c3 (l.map cL) from ho3.mono (by show w.heap.size + 2 ≤ _; simp))
    have HX := Lib.hid (XW.out.trans hX)
    clear hA hB ho3 hb3 hX HL6 XW g0 g1 g2 g3 g4 q1 q3 r1 r3
    go_wp2_with fail
    refine bodyPost_ret (v := .tuple #[askV ⟨15, (F : Nat), 0, l, [], []⟩ ⟨A3, n3, c3, none, 0, 0, none, 0, 0⟩, .bool t]) (by simp [results, Tryz.results83, go_sem, askV, *]) rfl ⟨_, _, by rw [HS.out], fun a' ha => ⟨HS2.out a' ha, ⟨?_, Own.nil_ _ _ _ _, OwP.nil_ _ _, by unfold i64P; simp, by unfold i64P; simp; omega, by unfold i64P; simp⟩⟩, ?_⟩
    · refine Own.mono (base := w.heap.size + 2) ?_ (by omega)
      repeat' (first | with_reducible exact HO3.out | with_reducible refine Own.set_below ?_ (by simp) _)
    · repeat' (first | with_reducible exact HX.out | with_reducible refine Ext.set' ?_ (by simp) _)
end Go.Proofs.YtomcipkmohhpjaaGreat

namespace Go.Proofs.YtomcipkmohhpjaaGreat
set_option linter.unusedVariables false
set_option linter.unusedSimpArgs false
set_option maxRecDepth 100000
set_option maxHeartbeats 1000000
open Go Go.RowKit Go.Out

theorem regs_some (b : List UInt8) (m R : Nat) (F : Int) (hl : b.length = m) (hm : 6 ≤ m) :
    (if b.length - 6 = 2 * R then some (⟨16, F, 0, [], bw (b.drop 6), []⟩ : AskD) else none).isSome = (((wordsF (b.drop 6)).2 == 0) && ((((wordsF (b.drop 6)).1.length : Nat) : Int) == (R : Int))) := by
  rcases Nat.mod_two_eq_zero_or_one (m - 6) with h | h
  · have e0 : wordsF (b.drop 6) = (bw (b.drop 6), 0) := by unfold wordsF; rw [if_neg (by rw [List.length_drop, hl]; omega)]
    have e : (bw (b.drop 6)).length = (m - 6) / 2 := by rw [bw_length, List.length_drop, hl]
    rw [e0, hl]
    simp only [e]
    by_cases hR : m - 6 = 2 * R
    · rw [if_pos hR]; simp; omega
    · rw [if_neg hR]; simp; omega
  · have e0 : wordsF (b.drop 6) = ([], 22) := by unfold wordsF; rw [if_pos (by rw [List.length_drop, hl]; exact h)]
    rw [e0, hl, if_neg (by omega)]; rfl
theorem regs_is {b : List UInt8} {m R : Nat} {F : Int} (hl : b.length = m) (hm : 6 ≤ m) : ∀ a', (if b.length - 6 = 2 * R then some (⟨16, F, 0, [], bw (b.drop 6), []⟩ : AskD) else none) = some a' → a' = ⟨16, F, 0, [], (wordsF (b.drop 6)).1, []⟩ := by
  intro a' h
  split at h
  · rename_i hR
    injection h with h
    unfold wordsF
    rw [if_neg (by rw [List.length_drop]; omega)]
    exact h.symm
  · cases h

theorem read_regs (b : List UInt8) (A : Option Addr) (m c : Nat) (w : World) (hr : Rd w A m (b.map cB)) (hc : m ≤ c) (hm : 6 ≤ m) (hm2 : m ≤ 17000000000) (hk : b0 b = 16) :
    Calls Tryz.prog 83 #[.slice A m c] w (RetRead w (saidF b)) := by
  have hs : saidF b = if b.length - 6 = 2 * at2 b 3 then some ⟨16, (at2 b 1 : Nat), 0, [], bw (b.drop 6), []⟩ else none := by
    unfold saidF
    rw [hk, if_neg (by omega), if_neg (by omega), if_neg (by omega), if_neg (by omega), if_pos rfl]
  rw [hs]
  clear hs
  have HRD := Lib.hid (hr.from8 (k := 6) (c := c) hm hc)
  have hlen := hr.length
  obtain ⟨bk, off, rfl, hbk, hcell⟩ := hr.u8all (by omega)
  have n1 : at2 b 1 = (b.getD 1 0).toNat * 256 + (b.getD 2 0).toNat := rfl
  have n3 : at2 b 3 = (b.getD 3 0).toNat * 256 + (b.getD 4 0).toNat := rfl
  have g0 := hcell 0 (by omega); have g1 := hcell 1 (by omega); have g2 := hcell 2 (by omega); have g3 := hcell 3 (by omega); have g4 := hcell 4 (by omega)
  have b1 := (b.getD 1 0).toNat_lt; have b2 := (b.getD 2 0).toNat_lt; have b3 := (b.getD 3 0).toNat_lt; have b4 := (b.getD 4 0).toNat_lt
  rw [n1, n3]
  rw [Nat.add_zero, show (b.getD 0 0).toNat = 16 from hk] at g0
  clear hcell n1 n3 hk hr
  have q1 := or_w64 (b.getD 1 0).toNat (b.getD 2 0).toNat b1 b2
  have q3 := or_w64 (b.getD 3 0).toNat (b.getD 4 0).toNat b3 b4
  have r1 := or_i64 (b.getD 1 0).toNat (b.getD 2 0).toNat b1 b2
  have r3 := or_i64 (b.getD 3 0).toNat (b.getD 4 0).toNat b3 b4
  generalize (b.getD 1 0).toNat = x1 at *
  generalize (b.getD 2 0).toNat = x2 at *
  generalize (b.getD 3 0).toNat = x3 at *
  generalize (b.getD 4 0).toNat = x4 at *
  obtain ⟨F, hF⟩ : ∃ F, x1 * 256 + x2 = F := ⟨_, rfl⟩
  obtain ⟨R, hR⟩ : ∃ R, x3 * 256 + x4 = R := ⟨_, rfl⟩
  rw [hF] at r1 q1 ⊢; rw [hR] at r3 q3 ⊢
  have hF6 : F < 65536 := by omega
  have hR6 : R < 65536 := by omega
  clear hF hR b1 b2 b3 b4
  have i0 : 0 < m := by omega
  have i1 : (1 : Int) < (m : Int) := by omega
  have i2 : (2 : Int) < (m : Int) := by omega
  have i3 : (3 : Int) < (m : Int) := by omega
  have i4 : (4 : Int) < (m : Int) := by omega
  have HC : Hid (∀ (B : Option Addr) (k : Nat) (W : World), Rd W B (m - 6) ((b.drop 6).map cB) → Calls Tryz.prog 111 #[.slice B (m - 6) k] W (RetW W 48 (wordsF (b.drop 6)).1 (wordsF (b.drop 6)).2)) := fun B k W h => words_any (b.drop 6) B (m - 6) k W h (by omega)
  have HS := Lib.hid (regs_some b m R (F : Int) hlen hm)
  have HS2 := Lib.hid (regs_is (b := b) (m := m) (R := R) (F := (F : Int)) hlen hm)
  generalize (if b.length - 6 = 2 * R then some (⟨16, (F : Int), 0, [], bw (b.drop 6), []⟩ : AskD) else none) = RR at *
  generalize wordsF (b.drop 6) = U at *
  obtain ⟨l, E⟩ := U
  simp only at HC HS HS2 ⊢
  obtain ⟨N, hN⟩ : ∃ N, l.length = N := ⟨_, rfl⟩
  rw [hN] at HS
  have HN := Lib.hid hN
  obtain ⟨t, ht⟩ : ∃ t, (E == 0) = t := ⟨_, rfl⟩
  obtain ⟨t2, ht2⟩ : ∃ t2, ((N : Int) == (R : Int)) = t2 := ⟨_, rfl⟩
  rw [ht, ht2] at HS
  clear hN hlen
  have hl6 : ∀ W : World, Ext ((w.alloc (.cells #[.int .i64 0, .int .i64 0, .int .i64 0, .slice none 0 0, .slice none 0 0, .slice none 0 0] 37)).alloc (.cells #[.int .i64 16, .int .i64 (F : Int), .int .i64 0, .slice none 0 0, .slice none 0 0, .slice none 0 0] 37)).drew.drew W → W.heap[w.heap.size]? = some (.cells #[.int .i64 0, .int .i64 0, .int .i64 0, .slice none 0 0, .slice none 0 0, .slice none 0 0] 37 (0, 0)) ∧ W.heap[w.heap.size + 1]? = some (.cells #[.int .i64 16, .int .i64 (F : Int), .int .i64 0, .slice none 0 0, .slice none 0 0, .slice none 0 0] 37 (0, 0)) := fun W hX =>
    ⟨hX.block ((Ext.alloc _ _).block (heap_alloc_new w _)), hX.block (heap_at _ _ _ (by simp))⟩
  have HL6 := Lib.hid hl6
  clear hl6
  have XW := Lib.hid (show Ext w ((w.alloc (.cells #[.int .i64 0, .int .i64 0, .int .i64 0, .slice none 0 0, .slice none 0 0, .slice none 0 0] 37)).alloc (.cells #[.int .i64 16, .int .i64 (F : Int), .int .i64 0, .slice none 0 0, .slice none 0 0, .slice none 0 0] 37)).drew.drew from ((Ext.alloc _ _).trans (Ext.alloc _ _)).drew'.drew')
  by_cases hc6 : c = 6
  · subst hc6
    rw [if_pos rfl] at HRD
    obtain rfl : m = 6 := by omega
    have HC0 := Lib.hid (HC.out (some ⟨bk, off, none⟩) 0 ((w.alloc (.cells #[.int .i64 0, .int .i64 0, .int .i64 0, .slice none 0 0, .slice none 0 0, .slice none 0 0] 37)).alloc (.cells #[.int .i64 16, .int .i64 (F : Int), .int .i64 0, .slice none 0 0, .slice none 0 0, .slice none 0 0] 37)).drew.drew (HRD.out.ext XW.out))
    simp only [Nat.sub_self] at HC0
    clear HC
    cases t
    all_goals
      go_enter Tryz.func83, Tryz.ntmps83
      go_wp2_with fail
      go_region
      go_wp2_with fail
      go_region
      go_wp2_with fail
      refine HC0.out.mono ?_
      rintro e w3 ⟨A3, n3, c3, rfl, ho3, hb3⟩
      obtain rfl : n3 = N := by have h1 := ho3.len; have h2 := HN.out; simp at h1; omega
      have hX := Ext.of hb3
      obtain ⟨hB, hA⟩ := HL6.out w3 hX
      have d0 : w3.cell? ⟨w.heap.size + 1, 0, none⟩ = some (.int .i64 16) := (cell_of_row _ _ _ _ _ _ hA).trans rfl
      have d1 : w3.cell? ⟨w.heap.size + 1, 1, none⟩ = some (.int .i64 (F : Int)) := (cell_of_row _ _ _ _ _ _ hA).trans rfl
      have d2 : w3.cell? ⟨w.heap.size + 1, 2, none⟩ = some (.int .i64 0) := (cell_of_row _ _ _ _ _ _ hA).trans rfl
      have d3 : w3.cell? ⟨w.heap.size + 1, 3, none⟩ = some (.slice none 0 0) := (cell_of_row _ _ _ _ _ _ hA).trans rfl
      have d4 : w3.cell? ⟨w.heap.size + 1, 4, none⟩ = some (.slice none 0 0) := (cell_of_row _ _ _ _ _ _ hA).trans rfl
      have d5 : w3.cell? ⟨w.heap.size + 1, 5, none⟩ = some (.slice none 0 0) := (cell_of_row _ _ _ _ _ _ hA).trans rfl
      have f0 : w3.cell? ⟨w.heap.size, 0, none⟩ = some (.int .i64 0) := (cell_of_row _ _ _ _ _ _ hB).trans rfl
      have u_0 := frozen_of_row w3 w.heap.size 0 _ _ hB
      have f1 : w3.cell? ⟨w.heap.size, 1, none⟩ = some (.int .i64 0) := (cell_of_row _ _ _ _ _ _ hB).trans rfl
      have u_1 := frozen_of_row w3 w.heap.size 1 _ _ hB
      have f2 : w3.cell? ⟨w.heap.size, 2, none⟩ = some (.int .i64 0) := (cell_of_row _ _ _ _ _ _ hB).trans rfl
      have u_2 := frozen_of_row w3 w.heap.size 2 _ _ hB
      have f3 : w3.cell? ⟨w.heap.size, 3, none⟩ = some (.slice none 0 0) := (cell_of_row _ _ _ _ _ _ hB).trans rfl
      have u_3 := frozen_of_row w3 w.heap.size 3 _ _ hB
      have f4 : w3.cell? ⟨w.heap.size, 4, none⟩ = some (.slice none 0 0) := (cell_of_row _ _ _ _ _ _ hB).trans rfl
      have u_4 := frozen_of_row w3 w.heap.size 4 _ _ hB
      have f5 : w3.cell? ⟨w.heap.size, 5, none⟩ = some (.slice none 0 0) := (cell_of_row _ _ _ _ _ _ hB).trans rfl
      have u_5 := frozen_of_row w3 w.heap.size 5 _ _ hB
      have e4 := frozen_of_row w3 (w.heap.size + 1) 4 _ _ hA
      have HO3 := Lib.hid (show Own w3 (w.heap.size + 2) 48 IsU16 A3 n3 c3 (l.map cW) from ho3.mono (by show w.heap.size + 2 ≤ _; simp))
      have HX := Lib.hid (XW.out.trans hX)
      clear hA hB ho3 hb3 hX HL6 XW g0 g1 g2 g3 g4 q1 q3 r1 r3
      go_wp2_with fail
      refine bodyPost_ret (v := .tuple #[askV ⟨16, (F : Nat), 0, [], l, []⟩ ⟨none, 0, 0, A3, n3, c3, none, 0, 0⟩, .bool RR.isSome]) (by rw [HS.out]; simp [results, Tryz.results83, go_sem, askV, *]) rfl ⟨_, _, rfl, fun a' ha => ⟨HS2.out a' ha, ⟨Own.nil_ _ _ _ _, ?_, OwP.nil_ _ _, by unfold i64P; simp, by unfold i64P; simp; omega, by unfold i64P; simp⟩⟩, ?_⟩
      · refine Own.mono (base := w.heap.size + 2) ?_ (by omega)
        repeat' (first | with_reducible exact HO3.out | with_reducible refine Own.set_below ?_ (by simp) _)
      · repeat' (first | with_reducible exact HX.out | with_reducible refine Ext.set' ?_ (by simp) _)
  · rw [if_neg hc6] at HRD
    have HC0 := Lib.hid (HC.out (some ⟨bk, off + 6, none⟩) (c - 6) ((w.alloc (.cells #[.int .i64 0, .int .i64 0, .int .i64 0, .slice none 0 0, .slice none 0 0, .slice none 0 0] 37)).alloc (.cells #[.int .i64 16, .int .i64 (F : Int), .int .i64 0, .slice none 0 0, .slice none 0 0, .slice none 0 0] 37)).drew.drew (HRD.out.ext XW.out))
    clear HC
    cases t
    all_goals
      go_enter Tryz.func83, Tryz.ntmps83
      go_wp2_with fail
      go_region
      go_wp2_with fail
      go_region
      go_wp2_with fail
      refine HC0.out.mono ?_
      rintro e w3 ⟨A3, n3, c3, rfl, ho3, hb3⟩
      obtain rfl : n3 = N := by have h1 := ho3.len; have h2 := HN.out; simp at h1; omega
      have hX := Ext.of hb3
      obtain ⟨hB, hA⟩ := HL6.out w3 hX
      have d0 : w3.cell? ⟨w.heap.size + 1, 0, none⟩ = some (.int .i64 16) := (cell_of_row _ _ _ _ _ _ hA).trans rfl
      have d1 : w3.cell? ⟨w.heap.size + 1, 1, none⟩ = some (.int .i64 (F : Int)) := (cell_of_row _ _ _ _ _ _ hA).trans rfl
      have d2 : w3.cell? ⟨w.heap.size + 1, 2, none⟩ = some (.int .i64 0) := (cell_of_row _ _ _ _ _ _ hA).trans rfl
      have d3 : w3.cell? ⟨w.heap.size + 1, 3, none⟩ = some (.slice none 0 0) := (cell_of_row _ _ _ _ _ _ hA).trans rfl
      have d4 : w3.cell? ⟨w.heap.size + 1, 4, none⟩ = some (.slice none 0 0) := (cell_of_row _ _ _ _ _ _ hA).trans rfl
      have d5 : w3.cell? ⟨w.heap.size + 1, 5, none⟩ = some (.slice none 0 0) := (cell_of_row _ _ _ _ _ _ hA).trans rfl
      have f0 : w3.cell? ⟨w.heap.size, 0, none⟩ = some (.int .i64 0) := (cell_of_row _ _ _ _ _ _ hB).trans rfl
      have u_0 := frozen_of_row w3 w.heap.size 0 _ _ hB
      have f1 : w3.cell? ⟨w.heap.size, 1, none⟩ = some (.int .i64 0) := (cell_of_row _ _ _ _ _ _ hB).trans rfl
      have u_1 := frozen_of_row w3 w.heap.size 1 _ _ hB
      have f2 : w3.cell? ⟨w.heap.size, 2, none⟩ = some (.int .i64 0) := (cell_of_row _ _ _ _ _ _ hB).trans rfl
      have u_2 := frozen_of_row w3 w.heap.size 2 _ _ hB
      have f3 : w3.cell? ⟨w.heap.size, 3, none⟩ = some (.slice none 0 0) := (cell_of_row _ _ _ _ _ _ hB).trans rfl
      have u_3 := frozen_of_row w3 w.heap.size 3 _ _ hB
      have f4 : w3.cell? ⟨w.heap.size, 4, none⟩ = some (.slice none 0 0) := (cell_of_row _ _ _ _ _ _ hB).trans rfl
      have u_4 := frozen_of_row w3 w.heap.size 4 _ _ hB
      have f5 : w3.cell? ⟨w.heap.size, 5, none⟩ = some (.slice none 0 0) := (cell_of_row _ _ _ _ _ _ hB).trans rfl
      have u_5 := frozen_of_row w3 w.heap.size 5 _ _ hB
      have e4 := frozen_of_row w3 (w.heap.size + 1) 4 _ _ hA
      have HO3 := Lib.hid (show Own w3 (w.heap.size + 2) 48 IsU16 A3 n3 c3 (l.map cW) from ho3.mono (by show w.heap.size + 2 ≤ _; simp))
      have HX := Lib.hid (XW.out.trans hX)
      clear hA hB ho3 hb3 hX HL6 XW g0 g1 g2 g3 g4 q1 q3 r1 r3
      go_wp2_with fail
      refine bodyPost_ret (v := .tuple #[askV ⟨16, (F : Nat), 0, [], l, []⟩ ⟨none, 0, 0, A3, n3, c3, none, 0, 0⟩, .bool RR.isSome]) (by rw [HS.out]; simp [results, Tryz.results83, go_sem, askV, *]) rfl ⟨_, _, rfl, fun a' ha => ⟨HS2.out a' ha, ⟨Own.nil_ _ _ _ _, ?_, OwP.nil_ _ _, by unfold i64P; simp, by unfold i64P; simp; omega, by unfold i64P; simp⟩⟩, ?_⟩
      · refine Own.mono (base := w.heap.size + 2) ?_ (by omega)
        repeat' (first | with_reducible exact HO3.out | with_reducible refine Own.set_below ?_ (by simp) _)
      · repeat' (first | with_reducible exact HX.out | with_reducible refine Ext.set' ?_ (by simp) _)
end Go.Proofs.YtomcipkmohhpjaaGreat

namespace Go.Proofs.YtomcipkmohhpjaaGreat
set_option linter.unusedVariables false
set_option linter.unusedSimpArgs false
set_option maxRecDepth 100000
set_option maxHeartbeats 1000000
open Go Go.RowKit Go.Out

theorem OwP.set_below {w : World} {base : Nat} {v : Value} {l : List PartD} (h : OwP w base v l) {q : Addr} (hq : q.block < base) (u : Value) : OwP (w.setCell q u) base v l := by
  obtain ⟨⟨xs, h1, h2⟩, h3⟩ := h
  exact ⟨⟨xs, ownsRow_setCell_below h1 hq u, h2.mono fun _ _ h => h⟩, h3.kept fun g hg => Below.heap_setCell w q u g (by have := (h1.lt g hg).1; omega)⟩
theorem read_file (b : List UInt8) (A : Option Addr) (m c : Nat) (w : World) (hr : Rd w A m (b.map cB)) (hc : m ≤ c) (hc63 : c ≤ 9223372036854775807) (hm : 2 ≤ m) (hm2 : m ≤ 17000000000) (hk : b0 b = 20) :
    Calls Tryz.prog 83 #[.slice A m c] w (RetRead w (saidF b)) := by
  have hs : saidF b = (partsOf (b.drop 2)).map fun l => ⟨20, 0, 0, [], [], l⟩ := by
    unfold saidF
    rw [if_pos hk]
  rw [hs]
  clear hs
  have HRD := Lib.hid (hr.from8 (k := 2) (c := c) hm hc)
  obtain ⟨bk, off, rfl, hbk, hcell⟩ := hr.u8all (by omega)
  have g0 := hcell 0 (by omega)
  rw [Nat.add_zero, show (b.getD 0 0).toNat = 20 from hk] at g0
  clear hcell hk hr
  have i0 : 0 < m := by omega
  have HC : Hid (∀ (B : Option Addr) (k : Nat) (W : World), m - 2 ≤ k → k ≤ 9223372036854775807 → Rd W B (m - 2) ((b.drop 2).map cB) → Calls Tryz.prog 109 #[.slice B (m - 2) k] W (RetPs W (partsOf (b.drop 2)))) := fun B k W h1 h2 h => askParts_any (b.drop 2) B (m - 2) k W h h1 h2 (by omega)
  have HS : Hid (((partsOf (b.drop 2)).map fun l => (⟨20, 0, 0, [], [], l⟩ : AskD)).isSome = (partsOf (b.drop 2)).isSome) := by simp [Hid]
  have HS2 : Hid (∀ a', ((partsOf (b.drop 2)).map fun l => (⟨20, 0, 0, [], [], l⟩ : AskD)) = some a' → ∃ l, partsOf (b.drop 2) = some l ∧ a' = ⟨20, 0, 0, [], [], l⟩) := by
    intro a' h
    obtain ⟨l, h1, h2⟩ := Option.map_eq_some_iff.1 h
    exact ⟨l, h1, h2.symm⟩
  generalize ((partsOf (b.drop 2)).map fun l => (⟨20, 0, 0, [], [], l⟩ : AskD)) = RR at *
  generalize partsOf (b.drop 2) = U at *
  have hl6 : ∀ W : World, Ext ((w.alloc (.cells #[.int .i64 0, .int .i64 0, .int .i64 0, .slice none 0 0, .slice none 0 0, .slice none 0 0] 37)).alloc (.cells #[.int .i64 20, .int .i64 0, .int .i64 0, .slice none 0 0, .slice none 0 0, .slice none 0 0] 37)) W → W.heap[w.heap.size]? = some (.cells #[.int .i64 0, .int .i64 0, .int .i64 0, .slice none 0 0, .slice none 0 0, .slice none 0 0] 37 (0, 0)) ∧ W.heap[w.heap.size + 1]? = some (.cells #[.int .i64 20, .int .i64 0, .int .i64 0, .slice none 0 0, .slice none 0 0, .slice none 0 0] 37 (0, 0)) := fun W hX =>
    ⟨hX.block ((Ext.alloc _ _).block (heap_alloc_new w _)), hX.block (heap_at _ _ _ (by simp))⟩
  have HL6 := Lib.hid hl6
  clear hl6
  have XW := Lib.hid (show Ext w ((w.alloc (.cells #[.int .i64 0, .int .i64 0, .int .i64 0, .slice none 0 0, .slice none 0 0, .slice none 0 0] 37)).alloc (.cells #[.int .i64 20, .int .i64 0, .int .i64 0, .slice none 0 0, .slice none 0 0, .slice none 0 0] 37)) from ((Ext.alloc _ _).trans (Ext.alloc _ _)))
  by_cases hc6 : c = 2
  · subst hc6
    rw [if_pos rfl] at HRD
    obtain rfl : m = 2 := by omega
    have HC0 := Lib.hid (HC.out (some ⟨bk, off, none⟩) 0 ((w.alloc (.cells #[.int .i64 0, .int .i64 0, .int .i64 0, .slice none 0 0, .slice none 0 0, .slice none 0 0] 37)).alloc (.cells #[.int .i64 20, .int .i64 0, .int .i64 0, .slice none 0 0, .slice none 0 0, .slice none 0 0] 37)) (by omega) (by omega) (HRD.out.ext XW.out))
    simp only [Nat.sub_self] at HC0
    clear HC
    go_enter Tryz.func83, Tryz.ntmps83
    go_wp2_with fail
    refine HC0.out.mono ?_
    rintro e w3 ⟨A3, n3, c3, rfl, ho3, hb3⟩
    have hX := Ext.of hb3
    obtain ⟨hB, hA⟩ := HL6.out w3 hX
    have d0 : w3.cell? ⟨w.heap.size + 1, 0, none⟩ = some (.int .i64 20) := (cell_of_row _ _ _ _ _ _ hA).trans rfl
    have d1 : w3.cell? ⟨w.heap.size + 1, 1, none⟩ = some (.int .i64 0) := (cell_of_row _ _ _ _ _ _ hA).trans rfl
    have d2 : w3.cell? ⟨w.heap.size + 1, 2, none⟩ = some (.int .i64 0) := (cell_of_row _ _ _ _ _ _ hA).trans rfl
    have d3 : w3.cell? ⟨w.heap.size + 1, 3, none⟩ = some (.slice none 0 0) := (cell_of_row _ _ _ _ _ _ hA).trans rfl
    have d4 : w3.cell? ⟨w.heap.size + 1, 4, none⟩ = some (.slice none 0 0) := (cell_of_row _ _ _ _ _ _ hA).trans rfl
    have d5 : w3.cell? ⟨w.heap.size + 1, 5, none⟩ = some (.slice none 0 0) := (cell_of_row _ _ _ _ _ _ hA).trans rfl
    have f0 : w3.cell? ⟨w.heap.size, 0, none⟩ = some (.int .i64 0) := (cell_of_row _ _ _ _ _ _ hB).trans rfl
    have u_0 := frozen_of_row w3 w.heap.size 0 _ _ hB
    have f1 : w3.cell? ⟨w.heap.size, 1, none⟩ = some (.int .i64 0) := (cell_of_row _ _ _ _ _ _ hB).trans rfl
    have u_1 := frozen_of_row w3 w.heap.size 1 _ _ hB
    have f2 : w3.cell? ⟨w.heap.size, 2, none⟩ = some (.int .i64 0) := (cell_of_row _ _ _ _ _ _ hB).trans rfl
    have u_2 := frozen_of_row w3 w.heap.size 2 _ _ hB
    have f3 : w3.cell? ⟨w.heap.size, 3, none⟩ = some (.slice none 0 0) := (cell_of_row _ _ _ _ _ _ hB).trans rfl
    have u_3 := frozen_of_row w3 w.heap.size 3 _ _ hB
    have f4 : w3.cell? ⟨w.heap.size, 4, none⟩ = some (.slice none 0 0) := (cell_of_row _ _ _ _ _ _ hB).trans rfl
    have u_4 := frozen_of_row w3 w.heap.size 4 _ _ hB
    have f5 : w3.cell? ⟨w.heap.size, 5, none⟩ = some (.slice none 0 0) := (cell_of_row _ _ _ _ _ _ hB).trans rfl
    have u_5 := frozen_of_row w3 w.heap.size 5 _ _ hB
    have e5 := frozen_of_row w3 (w.heap.size + 1) 5 _ _ hA
    have HO3 := Lib.hid (show ∀ l, U = some l → OwP w3 (w.heap.size + 2) (.slice A3 n3 c3) l from fun l hl => (ho3 l hl).mono (by show w.heap.size + 2 ≤ _; simp))
    have HX := Lib.hid (XW.out.trans hX)
    clear hA hB ho3 hb3 hX HL6 XW g0
    go_wp2_with fail
    refine bodyPost_ret (v := .tuple #[askV ⟨20, 0, 0, [], [], (U.getD [])⟩ ⟨none, 0, 0, none, 0, 0, A3, n3, c3⟩, .bool U.isSome]) (by simp [results, Tryz.results83, go_sem, askV, *]) rfl ⟨_, _, by rw [HS.out], fun a' ha => ?_, ?_⟩
    · obtain ⟨l, hU, rfl⟩ := HS2.out a' ha
      refine ⟨by rw [hU]; rfl, ⟨Own.nil_ _ _ _ _, Own.nil_ _ _ _ _, ?_, by unfold i64P; simp, by unfold i64P; simp, by unfold i64P; simp⟩⟩
      show OwP _ _ (.slice A3 n3 c3) (U.getD [])
      rw [hU]
      show OwP _ _ (.slice A3 n3 c3) l
      have HO4 := Lib.hid (HO3.out l hU)
      refine OwP.mono (base := w.heap.size + 2) ?_ (by omega)
      repeat' (first | with_reducible exact HO4.out | with_reducible refine OwP.set_below ?_ (by simp) _)
    · repeat' (first | with_reducible exact HX.out | with_reducible refine Ext.set' ?_ (by simp) _)
  · rw [if_neg hc6] at HRD
    have HC0 := Lib.hid (HC.out (some ⟨bk, off + 2, none⟩) (c - 2) ((w.alloc (.cells #[.int .i64 0, .int .i64 0, .int .i64 0, .slice none 0 0, .slice none 0 0, .slice none 0 0] 37)).alloc (.cells #[.int .i64 20, .int .i64 0, .int .i64 0, .slice none 0 0, .slice none 0 0, .slice none 0 0] 37)) (by omega) (by omega) (HRD.out.ext XW.out))
    clear HC
    go_enter Tryz.func83, Tryz.ntmps83
    go_wp2_with fail
    refine HC0.out.mono ?_
    rintro e w3 ⟨A3, n3, c3, rfl, ho3, hb3⟩
    have hX := Ext.of hb3
    obtain ⟨hB, hA⟩ := HL6.out w3 hX
    have d0 : w3.cell? ⟨w.heap.size + 1, 0, none⟩ = some (.int .i64 20) := (cell_of_row _ _ _ _ _ _ hA).trans rfl
    have d1 : w3.cell? ⟨w.heap.size + 1, 1, none⟩ = some (.int .i64 0) := (cell_of_row _ _ _ _ _ _ hA).trans rfl
    have d2 : w3.cell? ⟨w.heap.size + 1, 2, none⟩ = some (.int .i64 0) := (cell_of_row _ _ _ _ _ _ hA).trans rfl
    have d3 : w3.cell? ⟨w.heap.size + 1, 3, none⟩ = some (.slice none 0 0) := (cell_of_row _ _ _ _ _ _ hA).trans rfl
    have d4 : w3.cell? ⟨w.heap.size + 1, 4, none⟩ = some (.slice none 0 0) := (cell_of_row _ _ _ _ _ _ hA).trans rfl
    have d5 : w3.cell? ⟨w.heap.size + 1, 5, none⟩ = some (.slice none 0 0) := (cell_of_row _ _ _ _ _ _ hA).trans rfl
    have f0 : w3.cell? ⟨w.heap.size, 0, none⟩ = some (.int .i64 0) := (cell_of_row _ _ _ _ _ _ hB).trans rfl
    have u_0 := frozen_of_row w3 w.heap.size 0 _ _ hB
    have f1 : w3.cell? ⟨w.heap.size, 1, none⟩ = some (.int .i64 0) := (cell_of_row _ _ _ _ _ _ hB).trans rfl
    have u_1 := frozen_of_row w3 w.heap.size 1 _ _ hB
    have f2 : w3.cell? ⟨w.heap.size, 2, none⟩ = some (.int .i64 0) := (cell_of_row _ _ _ _ _ _ hB).trans rfl
    have u_2 := frozen_of_row w3 w.heap.size 2 _ _ hB
    have f3 : w3.cell? ⟨w.heap.size, 3, none⟩ = some (.slice none 0 0) := (cell_of_row _ _ _ _ _ _ hB).trans rfl
    have u_3 := frozen_of_row w3 w.heap.size 3 _ _ hB
    have f4 : w3.cell? ⟨w.heap.size, 4, none⟩ = some (.slice none 0 0) := (cell_of_row _ _ _ _ _ _ hB).trans rfl
    have u_4 := frozen_of_row w3 w.heap.size 4 _ _ hB
    have f5 : w3.cell? ⟨w.heap.size, 5, none⟩ = some (.slice none 0 0) := (cell_of_row _ _ _ _ _ _ hB).trans rfl
    have u_5 := frozen_of_row w3 w.heap.size 5 _ _ hB
    have e5 := frozen_of_row w3 (w.heap.size + 1) 5 _ _ hA
    have HO3 := Lib.hid (show ∀ l, U = some l → OwP w3 (w.heap.size + 2) (.slice A3 n3 c3) l from fun l hl => (ho3 l hl).mono (by show w.heap.size + 2 ≤ _; simp))
    have HX := Lib.hid (XW.out.trans hX)
    clear hA hB ho3 hb3 hX HL6 XW g0
    go_wp2_with fail
    refine bodyPost_ret (v := .tuple #[askV ⟨20, 0, 0, [], [], (U.getD [])⟩ ⟨none, 0, 0, none, 0, 0, A3, n3, c3⟩, .bool U.isSome]) (by simp [results, Tryz.results83, go_sem, askV, *]) rfl ⟨_, _, by rw [HS.out], fun a' ha => ?_, ?_⟩
    · obtain ⟨l, hU, rfl⟩ := HS2.out a' ha
      refine ⟨by rw [hU]; rfl, ⟨Own.nil_ _ _ _ _, Own.nil_ _ _ _ _, ?_, by unfold i64P; simp, by unfold i64P; simp, by unfold i64P; simp⟩⟩
      show OwP _ _ (.slice A3 n3 c3) (U.getD [])
      rw [hU]
      show OwP _ _ (.slice A3 n3 c3) l
      have HO4 := Lib.hid (HO3.out l hU)
      refine OwP.mono (base := w.heap.size + 2) ?_ (by omega)
      repeat' (first | with_reducible exact HO4.out | with_reducible refine OwP.set_below ?_ (by simp) _)
    · repeat' (first | with_reducible exact HX.out | with_reducible refine Ext.set' ?_ (by simp) _)
end Go.Proofs.YtomcipkmohhpjaaGreat

namespace Go.Proofs.YtomcipkmohhpjaaGreat
set_option linter.unusedVariables false
set_option linter.unusedSimpArgs false
open Go Go.RowKit Go.Out

theorem askRead_any (b : List UInt8) (A : Option Addr) (m c : Nat) (w : World) (hr : Rd w A m (b.map cB)) (hc : m ≤ c) (hc63 : c ≤ 9223372036854775807) (hm2 : m ≤ 17000000000) (hp : codeP (b0 b : Nat)) (hs : sizedF b = 0) :
    Calls Tryz.prog 83 #[.slice A m c] w (RetRead w (saidF b)) := by
  have hl := hr.length
  obtain ⟨h0, h1⟩ := sizedF_zero.1 hs
  have hp' := hp
  unfold codeP isCnt isOn isSet at hp'
  unfold sizeF at h0 h1
  have hk : 1 ≤ b0 b ∧ b0 b ≤ 6 ∨ b0 b = 15 ∨ b0 b = 16 ∨ b0 b = 20 := by omega
  rcases hk with hk | hk | hk | hk
  · rw [if_pos hk.2] at h1
    rcases (show b0 b ≤ 4 ∨ b0 b = 5 ∨ b0 b = 6 by omega) with h | h | h
    · exact read_cnt b (b0 b) A m c w hr hc (by omega) rfl hk.1 h
    · exact read_coil b A m c w hr hc (by omega) h
    · exact read_reg b A m c w hr hc (by omega) h
  · rw [if_neg (by omega), if_neg (by omega)] at h0 h1
    have h6 : 6 ≤ b.length := by
      rcases Nat.lt_or_ge b.length 6 with h | h
      · rw [if_neg (by omega)] at h0; exact absurd rfl h0
      · exact h
    exact read_coils b A m c w hr hc (by omega) hm2 hk
  · rw [if_neg (by omega), if_neg (by omega)] at h0 h1
    have h6 : 6 ≤ b.length := by
      rcases Nat.lt_or_ge b.length 6 with h | h
      · rw [if_neg (by omega)] at h0; exact absurd rfl h0
      · exact h
    exact read_regs b A m c w hr hc (by omega) hm2 hk
  · rw [if_neg (by omega), if_pos hk] at h0 h1
    have h2 : 2 ≤ b.length := by
      rcases Nat.lt_or_ge b.length 2 with h | h
      · rw [if_neg (by omega)] at h0; exact absurd rfl h0
      · exact h
    exact read_file b A m c w hr hc hc63 (by omega) hm2 hk
end Go.Proofs.YtomcipkmohhpjaaGreat

namespace Go.Proofs.YtomcipkmohhpjaaGreat
set_option linter.unusedVariables false
set_option linter.unusedSimpArgs false
set_option maxRecDepth 100000
set_option maxHeartbeats 1000000
open Go Go.RowKit Go.Out

theorem askOw0 (w : World) (base : Nat) : AskOw w base ask0 askS0 := ⟨Own.nil_ _ _ _ _, Own.nil_ _ _ _ _, OwP.nil_ _ _, by unfold i64P ask0; simp, by unfold i64P ask0; simp, by unfold i64P ask0; simp⟩
theorem AskOw.set_below {w : World} {base : Nat} {a : AskD} {s : AskS} (h : AskOw w base a s) {q : Addr} (hq : q.block < base) (u : Value) : AskOw (w.setCell q u) base a s :=
  ⟨h.on.set_below hq u, h.set.set_below hq u, OwP.set_below h.parts hq u, h.code, h.addr, h.count⟩
/-- What ask.Get hands back. -/
def RetGA (w : World) (r : AskD × Int) (e : Ending) (w' : World) : Prop :=
  ∃ s : AskS, e = .returned (.tuple #[askV r.1 s, .int .i64 r.2]) ∧ AskOw w' w.heap.size r.1 s ∧ Ext w w'
theorem getA_code {b : List UInt8} (h0 : b.length ≠ 0) (hp : ¬ codeP (b0 b : Nat)) : getA b = (ask0, 20) := by unfold getA; rw [if_neg h0, if_pos hp]
theorem getA_sized {b : List UInt8} (h0 : b.length ≠ 0) (hp : codeP (b0 b : Nat)) (hs : sizedF b ≠ 0) : getA b = (ask0, sizedF b) := by unfold getA; rw [if_neg h0, if_neg (by simpa using hp), if_pos hs]
theorem getA_said {b : List UInt8} (h0 : b.length ≠ 0) (hp : codeP (b0 b : Nat)) (hs : sizedF b = 0) : getA b = match saidF b with
    | none => (ask0, 4)
    | some a => if checkF a ≠ 0 then (ask0, checkF a) else (a, 0) := by unfold getA; rw [if_neg h0, if_neg (by simpa using hp), if_neg (by simpa using hs)]; rfl

theorem get_none (A : Option Addr) (c : Nat) (w : World) : Calls Tryz.prog 38 #[.slice A 0 c] w (RetGA w (ask0, 1)) := by
  go_enter Tryz.func38, Tryz.ntmps38
  go_wp2_with fail
  refine bodyPost_ret (v := .tuple #[askV ask0 askS0, .int .i64 1]) (by simp [results, Tryz.results38, go_sem, askV, ask0, askS0, *]) rfl ⟨askS0, rfl, askOw0 _ _, ?_⟩
  repeat' (first | with_reducible exact Ext.alloc _ _ | with_reducible refine Ext.set' ?_ (by simp) _)

theorem get_code (k m c : Nat) (bk off : Nat) (w : World) (hm : 0 < m) (hbk : bk < w.heap.size) (g0 : w.cell? ⟨bk, off, none⟩ = some (.int .u8 (k : Int))) (hk : k < 256) (hp : ¬ codeP (k : Nat)) :
    Calls Tryz.prog 38 #[.slice (some ⟨bk, off, none⟩) m c] w (RetGA w (ask0, 20)) := by
  have hm0 : ((m : Int) == 0) = false := by simp; omega
  go_enter Tryz.func38, Tryz.ntmps38
  go_wp2_with fail
  refine (shapeOf_any k _).mono ?_
  rintro e w1 ⟨rfl, hb⟩
  rw [decide_eq_false hp, shapeV_no hp]
  have f0 : ∀ o : Obj, (w1.alloc o).cell? ⟨w.heap.size, 0, none⟩ = some (.int .i64 0) := fun o => (cell_of_row _ _ _ _ _ _ ((hb.trans (Ext.alloc _ o)).block (heap_alloc_new w _))).trans rfl
  have u_0 : ∀ o : Obj, (w1.alloc o).frozen? ⟨w.heap.size, 0, none⟩ = false := fun o => frozen_of_row _ w.heap.size 0 _ _ ((hb.trans (Ext.alloc _ o)).block (heap_alloc_new w _))
  have f1 : ∀ o : Obj, (w1.alloc o).cell? ⟨w.heap.size, 1, none⟩ = some (.int .i64 0) := fun o => (cell_of_row _ _ _ _ _ _ ((hb.trans (Ext.alloc _ o)).block (heap_alloc_new w _))).trans rfl
  have u_1 : ∀ o : Obj, (w1.alloc o).frozen? ⟨w.heap.size, 1, none⟩ = false := fun o => frozen_of_row _ w.heap.size 1 _ _ ((hb.trans (Ext.alloc _ o)).block (heap_alloc_new w _))
  have f2 : ∀ o : Obj, (w1.alloc o).cell? ⟨w.heap.size, 2, none⟩ = some (.int .i64 0) := fun o => (cell_of_row _ _ _ _ _ _ ((hb.trans (Ext.alloc _ o)).block (heap_alloc_new w _))).trans rfl
  have u_2 : ∀ o : Obj, (w1.alloc o).frozen? ⟨w.heap.size, 2, none⟩ = false := fun o => frozen_of_row _ w.heap.size 2 _ _ ((hb.trans (Ext.alloc _ o)).block (heap_alloc_new w _))
  have f3 : ∀ o : Obj, (w1.alloc o).cell? ⟨w.heap.size, 3, none⟩ = some (.slice none 0 0) := fun o => (cell_of_row _ _ _ _ _ _ ((hb.trans (Ext.alloc _ o)).block (heap_alloc_new w _))).trans rfl
  have u_3 : ∀ o : Obj, (w1.alloc o).frozen? ⟨w.heap.size, 3, none⟩ = false := fun o => frozen_of_row _ w.heap.size 3 _ _ ((hb.trans (Ext.alloc _ o)).block (heap_alloc_new w _))
  have f4 : ∀ o : Obj, (w1.alloc o).cell? ⟨w.heap.size, 4, none⟩ = some (.slice none 0 0) := fun o => (cell_of_row _ _ _ _ _ _ ((hb.trans (Ext.alloc _ o)).block (heap_alloc_new w _))).trans rfl
  have u_4 : ∀ o : Obj, (w1.alloc o).frozen? ⟨w.heap.size, 4, none⟩ = false := fun o => frozen_of_row _ w.heap.size 4 _ _ ((hb.trans (Ext.alloc _ o)).block (heap_alloc_new w _))
  have f5 : ∀ o : Obj, (w1.alloc o).cell? ⟨w.heap.size, 5, none⟩ = some (.slice none 0 0) := fun o => (cell_of_row _ _ _ _ _ _ ((hb.trans (Ext.alloc _ o)).block (heap_alloc_new w _))).trans rfl
  have u_5 : ∀ o : Obj, (w1.alloc o).frozen? ⟨w.heap.size, 5, none⟩ = false := fun o => frozen_of_row _ w.heap.size 5 _ _ ((hb.trans (Ext.alloc _ o)).block (heap_alloc_new w _))
  have HX := Lib.hid (fun o => (Ext.alloc w _).trans (hb.trans (Ext.alloc w1 o)))
  clear hb
  go_wp2_with fail
  refine bodyPost_ret (v := .tuple #[askV ask0 askS0, .int .i64 20]) (by simp [results, Tryz.results38, go_sem, askV, ask0, askS0, *]) rfl ⟨askS0, rfl, askOw0 _ _, ?_⟩
  repeat' (first | with_reducible exact HX.out _ | with_reducible refine Ext.set' ?_ (by simp) _)

theorem get_sized (b : List UInt8) (m c : Nat) (bk off : Nat) (w : World) (hr : Rd w (some ⟨bk, off, none⟩) m (b.map cB)) (hm0 : m ≠ 0) (hm2 : m ≤ 9223372036854775807) (hbk : bk < w.heap.size) (g0 : w.cell? ⟨bk, off, none⟩ = some (.int .u8 (b0 b : Int))) (hp : codeP (b0 b : Nat)) (hs : sizedF b ≠ 0) :
    Calls Tryz.prog 38 #[.slice (some ⟨bk, off, none⟩) m c] w (RetGA w (ask0, sizedF b)) := by
  have hm : ((m : Int) == 0) = false := by simp; omega
  have hmp : 0 < m := by omega
  have HC : Hid (∀ W, Ext w W → Calls Tryz.prog 82 #[.slice (some ⟨bk, off, none⟩) m c] W (RetN W (sizedF b))) := fun W hX => sized_pdu b _ m c W (hr.ext hX) hm0 (by omega) hp
  have hk : b0 b < 256 := by unfold b0; exact UInt8.toNat_lt _
  generalize b0 b = k at *
  have hne : (sizedF b != 0) = true := by simpa using hs
  generalize sizedF b = Er at *
  clear hr hs
  go_enter Tryz.func38, Tryz.ntmps38
  go_wp2_with fail
  refine (shapeOf_any k _).mono ?_
  rintro e w1 ⟨rfl, hb⟩
  rw [decide_eq_true hp]
  unfold shapeV
  have f0 : ∀ o : Obj, (w1.alloc o).cell? ⟨w.heap.size, 0, none⟩ = some (.int .i64 0) := fun o => (cell_of_row _ _ _ _ _ _ ((hb.trans (Ext.alloc _ o)).block (heap_alloc_new w _))).trans rfl
  have u_0 : ∀ o : Obj, (w1.alloc o).frozen? ⟨w.heap.size, 0, none⟩ = false := fun o => frozen_of_row _ w.heap.size 0 _ _ ((hb.trans (Ext.alloc _ o)).block (heap_alloc_new w _))
  have f1 : ∀ o : Obj, (w1.alloc o).cell? ⟨w.heap.size, 1, none⟩ = some (.int .i64 0) := fun o => (cell_of_row _ _ _ _ _ _ ((hb.trans (Ext.alloc _ o)).block (heap_alloc_new w _))).trans rfl
  have u_1 : ∀ o : Obj, (w1.alloc o).frozen? ⟨w.heap.size, 1, none⟩ = false := fun o => frozen_of_row _ w.heap.size 1 _ _ ((hb.trans (Ext.alloc _ o)).block (heap_alloc_new w _))
  have f2 : ∀ o : Obj, (w1.alloc o).cell? ⟨w.heap.size, 2, none⟩ = some (.int .i64 0) := fun o => (cell_of_row _ _ _ _ _ _ ((hb.trans (Ext.alloc _ o)).block (heap_alloc_new w _))).trans rfl
  have u_2 : ∀ o : Obj, (w1.alloc o).frozen? ⟨w.heap.size, 2, none⟩ = false := fun o => frozen_of_row _ w.heap.size 2 _ _ ((hb.trans (Ext.alloc _ o)).block (heap_alloc_new w _))
  have f3 : ∀ o : Obj, (w1.alloc o).cell? ⟨w.heap.size, 3, none⟩ = some (.slice none 0 0) := fun o => (cell_of_row _ _ _ _ _ _ ((hb.trans (Ext.alloc _ o)).block (heap_alloc_new w _))).trans rfl
  have u_3 : ∀ o : Obj, (w1.alloc o).frozen? ⟨w.heap.size, 3, none⟩ = false := fun o => frozen_of_row _ w.heap.size 3 _ _ ((hb.trans (Ext.alloc _ o)).block (heap_alloc_new w _))
  have f4 : ∀ o : Obj, (w1.alloc o).cell? ⟨w.heap.size, 4, none⟩ = some (.slice none 0 0) := fun o => (cell_of_row _ _ _ _ _ _ ((hb.trans (Ext.alloc _ o)).block (heap_alloc_new w _))).trans rfl
  have u_4 : ∀ o : Obj, (w1.alloc o).frozen? ⟨w.heap.size, 4, none⟩ = false := fun o => frozen_of_row _ w.heap.size 4 _ _ ((hb.trans (Ext.alloc _ o)).block (heap_alloc_new w _))
  have f5 : ∀ o : Obj, (w1.alloc o).cell? ⟨w.heap.size, 5, none⟩ = some (.slice none 0 0) := fun o => (cell_of_row _ _ _ _ _ _ ((hb.trans (Ext.alloc _ o)).block (heap_alloc_new w _))).trans rfl
  have u_5 : ∀ o : Obj, (w1.alloc o).frozen? ⟨w.heap.size, 5, none⟩ = false := fun o => frozen_of_row _ w.heap.size 5 _ _ ((hb.trans (Ext.alloc _ o)).block (heap_alloc_new w _))
  have HX := Lib.hid (fun o => (Ext.alloc w _).trans (hb.trans (Ext.alloc w1 o)))
  clear hb
  go_wp2_with fail
  refine (HC.out _ (HX.out _)).mono ?_
  rintro e w2 ⟨rfl, rfl⟩
  go_wp2_with fail
  refine bodyPost_ret (v := .tuple #[askV ask0 askS0, .int .i64 Er]) (by simp [results, Tryz.results38, go_sem, askV, ask0, askS0, *]) rfl ⟨askS0, rfl, askOw0 _ _, ?_⟩
  repeat' (first | with_reducible exact HX.out _ | with_reducible refine Ext.set' ?_ (by simp) _)


end Go.Proofs.YtomcipkmohhpjaaGreat

namespace Go.Proofs.YtomcipkmohhpjaaGreat
set_option linter.unusedVariables false
set_option linter.unusedSimpArgs false
set_option maxRecDepth 100000
set_option maxHeartbeats 800000
open Go Go.RowKit Go.Out

theorem get_form (b : List UInt8) (m c : Nat) (bk off : Nat) (w : World) (hr : Rd w (some ⟨bk, off, none⟩) m (b.map cB)) (hc : m ≤ c) (hc63 : c ≤ 9223372036854775807) (hm0 : m ≠ 0) (hm2 : m ≤ 17000000000) (hbk : bk < w.heap.size) (g0 : w.cell? ⟨bk, off, none⟩ = some (.int .u8 (b0 b : Int))) (hp : codeP (b0 b : Nat)) (hs : sizedF b = 0) (hsd : saidF b = none) :
    Calls Tryz.prog 38 #[.slice (some ⟨bk, off, none⟩) m c] w (RetGA w (ask0, 4)) := by
  have hm : ((m : Int) == 0) = false := by simp; omega
  have hmp : 0 < m := by omega
  have HC : Hid (∀ W, Ext w W → Calls Tryz.prog 82 #[.slice (some ⟨bk, off, none⟩) m c] W (RetN W (sizedF b))) := fun W hX => sized_pdu b _ m c W (hr.ext hX) hm0 (by omega) hp
  have HR : Hid (∀ W, Ext w W → Calls Tryz.prog 83 #[.slice (some ⟨bk, off, none⟩) m c] W (RetRead W (saidF b))) := fun W hX => askRead_any b _ m c W (hr.ext hX) hc hc63 hm2 hp hs
  have hk : b0 b < 256 := by unfold b0; exact UInt8.toNat_lt _
  rw [hs] at HC
  rw [hsd] at HR
  generalize b0 b = k at *
  clear hr hs hsd
  go_enter Tryz.func38, Tryz.ntmps38
  go_wp2_with fail
  refine (shapeOf_any k _).mono ?_
  rintro e w1 ⟨rfl, hb⟩
  rw [decide_eq_true hp]
  unfold shapeV
  have HX := Lib.hid (fun o => (Ext.alloc w _).trans (hb.trans (Ext.alloc w1 o)))
  have HB := Lib.hid (fun o => hb.trans (Ext.alloc w1 o))
  clear hb
  go_wp2_with fail
  refine (HC.out _ (HX.out _)).mono ?_
  rintro e w2 ⟨rfl, rfl⟩
  go_wp2_with fail
  refine (HR.out _ (HX.out _)).mono ?_
  rintro e w3 ⟨a, t, rfl, hown, hb3⟩
  have hX3 := Ext.of hb3
  have HB3 := Lib.hid ((HB.out _).trans hX3)
  have HX3 := Lib.hid ((HX.out _).trans hX3)
  clear hown hb3 hX3 HX HB
  obtain ⟨code, addr, count, on, set, parts⟩ := a
  obtain ⟨A1, n1, c1, A2, n2, c2, A3, n3, c3⟩ := t
  simp only [askV, Option.isSome]
  have f0 : ∀ o : Obj, (w3.alloc o).cell? ⟨w.heap.size, 0, none⟩ = some (.int .i64 0) := fun o => (cell_of_row _ _ _ _ _ _ ((HB3.out.trans (Ext.alloc _ o)).block (heap_alloc_new w _))).trans rfl
  have u_0 : ∀ o : Obj, (w3.alloc o).frozen? ⟨w.heap.size, 0, none⟩ = false := fun o => frozen_of_row _ w.heap.size 0 _ _ ((HB3.out.trans (Ext.alloc _ o)).block (heap_alloc_new w _))
  have f1 : ∀ o : Obj, (w3.alloc o).cell? ⟨w.heap.size, 1, none⟩ = some (.int .i64 0) := fun o => (cell_of_row _ _ _ _ _ _ ((HB3.out.trans (Ext.alloc _ o)).block (heap_alloc_new w _))).trans rfl
  have u_1 : ∀ o : Obj, (w3.alloc o).frozen? ⟨w.heap.size, 1, none⟩ = false := fun o => frozen_of_row _ w.heap.size 1 _ _ ((HB3.out.trans (Ext.alloc _ o)).block (heap_alloc_new w _))
  have f2 : ∀ o : Obj, (w3.alloc o).cell? ⟨w.heap.size, 2, none⟩ = some (.int .i64 0) := fun o => (cell_of_row _ _ _ _ _ _ ((HB3.out.trans (Ext.alloc _ o)).block (heap_alloc_new w _))).trans rfl
  have u_2 : ∀ o : Obj, (w3.alloc o).frozen? ⟨w.heap.size, 2, none⟩ = false := fun o => frozen_of_row _ w.heap.size 2 _ _ ((HB3.out.trans (Ext.alloc _ o)).block (heap_alloc_new w _))
  have f3 : ∀ o : Obj, (w3.alloc o).cell? ⟨w.heap.size, 3, none⟩ = some (.slice none 0 0) := fun o => (cell_of_row _ _ _ _ _ _ ((HB3.out.trans (Ext.alloc _ o)).block (heap_alloc_new w _))).trans rfl
  have u_3 : ∀ o : Obj, (w3.alloc o).frozen? ⟨w.heap.size, 3, none⟩ = false := fun o => frozen_of_row _ w.heap.size 3 _ _ ((HB3.out.trans (Ext.alloc _ o)).block (heap_alloc_new w _))
  have f4 : ∀ o : Obj, (w3.alloc o).cell? ⟨w.heap.size, 4, none⟩ = some (.slice none 0 0) := fun o => (cell_of_row _ _ _ _ _ _ ((HB3.out.trans (Ext.alloc _ o)).block (heap_alloc_new w _))).trans rfl
  have u_4 : ∀ o : Obj, (w3.alloc o).frozen? ⟨w.heap.size, 4, none⟩ = false := fun o => frozen_of_row _ w.heap.size 4 _ _ ((HB3.out.trans (Ext.alloc _ o)).block (heap_alloc_new w _))
  have f5 : ∀ o : Obj, (w3.alloc o).cell? ⟨w.heap.size, 5, none⟩ = some (.slice none 0 0) := fun o => (cell_of_row _ _ _ _ _ _ ((HB3.out.trans (Ext.alloc _ o)).block (heap_alloc_new w _))).trans rfl
  have u_5 : ∀ o : Obj, (w3.alloc o).frozen? ⟨w.heap.size, 5, none⟩ = false := fun o => frozen_of_row _ w.heap.size 5 _ _ ((HB3.out.trans (Ext.alloc _ o)).block (heap_alloc_new w _))
  have HX4 := Lib.hid (fun o => HX3.out.trans (Ext.alloc w3 o))
  clear HX3 HB3
  go_wp2_with fail
  refine bodyPost_ret (v := .tuple #[askV ask0 askS0, .int .i64 4]) (by simp [results, Tryz.results38, go_sem, askV, ask0, askS0, *]) rfl ⟨askS0, rfl, askOw0 _ _, ?_⟩
  repeat' (first | with_reducible exact HX4.out _ | with_reducible refine Ext.set' ?_ (by simp) _)
end Go.Proofs.YtomcipkmohhpjaaGreat

namespace Go.Proofs.YtomcipkmohhpjaaGreat
set_option linter.unusedVariables false
set_option linter.unusedSimpArgs false
set_option maxRecDepth 100000
set_option maxHeartbeats 4000000
open Go Go.RowKit Go.Out

theorem askGetOk (b : List UInt8) (m c : Nat) (bk off : Nat) (w : World) (hr : Rd w (some ⟨bk, off, none⟩) m (b.map cB)) (hc : m ≤ c) (hc63 : c ≤ 9223372036854775807) (hm0 : m ≠ 0) (hm2 : m ≤ 17000000000) (hbk : bk < w.heap.size) (g0 : w.cell? ⟨bk, off, none⟩ = some (.int .u8 (b0 b : Int))) (hp : codeP (b0 b : Nat)) (hs : sizedF b = 0) (a0 : AskD) (hsd : saidF b = some a0) (hK : checkF a0 = 0) :
    Calls Tryz.prog 38 #[.slice (some ⟨bk, off, none⟩) m c] w (RetGA w (a0, 0)) := by
  have hm : ((m : Int) == 0) = false := by simp; omega
  have hmp : 0 < m := by omega
  have HC : Hid (∀ W, Ext w W → Calls Tryz.prog 82 #[.slice (some ⟨bk, off, none⟩) m c] W (RetN W (sizedF b))) := fun W hX => sized_pdu b _ m c W (hr.ext hX) hm0 (by omega) hp
  have HR : Hid (∀ W, Ext w W → Calls Tryz.prog 83 #[.slice (some ⟨bk, off, none⟩) m c] W (RetRead W (saidF b))) := fun W hX => askRead_any b _ m c W (hr.ext hX) hc hc63 hm2 hp hs
  have hk : b0 b < 256 := by unfold b0; exact UInt8.toNat_lt _
  rw [hs] at HC
  rw [hsd] at HR
  generalize b0 b = k at *
  clear hr hs hsd
  go_enter Tryz.func38, Tryz.ntmps38
  go_wp2_with fail
  refine (shapeOf_any k _).mono ?_
  rintro e w1 ⟨rfl, hb⟩
  rw [decide_eq_true hp]
  unfold shapeV
  have HX := Lib.hid (fun o => (Ext.alloc w _).trans (hb.trans (Ext.alloc w1 o)))
  have HB := Lib.hid (fun o => hb.trans (Ext.alloc w1 o))
  clear hb
  go_wp2_with fail
  refine (HC.out _ (HX.out _)).mono ?_
  rintro e w2 ⟨rfl, rfl⟩
  go_wp2_with fail
  refine (HR.out _ (HX.out _)).mono ?_
  rintro e w3 ⟨a, t, rfl, hown, hb3⟩
  have hX3 := Ext.of hb3
  have HB3 := Lib.hid ((HB.out _).trans hX3)
  have HX3 := Lib.hid ((HX.out _).trans hX3)
  obtain ⟨rfl, ho⟩ := hown a0 rfl
  have hsz : w.heap.size + 1 ≤ w3.heap.size := by have := HB3.out.size; simpa using this
  have HO := Lib.hid (ho.mono (base' := w.heap.size + 1) (by have := (HB.out (.cells #[.int .i64 0] 3)).size; simp at this ⊢; omega))
  have HCK := Lib.hid (fun (W : World) (hX : Ext w3 W) => check_any a0 t W (ho.rd.ext hX))
  clear hown hb3 hX3 HX HB ho
  rw [hK] at HCK
  clear hK
  obtain ⟨code, addr, count, on, set, parts⟩ := a0
  obtain ⟨A1, n1, c1, A2, n2, c2, A3, n3, c3⟩ := t
  simp only [askV, Option.isSome] at HCK ⊢
  go_wp2_with fail
  refine (HCK.out _ (Ext.alloc _ _)).mono ?_
  rintro e w4 ⟨rfl, hb4⟩
  have hX4 := Ext.of hb4
  have f0 : w4.cell? ⟨w.heap.size, 0, none⟩ = some (.int .i64 0) := (cell_of_row _ _ _ _ _ _ ((HB3.out.trans ((Ext.alloc _ _).trans hX4)).block (heap_alloc_new w _))).trans rfl
  have u_0 := frozen_of_row w4 w.heap.size 0 _ _ ((HB3.out.trans ((Ext.alloc _ _).trans hX4)).block (heap_alloc_new w _))
  have f1 : w4.cell? ⟨w.heap.size, 1, none⟩ = some (.int .i64 0) := (cell_of_row _ _ _ _ _ _ ((HB3.out.trans ((Ext.alloc _ _).trans hX4)).block (heap_alloc_new w _))).trans rfl
  have u_1 := frozen_of_row w4 w.heap.size 1 _ _ ((HB3.out.trans ((Ext.alloc _ _).trans hX4)).block (heap_alloc_new w _))
  have f2 : w4.cell? ⟨w.heap.size, 2, none⟩ = some (.int .i64 0) := (cell_of_row _ _ _ _ _ _ ((HB3.out.trans ((Ext.alloc _ _).trans hX4)).block (heap_alloc_new w _))).trans rfl
  have u_2 := frozen_of_row w4 w.heap.size 2 _ _ ((HB3.out.trans ((Ext.alloc _ _).trans hX4)).block (heap_alloc_new w _))
  have f3 : w4.cell? ⟨w.heap.size, 3, none⟩ = some (.slice none 0 0) := (cell_of_row _ _ _ _ _ _ ((HB3.out.trans ((Ext.alloc _ _).trans hX4)).block (heap_alloc_new w _))).trans rfl
  have u_3 := frozen_of_row w4 w.heap.size 3 _ _ ((HB3.out.trans ((Ext.alloc _ _).trans hX4)).block (heap_alloc_new w _))
  have f4 : w4.cell? ⟨w.heap.size, 4, none⟩ = some (.slice none 0 0) := (cell_of_row _ _ _ _ _ _ ((HB3.out.trans ((Ext.alloc _ _).trans hX4)).block (heap_alloc_new w _))).trans rfl
  have u_4 := frozen_of_row w4 w.heap.size 4 _ _ ((HB3.out.trans ((Ext.alloc _ _).trans hX4)).block (heap_alloc_new w _))
  have f5 : w4.cell? ⟨w.heap.size, 5, none⟩ = some (.slice none 0 0) := (cell_of_row _ _ _ _ _ _ ((HB3.out.trans ((Ext.alloc _ _).trans hX4)).block (heap_alloc_new w _))).trans rfl
  have u_5 := frozen_of_row w4 w.heap.size 5 _ _ ((HB3.out.trans ((Ext.alloc _ _).trans hX4)).block (heap_alloc_new w _))
  obtain ⟨d0, d1, d2, d3, d4, d5⟩ := ask_cells _ hX4
  have HX4 := Lib.hid (HX3.out.trans ((Ext.alloc _ _).trans hX4))
  have HO4 := Lib.hid (HO.out.ext ((Ext.alloc _ _).trans hX4))
  clear hb4 hX4 HB3
  go_wp2_with fail
  refine bodyPost_ret (v := .tuple #[askV ⟨code, addr, count, on, set, parts⟩ ⟨A1, n1, c1, A2, n2, c2, A3, n3, c3⟩, .int .i64 0]) (by simp [results, Tryz.results38, go_sem, askV, *]) rfl ⟨⟨A1, n1, c1, A2, n2, c2, A3, n3, c3⟩, rfl, ?_, ?_⟩
  · refine AskOw.mono (base := w.heap.size + 1) ?_ (by omega)
    repeat' (first | with_reducible exact HO4.out | with_reducible refine AskOw.set_below ?_ (by simp) _)
  · repeat' (first | with_reducible exact HX4.out | with_reducible refine Ext.set' ?_ (by simp) _)
end Go.Proofs.YtomcipkmohhpjaaGreat

namespace Go.Proofs.YtomcipkmohhpjaaGreat
set_option linter.unusedVariables false
set_option linter.unusedSimpArgs false
set_option maxRecDepth 100000
set_option maxHeartbeats 4000000
open Go Go.RowKit Go.Out

theorem get_bad (b : List UInt8) (m c : Nat) (bk off : Nat) (w : World) (hr : Rd w (some ⟨bk, off, none⟩) m (b.map cB)) (hc : m ≤ c) (hc63 : c ≤ 9223372036854775807) (hm0 : m ≠ 0) (hm2 : m ≤ 17000000000) (hbk : bk < w.heap.size) (g0 : w.cell? ⟨bk, off, none⟩ = some (.int .u8 (b0 b : Int))) (hp : codeP (b0 b : Nat)) (hs : sizedF b = 0) (a0 : AskD) (hsd : saidF b = some a0) (K : Int) (hK : checkF a0 = K) (hne : (K != 0) = true) :
    Calls Tryz.prog 38 #[.slice (some ⟨bk, off, none⟩) m c] w (RetGA w (ask0, K)) := by
  have hm : ((m : Int) == 0) = false := by simp; omega
  have hmp : 0 < m := by omega
  have HC : Hid (∀ W, Ext w W → Calls Tryz.prog 82 #[.slice (some ⟨bk, off, none⟩) m c] W (RetN W (sizedF b))) := fun W hX => sized_pdu b _ m c W (hr.ext hX) hm0 (by omega) hp
  have HR : Hid (∀ W, Ext w W → Calls Tryz.prog 83 #[.slice (some ⟨bk, off, none⟩) m c] W (RetRead W (saidF b))) := fun W hX => askRead_any b _ m c W (hr.ext hX) hc hc63 hm2 hp hs
  have hk : b0 b < 256 := by unfold b0; exact UInt8.toNat_lt _
  rw [hs] at HC
  rw [hsd] at HR
  generalize b0 b = k at *
  clear hr hs hsd
  go_enter Tryz.func38, Tryz.ntmps38
  go_wp2_with fail
  refine (shapeOf_any k _).mono ?_
  rintro e w1 ⟨rfl, hb⟩
  rw [decide_eq_true hp]
  unfold shapeV
  have HX := Lib.hid (fun o => (Ext.alloc w _).trans (hb.trans (Ext.alloc w1 o)))
  have HB := Lib.hid (fun o => hb.trans (Ext.alloc w1 o))
  clear hb
  go_wp2_with fail
  refine (HC.out _ (HX.out _)).mono ?_
  rintro e w2 ⟨rfl, rfl⟩
  go_wp2_with fail
  refine (HR.out _ (HX.out _)).mono ?_
  rintro e w3 ⟨a, t, rfl, hown, hb3⟩
  have hX3 := Ext.of hb3
  have HB3 := Lib.hid ((HB.out _).trans hX3)
  have HX3 := Lib.hid ((HX.out _).trans hX3)
  obtain ⟨rfl, ho⟩ := hown a0 rfl
  have hsz : w.heap.size + 1 ≤ w3.heap.size := by have := HB3.out.size; simpa using this
  have HO := Lib.hid (ho.mono (base' := w.heap.size + 1) (by have := (HB.out (.cells #[.int .i64 0] 3)).size; simp at this ⊢; omega))
  have HCK := Lib.hid (fun (W : World) (hX : Ext w3 W) => check_any a0 t W (ho.rd.ext hX))
  clear hown hb3 hX3 HX HB ho
  rw [hK] at HCK
  clear hK
  obtain ⟨code, addr, count, on, set, parts⟩ := a0
  obtain ⟨A1, n1, c1, A2, n2, c2, A3, n3, c3⟩ := t
  simp only [askV, Option.isSome] at HCK ⊢
  go_wp2_with fail
  refine (HCK.out _ (Ext.alloc _ _)).mono ?_
  rintro e w4 ⟨rfl, hb4⟩
  have hX4 := Ext.of hb4
  have f0 : w4.cell? ⟨w.heap.size, 0, none⟩ = some (.int .i64 0) := (cell_of_row _ _ _ _ _ _ ((HB3.out.trans ((Ext.alloc _ _).trans hX4)).block (heap_alloc_new w _))).trans rfl
  have u_0 := frozen_of_row w4 w.heap.size 0 _ _ ((HB3.out.trans ((Ext.alloc _ _).trans hX4)).block (heap_alloc_new w _))
  have f1 : w4.cell? ⟨w.heap.size, 1, none⟩ = some (.int .i64 0) := (cell_of_row _ _ _ _ _ _ ((HB3.out.trans ((Ext.alloc _ _).trans hX4)).block (heap_alloc_new w _))).trans rfl
  have u_1 := frozen_of_row w4 w.heap.size 1 _ _ ((HB3.out.trans ((Ext.alloc _ _).trans hX4)).block (heap_alloc_new w _))
  have f2 : w4.cell? ⟨w.heap.size, 2, none⟩ = some (.int .i64 0) := (cell_of_row _ _ _ _ _ _ ((HB3.out.trans ((Ext.alloc _ _).trans hX4)).block (heap_alloc_new w _))).trans rfl
  have u_2 := frozen_of_row w4 w.heap.size 2 _ _ ((HB3.out.trans ((Ext.alloc _ _).trans hX4)).block (heap_alloc_new w _))
  have f3 : w4.cell? ⟨w.heap.size, 3, none⟩ = some (.slice none 0 0) := (cell_of_row _ _ _ _ _ _ ((HB3.out.trans ((Ext.alloc _ _).trans hX4)).block (heap_alloc_new w _))).trans rfl
  have u_3 := frozen_of_row w4 w.heap.size 3 _ _ ((HB3.out.trans ((Ext.alloc _ _).trans hX4)).block (heap_alloc_new w _))
  have f4 : w4.cell? ⟨w.heap.size, 4, none⟩ = some (.slice none 0 0) := (cell_of_row _ _ _ _ _ _ ((HB3.out.trans ((Ext.alloc _ _).trans hX4)).block (heap_alloc_new w _))).trans rfl
  have u_4 := frozen_of_row w4 w.heap.size 4 _ _ ((HB3.out.trans ((Ext.alloc _ _).trans hX4)).block (heap_alloc_new w _))
  have f5 : w4.cell? ⟨w.heap.size, 5, none⟩ = some (.slice none 0 0) := (cell_of_row _ _ _ _ _ _ ((HB3.out.trans ((Ext.alloc _ _).trans hX4)).block (heap_alloc_new w _))).trans rfl
  have u_5 := frozen_of_row w4 w.heap.size 5 _ _ ((HB3.out.trans ((Ext.alloc _ _).trans hX4)).block (heap_alloc_new w _))
  obtain ⟨d0, d1, d2, d3, d4, d5⟩ := ask_cells _ hX4
  have HX4 := Lib.hid (HX3.out.trans ((Ext.alloc _ _).trans hX4))
  clear hb4 hX4 HB3
  go_wp2_with fail
  refine bodyPost_ret (v := .tuple #[askV ask0 askS0, .int .i64 K]) (by simp [results, Tryz.results38, go_sem, askV, ask0, askS0, *]) rfl ⟨askS0, rfl, askOw0 _ _, ?_⟩
  repeat' (first | with_reducible exact HX4.out | with_reducible refine Ext.set' ?_ (by simp) _)
end Go.Proofs.YtomcipkmohhpjaaGreat

namespace Go.Proofs.YtomcipkmohhpjaaGreat
set_option linter.unusedVariables false
set_option linter.unusedSimpArgs false
set_option maxRecDepth 100000
set_option maxHeartbeats 4000000
open Go Go.RowKit Go.Out

theorem sizeF_le (b : List UInt8) : sizeF b ≤ 261 := by
  have h1 := (b.getD 1 0).toNat_lt; have h5 := (b.getD 5 0).toNat_lt
  unfold sizeF
  split
  · omega
  · split
    · split <;> omega
    · split <;> omega
theorem askGet_any (b : List UInt8) (A : Option Addr) (m c : Nat) (w : World) (hr : Rd w A m (b.map cB)) (hc : m ≤ c) (hc63 : c ≤ 9223372036854775807) (hm2 : m ≤ 9223372036854775807) :
    Calls Tryz.prog 38 #[.slice A m c] w (RetGA w (getA b)) := by
  have hl := hr.length
  rcases Nat.eq_zero_or_pos m with h0 | h0
  · subst h0
    rw [show getA b = (ask0, 1) by unfold getA; rw [if_pos hl]]
    exact get_none A c w
  · obtain ⟨bk, off, rfl, hbk, hcell⟩ := hr.u8all h0
    have g0 := hcell 0 h0
    rw [Nat.add_zero] at g0
    by_cases hp : codeP (b0 b : Nat)
    · by_cases hs : sizedF b = 0
      · have hm3 : m ≤ 17000000000 := by have h1 := (sizedF_zero.1 hs).2; have h2 := sizeF_le b; omega
        rw [getA_said (by omega) hp hs]
        cases hsd : saidF b with
        | none => exact get_form b m c bk off w hr hc hc63 (by omega) hm3 hbk g0 hp hs hsd
        | some a =>
          by_cases hK : checkF a = 0
          · simp only [ne_eq, hK, not_true_eq_false, ↓reduceIte]
            exact askGetOk b m c bk off w hr hc hc63 (by omega) hm3 hbk g0 hp hs a hsd hK
          · simp only [ne_eq, hK, not_false_eq_true, ↓reduceIte]
            exact get_bad b m c bk off w hr hc hc63 (by omega) hm3 hbk g0 hp hs a hsd _ rfl (by simpa using hK)
      · rw [getA_sized (by omega) hp hs]
        exact get_sized b m c bk off w hr (by omega) hm2 hbk g0 hp hs
    · rw [getA_code (by omega) hp]
      exact get_code (b0 b) m c bk off w h0 hbk g0 (by unfold b0; exact UInt8.toNat_lt _) hp
end Go.Proofs.YtomcipkmohhpjaaGreat
