/- A request in memory of its own; the walk of AskMoved: for every input true. -/
import Derived.Test.YticcbnfgahjlpaaAskN
namespace Go.Proofs.Yticcbnfgahjlpaa
set_option linter.unusedVariables false
set_option linter.unusedSimpArgs false
set_option maxRecDepth 100000
set_option maxHeartbeats 1000000
open Go Go.RowKit Go.Out

theorem copyParts_nil (A : Option Addr) (c : Nat) (w : World) : Calls Try.prog 55 #[.slice A 0 c] w fun e w' => e = .returned (.slice none 0 0) ∧ w = w' := by
  go_enter Try.func55, Try.ntmps55
  go_wp2_with fail
  go_loopw [3, 4] (fun l i wr => l = .slice none 0 0 ∧ i = .int .i64 0 ∧ wr = w) (fun _ _ _ => 0)
  case atStart => exact ⟨rfl, rfl, rfl⟩
  case round =>
    obtain ⟨rfl, rfl, rfl⟩ := hrel
    go_wp2_with fail
    go_ret
    exact ⟨rfl, rfl⟩
theorem copyAsk_any (a : AskD) (s : AskS) (w : World) (hr : AskRd w a s) (hp : s.n3 = 0) (h1 : s.n1 ≤ 70000) (h2 : s.n2 ≤ 70000) :
    Calls Try.prog 24 #[askV a s] w fun e w' => ∃ t, e = .returned (askV a t) ∧ AskRd w' a t ∧ Ext w w' := by
  have hp3 : a.parts = [] := List.length_eq_zero_iff.1 (hr.n3.trans hp)
  have HR := Lib.hid hr
  obtain ⟨code, addr, count, on, set, parts⟩ := a
  obtain ⟨A1, n1, c1, A2, n2, c2, A3, n3, c3⟩ := s
  simp only at hp hp3 h1 h2
  subst hp; subst hp3
  clear hr
  simp only [askV]
  go_enter Try.func24, Try.ntmps24
  go_wp2_with fail
  refine (copyL_any on _ _ _ _ (HR.out.on.ext ((Ext.alloc _ _).trans (Ext.alloc _ _))) (by show n1 ≤ _; omega)).mono ?_
  rintro e w1 ⟨B1, k1, rfl, ho1, hb1⟩
  have hX1 := Ext.of hb1
  have hA : w1.heap[w.heap.size]? = some (.cells #[.int .i64 code, .int .i64 addr, .int .i64 count, .slice A1 n1 c1, .slice A2 n2 c2, .slice A3 0 c3] 28 (0, 0)) := hX1.block ((Ext.alloc _ _).block (heap_alloc_new w _))
  have hB : w1.heap[w.heap.size + 1]? = some (.cells #[.int .i64 0, .int .i64 0, .int .i64 0, .slice none 0 0, .slice none 0 0, .slice none 0 0] 28 (0, 0)) := hX1.block (heap_at _ _ _ (by simp))
  have X1 := Lib.hid ((Ext.alloc _ _).trans ((Ext.alloc _ _).trans hX1))
  have HO1 := Lib.hid (show Own w1 (w.heap.size + 2) 4 IsBo B1 n1 k1 (on.map cL) from ho1.mono (by simp))
  have d0 : w1.cell? ⟨w.heap.size, 0, none⟩ = some (.int .i64 code) := (cell_of_row _ _ _ _ _ _ hA).trans rfl
  have d1 : w1.cell? ⟨w.heap.size, 1, none⟩ = some (.int .i64 addr) := (cell_of_row _ _ _ _ _ _ hA).trans rfl
  have d2 : w1.cell? ⟨w.heap.size, 2, none⟩ = some (.int .i64 count) := (cell_of_row _ _ _ _ _ _ hA).trans rfl
  have d3 : w1.cell? ⟨w.heap.size, 3, none⟩ = some (.slice A1 n1 c1) := (cell_of_row _ _ _ _ _ _ hA).trans rfl
  have d4 : w1.cell? ⟨w.heap.size, 4, none⟩ = some (.slice A2 n2 c2) := (cell_of_row _ _ _ _ _ _ hA).trans rfl
  have d5 : w1.cell? ⟨w.heap.size, 5, none⟩ = some (.slice A3 0 c3) := (cell_of_row _ _ _ _ _ _ hA).trans rfl
  have u_0 := frozen_of_row w1 (w.heap.size) 0 _ _ hA
  have u_1 := frozen_of_row w1 (w.heap.size) 1 _ _ hA
  have u_2 := frozen_of_row w1 (w.heap.size) 2 _ _ hA
  have u_3 := frozen_of_row w1 (w.heap.size) 3 _ _ hA
  have u_4 := frozen_of_row w1 (w.heap.size) 4 _ _ hA
  have u_5 := frozen_of_row w1 (w.heap.size) 5 _ _ hA
  have hA2 := heap_setCell_same w1 w.heap.size 3 _ _ (.slice B1 n1 k1) hA
  have hB2 : (w1.setCell ⟨w.heap.size, 3, none⟩ (.slice B1 n1 k1)).heap[w.heap.size + 1]? = some (.cells #[.int .i64 0, .int .i64 0, .int .i64 0, .slice none 0 0, .slice none 0 0, .slice none 0 0] 28 (0, 0)) := (Below.heap_setCell w1 ⟨w.heap.size, 3, none⟩ _ (w.heap.size + 1) (by simp)).trans hB
  have X1s := Lib.hid (X1.out.set' (p := ⟨w.heap.size, 3, none⟩) (Nat.le_refl _) (.slice B1 n1 k1))
  have HO1s := Lib.hid (HO1.out.set_below (q := ⟨w.heap.size, 3, none⟩) (by simp) (.slice B1 n1 k1))
  have HA2 := Lib.hid hA2; have HB2 := Lib.hid hB2
  clear hA hB hA2 hB2 hX1 ho1 hb1
  go_wp2_with fail
  refine (copyW_any set _ _ _ _ (HR.out.set.ext X1s.out) (by show n2 ≤ _; omega)).mono ?_
  rintro e w2 ⟨B2, k2, rfl, ho2, hb2⟩
  have hX2 := Ext.of hb2
  have hA : w2.heap[w.heap.size]? = some (.cells #[.int .i64 code, .int .i64 addr, .int .i64 count, .slice B1 n1 k1, .slice A2 n2 c2, .slice A3 0 c3] 28 (0, 0)) := hX2.block HA2.out
  have hB := hX2.block HB2.out
  have X2 := Lib.hid (X1s.out.trans hX2)
  have HO1 := Lib.hid (HO1s.out.ext hX2)
  have hz : w.heap.size + 2 ≤ (w1.setCell ⟨w.heap.size, 3, none⟩ (.slice B1 n1 k1)).heap.size := by have := lt_of_heap HB2.out; omega
  have HO2 := Lib.hid (show Own w2 (w.heap.size + 2) 45 IsU16 B2 n2 k2 (set.map cW) from ho2.mono hz)
  clear d0 u_0 d1 u_1 d2 u_2 d3 u_3 d4 u_4 d5 u_5
  have d0 : w2.cell? ⟨w.heap.size, 0, none⟩ = some (.int .i64 code) := (cell_of_row _ _ _ _ _ _ hA).trans rfl
  have d1 : w2.cell? ⟨w.heap.size, 1, none⟩ = some (.int .i64 addr) := (cell_of_row _ _ _ _ _ _ hA).trans rfl
  have d2 : w2.cell? ⟨w.heap.size, 2, none⟩ = some (.int .i64 count) := (cell_of_row _ _ _ _ _ _ hA).trans rfl
  have d3 : w2.cell? ⟨w.heap.size, 3, none⟩ = some (.slice B1 n1 k1) := (cell_of_row _ _ _ _ _ _ hA).trans rfl
  have d4 : w2.cell? ⟨w.heap.size, 4, none⟩ = some (.slice A2 n2 c2) := (cell_of_row _ _ _ _ _ _ hA).trans rfl
  have d5 : w2.cell? ⟨w.heap.size, 5, none⟩ = some (.slice A3 0 c3) := (cell_of_row _ _ _ _ _ _ hA).trans rfl
  have u_0 := frozen_of_row w2 (w.heap.size) 0 _ _ hA
  have u_1 := frozen_of_row w2 (w.heap.size) 1 _ _ hA
  have u_2 := frozen_of_row w2 (w.heap.size) 2 _ _ hA
  have u_3 := frozen_of_row w2 (w.heap.size) 3 _ _ hA
  have u_4 := frozen_of_row w2 (w.heap.size) 4 _ _ hA
  have u_5 := frozen_of_row w2 (w.heap.size) 5 _ _ hA
  have hA2 := heap_setCell_same w2 w.heap.size 4 _ _ (.slice B2 n2 k2) hA
  have hB2 : (w2.setCell ⟨w.heap.size, 4, none⟩ (.slice B2 n2 k2)).heap[w.heap.size + 1]? = some (.cells #[.int .i64 0, .int .i64 0, .int .i64 0, .slice none 0 0, .slice none 0 0, .slice none 0 0] 28 (0, 0)) := (Below.heap_setCell w2 ⟨w.heap.size, 4, none⟩ _ (w.heap.size + 1) (by simp)).trans hB
  have X2s := Lib.hid (X2.out.set' (p := ⟨w.heap.size, 4, none⟩) (Nat.le_refl _) (.slice B2 n2 k2))
  have HO1t := Lib.hid (HO1.out.set_below (q := ⟨w.heap.size, 4, none⟩) (by simp) (.slice B2 n2 k2))
  have HO2t := Lib.hid (HO2.out.set_below (q := ⟨w.heap.size, 4, none⟩) (by simp) (.slice B2 n2 k2))
  have HA3 := Lib.hid hA2; have HB3 := Lib.hid hB2
  clear hA hB hA2 hB2 hX2 ho2 hb2 hz HA2 HB2 X1s HO1s X1 X2 HO1 HO2
  go_wp2_with fail
  refine (copyParts_nil _ _ _).mono ?_
  rintro e w3 ⟨rfl, rfl⟩
  clear d0 u_0 d1 u_1 d2 u_2 d3 u_3 d4 u_4 d5 u_5
  generalize w2.setCell ⟨w.heap.size, 4, none⟩ (.slice B2 n2 k2) = w3 at *
  have hA : w3.heap[w.heap.size]? = some (.cells #[.int .i64 code, .int .i64 addr, .int .i64 count, .slice B1 n1 k1, .slice B2 n2 k2, .slice A3 0 c3] 28 (0, 0)) := HA3.out
  have d0 : w3.cell? ⟨w.heap.size, 0, none⟩ = some (.int .i64 code) := (cell_of_row _ _ _ _ _ _ hA).trans rfl
  have d1 : w3.cell? ⟨w.heap.size, 1, none⟩ = some (.int .i64 addr) := (cell_of_row _ _ _ _ _ _ hA).trans rfl
  have d2 : w3.cell? ⟨w.heap.size, 2, none⟩ = some (.int .i64 count) := (cell_of_row _ _ _ _ _ _ hA).trans rfl
  have d3 : w3.cell? ⟨w.heap.size, 3, none⟩ = some (.slice B1 n1 k1) := (cell_of_row _ _ _ _ _ _ hA).trans rfl
  have d4 : w3.cell? ⟨w.heap.size, 4, none⟩ = some (.slice B2 n2 k2) := (cell_of_row _ _ _ _ _ _ hA).trans rfl
  have d5 : w3.cell? ⟨w.heap.size, 5, none⟩ = some (.slice A3 0 c3) := (cell_of_row _ _ _ _ _ _ hA).trans rfl
  have u_0 := frozen_of_row w3 (w.heap.size) 0 _ _ hA
  have u_1 := frozen_of_row w3 (w.heap.size) 1 _ _ hA
  have u_2 := frozen_of_row w3 (w.heap.size) 2 _ _ hA
  have u_3 := frozen_of_row w3 (w.heap.size) 3 _ _ hA
  have u_4 := frozen_of_row w3 (w.heap.size) 4 _ _ hA
  have u_5 := frozen_of_row w3 (w.heap.size) 5 _ _ hA
  have f0 : w3.cell? ⟨w.heap.size + 1, 0, none⟩ = some (.int .i64 0) := (cell_of_row _ _ _ _ _ _ HB3.out).trans rfl
  have f1 : w3.cell? ⟨w.heap.size + 1, 1, none⟩ = some (.int .i64 0) := (cell_of_row _ _ _ _ _ _ HB3.out).trans rfl
  have f2 : w3.cell? ⟨w.heap.size + 1, 2, none⟩ = some (.int .i64 0) := (cell_of_row _ _ _ _ _ _ HB3.out).trans rfl
  have f3 : w3.cell? ⟨w.heap.size + 1, 3, none⟩ = some (.slice none 0 0) := (cell_of_row _ _ _ _ _ _ HB3.out).trans rfl
  have f4 : w3.cell? ⟨w.heap.size + 1, 4, none⟩ = some (.slice none 0 0) := (cell_of_row _ _ _ _ _ _ HB3.out).trans rfl
  have f5 : w3.cell? ⟨w.heap.size + 1, 5, none⟩ = some (.slice none 0 0) := (cell_of_row _ _ _ _ _ _ HB3.out).trans rfl
  have y_0 := frozen_of_row w3 (w.heap.size + 1) 0 _ _ HB3.out
  have y_1 := frozen_of_row w3 (w.heap.size + 1) 1 _ _ HB3.out
  have y_2 := frozen_of_row w3 (w.heap.size + 1) 2 _ _ HB3.out
  have y_3 := frozen_of_row w3 (w.heap.size + 1) 3 _ _ HB3.out
  have y_4 := frozen_of_row w3 (w.heap.size + 1) 4 _ _ HB3.out
  have y_5 := frozen_of_row w3 (w.heap.size + 1) 5 _ _ HB3.out
  clear hA
  go_wp2_with fail
  refine bodyPost_ret (v := askV ⟨code, addr, count, on, set, []⟩ ⟨B1, n1, k1, B2, n2, k2, none, 0, 0⟩) (by simp [results, Try.results24, go_sem, askV, *]) rfl ⟨⟨B1, n1, k1, B2, n2, k2, none, 0, 0⟩, rfl, ⟨?_, ?_, RdL.nil_ _ _ _, HR.out.code, HR.out.addr, HR.out.count, ⟨HO1t.out.cap, HO1t.out.capLe⟩, ⟨HO2t.out.cap, HO2t.out.capLe⟩, ⟨Nat.le_refl _, Nat.zero_le 9223372036854775807⟩⟩, ?_⟩
  · refine Own.rd (base := w.heap.size + 2) (e := 4) (p := IsBo) (c := k1) ?_
    repeat' (first | with_reducible exact HO1t.out | with_reducible refine Own.set_below ?_ (by simp) _)
  · refine Own.rd (base := w.heap.size + 2) (e := 45) (p := IsU16) (c := k2) ?_
    repeat' (first | with_reducible exact HO2t.out | with_reducible refine Own.set_below ?_ (by simp) _)
  · repeat' (first | with_reducible exact X2s.out | with_reducible refine Ext.set' ?_ (by simp) _)
end Go.Proofs.Yticcbnfgahjlpaa
