/- The walk of AskKnown. (genaskkn.py prints this.) -/
import Derived.Test.YtjmddiffeffgnaaAskEn
import Derived.Deep.RegionHeld3
namespace Go.Proofs.Ytjmddiffeffgnaa
set_option linter.unusedVariables false
set_option linter.unusedSimpArgs false
set_option maxRecDepth 100000
set_option maxHeartbeats 1000000
open Go Go.RowKit Go.Out

/-- What a line of the first table says. -/
def KnA (W : World) (gl gp k : Nat) (a : AskD) (s : AskS) (b : List UInt8) (g n : Nat) : Prop :=
  (W.cell? ⟨gl, k * 6, none⟩ = some (.int .i64 a.code) ∧ W.cell? ⟨gl, k * 6 + 1, none⟩ = some (.int .i64 a.addr) ∧ W.cell? ⟨gl, k * 6 + 2, none⟩ = some (.int .i64 a.count) ∧ W.cell? ⟨gl, k * 6 + 3, none⟩ = some (.slice s.A1 s.n1 s.c1) ∧ W.cell? ⟨gl, k * 6 + 4, none⟩ = some (.slice s.A2 s.n2 s.c2) ∧ W.cell? ⟨gl, k * 6 + 5, none⟩ = some (.slice s.A3 s.n3 s.c3)) ∧
  W.cell? ⟨gp, k, none⟩ = some (.slice (some ⟨g, 0, none⟩) n n) ∧ AskRd W a s ∧ Rd W (some ⟨g, 0, none⟩) n (b.map cB) ∧ n ≤ 16 ∧ putA a = (b, 0) ∧ getA b = (a, 0) ∧ a.parts.length ≤ 2 ∧ s.n1 ≤ 10 ∧ s.n2 ≤ 10 ∧ s.n3 ≤ 10
theorem kn_table (W : World) (g0 g1 g2 g3 g4 g5 g6 g7 g8 g9 : Nat) (h0 : W.heap[g0]? = some (.cells #[.bool true, .bool false, .bool true, .bool true, .bool false, .bool false, .bool true, .bool true, .bool true, .bool false] 4 (0, 0))) (h1 : W.heap[g1]? = some (.cells #[.bool true] 4 (0, 0))) (h2 : W.heap[g2]? = some (.cells #[.int .u16 10, .int .u16 258] 58 (0, 0))) (h3 : W.heap[g3]? = some (.cells #[.int .i64 4, .int .i64 1, .int .i64 2, .int .i64 3, .int .i64 9, .int .i64 2] 60 (0, 0))) (h4 : W.heap[g4]? = some (.cells #[.int .i64 5, .int .i64 172, .int .i64 0, .slice (some ⟨g1, 0, none⟩) 1 1, .slice none 0 0, .slice none 0 0, .int .i64 15, .int .i64 19, .int .i64 0, .slice (some ⟨g0, 0, none⟩) 10 10, .slice none 0 0, .slice none 0 0, .int .i64 16, .int .i64 1, .int .i64 0, .slice none 0 0, .slice (some ⟨g2, 0, none⟩) 2 2, .slice none 0 0, .int .i64 20, .int .i64 0, .int .i64 0, .slice none 0 0, .slice none 0 0, .slice (some ⟨g3, 0, none⟩) 2 2] 26 (0, 0))) (h5 : W.heap[g5]? = some (.cells #[.int .u8 5, .int .u8 0, .int .u8 172, .int .u8 255, .int .u8 0] 5 (0, 0))) (h6 : W.heap[g6]? = some (.cells #[.int .u8 15, .int .u8 0, .int .u8 19, .int .u8 0, .int .u8 10, .int .u8 2, .int .u8 205, .int .u8 1] 5 (0, 0))) (h7 : W.heap[g7]? = some (.cells #[.int .u8 16, .int .u8 0, .int .u8 1, .int .u8 0, .int .u8 2, .int .u8 4, .int .u8 0, .int .u8 10, .int .u8 1, .int .u8 2] 5 (0, 0))) (h8 : W.heap[g8]? = some (.cells #[.int .u8 20, .int .u8 14, .int .u8 6, .int .u8 0, .int .u8 4, .int .u8 0, .int .u8 1, .int .u8 0, .int .u8 2, .int .u8 6, .int .u8 0, .int .u8 3, .int .u8 0, .int .u8 9, .int .u8 0, .int .u8 2] 5 (0, 0))) (h9 : W.heap[g9]? = some (.cells #[.slice (some ⟨g5, 0, none⟩) 5 5, .slice (some ⟨g6, 0, none⟩) 8 8, .slice (some ⟨g7, 0, none⟩) 10 10, .slice (some ⟨g8, 0, none⟩) 16 16] 32 (0, 0))) : ∀ k, k < 4 → ∃ a s b g n, KnA W g4 g9 k a s b g n := by
  intro k hk
  have q : ∀ x : Int, -70000 ≤ x ∧ x ≤ 70000 → i64P x := fun x hx => by unfold i64P; omega
  have hc := fun j => cell_of_row W g4 j _ _ _ h4
  have hd := fun j => cell_of_row W g9 j _ _ _ h9
  match k, hk with
  | 0, _ => exact ⟨⟨5, 172, 0, [true], [], []⟩, ⟨some ⟨g1, 0, none⟩, 1, 1, none, 0, 0, none, 0, 0⟩, [5, 0, 172, 255, 0], g5, 5, ⟨hc 0, hc 1, hc 2, hc 3, hc 4, hc 5⟩, hd 0, askRdOn _ _ _ _ _ _ 1 (q _ (by omega)) (q _ (by omega)) (q _ (by omega)) (by omega) (Rd.of_heap (ys := []) h1 rfl rfl), Rd.of_heap (ys := []) h5 rfl rfl, by omega, by kernel_rfl, by kernel_rfl, by simp, by simp, by simp, by simp⟩
  | 1, _ => exact ⟨⟨15, 19, 0, [true, false, true, true, false, false, true, true, true, false], [], []⟩, ⟨some ⟨g0, 0, none⟩, 10, 10, none, 0, 0, none, 0, 0⟩, [15, 0, 19, 0, 10, 2, 205, 1], g6, 8, ⟨hc 6, hc 7, hc 8, hc 9, hc 10, hc 11⟩, hd 1, askRdOn _ _ _ _ _ _ 10 (q _ (by omega)) (q _ (by omega)) (q _ (by omega)) (by omega) (Rd.of_heap (ys := []) h0 rfl rfl), Rd.of_heap (ys := []) h6 rfl rfl, by omega, by kernel_rfl, by kernel_rfl, by simp, by simp, by simp, by simp⟩
  | 2, _ => exact ⟨⟨16, 1, 0, [], [10, 258], []⟩, ⟨none, 0, 0, some ⟨g2, 0, none⟩, 2, 2, none, 0, 0⟩, [16, 0, 1, 0, 2, 4, 0, 10, 1, 2], g7, 10, ⟨hc 12, hc 13, hc 14, hc 15, hc 16, hc 17⟩, hd 2, askRdSet _ _ _ _ _ _ 2 (q _ (by omega)) (q _ (by omega)) (q _ (by omega)) (by omega) (Rd.of_heap (ys := []) h2 rfl rfl), Rd.of_heap (ys := []) h7 rfl rfl, by omega, by kernel_rfl, by kernel_rfl, by simp, by simp, by simp, by simp⟩
  | 3, _ => exact ⟨⟨20, 0, 0, [], [], [⟨4, 1, 2⟩, ⟨3, 9, 2⟩]⟩, ⟨none, 0, 0, none, 0, 0, some ⟨g3, 0, none⟩, 2, 2⟩, [20, 14, 6, 0, 4, 0, 1, 0, 2, 6, 0, 3, 0, 9, 0, 2], g8, 16, ⟨hc 18, hc 19, hc 20, hc 21, hc 22, hc 23⟩, hd 3, askRdParts _ _ _ _ _ _ 2 (q _ (by omega)) (q _ (by omega)) (q _ (by omega)) (by omega) (rdl_heap h3 rfl rfl (by intro p hp; simp at hp; rcases hp with rfl | rfl <;> exact ⟨q _ (by simp), q _ (by simp), q _ (by simp)⟩)), Rd.of_heap (ys := []) h8 rfl rfl, by omega, by kernel_rfl, by kernel_rfl, by simp, by simp, by simp, by simp⟩
/-- What a line of the second table says. -/
def KnB (W : World) (gl gn k : Nat) (A : Option Addr) (n : Nat) (b : List UInt8) (x : Int) : Prop :=
  W.cell? ⟨gl, k, none⟩ = some (.slice A n n) ∧ W.cell? ⟨gn, k, none⟩ = some (.int .i64 x) ∧ Rd W A n (b.map cB) ∧ n ≤ 16 ∧ (getA b).2 = x
theorem kn_bad (W : World) (g0 g1 g2 g3 g4 g5 g6 g7 g8 g9 g10 g11 g12 : Nat) (h0 : W.heap[g0]? = some (.cells #[.int .u8 5, .int .u8 0, .int .u8 172, .int .u8 18, .int .u8 52] 5 (0, 0))) (h1 : W.heap[g1]? = some (.cells #[.int .u8 3, .int .u8 0, .int .u8 107, .int .u8 0] 5 (0, 0))) (h2 : W.heap[g2]? = some (.cells #[.int .u8 3, .int .u8 0, .int .u8 107, .int .u8 0, .int .u8 3, .int .u8 0] 5 (0, 0))) (h3 : W.heap[g3]? = some (.cells #[.int .u8 7] 5 (0, 0))) (h4 : W.heap[g4]? = some (.cells #[.int .u8 3, .int .u8 0, .int .u8 0, .int .u8 0, .int .u8 0] 5 (0, 0))) (h5 : W.heap[g5]? = some (.cells #[.int .u8 3, .int .u8 255, .int .u8 255, .int .u8 0, .int .u8 2] 5 (0, 0))) (h6 : W.heap[g6]? = some (.cells #[.int .u8 15, .int .u8 0, .int .u8 19, .int .u8 0, .int .u8 10, .int .u8 2, .int .u8 205, .int .u8 5] 5 (0, 0))) (h7 : W.heap[g7]? = some (.cells #[.int .u8 20] 5 (0, 0))) (h8 : W.heap[g8]? = some (.cells #[.int .u8 20, .int .u8 1, .int .u8 6] 5 (0, 0))) (h9 : W.heap[g9]? = some (.cells #[.int .u8 20, .int .u8 0] 5 (0, 0))) (h10 : W.heap[g10]? = some (.cells #[.int .u8 15, .int .u8 0, .int .u8 0, .int .u8 0, .int .u8 1] 5 (0, 0))) (h11 : W.heap[g11]? = some (.cells #[.slice none 0 0, .slice (some ⟨g0, 0, none⟩) 5 5, .slice (some ⟨g1, 0, none⟩) 4 4, .slice (some ⟨g2, 0, none⟩) 6 6, .slice (some ⟨g3, 0, none⟩) 1 1, .slice (some ⟨g4, 0, none⟩) 5 5, .slice (some ⟨g5, 0, none⟩) 5 5, .slice (some ⟨g6, 0, none⟩) 8 8, .slice (some ⟨g7, 0, none⟩) 1 1, .slice (some ⟨g8, 0, none⟩) 3 3, .slice (some ⟨g9, 0, none⟩) 2 2, .slice (some ⟨g10, 0, none⟩) 5 5] 32 (0, 0))) (h12 : W.heap[g12]? = some (.cells #[.int .i64 1, .int .i64 4, .int .i64 1, .int .i64 2, .int .i64 20, .int .i64 22, .int .i64 21, .int .i64 4, .int .i64 1, .int .i64 4, .int .i64 22, .int .i64 1] 3 (0, 0))) : ∀ k, k < 12 → ∃ A n b x, KnB W g11 g12 k A n b x := by
  intro k hk
  have hc := fun j => cell_of_row W g11 j _ _ _ h11
  have hd := fun j => cell_of_row W g12 j _ _ _ h12
  match k, hk with
  | 0, _ => exact ⟨none, 0, [], 1, hc 0, hd 0, Rd.nil_ _, by omega, by kernel_rfl⟩
  | 1, _ => exact ⟨some ⟨g0, 0, none⟩, 5, [5, 0, 172, 18, 52], 4, hc 1, hd 1, Rd.of_heap (ys := []) h0 rfl rfl, by omega, by kernel_rfl⟩
  | 2, _ => exact ⟨some ⟨g1, 0, none⟩, 4, [3, 0, 107, 0], 1, hc 2, hd 2, Rd.of_heap (ys := []) h1 rfl rfl, by omega, by kernel_rfl⟩
  | 3, _ => exact ⟨some ⟨g2, 0, none⟩, 6, [3, 0, 107, 0, 3, 0], 2, hc 3, hd 3, Rd.of_heap (ys := []) h2 rfl rfl, by omega, by kernel_rfl⟩
  | 4, _ => exact ⟨some ⟨g3, 0, none⟩, 1, [7], 20, hc 4, hd 4, Rd.of_heap (ys := []) h3 rfl rfl, by omega, by kernel_rfl⟩
  | 5, _ => exact ⟨some ⟨g4, 0, none⟩, 5, [3, 0, 0, 0, 0], 22, hc 5, hd 5, Rd.of_heap (ys := []) h4 rfl rfl, by omega, by kernel_rfl⟩
  | 6, _ => exact ⟨some ⟨g5, 0, none⟩, 5, [3, 255, 255, 0, 2], 21, hc 6, hd 6, Rd.of_heap (ys := []) h5 rfl rfl, by omega, by kernel_rfl⟩
  | 7, _ => exact ⟨some ⟨g6, 0, none⟩, 8, [15, 0, 19, 0, 10, 2, 205, 5], 4, hc 7, hd 7, Rd.of_heap (ys := []) h6 rfl rfl, by omega, by kernel_rfl⟩
  | 8, _ => exact ⟨some ⟨g7, 0, none⟩, 1, [20], 1, hc 8, hd 8, Rd.of_heap (ys := []) h7 rfl rfl, by omega, by kernel_rfl⟩
  | 9, _ => exact ⟨some ⟨g8, 0, none⟩, 3, [20, 1, 6], 4, hc 9, hd 9, Rd.of_heap (ys := []) h8 rfl rfl, by omega, by kernel_rfl⟩
  | 10, _ => exact ⟨some ⟨g9, 0, none⟩, 2, [20, 0], 22, hc 10, hd 10, Rd.of_heap (ys := []) h9 rfl rfl, by omega, by kernel_rfl⟩
  | 11, _ => exact ⟨some ⟨g10, 0, none⟩, 5, [15, 0, 0, 0, 1], 1, hc 11, hd 11, Rd.of_heap (ys := []) h10 rfl rfl, by omega, by kernel_rfl⟩

theorem ask_cells2 {W : World} {g : Nat} {t : TypeId} {v0 v1 v2 v3 v4 v5 : Value} (h : W.heap[g]? = some (.cells #[v0, v1, v2, v3, v4, v5] t (0, 0))) :
    W.cell? ⟨g, 0, none⟩ = some v0 ∧ W.cell? ⟨g, 1, none⟩ = some v1 ∧ W.cell? ⟨g, 2, none⟩ = some v2 ∧ W.cell? ⟨g, 3, none⟩ = some v3 ∧ W.cell? ⟨g, 4, none⟩ = some v4 ∧ W.cell? ⟨g, 5, none⟩ = some v5 :=
  ⟨cell_of_row _ _ _ _ _ _ h, cell_of_row _ _ _ _ _ _ h, cell_of_row _ _ _ _ _ _ h, cell_of_row _ _ _ _ _ _ h, cell_of_row _ _ _ _ _ _ h, cell_of_row _ _ _ _ _ _ h⟩

theorem lawAskKnown (w : World) : Calls Try.prog 8 #[] w (RetQ w true) := by
  go_enter Try.func8, Try.ntmps8
  go_wp2_with fail
  obtain ⟨V, hV⟩ : ∃ V, ((((((((((w.alloc (.cells #[.bool true, .bool false, .bool true, .bool true, .bool false, .bool false, .bool true, .bool true, .bool true, .bool false] 4)).alloc (.cells #[.bool true] 4)).alloc (.cells #[.int .u16 10, .int .u16 258] 58)).alloc (.cells #[.int .i64 4, .int .i64 1, .int .i64 2, .int .i64 3, .int .i64 9, .int .i64 2] 60)).alloc (.cells #[.int .i64 5, .int .i64 172, .int .i64 0, .slice (some ⟨w.heap.size + 1, 0, none⟩) 1 1, .slice none 0 0, .slice none 0 0, .int .i64 15, .int .i64 19, .int .i64 0, .slice (some ⟨w.heap.size, 0, none⟩) 10 10, .slice none 0 0, .slice none 0 0, .int .i64 16, .int .i64 1, .int .i64 0, .slice none 0 0, .slice (some ⟨w.heap.size + 1 + 1, 0, none⟩) 2 2, .slice none 0 0, .int .i64 20, .int .i64 0, .int .i64 0, .slice none 0 0, .slice none 0 0, .slice (some ⟨w.heap.size + 1 + 1 + 1, 0, none⟩) 2 2] 26)).alloc (.cells #[.int .u8 5, .int .u8 0, .int .u8 172, .int .u8 255, .int .u8 0] 5)).alloc (.cells #[.int .u8 15, .int .u8 0, .int .u8 19, .int .u8 0, .int .u8 10, .int .u8 2, .int .u8 205, .int .u8 1] 5)).alloc (.cells #[.int .u8 16, .int .u8 0, .int .u8 1, .int .u8 0, .int .u8 2, .int .u8 4, .int .u8 0, .int .u8 10, .int .u8 1, .int .u8 2] 5)).alloc (.cells #[.int .u8 20, .int .u8 14, .int .u8 6, .int .u8 0, .int .u8 4, .int .u8 0, .int .u8 1, .int .u8 0, .int .u8 2, .int .u8 6, .int .u8 0, .int .u8 3, .int .u8 0, .int .u8 9, .int .u8 0, .int .u8 2] 5)).alloc (.cells #[.slice (some ⟨w.heap.size + 1 + 1 + 1 + 1 + 1, 0, none⟩) 5 5, .slice (some ⟨w.heap.size + 1 + 1 + 1 + 1 + 1 + 1, 0, none⟩) 8 8, .slice (some ⟨w.heap.size + 1 + 1 + 1 + 1 + 1 + 1 + 1, 0, none⟩) 10 10, .slice (some ⟨w.heap.size + 1 + 1 + 1 + 1 + 1 + 1 + 1 + 1, 0, none⟩) 16 16] 32)) = V := ⟨_, rfl⟩
  have hk0 : V.heap[w.heap.size]? = some (.cells #[.bool true, .bool false, .bool true, .bool true, .bool false, .bool false, .bool true, .bool true, .bool true, .bool false] 4 (0, 0)) := by rw [← hV]; exact (Ext.alloc _ _).block ((Ext.alloc _ _).block ((Ext.alloc _ _).block ((Ext.alloc _ _).block ((Ext.alloc _ _).block ((Ext.alloc _ _).block ((Ext.alloc _ _).block ((Ext.alloc _ _).block ((Ext.alloc _ _).block (heap_at _ _ _ (by simp))))))))))
  have hk1 : V.heap[w.heap.size + 1]? = some (.cells #[.bool true] 4 (0, 0)) := by rw [← hV]; exact (Ext.alloc _ _).block ((Ext.alloc _ _).block ((Ext.alloc _ _).block ((Ext.alloc _ _).block ((Ext.alloc _ _).block ((Ext.alloc _ _).block ((Ext.alloc _ _).block ((Ext.alloc _ _).block (heap_at _ _ _ (by simp)))))))))
  have hk2 : V.heap[w.heap.size + 1 + 1]? = some (.cells #[.int .u16 10, .int .u16 258] 58 (0, 0)) := by rw [← hV]; exact (Ext.alloc _ _).block ((Ext.alloc _ _).block ((Ext.alloc _ _).block ((Ext.alloc _ _).block ((Ext.alloc _ _).block ((Ext.alloc _ _).block ((Ext.alloc _ _).block (heap_at _ _ _ (by simp))))))))
  have hk3 : V.heap[w.heap.size + 1 + 1 + 1]? = some (.cells #[.int .i64 4, .int .i64 1, .int .i64 2, .int .i64 3, .int .i64 9, .int .i64 2] 60 (0, 0)) := by rw [← hV]; exact (Ext.alloc _ _).block ((Ext.alloc _ _).block ((Ext.alloc _ _).block ((Ext.alloc _ _).block ((Ext.alloc _ _).block ((Ext.alloc _ _).block (heap_at _ _ _ (by simp)))))))
  have hk4 : V.heap[w.heap.size + 1 + 1 + 1 + 1]? = some (.cells #[.int .i64 5, .int .i64 172, .int .i64 0, .slice (some ⟨w.heap.size + 1, 0, none⟩) 1 1, .slice none 0 0, .slice none 0 0, .int .i64 15, .int .i64 19, .int .i64 0, .slice (some ⟨w.heap.size, 0, none⟩) 10 10, .slice none 0 0, .slice none 0 0, .int .i64 16, .int .i64 1, .int .i64 0, .slice none 0 0, .slice (some ⟨w.heap.size + 1 + 1, 0, none⟩) 2 2, .slice none 0 0, .int .i64 20, .int .i64 0, .int .i64 0, .slice none 0 0, .slice none 0 0, .slice (some ⟨w.heap.size + 1 + 1 + 1, 0, none⟩) 2 2] 26 (0, 0)) := by rw [← hV]; exact (Ext.alloc _ _).block ((Ext.alloc _ _).block ((Ext.alloc _ _).block ((Ext.alloc _ _).block ((Ext.alloc _ _).block (heap_at _ _ _ (by simp))))))
  have hk5 : V.heap[w.heap.size + 1 + 1 + 1 + 1 + 1]? = some (.cells #[.int .u8 5, .int .u8 0, .int .u8 172, .int .u8 255, .int .u8 0] 5 (0, 0)) := by rw [← hV]; exact (Ext.alloc _ _).block ((Ext.alloc _ _).block ((Ext.alloc _ _).block ((Ext.alloc _ _).block (heap_at _ _ _ (by simp)))))
  have hk6 : V.heap[w.heap.size + 1 + 1 + 1 + 1 + 1 + 1]? = some (.cells #[.int .u8 15, .int .u8 0, .int .u8 19, .int .u8 0, .int .u8 10, .int .u8 2, .int .u8 205, .int .u8 1] 5 (0, 0)) := by rw [← hV]; exact (Ext.alloc _ _).block ((Ext.alloc _ _).block ((Ext.alloc _ _).block (heap_at _ _ _ (by simp))))
  have hk7 : V.heap[w.heap.size + 1 + 1 + 1 + 1 + 1 + 1 + 1]? = some (.cells #[.int .u8 16, .int .u8 0, .int .u8 1, .int .u8 0, .int .u8 2, .int .u8 4, .int .u8 0, .int .u8 10, .int .u8 1, .int .u8 2] 5 (0, 0)) := by rw [← hV]; exact (Ext.alloc _ _).block ((Ext.alloc _ _).block (heap_at _ _ _ (by simp)))
  have hk8 : V.heap[w.heap.size + 1 + 1 + 1 + 1 + 1 + 1 + 1 + 1]? = some (.cells #[.int .u8 20, .int .u8 14, .int .u8 6, .int .u8 0, .int .u8 4, .int .u8 0, .int .u8 1, .int .u8 0, .int .u8 2, .int .u8 6, .int .u8 0, .int .u8 3, .int .u8 0, .int .u8 9, .int .u8 0, .int .u8 2] 5 (0, 0)) := by rw [← hV]; exact (Ext.alloc _ _).block (heap_at _ _ _ (by simp))
  have hk9 : V.heap[w.heap.size + 1 + 1 + 1 + 1 + 1 + 1 + 1 + 1 + 1]? = some (.cells #[.slice (some ⟨w.heap.size + 1 + 1 + 1 + 1 + 1, 0, none⟩) 5 5, .slice (some ⟨w.heap.size + 1 + 1 + 1 + 1 + 1 + 1, 0, none⟩) 8 8, .slice (some ⟨w.heap.size + 1 + 1 + 1 + 1 + 1 + 1 + 1, 0, none⟩) 10 10, .slice (some ⟨w.heap.size + 1 + 1 + 1 + 1 + 1 + 1 + 1 + 1, 0, none⟩) 16 16] 32 (0, 0)) := by rw [← hV]; exact heap_at _ _ _ (by simp)
  have HT : Hid (∀ W, Ext V W → ∀ k, k < 4 → ∃ a s b g n, KnA W (w.heap.size + 1 + 1 + 1 + 1) (w.heap.size + 1 + 1 + 1 + 1 + 1 + 1 + 1 + 1 + 1) k a s b g n) := fun W hX => kn_table W (w.heap.size) (w.heap.size + 1) (w.heap.size + 1 + 1) (w.heap.size + 1 + 1 + 1) (w.heap.size + 1 + 1 + 1 + 1) (w.heap.size + 1 + 1 + 1 + 1 + 1) (w.heap.size + 1 + 1 + 1 + 1 + 1 + 1) (w.heap.size + 1 + 1 + 1 + 1 + 1 + 1 + 1) (w.heap.size + 1 + 1 + 1 + 1 + 1 + 1 + 1 + 1) (w.heap.size + 1 + 1 + 1 + 1 + 1 + 1 + 1 + 1 + 1) (hX.block hk0) (hX.block hk1) (hX.block hk2) (hX.block hk3) (hX.block hk4) (hX.block hk5) (hX.block hk6) (hX.block hk7) (hX.block hk8) (hX.block hk9)
  clear hk0 hk1 hk2 hk3 hk4 hk5 hk6 hk7 hk8 hk9
  have XV : Hid (Ext w V) := by rw [← hV]; exact ((Ext.alloc _ _).trans ((Ext.alloc _ _).trans ((Ext.alloc _ _).trans ((Ext.alloc _ _).trans ((Ext.alloc _ _).trans ((Ext.alloc _ _).trans ((Ext.alloc _ _).trans ((Ext.alloc _ _).trans ((Ext.alloc _ _).trans ((Ext.alloc _ _)))))))))))
  have hzl : w.heap.size + 1 + 1 + 1 + 1 < V.heap.size := by rw [← hV]; simp
  have hzp : w.heap.size + 1 + 1 + 1 + 1 + 1 + 1 + 1 + 1 + 1 < V.heap.size := by rw [← hV]; simp
  rw [hV]
  clear hV
  obtain ⟨gl, hgl⟩ : ∃ gl, w.heap.size + 1 + 1 + 1 + 1 = gl := ⟨_, rfl⟩
  obtain ⟨gp, hgp⟩ : ∃ gp, w.heap.size + 1 + 1 + 1 + 1 + 1 + 1 + 1 + 1 + 1 = gp := ⟨_, rfl⟩
  rw [hgp, hgl] at HT
  rw [hgp] at hzp ⊢
  rw [hgl] at hzl ⊢
  clear hgl hgp
  go_loopw [4, 5, 6, 7, 8] (fun i b e p f wr => ∃ k : Nat, k ≤ 4 ∧ i = .int .i64 (k : Int) ∧ Ext V wr) (fun i _ _ _ _ _ => 4 - (intOf i).toNat)
  case atStart => exact ⟨0, by omega, rfl, Ext.refl _⟩
  case round =>
    obtain ⟨k, hk, rfl, hx⟩ := hrel
    rcases Nat.lt_or_ge k 4 with hlt | hge
    · obtain ⟨⟨code, addr, count, on, set, parts⟩, ⟨A1, n1, c1, A2, n2, c2, A3, n3, c3⟩, b, g, n, hK⟩ := HT.out wr hx k hlt
      obtain ⟨⟨d0, d1, d2, d3, d4, d5⟩, hp, hra, hrb, hn, hput, hget, hpl, q1, q2, q3⟩ := hK
      simp only at d0 d1 d2 d3 d4 d5 hpl q1 q2 q3
      have HSS : Hid (∀ W, Ext wr W → (W.cell? ⟨gl, k * 6, none⟩ = some (.int .i64 code) ∧ W.cell? ⟨gl, k * 6 + 1, none⟩ = some (.int .i64 addr) ∧ W.cell? ⟨gl, k * 6 + 2, none⟩ = some (.int .i64 count) ∧ W.cell? ⟨gl, k * 6 + 3, none⟩ = some (.slice A1 n1 c1) ∧ W.cell? ⟨gl, k * 6 + 4, none⟩ = some (.slice A2 n2 c2) ∧ W.cell? ⟨gl, k * 6 + 5, none⟩ = some (.slice A3 n3 c3)) ∧ W.cell? ⟨gp, k, none⟩ = some (.slice (some ⟨g, 0, none⟩) n n)) := by
        have hzw := hx.size
        exact fun W hX => ⟨⟨hX.cell (by omega) d0, hX.cell (by omega) d1, hX.cell (by omega) d2, hX.cell (by omega) d3, hX.cell (by omega) d4, hX.cell (by omega) d5⟩, hX.cell (by omega) hp⟩
      have HRA := Lib.hid hra
      have HRB := Lib.hid hrb
      have HP := Lib.hid (askPut_any ⟨code, addr, count, on, set, parts⟩ ⟨A1, n1, c1, A2, n2, c2, A3, n3, c3⟩ wr hra)
      rw [hput] at HP
      have HG := Lib.hid (fun W (hX : Ext wr W) => askGet_any b (some ⟨g, 0, none⟩) n n W (hrb.ext hX) (Nat.le_refl _) (by omega) (by omega))
      rw [hget] at HG
      have HPL := Lib.hid hpl
      have X0 := Lib.hid hx
      have H1 := Lib.hid q1; have H2 := Lib.hid q2; have H3 := Lib.hid q3; have HN := Lib.hid hn
      clear hra hrb hput hget hpl hx q1 q2 q3 hn HT hp
      simp only [askV] at HP
      go_wp2_with fail
      refine HP.out.mono ?_
      rintro e w1 ⟨A4, n4, c4, rfl, ho, hx1⟩
      have HO := Lib.hid ho
      have X1 := Lib.hid hx1
      clear ho hx1 d0 d1 d2 d3 d4 d5
      obtain ⟨⟨d0, d1, d2, d3, d4, d5⟩, hp⟩ := HSS.out _ X1.out
      go_wp2_with fail
      refine (HG.out _ X1.out).mono ?_
      rintro e w2 ⟨⟨B1, m1, k1, B2, m2, k2, B3, m3, k3⟩, rfl, hw2, hx2⟩
      have HW2 := Lib.hid hw2
      have X2 := Lib.hid hx2
      clear hw2 hx2 d0 d1 d2 d3 d4 d5 hp
      simp only [askV] at HW2 ⊢
      have HB := Lib.hid (heap_alloc_new w2 (.cells #[.int .i64 code, .int .i64 addr, .int .i64 count, .slice B1 m1 k1, .slice B2 m2 k2, .slice B3 m3 k3] 26))
      obtain ⟨V2, hV2⟩ : ∃ V2, w2.alloc (.cells #[.int .i64 code, .int .i64 addr, .int .i64 count, .slice B1 m1 k1, .slice B2 m2 k2, .slice B3 m3 k3] 26) = V2 := ⟨_, rfl⟩
      have XB := Lib.hid (show Ext w2 V2 from hV2 ▸ Ext.alloc _ _)
      rw [hV2] at HB
      have hz2 : w2.heap.size < V2.heap.size := lt_of_heap HB.out
      have HS3 : Hid (∀ W, Ext V2 W → (W.cell? ⟨gl, k * 6, none⟩ = some (.int .i64 code) ∧ W.cell? ⟨gl, k * 6 + 1, none⟩ = some (.int .i64 addr) ∧ W.cell? ⟨gl, k * 6 + 2, none⟩ = some (.int .i64 count) ∧ W.cell? ⟨gl, k * 6 + 3, none⟩ = some (.slice A1 n1 c1) ∧ W.cell? ⟨gl, k * 6 + 4, none⟩ = some (.slice A2 n2 c2) ∧ W.cell? ⟨gl, k * 6 + 5, none⟩ = some (.slice A3 n3 c3)) ∧ W.cell? ⟨gp, k, none⟩ = some (.slice (some ⟨g, 0, none⟩) n n) ∧ (W.cell? ⟨w2.heap.size, 0, none⟩ = some (.int .i64 code) ∧ W.cell? ⟨w2.heap.size, 1, none⟩ = some (.int .i64 addr) ∧ W.cell? ⟨w2.heap.size, 2, none⟩ = some (.int .i64 count) ∧ W.cell? ⟨w2.heap.size, 3, none⟩ = some (.slice B1 m1 k1) ∧ W.cell? ⟨w2.heap.size, 4, none⟩ = some (.slice B2 m2 k2) ∧ W.cell? ⟨w2.heap.size, 5, none⟩ = some (.slice B3 m3 k3))) := fun W hX => by
        obtain ⟨h1, h2⟩ := HSS.out W (X1.out.trans (X2.out.trans (XB.out.trans hX)))
        exact ⟨h1, h2, ask_cells2 (hX.block HB.out)⟩
      have HSB : Hid (∀ W, Ext V2 W → Calls Try.prog 29 #[.slice A4 n4 c4, .slice (some ⟨g, 0, none⟩) n n] W (RetQ W true)) := fun W hX => (same_any b b A4 _ n4 n c4 n W (HO.out.rd.ext (X2.out.trans (XB.out.trans hX))) (HRB.out.ext (X1.out.trans (X2.out.trans (XB.out.trans hX)))) (Nat.le_trans HO.out.cap HO.out.capLe)).mono (fun e w' ⟨h1, h2⟩ => ⟨by rw [h1, decide_eq_true rfl], Ext.of h2⟩)
      have HSA := Lib.hid (fun W (hX : Ext V2 W) => sameAsk_eq ⟨code, addr, count, on, set, parts⟩ ⟨B1, m1, k1, B2, m2, k2, B3, m3, k3⟩ ⟨A1, n1, c1, A2, n2, c2, A3, n3, c3⟩ W (HW2.out.rd.ext (XB.out.trans hX)) (HRA.out.ext (X1.out.trans (X2.out.trans (XB.out.trans hX)))) (by have := HW2.out.rd.cap1; simp only at this ⊢; omega) (by have := HW2.out.rd.cap2; simp only at this ⊢; omega) (by have := HW2.out.rd.n3; have h := HPL.out; simp only at this ⊢; omega))
      simp only [askV] at HSA
      obtain ⟨⟨d0, d1, d2, d3, d4, d5⟩, hp, f0, f1, f2, f3, f4, f5⟩ := HS3.out _ (Ext.refl _)
      have h00 : ((0 : Int) != 0) = false := by simp
      have hzl2 : gl < V2.heap.size := Nat.lt_of_lt_of_le hzl (X0.out.trans (X1.out.trans (X2.out.trans XB.out))).size
      have hzp2 : gp < V2.heap.size := Nat.lt_of_lt_of_le hzp (X0.out.trans (X1.out.trans (X2.out.trans XB.out))).size
      go_wp2_with fail
      clear hV2
      go_region_held3 (fun W => (W.cell? ⟨gl, k * 6, none⟩ = some (.int .i64 code) ∧ W.cell? ⟨gl, k * 6 + 1, none⟩ = some (.int .i64 addr) ∧ W.cell? ⟨gl, k * 6 + 2, none⟩ = some (.int .i64 count) ∧ W.cell? ⟨gl, k * 6 + 3, none⟩ = some (.slice A1 n1 c1) ∧ W.cell? ⟨gl, k * 6 + 4, none⟩ = some (.slice A2 n2 c2) ∧ W.cell? ⟨gl, k * 6 + 5, none⟩ = some (.slice A3 n3 c3)) ∧ W.cell? ⟨gp, k, none⟩ = some (.slice (some ⟨g, 0, none⟩) n n) ∧ (W.cell? ⟨w2.heap.size, 0, none⟩ = some (.int .i64 code) ∧ W.cell? ⟨w2.heap.size, 1, none⟩ = some (.int .i64 addr) ∧ W.cell? ⟨w2.heap.size, 2, none⟩ = some (.int .i64 count) ∧ W.cell? ⟨w2.heap.size, 3, none⟩ = some (.slice B1 m1 k1) ∧ W.cell? ⟨w2.heap.size, 4, none⟩ = some (.slice B2 m2 k2) ∧ W.cell? ⟨w2.heap.size, 5, none⟩ = some (.slice B3 m3 k3))) (first | go_keep | exact HS3.out _ X6.out | exact HS3.out _ X7.out) ((first
        | (go_at_call 29
           with_reducible refine Calls.mono (HSB.out _ (by repeat' (first | with_reducible exact Ext.refl _ | with_reducible refine Ext.drew' ?_ | with_reducible refine Ext.alloc' ?_ _))) ?_
           rintro e w6 ⟨rfl, hx6⟩
           have X6 : Hid (Ext V2 w6) := Ext.trans (by repeat' (first | with_reducible exact Ext.refl _ | with_reducible refine Ext.drew' ?_ | with_reducible refine Ext.alloc' ?_ _)) hx6
           clear hx6)
        | (go_at_call 37
           with_reducible refine Calls.mono (HSA.out _ (by repeat' (first | with_reducible exact X6.out | with_reducible refine Ext.drew' ?_ | with_reducible refine Ext.alloc' ?_ _))) ?_
           rintro e w7 ⟨rfl, hx7⟩
           have X7 : Hid (Ext V2 w7) := Ext.trans (by repeat' (first | with_reducible exact X6.out | with_reducible refine Ext.drew' ?_ | with_reducible refine Ext.alloc' ?_ _)) hx7
           clear hx7)))
      clear d0 d1 d2 d3 d4 d5 hp f0 f1 f2 f3 f4 f5
      go_wp2_with fail
      go_roundw
      case rel => exact ⟨k + 1, by omega, by go_num, X0.out.trans (X1.out.trans (X2.out.trans (XB.out.trans X7.out)))⟩
      case measure => simp [intOf]; omega
    · obtain rfl : k = 4 := by omega
      have X0 := Lib.hid hx
      clear hx HT hk hge
      go_wp2_with fail
      obtain ⟨V2, hV2⟩ : ∃ V2, (((((((((((((wr.alloc (.cells #[.int .u8 5, .int .u8 0, .int .u8 172, .int .u8 18, .int .u8 52] 5)).alloc (.cells #[.int .u8 3, .int .u8 0, .int .u8 107, .int .u8 0] 5)).alloc (.cells #[.int .u8 3, .int .u8 0, .int .u8 107, .int .u8 0, .int .u8 3, .int .u8 0] 5)).alloc (.cells #[.int .u8 7] 5)).alloc (.cells #[.int .u8 3, .int .u8 0, .int .u8 0, .int .u8 0, .int .u8 0] 5)).alloc (.cells #[.int .u8 3, .int .u8 255, .int .u8 255, .int .u8 0, .int .u8 2] 5)).alloc (.cells #[.int .u8 15, .int .u8 0, .int .u8 19, .int .u8 0, .int .u8 10, .int .u8 2, .int .u8 205, .int .u8 5] 5)).alloc (.cells #[.int .u8 20] 5)).alloc (.cells #[.int .u8 20, .int .u8 1, .int .u8 6] 5)).alloc (.cells #[.int .u8 20, .int .u8 0] 5)).alloc (.cells #[.int .u8 15, .int .u8 0, .int .u8 0, .int .u8 0, .int .u8 1] 5)).alloc (.cells #[.slice none 0 0, .slice (some ⟨wr.heap.size, 0, none⟩) 5 5, .slice (some ⟨wr.heap.size + 1, 0, none⟩) 4 4, .slice (some ⟨wr.heap.size + 1 + 1, 0, none⟩) 6 6, .slice (some ⟨wr.heap.size + 1 + 1 + 1, 0, none⟩) 1 1, .slice (some ⟨wr.heap.size + 1 + 1 + 1 + 1, 0, none⟩) 5 5, .slice (some ⟨wr.heap.size + 1 + 1 + 1 + 1 + 1, 0, none⟩) 5 5, .slice (some ⟨wr.heap.size + 1 + 1 + 1 + 1 + 1 + 1, 0, none⟩) 8 8, .slice (some ⟨wr.heap.size + 1 + 1 + 1 + 1 + 1 + 1 + 1, 0, none⟩) 1 1, .slice (some ⟨wr.heap.size + 1 + 1 + 1 + 1 + 1 + 1 + 1 + 1, 0, none⟩) 3 3, .slice (some ⟨wr.heap.size + 1 + 1 + 1 + 1 + 1 + 1 + 1 + 1 + 1, 0, none⟩) 2 2, .slice (some ⟨wr.heap.size + 1 + 1 + 1 + 1 + 1 + 1 + 1 + 1 + 1 + 1, 0, none⟩) 5 5] 32)).alloc (.cells #[.int .i64 1, .int .i64 4, .int .i64 1, .int .i64 2, .int .i64 20, .int .i64 22, .int .i64 21, .int .i64 4, .int .i64 1, .int .i64 4, .int .i64 22, .int .i64 1] 3)) = V2 := ⟨_, rfl⟩
      have hk0 : V2.heap[wr.heap.size]? = some (.cells #[.int .u8 5, .int .u8 0, .int .u8 172, .int .u8 18, .int .u8 52] 5 (0, 0)) := by rw [← hV2]; exact (Ext.alloc _ _).block ((Ext.alloc _ _).block ((Ext.alloc _ _).block ((Ext.alloc _ _).block ((Ext.alloc _ _).block ((Ext.alloc _ _).block ((Ext.alloc _ _).block ((Ext.alloc _ _).block ((Ext.alloc _ _).block ((Ext.alloc _ _).block ((Ext.alloc _ _).block ((Ext.alloc _ _).block (heap_at _ _ _ (by simp)))))))))))))
      have hk1 : V2.heap[wr.heap.size + 1]? = some (.cells #[.int .u8 3, .int .u8 0, .int .u8 107, .int .u8 0] 5 (0, 0)) := by rw [← hV2]; exact (Ext.alloc _ _).block ((Ext.alloc _ _).block ((Ext.alloc _ _).block ((Ext.alloc _ _).block ((Ext.alloc _ _).block ((Ext.alloc _ _).block ((Ext.alloc _ _).block ((Ext.alloc _ _).block ((Ext.alloc _ _).block ((Ext.alloc _ _).block ((Ext.alloc _ _).block (heap_at _ _ _ (by simp))))))))))))
      have hk2 : V2.heap[wr.heap.size + 1 + 1]? = some (.cells #[.int .u8 3, .int .u8 0, .int .u8 107, .int .u8 0, .int .u8 3, .int .u8 0] 5 (0, 0)) := by rw [← hV2]; exact (Ext.alloc _ _).block ((Ext.alloc _ _).block ((Ext.alloc _ _).block ((Ext.alloc _ _).block ((Ext.alloc _ _).block ((Ext.alloc _ _).block ((Ext.alloc _ _).block ((Ext.alloc _ _).block ((Ext.alloc _ _).block ((Ext.alloc _ _).block (heap_at _ _ _ (by simp)))))))))))
      have hk3 : V2.heap[wr.heap.size + 1 + 1 + 1]? = some (.cells #[.int .u8 7] 5 (0, 0)) := by rw [← hV2]; exact (Ext.alloc _ _).block ((Ext.alloc _ _).block ((Ext.alloc _ _).block ((Ext.alloc _ _).block ((Ext.alloc _ _).block ((Ext.alloc _ _).block ((Ext.alloc _ _).block ((Ext.alloc _ _).block ((Ext.alloc _ _).block (heap_at _ _ _ (by simp))))))))))
      have hk4 : V2.heap[wr.heap.size + 1 + 1 + 1 + 1]? = some (.cells #[.int .u8 3, .int .u8 0, .int .u8 0, .int .u8 0, .int .u8 0] 5 (0, 0)) := by rw [← hV2]; exact (Ext.alloc _ _).block ((Ext.alloc _ _).block ((Ext.alloc _ _).block ((Ext.alloc _ _).block ((Ext.alloc _ _).block ((Ext.alloc _ _).block ((Ext.alloc _ _).block ((Ext.alloc _ _).block (heap_at _ _ _ (by simp)))))))))
      have hk5 : V2.heap[wr.heap.size + 1 + 1 + 1 + 1 + 1]? = some (.cells #[.int .u8 3, .int .u8 255, .int .u8 255, .int .u8 0, .int .u8 2] 5 (0, 0)) := by rw [← hV2]; exact (Ext.alloc _ _).block ((Ext.alloc _ _).block ((Ext.alloc _ _).block ((Ext.alloc _ _).block ((Ext.alloc _ _).block ((Ext.alloc _ _).block ((Ext.alloc _ _).block (heap_at _ _ _ (by simp))))))))
      have hk6 : V2.heap[wr.heap.size + 1 + 1 + 1 + 1 + 1 + 1]? = some (.cells #[.int .u8 15, .int .u8 0, .int .u8 19, .int .u8 0, .int .u8 10, .int .u8 2, .int .u8 205, .int .u8 5] 5 (0, 0)) := by rw [← hV2]; exact (Ext.alloc _ _).block ((Ext.alloc _ _).block ((Ext.alloc _ _).block ((Ext.alloc _ _).block ((Ext.alloc _ _).block ((Ext.alloc _ _).block (heap_at _ _ _ (by simp)))))))
      have hk7 : V2.heap[wr.heap.size + 1 + 1 + 1 + 1 + 1 + 1 + 1]? = some (.cells #[.int .u8 20] 5 (0, 0)) := by rw [← hV2]; exact (Ext.alloc _ _).block ((Ext.alloc _ _).block ((Ext.alloc _ _).block ((Ext.alloc _ _).block ((Ext.alloc _ _).block (heap_at _ _ _ (by simp))))))
      have hk8 : V2.heap[wr.heap.size + 1 + 1 + 1 + 1 + 1 + 1 + 1 + 1]? = some (.cells #[.int .u8 20, .int .u8 1, .int .u8 6] 5 (0, 0)) := by rw [← hV2]; exact (Ext.alloc _ _).block ((Ext.alloc _ _).block ((Ext.alloc _ _).block ((Ext.alloc _ _).block (heap_at _ _ _ (by simp)))))
      have hk9 : V2.heap[wr.heap.size + 1 + 1 + 1 + 1 + 1 + 1 + 1 + 1 + 1]? = some (.cells #[.int .u8 20, .int .u8 0] 5 (0, 0)) := by rw [← hV2]; exact (Ext.alloc _ _).block ((Ext.alloc _ _).block ((Ext.alloc _ _).block (heap_at _ _ _ (by simp))))
      have hk10 : V2.heap[wr.heap.size + 1 + 1 + 1 + 1 + 1 + 1 + 1 + 1 + 1 + 1]? = some (.cells #[.int .u8 15, .int .u8 0, .int .u8 0, .int .u8 0, .int .u8 1] 5 (0, 0)) := by rw [← hV2]; exact (Ext.alloc _ _).block ((Ext.alloc _ _).block (heap_at _ _ _ (by simp)))
      have hk11 : V2.heap[wr.heap.size + 1 + 1 + 1 + 1 + 1 + 1 + 1 + 1 + 1 + 1 + 1]? = some (.cells #[.slice none 0 0, .slice (some ⟨wr.heap.size, 0, none⟩) 5 5, .slice (some ⟨wr.heap.size + 1, 0, none⟩) 4 4, .slice (some ⟨wr.heap.size + 1 + 1, 0, none⟩) 6 6, .slice (some ⟨wr.heap.size + 1 + 1 + 1, 0, none⟩) 1 1, .slice (some ⟨wr.heap.size + 1 + 1 + 1 + 1, 0, none⟩) 5 5, .slice (some ⟨wr.heap.size + 1 + 1 + 1 + 1 + 1, 0, none⟩) 5 5, .slice (some ⟨wr.heap.size + 1 + 1 + 1 + 1 + 1 + 1, 0, none⟩) 8 8, .slice (some ⟨wr.heap.size + 1 + 1 + 1 + 1 + 1 + 1 + 1, 0, none⟩) 1 1, .slice (some ⟨wr.heap.size + 1 + 1 + 1 + 1 + 1 + 1 + 1 + 1, 0, none⟩) 3 3, .slice (some ⟨wr.heap.size + 1 + 1 + 1 + 1 + 1 + 1 + 1 + 1 + 1, 0, none⟩) 2 2, .slice (some ⟨wr.heap.size + 1 + 1 + 1 + 1 + 1 + 1 + 1 + 1 + 1 + 1, 0, none⟩) 5 5] 32 (0, 0)) := by rw [← hV2]; exact (Ext.alloc _ _).block (heap_at _ _ _ (by simp))
      have hk12 : V2.heap[wr.heap.size + 1 + 1 + 1 + 1 + 1 + 1 + 1 + 1 + 1 + 1 + 1 + 1]? = some (.cells #[.int .i64 1, .int .i64 4, .int .i64 1, .int .i64 2, .int .i64 20, .int .i64 22, .int .i64 21, .int .i64 4, .int .i64 1, .int .i64 4, .int .i64 22, .int .i64 1] 3 (0, 0)) := by rw [← hV2]; exact heap_at _ _ _ (by simp)
      have HT : Hid (∀ W, Ext V2 W → ∀ k, k < 12 → ∃ A n b x, KnB W (wr.heap.size + 1 + 1 + 1 + 1 + 1 + 1 + 1 + 1 + 1 + 1 + 1) (wr.heap.size + 1 + 1 + 1 + 1 + 1 + 1 + 1 + 1 + 1 + 1 + 1 + 1) k A n b x) := fun W hX => kn_bad W (wr.heap.size) (wr.heap.size + 1) (wr.heap.size + 1 + 1) (wr.heap.size + 1 + 1 + 1) (wr.heap.size + 1 + 1 + 1 + 1) (wr.heap.size + 1 + 1 + 1 + 1 + 1) (wr.heap.size + 1 + 1 + 1 + 1 + 1 + 1) (wr.heap.size + 1 + 1 + 1 + 1 + 1 + 1 + 1) (wr.heap.size + 1 + 1 + 1 + 1 + 1 + 1 + 1 + 1) (wr.heap.size + 1 + 1 + 1 + 1 + 1 + 1 + 1 + 1 + 1) (wr.heap.size + 1 + 1 + 1 + 1 + 1 + 1 + 1 + 1 + 1 + 1) (wr.heap.size + 1 + 1 + 1 + 1 + 1 + 1 + 1 + 1 + 1 + 1 + 1) (wr.heap.size + 1 + 1 + 1 + 1 + 1 + 1 + 1 + 1 + 1 + 1 + 1 + 1) (hX.block hk0) (hX.block hk1) (hX.block hk2) (hX.block hk3) (hX.block hk4) (hX.block hk5) (hX.block hk6) (hX.block hk7) (hX.block hk8) (hX.block hk9) (hX.block hk10) (hX.block hk11) (hX.block hk12)
      clear hk0 hk1 hk2 hk3 hk4 hk5 hk6 hk7 hk8 hk9 hk10 hk11 hk12
      have XV2 : Hid (Ext wr V2) := by rw [← hV2]; exact ((Ext.alloc _ _).trans ((Ext.alloc _ _).trans ((Ext.alloc _ _).trans ((Ext.alloc _ _).trans ((Ext.alloc _ _).trans ((Ext.alloc _ _).trans ((Ext.alloc _ _).trans ((Ext.alloc _ _).trans ((Ext.alloc _ _).trans ((Ext.alloc _ _).trans ((Ext.alloc _ _).trans ((Ext.alloc _ _).trans ((Ext.alloc _ _))))))))))))))
      have hzb : wr.heap.size + 1 + 1 + 1 + 1 + 1 + 1 + 1 + 1 + 1 + 1 + 1 < V2.heap.size := by rw [← hV2]; simp
      have hzn : wr.heap.size + 1 + 1 + 1 + 1 + 1 + 1 + 1 + 1 + 1 + 1 + 1 + 1 < V2.heap.size := by rw [← hV2]; simp
      rw [hV2]
      clear hV2
      obtain ⟨gb, hgb⟩ : ∃ gb, wr.heap.size + 1 + 1 + 1 + 1 + 1 + 1 + 1 + 1 + 1 + 1 + 1 = gb := ⟨_, rfl⟩
      obtain ⟨gn, hgn⟩ : ∃ gn, wr.heap.size + 1 + 1 + 1 + 1 + 1 + 1 + 1 + 1 + 1 + 1 + 1 + 1 = gn := ⟨_, rfl⟩
      rw [hgn, hgb] at HT
      rw [hgn] at hzn ⊢
      rw [hgb] at hzb ⊢
      clear hgb hgn hzl hzp
      obtain ⟨wo, rfl⟩ : ∃ wo : World, wo = wr := ⟨_, rfl⟩
      go_loopw [11, 12, 13] (fun i p f wr => ∃ k : Nat, k ≤ 12 ∧ i = .int .i64 (k : Int) ∧ Ext V2 wr) (fun i _ _ _ => 12 - (intOf i).toNat)
      case atStart => exact ⟨0, by omega, rfl, Ext.refl _⟩
      case round =>
        obtain ⟨k, hk, rfl, hx⟩ := hrel
        rcases Nat.lt_or_ge k 12 with hlt | hge
        · obtain ⟨A, n, b, x, hK⟩ := HT.out wr hx k hlt
          obtain ⟨hc, hd, hrb, hn, hget⟩ := hK
          have HD : Hid (∀ W, Ext wr W → W.cell? ⟨gn, k, none⟩ = some (.int .i64 x)) := by
            have hzw := hx.size
            exact fun W hX => hX.cell (by omega) hd
          have HG := Lib.hid (askGet_any b A n n wr hrb (Nat.le_refl _) (by omega) (by omega))
          obtain ⟨r, hr⟩ : ∃ r, getA b = r := ⟨_, rfl⟩
          rw [hr] at HG hget
          obtain ⟨⟨code, addr, count, on, set, parts⟩, E⟩ := r
          simp only at hget
          subst hget
          have X3 := Lib.hid hx
          have hee : (E != E) = false := by simp
          clear hrb hn hr hx
          go_wp2_with fail
          refine HG.out.mono ?_
          rintro e w1 ⟨⟨B1, m1, k1, B2, m2, k2, B3, m3, k3⟩, rfl, -, hx1⟩
          have X1 := Lib.hid hx1
          have hd1 := fun o : Obj => HD.out _ (X1.out.trans (Ext.alloc w1 o))
          simp only [askV]
          clear hc hd hx1
          go_wp2_with fail
          go_roundw
          case rel => exact ⟨k + 1, by omega, by go_num, X3.out.trans (X1.out.trans (Ext.alloc _ _))⟩
          case measure => simp [intOf]; omega
        · obtain rfl : k = 12 := by omega
          have X3 := Lib.hid hx
          clear hx HT
          go_wp2_with fail
          refine (ends_any _).mono ?_
          rintro e w4 ⟨rfl, hx4⟩
          go_wp2_with fail
          refine (known03_any _).mono ?_
          rintro e w5 ⟨rfl, hx5⟩
          go_wp2_with fail
          go_ret
          exact ⟨rfl, XV.out.trans (X0.out.trans (XV2.out.trans (X3.out.trans (hx4.trans hx5))))⟩
end Go.Proofs.Ytjmddiffeffgnaa
