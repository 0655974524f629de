/- Contracts of the requests: what is wrong with a request. -/
import Derived.Test.YtomcipkmohhpjaaGreatG01
namespace Go.Proofs.YtomcipkmohhpjaaGreat
set_option linter.unusedVariables false
set_option linter.unusedSimpArgs false
set_option maxRecDepth 100000
open Go Go.RowKit Go.Out

theorem ask_cells {w : World} {code addr count : Int} {A1 A2 A3 : Option Addr} {n1 c1 n2 c2 n3 c3 : Nat} :
    ∀ W : World, Ext (w.alloc (.cells #[.int .i64 code, .int .i64 addr, .int .i64 count, .slice A1 n1 c1, .slice A2 n2 c2, .slice A3 n3 c3] 37)) W →
      W.cell? ⟨w.heap.size, 0, none⟩ = some (.int .i64 code) ∧ W.cell? ⟨w.heap.size, 1, none⟩ = some (.int .i64 addr) ∧ W.cell? ⟨w.heap.size, 2, none⟩ = some (.int .i64 count) ∧
      W.cell? ⟨w.heap.size, 3, none⟩ = some (.slice A1 n1 c1) ∧ W.cell? ⟨w.heap.size, 4, none⟩ = some (.slice A2 n2 c2) ∧ W.cell? ⟨w.heap.size, 5, none⟩ = some (.slice A3 n3 c3) := by
  intro W hX
  have h := hX.block (heap_alloc_new w _)
  exact ⟨(cell_of_row _ _ _ _ _ _ h).trans rfl, (cell_of_row _ _ _ _ _ _ h).trans rfl, (cell_of_row _ _ _ _ _ _ h).trans rfl, (cell_of_row _ _ _ _ _ _ h).trans rfl, (cell_of_row _ _ _ _ _ _ h).trans rfl, (cell_of_row _ _ _ _ _ _ h).trans rfl⟩
theorem shape_cells {w : World} {M : Int} {b1 b2 b3 b4 : Bool} : ∀ W : World, Ext (w.alloc (.cells #[.int .i64 M, .bool b1, .bool b2, .bool b3, .bool b4] 109)) W →
      W.cell? ⟨w.heap.size, 0, none⟩ = some (.int .i64 M) ∧ W.cell? ⟨w.heap.size, 1, none⟩ = some (.bool b1) ∧ W.cell? ⟨w.heap.size, 2, none⟩ = some (.bool b2) ∧ W.cell? ⟨w.heap.size, 3, none⟩ = some (.bool b3) ∧ W.cell? ⟨w.heap.size, 4, none⟩ = some (.bool b4) := by
  intro W hX
  have h := hX.block (heap_alloc_new w _)
  exact ⟨(cell_of_row _ _ _ _ _ _ h).trans rfl, (cell_of_row _ _ _ _ _ _ h).trans rfl, (cell_of_row _ _ _ _ _ _ h).trans rfl, (cell_of_row _ _ _ _ _ _ h).trans rfl, (cell_of_row _ _ _ _ _ _ h).trans rfl⟩
/-- A call that hands back a number. -/
def RetI (w : World) (k : Int) (e : Ending) (w' : World) : Prop := e = .returned (.int .i64 k) ∧ Ext w w'
theorem RetI.of {w w' : World} {k k' : Int} (h : k = k') (hx : Ext w w') : RetI w k (.returned (.int .i64 k')) w' := ⟨by rw [h], hx⟩

theorem check_cnt (code addr count : Int) (A1 A2 A3 : Option Addr) (n1 c1 n2 c2 n3 c3 : Nat) (M N K : Int) (w : World) (hs : shapeV code = .agg #[.int .i64 M, .bool true, .bool false, .bool false, .bool false]) (hp : codeP code)
    (hm : ∀ W : World, Calls Tryz.prog 108 #[.agg #[.int .i64 M, .bool true, .bool false, .bool false, .bool false], .agg #[.int .i64 code, .int .i64 addr, .int .i64 count, .slice A1 n1 c1, .slice A2 n2 c2, .slice A3 n3 c3]] W fun e w' => e = .returned (.int .i64 N) ∧ Ext W w')
    (hM : M ≤ 2000)
    (f1 : Hid ((0 < n1 ∨ 0 < n2 ∨ 0 < n3) → K = 23)) (f2 : Hid (¬ (0 < n1 ∨ 0 < n2 ∨ 0 < n3) → (addr < 0 ∨ 65535 < addr) → K = 21)) (f3 : Hid (¬ (0 < n1 ∨ 0 < n2 ∨ 0 < n3) → ¬ (addr < 0 ∨ 65535 < addr) → (N < 1 ∨ M < N) → K = 22))
    (f4 : Hid (¬ (0 < n1 ∨ 0 < n2 ∨ 0 < n3) → ¬ (addr < 0 ∨ 65535 < addr) → ¬ (N < 1 ∨ M < N) → 65536 < addr + N → K = 21)) (f5 : Hid (¬ (0 < n1 ∨ 0 < n2 ∨ 0 < n3) → ¬ (addr < 0 ∨ 65535 < addr) → ¬ (N < 1 ∨ M < N) → ¬ 65536 < addr + N → K = 0)) :
    Calls Tryz.prog 79 #[.agg #[.int .i64 code, .int .i64 addr, .int .i64 count, .slice A1 n1 c1, .slice A2 n2 c2, .slice A3 n3 c3]] w (RetI w K) := by
  go_enter Tryz.func79, Tryz.ntmps79
  go_wp2_with fail
  refine (shapeOf_any code _).mono ?_
  rintro e w1 ⟨rfl, hb⟩
  rw [hs, decide_eq_true hp]
  have XA : ∀ o : Obj, Ext _ (w1.alloc o) := fun o => hb.trans (Ext.alloc _ o)
  have D := fun o => ask_cells _ (XA o)
  have d0 := fun o => (D o).1
  have d1 := fun o => (D o).2.1
  have d2 := fun o => (D o).2.2.1
  have d3 := fun o => (D o).2.2.2.1
  have d4 := fun o => (D o).2.2.2.2.1
  have d5 := fun o => (D o).2.2.2.2.2
  clear D
  have HX := Lib.hid XA
  clear XA
  go_wp2_with fail
  all_goals first
    | go_ret
      exact RetI.of (f1.out (by omega)) ((Ext.alloc _ _).trans (HX.out _))
    | go_ret
      exact RetI.of (f2.out (by omega) (by omega)) ((Ext.alloc _ _).trans (HX.out _))
    | skip
  refine (hm _).mono ?_
  rintro e w2 ⟨rfl, hb2⟩
  obtain ⟨d0, d1, d2, d3, d4, d5⟩ := ask_cells _ ((HX.out _).trans hb2)
  obtain ⟨g0, g1, g2, g3, g4⟩ := shape_cells _ hb2
  have HY := Lib.hid ((Ext.alloc _ _).trans ((HX.out _).trans hb2))
  clear HX hb hb2
  go_wp2_with fail
  all_goals first
    | go_ret
      exact RetI.of (f3.out (by omega) (by omega) (by omega)) HY.out
    | go_ret
      exact RetI.of (f4.out (by omega) (by omega) (by omega) (by omega)) HY.out
    | go_ret
      exact RetI.of (f5.out (by omega) (by omega) (by omega) (by omega)) HY.out
    | skip
  rename_i q1 q2 q3 q4 q5 q6 q7 q8
  obtain rfl : n3 = 0 := by omega
  go_loopw [6, 94] (fun room i wr => room = .int .i64 245 ∧ i = .int .i64 0 ∧ wr = w2) (fun _ _ _ => 0)
  case atStart => exact ⟨rfl, rfl, rfl⟩
  case round =>
    obtain ⟨rfl, rfl, rfl⟩ := hrel
    go_wp2_with fail
    go_ret
    exact RetI.of (f5.out (by omega) (by omega) (by omega) (by omega)) HY.out
theorem check_on (code addr : Int) (A1 A2 A3 : Option Addr) (n1 c1 n2 c2 n3 c3 : Nat) (M N K : Int) (w : World) (hs : shapeV code = .agg #[.int .i64 M, .bool false, .bool true, .bool false, .bool false]) (hp : codeP code)
    (hm : ∀ W : World, Calls Tryz.prog 108 #[.agg #[.int .i64 M, .bool false, .bool true, .bool false, .bool false], .agg #[.int .i64 code, .int .i64 addr, .int .i64 0, .slice A1 n1 c1, .slice A2 n2 c2, .slice A3 n3 c3]] W fun e w' => e = .returned (.int .i64 N) ∧ Ext W w')
    (hM : M ≤ 2000)
    (f1 : Hid ((0 < n2 ∨ 0 < n3) → K = 23)) (f2 : Hid (¬ (0 < n2 ∨ 0 < n3) → (addr < 0 ∨ 65535 < addr) → K = 21)) (f3 : Hid (¬ (0 < n2 ∨ 0 < n3) → ¬ (addr < 0 ∨ 65535 < addr) → (N < 1 ∨ M < N) → K = 22))
    (f4 : Hid (¬ (0 < n2 ∨ 0 < n3) → ¬ (addr < 0 ∨ 65535 < addr) → ¬ (N < 1 ∨ M < N) → 65536 < addr + N → K = 21)) (f5 : Hid (¬ (0 < n2 ∨ 0 < n3) → ¬ (addr < 0 ∨ 65535 < addr) → ¬ (N < 1 ∨ M < N) → ¬ 65536 < addr + N → K = 0)) :
    Calls Tryz.prog 79 #[.agg #[.int .i64 code, .int .i64 addr, .int .i64 0, .slice A1 n1 c1, .slice A2 n2 c2, .slice A3 n3 c3]] w (RetI w K) := by
  go_enter Tryz.func79, Tryz.ntmps79
  go_wp2_with fail
  refine (shapeOf_any code _).mono ?_
  rintro e w1 ⟨rfl, hb⟩
  rw [hs, decide_eq_true hp]
  have XA : ∀ o : Obj, Ext _ (w1.alloc o) := fun o => hb.trans (Ext.alloc _ o)
  have D := fun o => ask_cells _ (XA o)
  have d0 := fun o => (D o).1
  have d1 := fun o => (D o).2.1
  have d2 := fun o => (D o).2.2.1
  have d3 := fun o => (D o).2.2.2.1
  have d4 := fun o => (D o).2.2.2.2.1
  have d5 := fun o => (D o).2.2.2.2.2
  clear D
  have HX := Lib.hid XA
  clear XA
  go_wp2_with fail
  all_goals first
    | go_ret
      exact RetI.of (f1.out (by omega)) ((Ext.alloc _ _).trans (HX.out _))
    | go_ret
      exact RetI.of (f2.out (by omega) (by omega)) ((Ext.alloc _ _).trans (HX.out _))
    | skip
  refine (hm _).mono ?_
  rintro e w2 ⟨rfl, hb2⟩
  obtain ⟨d0, d1, d2, d3, d4, d5⟩ := ask_cells _ ((HX.out _).trans hb2)
  obtain ⟨g0, g1, g2, g3, g4⟩ := shape_cells _ hb2
  have HY := Lib.hid ((Ext.alloc _ _).trans ((HX.out _).trans hb2))
  clear HX hb hb2
  go_wp2_with fail
  all_goals first
    | go_ret
      exact RetI.of (f3.out (by omega) (by omega) (by omega)) HY.out
    | go_ret
      exact RetI.of (f4.out (by omega) (by omega) (by omega) (by omega)) HY.out
    | go_ret
      exact RetI.of (f5.out (by omega) (by omega) (by omega) (by omega)) HY.out
    | skip
  rename_i q1 q2 q3 q4 q5 q6 q7 q8
  obtain rfl : n3 = 0 := by omega
  go_loopw [6, 94] (fun room i wr => room = .int .i64 245 ∧ i = .int .i64 0 ∧ wr = w2) (fun _ _ _ => 0)
  case atStart => exact ⟨rfl, rfl, rfl⟩
  case round =>
    obtain ⟨rfl, rfl, rfl⟩ := hrel
    go_wp2_with fail
    go_ret
    exact RetI.of (f5.out (by omega) (by omega) (by omega) (by omega)) HY.out
theorem check_set (code addr : Int) (A1 A2 A3 : Option Addr) (n1 c1 n2 c2 n3 c3 : Nat) (M N K : Int) (w : World) (hs : shapeV code = .agg #[.int .i64 M, .bool false, .bool false, .bool true, .bool false]) (hp : codeP code)
    (hm : ∀ W : World, Calls Tryz.prog 108 #[.agg #[.int .i64 M, .bool false, .bool false, .bool true, .bool false], .agg #[.int .i64 code, .int .i64 addr, .int .i64 0, .slice A1 n1 c1, .slice A2 n2 c2, .slice A3 n3 c3]] W fun e w' => e = .returned (.int .i64 N) ∧ Ext W w')
    (hM : M ≤ 2000)
    (f1 : Hid ((0 < n1 ∨ 0 < n3) → K = 23)) (f2 : Hid (¬ (0 < n1 ∨ 0 < n3) → (addr < 0 ∨ 65535 < addr) → K = 21)) (f3 : Hid (¬ (0 < n1 ∨ 0 < n3) → ¬ (addr < 0 ∨ 65535 < addr) → (N < 1 ∨ M < N) → K = 22))
    (f4 : Hid (¬ (0 < n1 ∨ 0 < n3) → ¬ (addr < 0 ∨ 65535 < addr) → ¬ (N < 1 ∨ M < N) → 65536 < addr + N → K = 21)) (f5 : Hid (¬ (0 < n1 ∨ 0 < n3) → ¬ (addr < 0 ∨ 65535 < addr) → ¬ (N < 1 ∨ M < N) → ¬ 65536 < addr + N → K = 0)) :
    Calls Tryz.prog 79 #[.agg #[.int .i64 code, .int .i64 addr, .int .i64 0, .slice A1 n1 c1, .slice A2 n2 c2, .slice A3 n3 c3]] w (RetI w K) := by
  go_enter Tryz.func79, Tryz.ntmps79
  go_wp2_with fail
  refine (shapeOf_any code _).mono ?_
  rintro e w1 ⟨rfl, hb⟩
  rw [hs, decide_eq_true hp]
  have XA : ∀ o : Obj, Ext _ (w1.alloc o) := fun o => hb.trans (Ext.alloc _ o)
  have D := fun o => ask_cells _ (XA o)
  have d0 := fun o => (D o).1
  have d1 := fun o => (D o).2.1
  have d2 := fun o => (D o).2.2.1
  have d3 := fun o => (D o).2.2.2.1
  have d4 := fun o => (D o).2.2.2.2.1
  have d5 := fun o => (D o).2.2.2.2.2
  clear D
  have HX := Lib.hid XA
  clear XA
  go_wp2_with fail
  all_goals first
    | go_ret
      exact RetI.of (f1.out (by omega)) ((Ext.alloc _ _).trans (HX.out _))
    | go_ret
      exact RetI.of (f2.out (by omega) (by omega)) ((Ext.alloc _ _).trans (HX.out _))
    | skip
  refine (hm _).mono ?_
  rintro e w2 ⟨rfl, hb2⟩
  obtain ⟨d0, d1, d2, d3, d4, d5⟩ := ask_cells _ ((HX.out _).trans hb2)
  obtain ⟨g0, g1, g2, g3, g4⟩ := shape_cells _ hb2
  have HY := Lib.hid ((Ext.alloc _ _).trans ((HX.out _).trans hb2))
  clear HX hb hb2
  go_wp2_with fail
  all_goals first
    | go_ret
      exact RetI.of (f3.out (by omega) (by omega) (by omega)) HY.out
    | go_ret
      exact RetI.of (f4.out (by omega) (by omega) (by omega) (by omega)) HY.out
    | go_ret
      exact RetI.of (f5.out (by omega) (by omega) (by omega) (by omega)) HY.out
    | skip
  rename_i q1 q2 q3 q4 q5 q6 q7 q8
  obtain rfl : n3 = 0 := by omega
  go_loopw [6, 94] (fun room i wr => room = .int .i64 245 ∧ i = .int .i64 0 ∧ wr = w2) (fun _ _ _ => 0)
  case atStart => exact ⟨rfl, rfl, rfl⟩
  case round =>
    obtain ⟨rfl, rfl, rfl⟩ := hrel
    go_wp2_with fail
    go_ret
    exact RetI.of (f5.out (by omega) (by omega) (by omega) (by omega)) HY.out
theorem check_count (code addr count : Int) (A1 A2 A3 : Option Addr) (n1 c1 n2 c2 n3 c3 : Nat) (M : Int) (b2 b3 b4 : Bool) (w : World) (hs : shapeV code = .agg #[.int .i64 M, .bool false, .bool b2, .bool b3, .bool b4]) (hp : codeP code)
    (hc0 : count ≠ 0) :
    Calls Tryz.prog 79 #[.agg #[.int .i64 code, .int .i64 addr, .int .i64 count, .slice A1 n1 c1, .slice A2 n2 c2, .slice A3 n3 c3]] w (RetI w 23) := by
  have hcb : (count != 0) = true := by simpa using hc0
  go_enter Tryz.func79, Tryz.ntmps79
  go_wp2_with fail
  refine (shapeOf_any code _).mono ?_
  rintro e w1 ⟨rfl, hb⟩
  rw [hs, decide_eq_true hp]
  have XA : ∀ o : Obj, Ext _ (w1.alloc o) := fun o => hb.trans (Ext.alloc _ o)
  have D := fun o => ask_cells _ (XA o)
  have d0 := fun o => (D o).1
  have d1 := fun o => (D o).2.1
  have d2 := fun o => (D o).2.2.1
  have d3 := fun o => (D o).2.2.2.1
  have d4 := fun o => (D o).2.2.2.2.1
  have d5 := fun o => (D o).2.2.2.2.2
  clear D
  have HX := Lib.hid XA
  clear XA
  go_wp2_with fail
  go_ret
  exact RetI.of rfl ((Ext.alloc _ _).trans (HX.out _))
theorem check_addr (code addr : Int) (A1 A2 A3 : Option Addr) (n1 c1 n2 c2 n3 c3 : Nat) (M : Int) (w : World) (hs : shapeV code = .agg #[.int .i64 M, .bool false, .bool false, .bool false, .bool true]) (hp : codeP code)
    (hc0 : addr ≠ 0) :
    Calls Tryz.prog 79 #[.agg #[.int .i64 code, .int .i64 addr, .int .i64 0, .slice A1 n1 c1, .slice A2 n2 c2, .slice A3 n3 c3]] w (RetI w 23) := by
  have hcb : (addr != 0) = true := by simpa using hc0
  go_enter Tryz.func79, Tryz.ntmps79
  go_wp2_with fail
  refine (shapeOf_any code _).mono ?_
  rintro e w1 ⟨rfl, hb⟩
  rw [hs, decide_eq_true hp]
  have XA : ∀ o : Obj, Ext _ (w1.alloc o) := fun o => hb.trans (Ext.alloc _ o)
  have D := fun o => ask_cells _ (XA o)
  have d0 := fun o => (D o).1
  have d1 := fun o => (D o).2.1
  have d2 := fun o => (D o).2.2.1
  have d3 := fun o => (D o).2.2.2.1
  have d4 := fun o => (D o).2.2.2.2.1
  have d5 := fun o => (D o).2.2.2.2.2
  clear D
  have HX := Lib.hid XA
  clear XA
  go_wp2_with fail
  all_goals
    go_ret
    exact RetI.of rfl ((Ext.alloc _ _).trans (HX.out _))
end Go.Proofs.YtomcipkmohhpjaaGreat

namespace Go.Proofs.YtomcipkmohhpjaaGreat
set_option linter.unusedVariables false
set_option linter.unusedSimpArgs false
set_option maxRecDepth 100000
set_option maxHeartbeats 2000000
open Go Go.RowKit Go.Out

theorem check_file (code : Int) (A1 A2 A3 : Option Addr) (n1 c1 n2 c2 n3 c3 : Nat) (K : Int) (l : List PartD) (w : World) (hr : RdL partK w A3 n3 l) (hs : shapeV code = .agg #[.int .i64 35, .bool false, .bool false, .bool false, .bool true]) (hp : codeP code)
    (hm : ∀ W : World, Calls Tryz.prog 108 #[.agg #[.int .i64 35, .bool false, .bool false, .bool false, .bool true], .agg #[.int .i64 code, .int .i64 0, .int .i64 0, .slice A1 n1 c1, .slice A2 n2 c2, .slice A3 n3 c3]] W fun e w' => e = .returned (.int .i64 (n3 : Int)) ∧ Ext W w')
    (f1 : Hid ((0 < n1 ∨ 0 < n2) → K = 23)) (f2 : Hid (¬ (0 < n1 ∨ 0 < n2) → K = K)) (f3 : Hid (¬ (0 < n1 ∨ 0 < n2) → ((n3 : Int) < 1 ∨ 35 < (n3 : Int)) → K = 22))
    (f5 : Hid (¬ (0 < n1 ∨ 0 < n2) → ¬ ((n3 : Int) < 1 ∨ 35 < (n3 : Int)) → K = partsF l)) :
    Calls Tryz.prog 79 #[.agg #[.int .i64 code, .int .i64 0, .int .i64 0, .slice A1 n1 c1, .slice A2 n2 c2, .slice A3 n3 c3]] w (RetI w K) := by
  go_enter Tryz.func79, Tryz.ntmps79
  go_wp2_with fail
  refine (shapeOf_any code _).mono ?_
  rintro e w1 ⟨rfl, hb⟩
  rw [hs, decide_eq_true hp]
  have XA : ∀ o : Obj, Ext _ (w1.alloc o) := fun o => hb.trans (Ext.alloc _ o)
  have D := fun o => ask_cells _ (XA o)
  have d0 := fun o => (D o).1
  have d1 := fun o => (D o).2.1
  have d2 := fun o => (D o).2.2.1
  have d3 := fun o => (D o).2.2.2.1
  have d4 := fun o => (D o).2.2.2.2.1
  have d5 := fun o => (D o).2.2.2.2.2
  clear D
  have HX := Lib.hid XA
  clear XA
  go_wp2_with fail
  all_goals first
    | go_ret
      exact RetI.of (f1.out (by omega)) ((Ext.alloc _ _).trans (HX.out _))
    | go_ret
      exact RetI.of (f2.out (by omega) (by omega)) ((Ext.alloc _ _).trans (HX.out _))
    | skip
  refine (hm _).mono ?_
  rintro e w2 ⟨rfl, hb2⟩
  obtain ⟨d0, d1, d2, d3, d4, d5⟩ := ask_cells _ ((HX.out _).trans hb2)
  obtain ⟨g0, g1, g2, g3, g4⟩ := shape_cells _ hb2
  have HY := Lib.hid ((Ext.alloc _ _).trans ((HX.out _).trans hb2))
  clear HX hb hb2
  go_wp2_with fail
  all_goals first
    | go_ret
      exact RetI.of (f3.out (by omega) (by omega)) HY.out
    | skip
  have h35 : n3 ≤ 35 := by omega
  have Hp := Lib.hid (f5.out (by omega) (by omega))
  clear f1 f2 f3 f5
  have Hl := Lib.hid hr.length
  have Hr := Lib.hid hr; clear hr
  go_loopw [6, 94] (fun room i wr => ∃ k : Nat, k ≤ n3 ∧ room = .int .i64 (245 - sumP (l.take k)) ∧ i = .int .i64 (k : Int) ∧ Hid (goodTo l k) ∧ Ext w2 wr) (fun _ i _ => n3 - (intOf i).toNat)
  case atStart => exact ⟨0, Nat.zero_le _, by simp [sumP], rfl, Lib.hid (goodTo_zero l), Ext.refl _⟩
  case round =>
    obtain ⟨k, hk, rfl, rfl, HG, hx⟩ := hrel
    have hs := sumP_good HG.out (by rw [Hl.out]; exact hk)
    have hall := fun h : n3 = k => partsF_all (l := l) (n := k) (Hl.out.trans h) HG.out
    have hsum := fun h : k < l.length => sumP_take h
    obtain ⟨S, hS⟩ : ∃ S, sumP (l.take k) = S := ⟨_, rfl⟩
    rw [hS] at hs hall hsum ⊢
    clear hS
    have hS2 : S ≤ 700070 := by omega
    have Hall := Lib.hid hall; have Hsum := Lib.hid hsum; clear hall hsum
    rcases Nat.lt_or_ge k n3 with hlt | hge
    · have hlen : k < l.length := by rw [Hl.out]; exact hlt
      have Hbad := Lib.hid (fun hb : badP l[k] => partsF_bad hlen hb)
      have Hok := Lib.hid (fun hb : ¬ badP l[k] => goodTo_succ HG.out hlen hb)
      have Hst := Lib.hid (Hsum.out hlen)
      obtain ⟨b, off, rfl, hbk, hl', cs, -, hc, hR⟩ := (Hr.out.ext (HY.out.trans hx)).at_ hlt
      obtain ⟨rfl, -⟩ := id hR
      have i1 := hR.2.1; have i2 := hR.2.2.1; have i3 := hR.2.2.2
      have e0 : wr.cell? ⟨b, off + k * 3, none⟩ = some (.int .i64 l[k].file) := hc 0 _ rfl
      have e1 : wr.cell? ⟨b, off + k * 3 + 1, none⟩ = some (.int .i64 l[k].record) := hc 1 _ rfl
      have e2 : wr.cell? ⟨b, off + k * 3 + 2, none⟩ = some (.int .i64 l[k].len) := hc 2 _ rfl
      clear hc hR
      unfold badP at Hbad Hok
      unfold i64P at i1 i2 i3
      generalize l[k].file = F at *
      generalize l[k].record = R at *
      generalize l[k].len = L at *
      go_wp2_with fail
      all_goals first
        | go_ret
          exact RetI.of (by rw [Hp.out]; exact Hbad.out (by omega)) (HY.out.trans (hx.trans (Ext.alloc _ _)))
        | skip
      go_roundw
      case rel => exact ⟨k + 1, by omega, by rw [Hst.out]; first | (congr 1; omega) | go_num, by go_num, Lib.hid (Hok.out (by omega)), hx.trans (Ext.alloc _ _)⟩
      case measure => simp [intOf]; omega
    · obtain rfl : n3 = k := by omega
      go_wp2_with fail
      all_goals
        go_ret
        exact RetI.of (Hp.out.trans ((Hall.out (by first | rfl | trivial)).trans (by first | exact if_pos (by omega) | exact if_neg (by omega)))) (HY.out.trans hx)
end Go.Proofs.YtomcipkmohhpjaaGreat

namespace Go.Proofs.YtomcipkmohhpjaaGreat
set_option linter.unusedVariables false
set_option linter.unusedSimpArgs false
set_option maxRecDepth 100000
set_option maxHeartbeats 2000000
open Go Go.RowKit Go.Out

theorem shapeV_no {c : Int} (hp : ¬ codeP c) : shapeV c = .agg #[.int .i64 0, .bool false, .bool false, .bool false, .bool false] := by
  have hq := hp
  unfold codeP at hq
  simp only [not_or] at hq
  unfold shapeV
  rw [if_neg hp, decide_eq_false hq.1, decide_eq_false hq.2.1, decide_eq_false hq.2.2.1, decide_eq_false hq.2.2.2]
theorem check_code (code addr count : Int) (A1 A2 A3 : Option Addr) (n1 c1 n2 c2 n3 c3 : Nat) (w : World) (hp : ¬ codeP code) :
    Calls Tryz.prog 79 #[.agg #[.int .i64 code, .int .i64 addr, .int .i64 count, .slice A1 n1 c1, .slice A2 n2 c2, .slice A3 n3 c3]] w (RetI w 20) := by
  go_enter Tryz.func79, Tryz.ntmps79
  go_wp2_with fail
  refine (shapeOf_any code _).mono ?_
  rintro e w1 ⟨rfl, hb⟩
  rw [shapeV_no hp, decide_eq_false hp]
  have HX : Hid (∀ o : Obj, Ext _ (w1.alloc o)) := Lib.hid fun o => hb.trans (Ext.alloc _ o)
  go_wp2_with fail
  go_ret
  exact RetI.of rfl ((Ext.alloc _ _).trans (HX.out _))
theorem parts_len0 {l : List PartD} (h : l.length = 0) : partsF l = 0 := by
  rw [List.eq_nil_of_length_eq_zero h]; exact partsF_nil

theorem check_any (a : AskD) (s : AskS) (w : World) (hr : AskRd w a s) : Calls Tryz.prog 79 #[askV a s] w (RetI w (checkF a)) := by
  have h1 := hr.n1; have h2 := hr.n2; have h3 := hr.n3
  have hpr := hr.parts
  by_cases hp : codeP a.code
  · have hm := fun W => many_any a s W h1 h2 h3 hp
    obtain ⟨code, addr, count, on, set, parts⟩ := a
    obtain ⟨A1, n1, c1, A2, n2, c2, A3, n3, c3⟩ := s
    simp only at h1 h2 h3 hp hpr hm
    simp only [askV] at hm ⊢
    obtain ⟨hM1, hM, hk⟩ := shape_kind hp
    rcases hk with ⟨k1, k2, k3, k4, hs⟩ | ⟨k1, k2, k3, k4, hs⟩ | ⟨k1, k2, k3, k4, hs⟩ | ⟨k1, k2, k3, k4, k5, hs⟩
    · have hf : fieldP ⟨code, addr, count, on, set, parts⟩ ↔ (0 < n1 ∨ 0 < n2 ∨ 0 < n3) := by
        unfold fieldP; simp only [k1, k2, k3, h1, h2, h3]; simp [k4]
      obtain ⟨g1, g2, g3, g4, g5⟩ := check_steps hp hf
      rw [hs] at hm
      exact check_cnt _ _ _ _ _ _ _ _ _ _ _ _ _ _ _ w hs hp hm hM g1 g2 g3 (fun a b c d => g4 a b c ⟨k4, d⟩) (fun a b c d => (g5 a b c (fun h => d h.2)).trans (parts_len0 (h3.trans (by omega))))
    · by_cases hc0 : count = 0
      · subst hc0
        have hf : fieldP ⟨code, addr, 0, on, set, parts⟩ ↔ (0 < n2 ∨ 0 < n3) := by
          unfold fieldP; simp only [k1, k2, k3, h1, h2, h3]; simp [k4]
        obtain ⟨g1, g2, g3, g4, g5⟩ := check_steps hp hf
        rw [hs] at hm
        exact check_on _ _ _ _ _ _ _ _ _ _ _ _ _ _ w hs hp hm hM g1 g2 g3 (fun a b c d => g4 a b c ⟨k4, d⟩) (fun a b c d => (g5 a b c (fun h => d h.2)).trans (parts_len0 (h3.trans (by omega))))
      · have hf : fieldP ⟨code, addr, count, on, set, parts⟩ ↔ True := by
          unfold fieldP; simp [k1, hc0]
        rw [(check_steps hp hf).1 trivial]
        exact check_count _ _ _ _ _ _ _ _ _ _ _ _ _ _ _ _ w hs hp hc0
    · by_cases hc0 : count = 0
      · subst hc0
        have hf : fieldP ⟨code, addr, 0, on, set, parts⟩ ↔ (0 < n1 ∨ 0 < n3) := by
          unfold fieldP; simp only [k1, k2, k3, h1, h2, h3]; simp [k4]
        obtain ⟨g1, g2, g3, g4, g5⟩ := check_steps hp hf
        rw [hs] at hm
        exact check_set _ _ _ _ _ _ _ _ _ _ _ _ _ _ w hs hp hm hM g1 g2 g3 (fun a b c d => g4 a b c ⟨k4, d⟩) (fun a b c d => (g5 a b c (fun h => d h.2)).trans (parts_len0 (h3.trans (by omega))))
      · have hf : fieldP ⟨code, addr, count, on, set, parts⟩ ↔ True := by
          unfold fieldP; simp [k1, hc0]
        rw [(check_steps hp hf).1 trivial]
        exact check_count _ _ _ _ _ _ _ _ _ _ _ _ _ _ _ _ w hs hp hc0
    · by_cases hc0 : count = 0
      · subst hc0
        by_cases ha0 : addr = 0
        · subst ha0
          have hf : fieldP ⟨code, 0, 0, on, set, parts⟩ ↔ (0 < n1 ∨ 0 < n2) := by
            unfold fieldP; simp only [k1, k2, k3, h1, h2, h3]; simp [k4]
          obtain ⟨g1, g2, g3, g4, g5⟩ := check_steps hp hf
          have hmf : manyF ⟨code, 0, 0, on, set, parts⟩ = n3 := by unfold manyF; rw [if_neg k1, if_neg k2, if_neg k3, h3]
          simp only at g2 g3 g4 g5
          rw [hmf, k5] at g3 g5
          rw [hs] at hm
          simp only [hmf] at hm
          exact check_file _ _ _ _ _ _ _ _ _ _ _ parts w hpr hs hp hm g1 (fun _ => rfl) (fun a b => g3 a (by omega) b) (fun a b => g5 a (by omega) b (fun h => h.1 k4))
        · have hf : fieldP ⟨code, addr, 0, on, set, parts⟩ ↔ True := by
            unfold fieldP; simp [k4, ha0]
          rw [(check_steps hp hf).1 trivial]
          exact check_addr _ _ _ _ _ _ _ _ _ _ _ _ w hs hp ha0
      · have hf : fieldP ⟨code, addr, count, on, set, parts⟩ ↔ True := by
          unfold fieldP; simp [k1, hc0]
        rw [(check_steps hp hf).1 trivial]
        exact check_count _ _ _ _ _ _ _ _ _ _ _ _ _ _ _ _ w hs hp hc0
  · rw [checkF_code hp]
    exact check_code _ _ _ _ _ _ _ _ _ _ _ _ w hp
end Go.Proofs.YtomcipkmohhpjaaGreat

namespace Go.Proofs.YtomcipkmohhpjaaGreat
set_option linter.unusedVariables false
set_option linter.unusedSimpArgs false
set_option maxRecDepth 100000
set_option maxHeartbeats 2000000
open Go Go.RowKit Go.Out

def RetQ (w : World) (k : Bool) (e : Ending) (w' : World) : Prop := e = .returned (.bool k) ∧ Ext w w'
theorem RetQ.of {w w' : World} {k k' : Bool} (h : k = k') (hx : Ext w w') : RetQ w k (.returned (.bool k')) w' := ⟨by rw [h], hx⟩

theorem parts3_any (l : List PartD) (A : Option Addr) (n c : Nat) (w : World) (hr : RdL partK w A n l) (hn : n ≤ 35) :
    Calls Tryz.prog 88 #[.slice A n c] w (RetI w (partsF l)) := by
  have Hl := Lib.hid hr.length
  have Hr := Lib.hid hr; clear hr
  obtain ⟨K, hK⟩ : ∃ K, partsF l = K := ⟨_, rfl⟩
  rw [hK]
  have Hp := Lib.hid hK.symm; clear hK
  go_enter Tryz.func88, Tryz.ntmps88
  go_wp2_with fail
  go_loopw [3, 4] (fun room i wr => ∃ k : Nat, k ≤ n ∧ room = .int .i64 (sumP (l.take k)) ∧ i = .int .i64 (k : Int) ∧ Hid (goodTo l k) ∧ Ext w wr) (fun _ i _ => n - (intOf i).toNat)
  case atStart => exact ⟨0, Nat.zero_le _, by simp [sumP], rfl, Lib.hid (goodTo_zero l), Ext.refl _⟩
  case round =>
    obtain ⟨k, hk, rfl, rfl, HG, hx⟩ := hrel
    have hs := sumP_good HG.out (by rw [Hl.out]; exact hk)
    have hall := fun h : n = k => partsF_all (l := l) (n := k) (Hl.out.trans h) HG.out
    have hsum := fun h : k < l.length => sumP_take h
    obtain ⟨S, hS⟩ : ∃ S, sumP (l.take k) = S := ⟨_, rfl⟩
    rw [hS] at hs hall hsum ⊢
    clear hS
    have hS2 : S ≤ 700070 := by omega
    have Hall := Lib.hid hall; have Hsum := Lib.hid hsum; clear hall hsum
    rcases Nat.lt_or_ge k n with hlt | hge
    · have hlen : k < l.length := by rw [Hl.out]; exact hlt
      have Hbad := Lib.hid (fun hb : badP l[k] => partsF_bad hlen hb)
      have Hok := Lib.hid (fun hb : ¬ badP l[k] => goodTo_succ HG.out hlen hb)
      have Hst := Lib.hid (Hsum.out hlen)
      obtain ⟨b, off, rfl, hbk, hl', cs, -, hc, hR⟩ := (Hr.out.ext hx).at_ hlt
      obtain ⟨rfl, -⟩ := id hR
      have i1 := hR.2.1; have i2 := hR.2.2.1; have i3 := hR.2.2.2
      have e0 : wr.cell? ⟨b, off + k * 3, none⟩ = some (.int .i64 l[k].file) := hc 0 _ rfl
      have e1 : wr.cell? ⟨b, off + k * 3 + 1, none⟩ = some (.int .i64 l[k].record) := hc 1 _ rfl
      have e2 : wr.cell? ⟨b, off + k * 3 + 2, none⟩ = some (.int .i64 l[k].len) := hc 2 _ rfl
      clear hc hR
      unfold badP at Hbad Hok
      unfold i64P at i1 i2 i3
      generalize l[k].file = F at *
      generalize l[k].record = R at *
      generalize l[k].len = L at *
      go_wp2_with fail
      all_goals first
        | go_ret
          exact RetI.of (by rw [Hp.out]; exact Hbad.out (by omega)) (hx.trans (Ext.alloc _ _))
        | skip
      go_roundw
      case rel => exact ⟨k + 1, by omega, by rw [Hst.out]; first | (congr 1; omega) | go_num, by go_num, Lib.hid (Hok.out (by omega)), hx.trans (Ext.alloc _ _)⟩
      case measure => simp [intOf]; omega
    · obtain rfl : n = k := by omega
      go_wp2_with fail
      all_goals
        go_ret
        exact RetI.of (Hp.out.trans ((Hall.out (by first | rfl | trivial)).trans (by first | exact if_pos (by omega) | exact if_neg (by omega)))) hx
end Go.Proofs.YtomcipkmohhpjaaGreat

namespace Go.Proofs.YtomcipkmohhpjaaGreat
set_option linter.unusedVariables false
set_option linter.unusedSimpArgs false
set_option maxRecDepth 100000
set_option maxHeartbeats 2000000
open Go Go.RowKit Go.Out

theorem field_row (code addr count : Int) (A1 A2 A3 : Option Addr) (n1 c1 n2 c2 n3 c3 : Nat) (K : Bool) (w : World) (hp : codeP code)
    (hK : Hid (K = (!decide (isCnt code) && (count != 0) || !decide (isOn code) && decide (0 < n1) || !decide (isSet code) && decide (0 < n2) || !decide (code = 20) && decide (0 < n3) || decide (code = 20) && (addr != 0)))) :
    Calls Tryz.prog 85 #[.agg #[.int .i64 code, .int .i64 addr, .int .i64 count, .slice A1 n1 c1, .slice A2 n2 c2, .slice A3 n3 c3]] w (RetQ w K) := by
  rcases codeP_cases hp with rfl | rfl | rfl | rfl | rfl | rfl | rfl | rfl | rfl
  all_goals
    go_enter Tryz.func85, Tryz.ntmps85
    go_wp2_with fail
    all_goals
      go_ret
      exact RetQ.of (hK.out.trans (by simp [isCnt, isOn, isSet, *] <;> omega)) (Ext.alloc _ _)
theorem field3_any (a : AskD) (s : AskS) (w : World) (h1 : a.on.length = s.n1) (h2 : a.set.length = s.n2) (h3 : a.parts.length = s.n3) (hp : codeP a.code) :
    Calls Tryz.prog 85 #[askV a s] w (RetQ w (decide (fieldP a))) := by
  obtain ⟨code, addr, count, on, set, parts⟩ := a
  obtain ⟨A1, n1, c1, A2, n2, c2, A3, n3, c3⟩ := s
  simp only at h1 h2 h3 hp
  refine field_row _ _ _ _ _ _ _ _ _ _ _ _ _ w hp ?_
  show _ = _
  rw [Bool.eq_iff_iff]
  unfold fieldP
  simp [h1, h2, h3, or_assoc]
end Go.Proofs.YtomcipkmohhpjaaGreat

namespace Go.Proofs.YtomcipkmohhpjaaGreat
set_option linter.unusedVariables false
set_option linter.unusedSimpArgs false
set_option maxRecDepth 100000
set_option maxHeartbeats 2000000
open Go Go.RowKit Go.Out

theorem refCheck_row (code addr count : Int) (A1 A2 A3 : Option Addr) (n1 c1 n2 c2 n3 c3 : Nat) (M N K : Int) (fb : Bool) (l : List PartD) (w : World) (hr : RdL partK w A3 n3 l) (hp : codeP code)
    (hfd : ∀ W : World, Calls Tryz.prog 85 #[.agg #[.int .i64 code, .int .i64 addr, .int .i64 count, .slice A1 n1 c1, .slice A2 n2 c2, .slice A3 n3 c3]] W (RetQ W fb))
    (hmn : ∀ W : World, Calls Tryz.prog 86 #[.agg #[.int .i64 code, .int .i64 addr, .int .i64 count, .slice A1 n1 c1, .slice A2 n2 c2, .slice A3 n3 c3]] W fun e w' => e = .returned (.int .i64 N) ∧ Ext W w')
    (hms : ∀ W : World, Calls Tryz.prog 87 #[.int .i64 code] W fun e w' => e = .returned (.int .i64 M) ∧ W = w')
    (hM : M ≤ 2000) (h35 : Hid (code = 20 → (M = 35 ∧ N = n3)))
    (f1 : Hid (fb = true → K = 23)) (f2 : Hid (fb = false → (addr < 0 ∨ 65535 < addr) → K = 21)) (f3 : Hid (fb = false → ¬ (addr < 0 ∨ 65535 < addr) → (N < 1 ∨ M < N) → K = 22))
    (f4 : Hid (fb = false → ¬ (addr < 0 ∨ 65535 < addr) → ¬ (N < 1 ∨ M < N) → ¬ code = 20 → 65536 < addr + N → K = 21)) (f5 : Hid (fb = false → ¬ (addr < 0 ∨ 65535 < addr) → ¬ (N < 1 ∨ M < N) → ¬ code = 20 → ¬ 65536 < addr + N → K = 0))
    (f6 : Hid (fb = false → ¬ (addr < 0 ∨ 65535 < addr) → ¬ (N < 1 ∨ M < N) → code = 20 → K = partsF l)) :
    Calls Tryz.prog 45 #[.agg #[.int .i64 code, .int .i64 addr, .int .i64 count, .slice A1 n1 c1, .slice A2 n2 c2, .slice A3 n3 c3]] w (RetI w K) := by
  have Hr := Lib.hid hr; clear hr
  cases fb
  · have g2 := Lib.hid (f2.out rfl); have g3 := Lib.hid (f3.out rfl); have g4 := Lib.hid (f4.out rfl); have g5 := Lib.hid (f5.out rfl); have g6 := Lib.hid (f6.out rfl)
    clear f1 f2 f3 f4 f5 f6
    go_enter Tryz.func45, Tryz.ntmps45
    go_wp2_with fail
    refine (known3_any code _).mono ?_
    rintro e w1 ⟨rfl, rfl⟩
    rw [decide_eq_true hp]
    go_wp2_with fail
    refine (hfd _).mono ?_
    rintro e w2 ⟨rfl, hb2⟩
    obtain ⟨d0, d1, d2, d3, d4, d5⟩ := ask_cells _ hb2
    have HX : Hid (Ext w w2) := Lib.hid ((Ext.alloc _ _).trans hb2)
    have HB := Lib.hid hb2; clear hb2
    go_wp2_with fail
    all_goals first
      | go_ret
        exact RetI.of (g2.out (by omega)) HX.out
      | skip
    refine (hmn _).mono ?_
    rintro e w3 ⟨rfl, hb3⟩
    obtain ⟨d0, d1, d2, d3, d4, d5⟩ := ask_cells _ (HB.out.trans hb3)
    have HY : Hid (Ext w w3) := Lib.hid (HX.out.trans hb3)
    clear hb3 HX HB g2
    rcases Int.lt_or_le N 1 with hN | hN
    · go_wp2_with fail
      go_ret
      exact RetI.of (g3.out (by omega) (by omega)) HY.out
    · have hd : decide (N < 1) = false := by simp; omega
      go_wp2_with fail
      refine (hms _).mono ?_
      rintro e w4 ⟨rfl, rfl⟩
      by_cases h20 : code = 20
      · subst h20
        obtain ⟨rfl, rfl⟩ := h35.out rfl
        go_wp2_with fail
        all_goals first
          | go_ret
            exact RetI.of (g3.out (by omega) (by omega)) HY.out
          | skip
        refine (parts3_any l A3 n3 c3 _ (Hr.out.ext HY.out) (by omega)).mono ?_
        rintro e w5 ⟨rfl, hx5⟩
        have HZ : Hid (Ext w w5) := Lib.hid (HY.out.trans hx5)
        have Hk := Lib.hid (g6.out (by omega) (by omega) (by first | rfl | trivial))
        clear hx5 g3 g4 g5 g6
        go_wp2_with fail
        go_ret
        exact RetI.of Hk.out HZ.out
      · have h20b : (code == 20) = false := by simpa using h20
        go_wp2_with fail
        all_goals
          go_ret
          first
            | exact RetI.of (g3.out (by omega) (by omega)) HY.out
            | exact RetI.of (g4.out (by omega) (by omega) h20 (by omega)) HY.out
            | exact RetI.of (g5.out (by omega) (by omega) h20 (by omega)) HY.out
  · have g1 := Lib.hid (f1.out rfl)
    clear f1 f2 f3 f4 f5 f6
    go_enter Tryz.func45, Tryz.ntmps45
    go_wp2_with fail
    refine (known3_any code _).mono ?_
    rintro e w1 ⟨rfl, rfl⟩
    rw [decide_eq_true hp]
    go_wp2_with fail
    refine (hfd _).mono ?_
    rintro e w2 ⟨rfl, hb2⟩
    have HX : Hid (Ext w w2) := Lib.hid ((Ext.alloc _ _).trans hb2)
    clear hb2
    go_wp2_with fail
    go_ret
    exact RetI.of g1.out HX.out
end Go.Proofs.YtomcipkmohhpjaaGreat

namespace Go.Proofs.YtomcipkmohhpjaaGreat
set_option linter.unusedVariables false
set_option linter.unusedSimpArgs false
set_option maxRecDepth 100000
set_option maxHeartbeats 2000000
open Go Go.RowKit Go.Out

theorem refCheck_code (code addr count : Int) (A1 A2 A3 : Option Addr) (n1 c1 n2 c2 n3 c3 : Nat) (w : World) (hp : ¬ codeP code) :
    Calls Tryz.prog 45 #[.agg #[.int .i64 code, .int .i64 addr, .int .i64 count, .slice A1 n1 c1, .slice A2 n2 c2, .slice A3 n3 c3]] w (RetI w 20) := by
  go_enter Tryz.func45, Tryz.ntmps45
  go_wp2_with fail
  refine (known3_any code _).mono ?_
  rintro e w1 ⟨rfl, rfl⟩
  rw [decide_eq_false hp]
  go_wp2_with fail
  go_ret
  exact RetI.of rfl (Ext.alloc _ _)
theorem refCheck_any (a : AskD) (s : AskS) (w : World) (hr : AskRd w a s) : Calls Tryz.prog 45 #[askV a s] w (RetI w (checkF a)) := by
  have h1 := hr.n1; have h2 := hr.n2; have h3 := hr.n3
  have hpr := hr.parts
  by_cases hp : codeP a.code
  · have hm := fun W => many3_any a s W h1 h2 h3 hp
    have hf := fun W => field3_any a s W h1 h2 h3 hp
    obtain ⟨g1, g2, g3, g4, g5⟩ := check_steps hp (Iff.rfl : fieldP a ↔ fieldP a)
    have h0 : ¬ a.code = 20 → ¬ fieldP a → a.parts.length = 0 := by
      intro hc hn
      unfold fieldP at hn
      have : ¬ (a.code ≠ 20 ∧ 0 < a.parts.length) := fun h => hn (.inr (.inr (.inr (.inl h))))
      omega
    have h35 : a.code = 20 → (mostF a.code = 35 ∧ manyF a = (s.n3 : Int)) := by
      intro hc
      refine ⟨by rw [hc]; rfl, ?_⟩
      unfold manyF isCnt isOn isSet
      rw [hc, ← h3]; rfl
    have nf : decide (fieldP a) = false → ¬ fieldP a := fun h => by simpa using h
    refine refCheck_row _ _ _ _ _ _ _ _ _ _ _ _ _ _ _ _ a.parts w hpr hp hf hm (fun W => most3_any _ W) (shape_kind hp).2.1 h35 (fun h => g1 (by simpa using h)) (fun h => g2 (nf h)) (fun h => g3 (nf h))
      (fun h a b c d => g4 (nf h) a b ⟨c, d⟩) (fun h a b c d => (g5 (nf h) a b (fun x => d x.2)).trans (parts_len0 (h0 c (nf h)))) (fun h a b c => g5 (nf h) a b (fun x => x.1 c))
  · rw [checkF_code hp]
    exact refCheck_code _ _ _ _ _ _ _ _ _ _ _ _ w hp
end Go.Proofs.YtomcipkmohhpjaaGreat

namespace Go.Proofs.YtomcipkmohhpjaaGreat
set_option linter.unusedVariables false
set_option linter.unusedSimpArgs false
set_option maxRecDepth 100000
set_option maxHeartbeats 2000000
open Go Go.RowKit Go.Out

/-- A call that hands back a number and leaves the world. -/
def RetN (w : World) (k : Int) (e : Ending) (w' : World) : Prop := e = .returned (.int .i64 k) ∧ w = w'
theorem RetN.of {w w' : World} {k k' : Int} (h : k = k') (hx : w = w') : RetN w k (.returned (.int .i64 k')) w' := ⟨by rw [h], hx⟩
theorem sized_pdu (b : List UInt8) (A : Option Addr) (m c : Nat) (w : World) (hr : Rd w A m (b.map cB)) (h0 : m ≠ 0) (hm : m ≤ 9223372036854775807) (hp : codeP (b0 b : Nat)) :
    Calls Tryz.prog 82 #[.slice A m c] w (RetN w (sizedF b)) := by
  have hl := hr.length
  obtain ⟨bk, off, rfl, hbk, hcell⟩ := hr.u8all (by omega)
  have c0 := hcell 0 (by omega)
  rw [Nat.add_zero] at c0
  have hc := codeP_cases hp
  obtain ⟨K, hK⟩ : ∃ K, sizedF b = K := ⟨_, rfl⟩
  have hb0 : (b.getD 0 0).toNat = b0 b := rfl
  rw [hb0] at c0
  have e5 : b0 b ≤ 6 → sizeF b = 5 := sizeF_of5
  have e2 : b0 b = 20 → 2 ≤ m → sizeF b = 2 + (b.getD 1 0).toNat := fun h h2 => sizeF_of20 h (by omega)
  have e6 : b0 b = 15 ∨ b0 b = 16 → 6 ≤ m → sizeF b = 6 + (b.getD 5 0).toNat := fun h h2 => sizeF_of6 h (by omega)
  have e20 : b0 b = 20 → m < 2 → sizeF b = 0 := fun h h2 => by unfold sizeF; rw [if_neg (by omega), if_pos h, if_neg (by omega)]
  have e60 : b0 b = 15 ∨ b0 b = 16 → m < 6 → sizeF b = 0 := fun h h2 => by unfold sizeF; rw [if_neg (by omega), if_neg (by omega), if_neg (by omega)]
  have hd1 : sizeF b = 0 → K = 1 := fun h => by rw [← hK]; unfold sizedF; rw [if_pos h]
  have hd2 : sizeF b ≠ 0 → m < sizeF b → K = 1 := fun h h2 => by rw [← hK]; unfold sizedF; rw [if_neg h, if_pos (by omega)]
  have hd3 : sizeF b ≠ 0 → ¬ m < sizeF b → sizeF b < m → K = 2 := fun h h2 h3 => by rw [← hK]; unfold sizedF; rw [if_neg h, if_neg (by omega), if_pos (by omega)]
  have hd4 : sizeF b ≠ 0 → sizeF b = m → K = 0 := fun h h2 => by rw [← hK]; exact sizedF_zero.2 ⟨h, by omega⟩
  rw [hK]
  clear hK hp hl
  generalize sizeF b = S at *
  generalize b0 b = x at *
  have H1 := Lib.hid hd1; have H2 := Lib.hid hd2; have H3 := Lib.hid hd3; have H4 := Lib.hid hd4; clear hd1 hd2 hd3 hd4
  have E5 := Lib.hid e5; have E2 := Lib.hid e2; have E6 := Lib.hid e6; have E20 := Lib.hid e20; have E60 := Lib.hid e60; clear e5 e2 e6 e20 e60
  rcases Nat.lt_or_ge x 7 with h7 | h7
  · obtain rfl : S = 5 := E5.out (by omega)
    have x20 : ¬ x = 20 := by omega
    have x15 : ¬ 15 ≤ x := by omega
    clear E5 E2 E6 E20 E60
    go_enter Tryz.func82, Tryz.ntmps82
    go_wp2_with fail
    all_goals
      go_ret
      first
        | exact RetN.of (H2.out (by omega) (by omega)) rfl
        | exact RetN.of (H3.out (by omega) (by omega) (by omega)) rfl
        | exact RetN.of (H4.out (by omega) (by omega)) rfl
  · by_cases x20 : x = 20
    · subst x20
      rcases Nat.lt_or_ge m 2 with hm2 | hm2
      · obtain rfl : S = 0 := E20.out rfl hm2
        go_enter Tryz.func82, Tryz.ntmps82
        go_wp2_with fail
        go_ret
        exact RetN.of (H1.out (by first | rfl | trivial)) rfl
      · have hS := E2.out rfl hm2
        have c1 := hcell 1 (by omega)
        have y8 := (b.getD 1 0).toNat_lt
        generalize (b.getD 1 0).toNat = y at *
        subst hS
        have hi1 : (1 : Int) < (m : Int) := by omega
        clear E5 E2 E6 E20 E60
        go_enter Tryz.func82, Tryz.ntmps82
        go_wp2_with fail
        all_goals
          go_ret
          first
            | exact RetN.of (H2.out (by omega) (by omega)) rfl
            | exact RetN.of (H3.out (by omega) (by omega) (by omega)) rfl
            | exact RetN.of (H4.out (by omega) (by omega)) rfl
    · have hx : x = 15 ∨ x = 16 := by omega
      rcases Nat.lt_or_ge m 6 with hm2 | hm2
      · obtain rfl : S = 0 := E60.out hx hm2
        rcases hx with rfl | rfl
        all_goals
          go_enter Tryz.func82, Tryz.ntmps82
          go_wp2_with fail
          go_ret
          exact RetN.of (H1.out (by first | rfl | trivial)) rfl
      · have hS := E6.out hx hm2
        have c5 := hcell 5 (by omega)
        have y8 := (b.getD 5 0).toNat_lt
        generalize (b.getD 5 0).toNat = y at *
        subst hS
        have hi1 : (5 : Int) < (m : Int) := by omega
        clear E5 E2 E6 E20 E60
        rcases hx with rfl | rfl
        all_goals
          go_enter Tryz.func82, Tryz.ntmps82
          go_wp2_with fail
          all_goals
            go_ret
            first
              | exact RetN.of (H2.out (by omega) (by omega)) rfl
              | exact RetN.of (H3.out (by omega) (by omega) (by omega)) rfl
              | exact RetN.of (H4.out (by omega) (by omega)) rfl
end Go.Proofs.YtomcipkmohhpjaaGreat

namespace Go.Proofs.YtomcipkmohhpjaaGreat
set_option linter.unusedVariables false
set_option linter.unusedSimpArgs false
set_option maxRecDepth 100000
set_option maxHeartbeats 2000000
open Go Go.RowKit Go.Out

end Go.Proofs.YtomcipkmohhpjaaGreat

namespace Go.Proofs.YtomcipkmohhpjaaGreat
set_option linter.unusedVariables false
set_option linter.unusedSimpArgs false
set_option maxRecDepth 100000
set_option maxHeartbeats 2000000
open Go Go.RowKit Go.Out

/-- A row A of the call's own has become A' (the same block, or a new one); nothing else has turned. -/
def Grow (w w' : World) (A A' : Option Addr) : Prop := w.grownBy w' (blk A) ∧ (blk A' = blk A ∨ ∀ g, blk A' = some g → w.heap.size ≤ g)
theorem Grow.trans {w w1 w2 : World} {A A1 A2 : Option Addr} (h : Grow w w1 A A1) (h2 : Grow w1 w2 A1 A2) : Grow w w2 A A2 := by
  obtain ⟨g, r⟩ := h
  obtain ⟨g2, r2⟩ := h2
  refine ⟨⟨g2.os.trans g.os, g2.tape.trans g.tape, g2.output.trans g.output, Nat.le_trans g.size g2.size, fun k hk hne => ?_⟩, ?_⟩
  · refine (g2.block k (Nat.lt_of_lt_of_le hk g.size) fun e => ?_).trans (g.block k hk hne)
    rcases r with r | r
    · exact hne (e.trans r)
    · have := r k e.symm; omega
  · rcases r2 with r2 | r2
    · rcases r with r | r
      · exact .inl (r2.trans r)
      · exact .inr fun k hk => r k (r2 ▸ hk)
    · exact .inr fun k hk => Nat.le_trans g.size (r2 k hk)
theorem Grow.of_alloc {w w' : World} {o : Obj} {A A' : Option Addr} (hg : (w.alloc o).grownBy w' (blk A)) (hb : blk A' = blk A ∨ blk A' = some (w.alloc o).heap.size) : Grow w w' A A' := by
  have hx := Ext.alloc w o
  refine ⟨⟨hg.os.trans hx.below.os, hg.tape.trans hx.below.tape, hg.output.trans hx.below.output, Nat.le_trans hx.size hg.size, fun k hk hne => ?_⟩, ?_⟩
  · exact (hg.block k (Nat.lt_of_lt_of_le hk hx.size) hne).trans (hx.below.block k hk)
  · rcases hb with hb | hb
    · exact .inl hb
    · exact .inr fun k hk => by rw [hb] at hk; injection hk with hk; have := hx.size; omega
/-- What a call hands back that puts bytes behind a row of its caller's. -/
def RetP (w : World) (base : Nat) (A : Option Addr) (xs : List UInt8) (e : Ending) (w' : World) : Prop :=
  ∃ A' c', e = .returned (.slice A' xs.length c') ∧ Own w' base 5 IsU8 A' xs.length c' (xs.map cB) ∧ Grow w w' A A'

theorem two3_any (xs : List UInt8) (v n : Nat) (hv : v < 65536) (A : Option Addr) (c base : Nat) (w : World) (ho : Own w base 5 IsU8 A n c (xs.map cB)) (hbase : base ≤ w.heap.size) (hn : n ≤ 140737488350000) :
    Calls Tryz.prog 89 #[.slice A n c, .int .i64 (v : Int)] w (RetP w base A (xs ++ two v)) := by
  have hlen : (xs ++ two v).length = n + 2 := by have := ho.len; simp [two] at this ⊢; omega
  have Ho := Lib.hid ho; clear ho
  have hlit : Hid ((#[.int .u8 ((v : Int) / 256), .int .u8 ((v : Int) % 256)] : Array Value).toList = (two v).map cB ++ []) := by
    show _ = _
    unfold two
    simp only [List.map_cons, List.map_nil, u8_ofNat, List.append_nil]
    have : ((v / 256 : Nat) : Int) % 256 = (v : Int) / 256 := by omega
    rw [this]
  have hd1 : IntKind.u8.wrap ((v : Int) / 256) = (v : Int) / 256 := by rw [IntKind.wrap_u8]; omega
  go_enter Tryz.func89, Tryz.ntmps89
  go_wp2_with (at_builtin; go_must (refine app_u8 _ rfl (.tmp 5) (.tmp 12) rfl rfl (Ho.out.ext (Ext.alloc _ _)) rfl (Rd.of_heap (ys := []) (heap_alloc_new w _) hlit.out (by simp [two])) isU8_map (by omega) (Nat.le_trans hbase (Ext.alloc _ _).size) ?_); intro A1 c1 w1 hown1 hg1 hb1)
  go_ret
  refine ⟨A1, c1, ?_, ?_, Grow.of_alloc hg1 hb1⟩
  · rw [hlen]; rfl
  · rw [hlen, List.map_append]; exact hown1
end Go.Proofs.YtomcipkmohhpjaaGreat

namespace Go.Proofs.YtomcipkmohhpjaaGreat
set_option linter.unusedVariables false
set_option linter.unusedSimpArgs false
set_option maxRecDepth 100000
set_option maxHeartbeats 2000000
open Go Go.RowKit Go.Out

theorem Grow.refl (w : World) (A : Option Addr) : Grow w w A A := ⟨⟨rfl, rfl, rfl, Nat.le_refl _, fun _ _ _ => rfl⟩, .inl rfl⟩
theorem two_lit (v : Nat) (hv : v < 65536) : (#[.int .u8 ((v : Int) / 256), .int .u8 ((v : Int) % 256)] : Array Value).toList = (two v).map cB ++ [] := by
  unfold two
  simp only [List.map_cons, List.map_nil, u8_ofNat, List.append_nil]
  have : ((v / 256 : Nat) : Int) % 256 = (v : Int) / 256 := by omega
  rw [this]
theorem two_any (xs : List UInt8) (vs : List Nat) (n K : Nat) (hv : ∀ v ∈ vs, v < 65536) (hK : vs.length = K) (A L : Option Addr) (c cl base : Nat) (w : World) (ho : Own w base 5 IsU8 A n c (xs.map cB)) (hbase : base ≤ w.heap.size) (hn : n ≤ 140737488300000) (hK2 : K ≤ 10)
    (hr : Rd w L K (vs.map (fun (v : Nat) => (Value.int .i64 (v : Int))))) (hL : ∀ g, blk L = some g → blk A ≠ some g) :
    Calls Tryz.prog 80 #[.slice A n c, .slice L K cl] w (RetP w base A (xs ++ vs.flatMap two)) := by
  have hlen : ∀ k, k ≤ K → (xs ++ (vs.take k).flatMap two).length = n + 2 * k := by
    intro k
    have := ho.len
    induction k with
    | zero => intro _; simp at this ⊢; omega
    | succ k ih =>
      intro hk
      have h1 := ih (by omega)
      rw [List.take_succ_eq_append_getElem (by omega), List.flatMap_append]
      simp [two] at h1 ⊢; omega
  have Hlen := Lib.hid hlen; have Ho := Lib.hid ho; have Hr := Lib.hid hr; have HL := Lib.hid hL; have Hv := Lib.hid hv; clear hlen ho hr hL hv
  have Hbase := Lib.hid hbase; clear hbase
  go_enter Tryz.func80, Tryz.ntmps80
  go_wp2_with fail
  go_loopw [0, 9] (fun b i wr => ∃ (k : Nat) (A1 : Option Addr) (c1 : Nat), k ≤ K ∧ b = .slice A1 (n + 2 * k) c1 ∧ i = .int .i64 (k : Int) ∧ Hid (Own wr base 5 IsU8 A1 (n + 2 * k) c1 ((xs ++ (vs.take k).flatMap two).map cB)) ∧ Hid (Grow w wr A A1)) (fun _ i _ => K - (intOf i).toNat)
  case atStart => exact ⟨0, A, c, Nat.zero_le _, rfl, rfl, by simpa [Hid] using Ho.out, Lib.hid (Grow.refl _ _)⟩
  case round =>
    obtain ⟨k, A1, c1, hk, rfl, rfl, HO, HG⟩ := hrel
    rcases Nat.lt_or_ge k K with hlt | hge
    · have hkl : k < vs.length := by omega
      obtain ⟨bk, off, hA, hbk, hl, hcell⟩ := Hr.out.at_ hlt
      subst hA
      rw [List.getElem_map] at hcell
      have hcw : wr.cell? ⟨bk, off + k, none⟩ = some (.int .i64 (vs[k] : Int)) := (World.cell?_of_block (w := w) (HG.out.1.block bk hbk (fun e => HL.out bk rfl e.symm))).trans hcell
      have hv := Hv.out vs[k] (List.getElem_mem hkl)
      have Hst := Lib.hid (show (vs.take (k + 1)).flatMap two = (vs.take k).flatMap two ++ two vs[k] by rw [List.take_succ_eq_append_getElem hkl, List.flatMap_append]; simp)
      clear hcell hl
      generalize vs[k] = v at *
      have Hlit := Lib.hid (two_lit v hv)
      go_wp2_with (at_builtin; go_must (refine app_u8 _ rfl (.tmp 13) (.tmp 19) rfl rfl (HO.out.ext (Ext.alloc _ _)) rfl (Rd.of_heap (ys := []) (heap_alloc_new wr _) Hlit.out (by simp [two])) isU8_map (by omega) (Nat.le_trans (Nat.le_trans Hbase.out HG.out.1.size) (Ext.alloc _ _).size) ?_); intro A2 c2 w2 hown2 hg2 hb2; have HO2 := Lib.hid hown2; have HG2 := Lib.hid (Grow.of_alloc hg2 hb2); clear hown2 hg2 hb2)
      go_roundw
      case rel => exact ⟨k + 1, A2, c2, by omega, rfl, by go_num, by have h := HO2.out; rw [← List.map_append, List.append_assoc, ← Hst.out] at h; exact h, Lib.hid (HG.out.trans HG2.out)⟩
      case measure => simp [intOf]; omega
    · obtain rfl : k = K := by omega
      go_wp2_with fail
      go_ret
      have hl := Hlen.out k (Nat.le_refl _)
      have ht : vs.take k = vs := List.take_of_length_le (by omega)
      have ho := HO.out
      rw [ht] at hl ho
      exact ⟨A1, c1, by rw [hl]; rfl, by rw [hl]; exact ho, HG.out⟩
end Go.Proofs.YtomcipkmohhpjaaGreat

namespace Go.Proofs.YtomcipkmohhpjaaGreat
set_option linter.unusedVariables false
set_option linter.unusedSimpArgs false
set_option maxRecDepth 100000
set_option maxHeartbeats 2000000
open Go Go.RowKit Go.Out

/-- A call that hands back bytes of its own and an error's number. -/
def RetU (w : World) (xs : List UInt8) (err : Int) (e : Ending) (w' : World) : Prop :=
  ∃ A n c, e = .returned (.tuple #[.slice A n c, .int .i64 err]) ∧ Own w' w.heap.size 5 IsU8 A n c (xs.map cB) ∧ Ext w w'
theorem RetU.of {w w' : World} {xs xs' : List UInt8} {A : Option Addr} {n c : Nat} (h : xs' = xs) (ho : Own w' w.heap.size 5 IsU8 A n c (xs'.map cB)) (hx : Ext w w') : RetU w xs 0 (.returned (.tuple #[.slice A n c, .int .i64 0])) w' := ⟨A, n, c, rfl, h ▸ ho, hx⟩
theorem Own.first (w : World) (base : Nat) (h : base ≤ w.heap.size) (x : UInt8) (v : Nat) (hv : x.toNat = v) : Own (w.alloc (.cells #[.int .u8 (v : Int)] 5)) base 5 IsU8 (some ⟨w.heap.size, 0, none⟩) 1 1 ([x].map cB) := by
  subst hv
  exact Own.bytes (l := [x]) h (heap_alloc_new w _) rfl rfl (by unfold maxLen; omega)
/-- A byte and two numbers behind it. -/
theorem first_two (w V : World) (x : UInt8) (b g u v : Nat) (hu : u < 65536) (hv : v < 65536) (hW : Own V w.heap.size 5 IsU8 (some ⟨b, 0, none⟩) 1 1 ([x].map cB)) (hX : Ext w V) (hL : V.heap[g]? = some (.cells #[.int .i64 (u : Int), .int .i64 (v : Int)] 3 (0, 0))) (hne : g ≠ b) :
    Calls Tryz.prog 80 #[.slice (some ⟨b, 0, none⟩) 1 1, .slice (some ⟨g, 0, none⟩) 2 2] V fun e w' => ∃ A c, e = .returned (.slice A 5 c) ∧ Own w' w.heap.size 5 IsU8 A 5 c ((x :: (two u ++ two v)).map cB) ∧ Ext w w' ∧ Grow V w' (some ⟨b, 0, none⟩) A := by
  refine (two_any [x] [u, v] 1 2 (by simp; omega) rfl _ _ _ _ w.heap.size _ hW hX.size (by omega) (by omega)
    (Rd.of_heap (xs := [u, v].map fun (v : Nat) => (Value.int .i64 (v : Int))) (ys := []) hL rfl rfl) (by intro k hk; simp [blk] at hk ⊢; omega)).mono ?_
  rintro e w' ⟨A, c, rfl, ho, hG⟩
  exact ⟨A, c, rfl, ho, hX.grown' hG.1 (fun k hk => by simp [blk] at hk; subst hk; exact (hW.lt b rfl).1), hG⟩
theorem heap_at (w : World) (o : Obj) (g : Nat) (h : g = w.heap.size) : (w.alloc o).heap[g]? = some o := by subst h; exact heap_alloc_new w o
theorem Grow.ne {w w' : World} {A A' : Option Addr} {g : Nat} (h : Grow w w' A A') (hlt : g < w.heap.size) (hne : blk A ≠ some g) : blk A' ≠ some g := by
  rcases h.2 with e | e
  · rw [e]; exact hne
  · intro h2
    have := e g h2
    omega
theorem Grow.own {w w' : World} {A A' B : Option Addr} {base n c : Nat} {t : TypeId} {p : Value → Prop} {xs : List Value} (h : Grow w w' A A') (ho : Own w base t p B n c xs) (hne : ∀ g, blk B = some g → blk A ≠ some g) : Own w' base t p B n c xs :=
  ho.grown h.1 fun g hg e => hne g hg e.symm
theorem Grow.ext {w w0 w' : World} {A A' : Option Addr} {n c : Nat} {t : TypeId} {p : Value → Prop} {xs : List Value} (h : Grow w w' A A') (hx : Ext w0 w) (ho : Own w w0.heap.size t p A n c xs) : Ext w0 w' :=
  hx.grown' h.1 fun k hk => (ho.lt k hk).1
theorem Grow.of_grown {w w' : World} {A A' : Option Addr} (hg : w.grownBy w' (blk A)) (hb : blk A' = blk A ∨ blk A' = some w.heap.size) : Grow w w' A A' :=
  ⟨hg, hb.imp id fun hb k hk => by rw [hb] at hk; injection hk with hk; omega⟩
/-- A Check that finds nothing wrong. -/
theorem askOk {a : AskD} {s : AskS} {w : World} (hr : AskRd w a s) (h : checkF a = 0) : ∀ W, Ext w W → Calls Tryz.prog 79 #[askV a s] W (RetI W 0) := by
  intro W hX
  have := check_any a s W (hr.ext hX)
  rwa [h] at this

theorem askNo (a : AskD) (s : AskS) (w : World) (hr : AskRd w a s) (h : checkF a ≠ 0) : Calls Tryz.prog 36 #[askV a s] w (RetU w [] (checkF a)) := by
  have hc := fun W (hX : Ext w W) => check_any a s W (hr.ext hX)
  obtain ⟨k, hk⟩ : ∃ k, checkF a = k := ⟨_, rfl⟩
  simp only [hk] at hc h ⊢
  have ht : (k != 0) = true := by simpa using h
  have HC := Lib.hid hc; clear hc hr hk h
  obtain ⟨code, addr, count, on, set, parts⟩ := a
  obtain ⟨A1, n1, c1, A2, n2, c2, A3, n3, c3⟩ := s
  simp only [askV] at HC ⊢
  go_enter Tryz.func36, Tryz.ntmps36
  go_wp2_with fail
  refine (HC.out _ (Ext.alloc _ _)).mono ?_
  rintro e w1 ⟨rfl, hb⟩
  have X1 := (Ext.alloc _ _).trans hb
  clear hb
  go_wp2_with fail
  go_ret2
  exact ⟨none, 0, 0, rfl, Own.nil_ _ _ _ _, X1⟩

theorem askCnt (c A n : Nat) (s : AskS) (w : World) (hr : AskRd w ⟨c, A, n, [], [], []⟩ s) (h : checkF ⟨c, A, n, [], [], []⟩ = 0) (h1 : 1 ≤ c) (h4 : c ≤ 4) (hA : A ≤ 65535) (hn : n ≤ 2000) :
    Calls Tryz.prog 36 #[askV ⟨c, A, n, [], [], []⟩ s] w (RetU w (UInt8.ofNat c :: (two A ++ two n)) 0) := by
  have HC := Lib.hid (askOk hr h); clear hr h
  obtain ⟨A1, n1, c1, A2, n2, c2, A3, n3, c3⟩ := s
  simp only [askV] at HC ⊢
  have hc8 : (UInt8.ofNat c).toNat = c := by simp; omega
  go_enter Tryz.func36, Tryz.ntmps36
  go_wp2_with fail
  refine (HC.out _ (Ext.alloc _ _)).mono ?_
  rintro e w1 ⟨rfl, hb⟩
  have D := fun o : Obj => ask_cells _ (hb.trans (Ext.alloc _ o))
  obtain ⟨d0, -⟩ := ask_cells _ hb
  have d1 := fun o => (D o).2.1
  have d2 := fun o => (D o).2.2.1
  have d0' := fun o => (D o).1
  have X1 := Lib.hid ((Ext.alloc _ _).trans hb)
  clear hb D
  go_wp2_with fail
  refine (first_two w _ (UInt8.ofNat c) _ _ A n (by omega) (by omega) ((Own.first w1 _ X1.out.size _ _ hc8).ext (Ext.alloc _ _)) (X1.out.trans ((Ext.alloc _ _).trans (Ext.alloc _ _))) (heap_at _ _ _ (by simp)) (by omega)).mono ?_
  rintro e w2 ⟨A', c', rfl, ho, hx, -⟩
  go_wp2_with fail
  go_ret2
  exact RetU.of rfl ho hx

theorem askCoil (A : Nat) (x : Bool) (s : AskS) (w : World) (hr : AskRd w ⟨5, A, 0, [x], [], []⟩ s) (h : checkF ⟨5, A, 0, [x], [], []⟩ = 0) (hA : A ≤ 65535) :
    Calls Tryz.prog 36 #[askV ⟨5, A, 0, [x], [], []⟩ s] w (RetU w (5 :: (two A ++ two (if x then 65280 else 0))) 0) := by
  have HC := Lib.hid (askOk hr h)
  have h1 := hr.n1
  have hr1 := hr.on
  clear hr h
  obtain ⟨A1, n1, c1, A2, n2, c2, A3, n3, c3⟩ := s
  simp only [askV] at HC h1 hr1 ⊢
  obtain rfl : 1 = n1 := h1
  obtain ⟨bx, ox, rfl, hbx, hlx, hcx⟩ := hr1.boat (k := 0) (by omega)
  simp only [List.getElem_cons_zero, Nat.add_zero] at hcx
  clear hr1
  cases x
  all_goals
    go_enter Tryz.func36, Tryz.ntmps36
    go_wp2_with fail
    refine (HC.out _ (Ext.alloc _ _)).mono ?_
    rintro e w1 ⟨rfl, hb⟩
    have D := fun o : Obj => ask_cells _ (hb.trans (Ext.alloc _ o))
    have hcy := fun o : Obj => ((Ext.alloc w _).trans (hb.trans (Ext.alloc _ o))).cell hbx hcx
    obtain ⟨d0, -⟩ := ask_cells _ hb
    have d1 := fun o => (D o).2.1
    have d3 := fun o => (D o).2.2.2.1
    have d0' := fun o => (D o).1
    have X1 := Lib.hid ((Ext.alloc _ _).trans hb)
    clear hb D
    go_wp2_with fail
    first
      | refine (first_two w _ 5 _ _ A 0 (by omega) (by omega) ((Own.first w1 _ X1.out.size 5 5 rfl).ext (Ext.alloc _ _)) (X1.out.trans ((Ext.alloc _ _).trans (Ext.alloc _ _))) (heap_at _ _ _ (by simp)) (by omega)).mono ?_
      | refine (first_two w _ 5 _ _ A 65280 (by omega) (by omega) ((Own.first w1 _ X1.out.size 5 5 rfl).ext (Ext.alloc _ _)) (X1.out.trans ((Ext.alloc _ _).trans (Ext.alloc _ _))) (heap_at _ _ _ (by simp)) (by omega)).mono ?_
    rintro e w2 ⟨A', c', rfl, ho, hx, -⟩
    go_wp2_with fail
    go_ret2
    exact RetU.of rfl ho hx
end Go.Proofs.YtomcipkmohhpjaaGreat

namespace Go.Proofs.YtomcipkmohhpjaaGreat
set_option linter.unusedVariables false
open Go Go.RowKit Go.Out

theorem info_u16 : (Tryz.prog.info? 48).map (fun i => (i.zero, i.size, i.bytes)) = some (some (.int .u16 0), 1, 2) := by kernel_rfl

theorem sameW_any (a b : List UInt16) (A B : Option Addr) (n m ca cb : Nat) (w : World) (ha : Rd w A n (a.map cW)) (hb : Rd w B m (b.map cW)) (hn : n ≤ maxLen) :
    Calls Tryz.prog 77 #[.slice A n ca, .slice B m cb] w fun e w' => e = .returned (.bool (decide (a = b))) ∧ Below w.heap.size w w' := by
  unfold maxLen at hn
  have hla : a.length = n := by have := ha.1; simpa using this
  have hlb : b.length = m := by have := hb.1; simpa using this
  by_cases hnm : n = m
  · subst hnm
    have Ha := Lib.hid ha; have Hb := Lib.hid hb; have Hla := Lib.hid hla; have Hlb := Lib.hid hlb; clear ha hb hla hlb
    go_enter Tryz.func77, Tryz.ntmps77
    go_wp2
    go_loopw [5] (fun i wr => ∃ k : Nat, k ≤ n ∧ i = .int .i64 k ∧ Below w.heap.size w wr ∧ Hid (a.take k = b.take k)) (fun i _ => n - (intOf i).toNat)
    case atStart => exact ⟨0, Nat.zero_le _, rfl, Below.refl _ _, by simp [Hid]⟩
    case round =>
      obtain ⟨k, hk, rfl, hbel, htk⟩ := hrel
      by_cases hlt : k < n
      · obtain ⟨b1, o1, rfl, -, hl1, hc1⟩ := ((Ha.out).below hbel).u16at hlt
        obtain ⟨b2, o2, rfl, -, hl2, hc2⟩ := ((Hb.out).below hbel).u16at hlt
        by_cases heq : a[k] = b[k]
        · have ht : ((a[k].toNat : Int) != (b[k].toNat : Int)) = false := by simp [heq]
          go_wp2
          go_quiet (fail)
          go_wp2
          go_roundw
          case rel => exact ⟨k + 1, by omega, by go_num, below_drewN hbel _, by unfold Hid at htk ⊢; rw [List.take_succ_eq_append_getElem hl1, List.take_succ_eq_append_getElem hl2]; simp [htk, heq]⟩
          case measure => simp [intOf]; omega
        · have ht : ((a[k].toNat : Int) != (b[k].toNat : Int)) = true := by simp; intro h; exact heq (UInt16.toNat.inj (by omega))
          go_wp2
          go_quiet (fail)
          go_wp2
          go_ret
          exact ⟨ret_bool (by symm; rw [decide_eq_false_iff_not]; intro h; subst h; exact heq rfl), below_drewN hbel _⟩
      · go_wp2
        go_ret
        exact ⟨ret_bool (by symm; rw [decide_eq_true_eq]; have h := htk.out; rwa [List.take_of_length_le (by have := Hla.out; omega), List.take_of_length_le (by have := Hlb.out; omega)] at h), hbel⟩
  · have H := Lib.hid hla; clear hla
    have H' := Lib.hid hlb; clear hlb
    have ht : ((n : Int) != (m : Int)) = true := by simp; omega
    go_enter Tryz.func77, Tryz.ntmps77
    go_wp2
    go_ret
    exact ⟨by simp; intro h; subst h; exact hnm (H.out.symm.trans H'.out), Below.refl _ _⟩

theorem app_u16 {ops : Array Oper} {rest : List Oper} {o : Oper} {a : Act} {Q : Exit → Act → World → Prop} (w : World) (hgd : o.guard = none) (s x : Operand)
    (ho : o.op = .call { callee := .builtin .append, args := #[s, x], argTypes := #[34, 34] })
    {base : Nat} {A : Option Addr} {n c : Nat} {xs : List Value} (hs : a.eval s = .slice A n c) (hown : Own w base 48 IsU16 A n c xs)
    {A' : Option Addr} {m c' : Nat} {news : List Value} (hx : a.eval x = .slice A' m c') (hr : Rd w A' m news) (hnp : ∀ u ∈ news, IsU16 u) (hsz : n + m ≤ 70368744177664) (hbase : base ≤ w.heap.size)
    (h : ∀ A1 c1 w1, Own w1 base 48 IsU16 A1 (n + m) c1 (xs ++ news) → w.grownBy w1 (blk A) → (blk A1 = blk A ∨ blk A1 = some w.heap.size) → wpList Tryz.prog ops Q rest (a.put o.dst (.slice A1 (n + m) c1)) w1) : wpList Tryz.prog ops Q (o :: rest) a w :=
  wpList_append_Own w hgd s x _ ho IsU16 base _ (.int .u16 0) 2 Tryz.underlying34 info_u16 rfl ⟨0, rfl⟩ (fun _ => isU16_one) A n c xs hs hown A' m c' news hx hr hnp (by omega) (by omega) hbase h

theorem copyW_any (l : List UInt16) (A : Option Addr) (n c : Nat) (w : World) (hr : Rd w A n (l.map cW)) (hn : n ≤ 70368744177664) :
    Calls Tryz.prog 92 #[.slice A n c] w (RetOwn w 48 IsU16 n (l.map cW)) := by
  have hl : l.length = n := by have := hr.1; simpa using this
  have Hr := Lib.hid hr; have Hl := Lib.hid hl; clear hr hl
  go_enter Tryz.func92, Tryz.ntmps92
  go_wp2
  go_loopw [3, 4] (fun v i wr => ∃ (k c : Nat) (A : Option Addr), k ≤ n ∧ i = .int .i64 k ∧ v = .slice A k c ∧ Own wr w.heap.size 48 IsU16 A k c ((l.take k).map cW) ∧ Below w.heap.size w wr) (fun _ i _ => n - (intOf i).toNat)
  case atStart => exact ⟨0, 0, none, Nat.zero_le _, rfl, rfl, Own.nil_ _ _ _ _, Below.refl _ _⟩
  case round =>
    obtain ⟨k, c1, A1, hk, rfl, rfl, hown, hbel⟩ := hrel
    by_cases hlt : k < n
    · obtain ⟨b1, o1, rfl, -, hl1, hc1⟩ := ((Hr.out).below hbel).u16at hlt
      have hbs := hbel.size
      go_wp2_with (at_builtin; go_loud (refine app_u16 _ rfl (.tmp 11) (.tmp 16) rfl rfl (hown.alloc _) rfl (Rd.one _ _ _) (by intro u hu; simp at hu; subst hu; exact ⟨_, rfl⟩) (by omega) (by simp; omega) ?_); intro A2 c2 w2 hown2 hg2 hb2)
      go_roundw
      case rel => exact ⟨k + 1, c2, A2, by omega, by go_num, rfl, by rw [map_take_succ _ _ _ hl1]; exact hown2, below_app hbel hbs hg2 (fun g hg => (hown.lt g hg).1)⟩
      case measure => simp [intOf]; omega
    · obtain rfl : k = n := by omega
      go_wp2
      go_ret
      exact ⟨_, _, rfl, by rw [List.take_of_length_le (by have := Hl.out; omega)] at hown; exact hown, hbel⟩

theorem lentW_any (l : List UInt16) (A : Option Addr) (n c : Nat) (w : World) (hr : Rd w A n (l.map cW)) (hn : n ≤ 70368744177664) :
    Calls Tryz.prog 43 #[.slice A n c] w fun e w' => ∃ g cur, e = .returned (.slice (some ⟨g, 0, none⟩) n (n + 5)) ∧ w.heap.size ≤ g ∧ w'.heap[g]? = some (.cells cur 48 (0, 0)) ∧ cur.toList = l.map cW ++ List.replicate 5 (.int .u16 42330) ∧ Below w.heap.size w w' := by
  have hl : l.length = n := by have := hr.1; simpa using this
  have Hr := Lib.hid hr; have Hl := Lib.hid hl; clear hr hl
  have hmk : ∀ W : World, (Instr.makeSlice 34 (.int .i64 ((n : Int) + 5)) (.int .i64 ((n : Int) + 5))).run Tryz.prog W = .ok (.slice (some ⟨W.heap.size, 0, none⟩) (n + 5) (n + 5)) (W.alloc (.cells (Array.replicate (n + 5) (.int .u16 0)) 48)) :=
    fun W => by have := run_make1 (P := Tryz.prog) 34 48 (.int .u16 0) 2 Tryz.underlying34 info_u16 rfl (n + 5) (by omega) (by omega) W; simpa using this
  go_enter Tryz.func43, Tryz.ntmps43
  go_wp2
  have HT : Hid ((l.map cW ++ List.replicate 5 (Value.int .u16 42330)).length = n + 5) := by have := Hl.out; simp [Hid]; omega
  go_loopw [4] (fun i wr => ∃ (k : Nat) (cur : Array Value), k ≤ n ∧ i = .int .i64 k ∧ wr.heap[w.heap.size]? = some (.cells cur 48 (0, 0)) ∧ Hid (cur.toList = (l.map cW ++ List.replicate 5 (Value.int .u16 42330)).take k ++ List.replicate (n + 5 - k) (.int .u16 0)) ∧ Hid (cur.size = n + 5) ∧ Below w.heap.size w wr) (fun i _ => n - (intOf i).toNat)
  case atStart => exact ⟨0, Array.replicate (n + 5) (.int .u16 0), Nat.zero_le _, rfl, heap_alloc_new w _, by simp [Hid], by simp [Hid], (Below.refl _ _).alloc (Nat.le_refl _) _⟩
  case round =>
    obtain ⟨k, cur, hk, rfl, hh, hcur, Hcs, hbel⟩ := hrel
    by_cases hlt : k < n
    · obtain ⟨b1, o1, rfl, -, hl1, hc1⟩ := ((Hr.out).below hbel).u16at hlt
      obtain ⟨old, hce⟩ := heap_cell (k := k) hh (by have := Hcs.out; omega)
      have hfz := frozen_of_row wr w.heap.size k cur _ hh
      have Hh := Lib.hid hh; clear hh
      go_wp2
      go_roundw
      case rel => exact ⟨k + 1, cur.setIfInBounds k (.int .u16 (l[k].toNat : Int)), by omega, by go_num, heap_setCell_same _ _ _ _ _ _ Hh.out, fill_step hcur HT.out (by rw [List.getElem?_append_left (by simpa using hl1)]; simp [hl1, cW]), by have := Hcs.out; simp [Hid]; omega, hbel.setCell (Nat.le_refl _) _⟩
      case measure => simp [intOf]; omega
    · obtain rfl : k = n := by omega
      have Hh := Lib.hid hh; clear hh
      go_wp2
      go_loopw [5] (fun i wr => ∃ (j : Nat) (cur : Array Value), k ≤ j ∧ j ≤ k + 5 ∧ i = .int .i64 j ∧ wr.heap[w.heap.size]? = some (.cells cur 48 (0, 0)) ∧ Hid (cur.toList = (l.map cW ++ List.replicate 5 (Value.int .u16 42330)).take j ++ List.replicate (k + 5 - j) (.int .u16 0)) ∧ Hid (cur.size = k + 5) ∧ Below w.heap.size w wr) (fun i _ => k + 5 - (intOf i).toNat)
      case atStart => exact ⟨k, cur, Nat.le_refl _, by omega, rfl, Hh.out, hcur, Hcs, hbel⟩
      case round =>
        obtain ⟨j, cur', hj1, hj2, rfl, hh', hcur', Hcs', hbel'⟩ := hrel
        by_cases hlt' : j < k + 5
        · obtain ⟨old, hce⟩ := heap_cell (k := j) hh' (by have := Hcs'.out; omega)
          have hfz := frozen_of_row _ w.heap.size j cur' _ hh'
          have Hh' := Lib.hid hh'; clear hh'
          go_wp2
          go_roundw
          case rel => exact ⟨j + 1, cur'.setIfInBounds j (.int .u16 42330), by omega, by omega, by go_num, heap_setCell_same _ _ _ _ _ _ Hh'.out, fill_step hcur' HT.out (by have := Hl.out; rw [List.getElem?_append_right (by simp; omega), List.getElem?_replicate, if_pos (by simp; omega)]), by have := Hcs'.out; simp [Hid]; omega, hbel'.setCell (Nat.le_refl _) _⟩
          case measure => simp [intOf]; omega
        · obtain rfl : j = k + 5 := by omega
          have Hh' := Lib.hid hh'; clear hh'
          go_wp2
          go_ret
          exact ⟨_, cur', rfl, Nat.le_refl _, Hh'.out, by have h := hcur'.out; rwa [Nat.sub_self, List.replicate_zero, List.append_nil, List.take_of_length_le (by rw [HT.out]; exact Nat.le_refl _)] at h, hbel'⟩

theorem keptW_any (l : List UInt16) (A : Option Addr) (n c g : Nat) (cur : Array Value) (w : World) (hr : Rd w A n (l.map cW)) (hh : w.heap[g]? = some (.cells cur 48 (0, 0))) (hcur : cur.toList = l.map cW ++ List.replicate 5 (.int .u16 42330)) (hn : n ≤ 70368744177664) :
    Calls Tryz.prog 50 #[.slice (some ⟨g, 0, none⟩) n (n + 5), .slice A n c] w fun e w' => e = .returned (.bool true) ∧ Below w.heap.size w w' := by
  have hl : l.length = n := by have := hr.1; simpa using this
  have hrg : Rd w (some ⟨g, 0, none⟩) n (l.map cW) := ⟨by simpa using hl, fun _ => ⟨g, 0, rfl, lt_of_heap hh, fun j u hu => by
    rw [cell_of_row _ _ _ _ _ _ hh, ← Array.getElem?_toList, hcur, Nat.zero_add, List.getElem?_append_left (by have := (List.getElem?_eq_some_iff.1 hu).1; omega)]; exact hu⟩⟩
  have hcs : cur.size = n + 5 := by rw [← Array.length_toList, hcur]; simp [hl]
  have hsp : ∀ j, n ≤ j → j < n + 5 → w.cell? ⟨g, j, none⟩ = some (.int .u16 42330) := fun j h1 h2 => by
    rw [cell_of_row _ _ _ _ _ _ hh, ← Array.getElem?_toList, hcur, List.getElem?_append_right (by simp; omega), List.getElem?_replicate, if_pos (by simp; omega)]
  have hlt := lt_of_heap hh
  have Hr := Lib.hid hr; have Hrg := Lib.hid hrg; have Hsp := Lib.hid hsp; clear hr hrg hsp hl hh hcur hcs
  go_enter Tryz.func50, Tryz.ntmps50
  go_wp2_with fail
  refine (sameW_any l l _ _ _ _ _ _ _ Hrg.out Hr.out (by unfold maxLen; omega)).mono ?_
  rintro e w1 ⟨rfl, hb1⟩
  rw [decide_eq_true rfl]
  go_wp2_with fail
  go_loopw [6] (fun i wr => ∃ (j : Nat), n ≤ j ∧ j ≤ n + 5 ∧ i = .int .i64 j ∧ Below w.heap.size w wr) (fun i _ => n + 5 - (intOf i).toNat)
  case atStart => exact ⟨n, Nat.le_refl _, by omega, rfl, hb1⟩
  case round =>
    obtain ⟨j, hj1, hj2, rfl, hbel⟩ := hrel
    by_cases hlt' : j < n + 5
    · have hc1 : wr.cell? ⟨g, j, none⟩ = some (.int .u16 42330) := (hbel.cell (p := ⟨g, j, none⟩) hlt).trans (Hsp.out j hj1 hlt')
      go_wp2
      go_roundw
      case rel => exact ⟨j + 1, by omega, by omega, by go_num, hbel⟩
      case measure => simp [intOf]; omega
    · go_wp2
      go_ret
      exact ⟨rfl, hbel⟩

theorem spoilW_any (A : Option Addr) (n c base : Nat) (xs : List Value) (w : World) (ho : Own w base 48 IsU16 A n c xs) :
    Calls Tryz.prog 53 #[.slice A n c] w fun e w' => e = .returned (.tuple #[]) ∧ (∃ ys, Own w' base 48 IsU16 A n c ys) ∧ w.grownBy w' (blk A) := by
  obtain ⟨h1, h2, h3, h4⟩ := ho
  unfold maxLen at h3
  have H1 := Lib.hid h1; clear h1
  rcases h4 with ⟨rfl, rfl⟩ | ⟨g, off, cur, rfl, hbg, hh, hcs, ht, hp⟩
  · obtain rfl : n = 0 := by omega
    go_enter Tryz.func53, Tryz.ntmps53
    go_wp2_with fail
    refine wp_loop_rounds 1 ?_
    rw [rounds_succ]
    go_wp2
    go_end0
    exact ⟨rfl, ⟨[], Own.nil_ _ _ _ _⟩, World.grownBy.refl _ _⟩
  · have Ht := Lib.hid ht; have Hcs := Lib.hid hcs; have Hp := Lib.hid hp; have Hh := Lib.hid hh; clear ht hcs hp hh
    go_enter Tryz.func53, Tryz.ntmps53
    go_wp2_with fail
    go_loopw [3] (fun i wr => ∃ (k : Nat) (cur : Array Value), k ≤ c ∧ i = .int .i64 k ∧ wr.heap[g]? = some (.cells cur 48 (0, 0)) ∧ Hid (cur.size = off + c) ∧ Hid (∀ u ∈ cur.toList, IsU16 u) ∧ w.grownBy wr (some g)) (fun i _ => c - (intOf i).toNat)
    case atStart => exact ⟨0, cur, by omega, rfl, Hh.out, Hcs, Hp, World.grownBy.refl _ _⟩
    case round =>
      obtain ⟨k, cur', hk, rfl, hh, Hcs', Hp', hg⟩ := hrel
      by_cases hlt : k < c
      · obtain ⟨old, hce⟩ := heap_cell (k := off + k) hh (by have := Hcs'.out; omega)
        obtain ⟨x, rfl⟩ : IsU16 old := by
          refine Hp'.out _ ?_
          rw [cell_of_row _ _ _ _ _ _ hh] at hce
          exact Array.mem_toList_iff.2 (Array.mem_of_getElem? hce)
        have hfz := frozen_of_row wr g (off + k) cur' _ hh
        have Hh' := Lib.hid hh; clear hh
        go_wp2
        go_roundw
        case rel => exact ⟨k + 1, cur'.setIfInBounds (off + k) _, by omega, by go_num, heap_setCell_same _ _ _ _ _ _ Hh'.out, by have := Hcs'.out; simp [Hid]; omega, all_set Hp'.out (isU16_bits _ _ _), only_setCell hg (.inl rfl) _⟩
        case measure => simp [intOf]; omega
      · obtain rfl : k = c := by omega
        have Hh' := Lib.hid hh; clear hh
        go_wp2
        go_end0
        exact ⟨rfl, ⟨_, Own.of_heap hbg Hh'.out n k h2 Hcs'.out (by unfold maxLen; omega) Hp'.out⟩, hg⟩


end Go.Proofs.YtomcipkmohhpjaaGreat
