/- Contracts of the requests: what is wrong with a request. -/
import Derived.Test.YtcnjhjfepojdaaaAsk2
import Derived.Test.YtcnjhjfepojdaaaAskPure2
namespace Go.Proofs.Ytcnjhjfepojdaaa
set_option linter.unusedVariables false
set_option linter.unusedSimpArgs false
set_option maxRecDepth 100000
open Go Go.RowKit Go.Out

theorem ask_cells {w : World} {code addr count : Int} {A1 A2 A3 : Option Addr} {n1 c1 n2 c2 n3 c3 : Nat} :
    ∀ W : World, Ext (w.alloc (.cells #[.int .i64 code, .int .i64 addr, .int .i64 count, .slice A1 n1 c1, .slice A2 n2 c2, .slice A3 n3 c3] 26)) W →
      W.cell? ⟨w.heap.size, 0, none⟩ = some (.int .i64 code) ∧ W.cell? ⟨w.heap.size, 1, none⟩ = some (.int .i64 addr) ∧ W.cell? ⟨w.heap.size, 2, none⟩ = some (.int .i64 count) ∧
      W.cell? ⟨w.heap.size, 3, none⟩ = some (.slice A1 n1 c1) ∧ W.cell? ⟨w.heap.size, 4, none⟩ = some (.slice A2 n2 c2) ∧ W.cell? ⟨w.heap.size, 5, none⟩ = some (.slice A3 n3 c3) := by
  intro W hX
  have h := hX.block (heap_alloc_new w _)
  exact ⟨(cell_of_row _ _ _ _ _ _ h).trans rfl, (cell_of_row _ _ _ _ _ _ h).trans rfl, (cell_of_row _ _ _ _ _ _ h).trans rfl, (cell_of_row _ _ _ _ _ _ h).trans rfl, (cell_of_row _ _ _ _ _ _ h).trans rfl, (cell_of_row _ _ _ _ _ _ h).trans rfl⟩
theorem shape_cells {w : World} {M : Int} {b1 b2 b3 b4 : Bool} : ∀ W : World, Ext (w.alloc (.cells #[.int .i64 M, .bool b1, .bool b2, .bool b3, .bool b4] 73)) W →
      W.cell? ⟨w.heap.size, 0, none⟩ = some (.int .i64 M) ∧ W.cell? ⟨w.heap.size, 1, none⟩ = some (.bool b1) ∧ W.cell? ⟨w.heap.size, 2, none⟩ = some (.bool b2) ∧ W.cell? ⟨w.heap.size, 3, none⟩ = some (.bool b3) ∧ W.cell? ⟨w.heap.size, 4, none⟩ = some (.bool b4) := by
  intro W hX
  have h := hX.block (heap_alloc_new w _)
  exact ⟨(cell_of_row _ _ _ _ _ _ h).trans rfl, (cell_of_row _ _ _ _ _ _ h).trans rfl, (cell_of_row _ _ _ _ _ _ h).trans rfl, (cell_of_row _ _ _ _ _ _ h).trans rfl, (cell_of_row _ _ _ _ _ _ h).trans rfl⟩
/-- A call that hands back a number. -/
def RetI (w : World) (k : Int) (e : Ending) (w' : World) : Prop := e = .returned (.int .i64 k) ∧ Ext w w'
theorem RetI.of {w w' : World} {k k' : Int} (h : k = k') (hx : Ext w w') : RetI w k (.returned (.int .i64 k')) w' := ⟨by rw [h], hx⟩

theorem check_cnt (code addr count : Int) (A1 A2 A3 : Option Addr) (n1 c1 n2 c2 n3 c3 : Nat) (M N K : Int) (w : World) (hs : shapeV code = .agg #[.int .i64 M, .bool true, .bool false, .bool false, .bool false]) (hp : codeP code)
    (hm : ∀ W : World, Calls Try.prog 39 #[.agg #[.int .i64 M, .bool true, .bool false, .bool false, .bool false], .agg #[.int .i64 code, .int .i64 addr, .int .i64 count, .slice A1 n1 c1, .slice A2 n2 c2, .slice A3 n3 c3]] W fun e w' => e = .returned (.int .i64 N) ∧ Ext W w')
    (hM : M ≤ 2000)
    (f1 : Hid ((0 < n1 ∨ 0 < n2 ∨ 0 < n3) → K = 23)) (f2 : Hid (¬ (0 < n1 ∨ 0 < n2 ∨ 0 < n3) → (addr < 0 ∨ 65535 < addr) → K = 21)) (f3 : Hid (¬ (0 < n1 ∨ 0 < n2 ∨ 0 < n3) → ¬ (addr < 0 ∨ 65535 < addr) → (N < 1 ∨ M < N) → K = 22))
    (f4 : Hid (¬ (0 < n1 ∨ 0 < n2 ∨ 0 < n3) → ¬ (addr < 0 ∨ 65535 < addr) → ¬ (N < 1 ∨ M < N) → 65536 < addr + N → K = 21)) (f5 : Hid (¬ (0 < n1 ∨ 0 < n2 ∨ 0 < n3) → ¬ (addr < 0 ∨ 65535 < addr) → ¬ (N < 1 ∨ M < N) → ¬ 65536 < addr + N → K = 0)) :
    Calls Try.prog 27 #[.agg #[.int .i64 code, .int .i64 addr, .int .i64 count, .slice A1 n1 c1, .slice A2 n2 c2, .slice A3 n3 c3]] w (RetI w K) := by
  go_enter Try.func27, Try.ntmps27
  go_wp2_with fail
  refine (shapeOf_any code _).mono ?_
  rintro e w1 ⟨rfl, hb⟩
  rw [hs, decide_eq_true hp]
  have XA : ∀ o : Obj, Ext _ (w1.alloc o) := fun o => hb.trans (Ext.alloc _ o)
  have D := fun o => ask_cells _ (XA o)
  have d0 := fun o => (D o).1
  have d1 := fun o => (D o).2.1
  have d2 := fun o => (D o).2.2.1
  have d3 := fun o => (D o).2.2.2.1
  have d4 := fun o => (D o).2.2.2.2.1
  have d5 := fun o => (D o).2.2.2.2.2
  clear D
  have HX := Lib.hid XA
  clear XA
  go_wp2_with fail
  all_goals first
    | go_ret
      exact RetI.of (f1.out (by omega)) ((Ext.alloc _ _).trans (HX.out _))
    | go_ret
      exact RetI.of (f2.out (by omega) (by omega)) ((Ext.alloc _ _).trans (HX.out _))
    | skip
  refine (hm _).mono ?_
  rintro e w2 ⟨rfl, hb2⟩
  obtain ⟨d0, d1, d2, d3, d4, d5⟩ := ask_cells _ ((HX.out _).trans hb2)
  obtain ⟨g0, g1, g2, g3, g4⟩ := shape_cells _ hb2
  have HY := Lib.hid ((Ext.alloc _ _).trans ((HX.out _).trans hb2))
  clear HX hb hb2
  go_wp2_with fail
  all_goals first
    | go_ret
      exact RetI.of (f3.out (by omega) (by omega) (by omega)) HY.out
    | go_ret
      exact RetI.of (f4.out (by omega) (by omega) (by omega) (by omega)) HY.out
    | go_ret
      exact RetI.of (f5.out (by omega) (by omega) (by omega) (by omega)) HY.out
    | skip
  rename_i q1 q2 q3 q4 q5 q6 q7 q8
  obtain rfl : n3 = 0 := by omega
  go_loopw [6, 94] (fun room i wr => room = .int .i64 245 ∧ i = .int .i64 0 ∧ wr = w2) (fun _ _ _ => 0)
  case atStart => exact ⟨rfl, rfl, rfl⟩
  case round =>
    obtain ⟨rfl, rfl, rfl⟩ := hrel
    go_wp2_with fail
    go_ret
    exact RetI.of (f5.out (by omega) (by omega) (by omega) (by omega)) HY.out
theorem check_on (code addr : Int) (A1 A2 A3 : Option Addr) (n1 c1 n2 c2 n3 c3 : Nat) (M N K : Int) (w : World) (hs : shapeV code = .agg #[.int .i64 M, .bool false, .bool true, .bool false, .bool false]) (hp : codeP code)
    (hm : ∀ W : World, Calls Try.prog 39 #[.agg #[.int .i64 M, .bool false, .bool true, .bool false, .bool false], .agg #[.int .i64 code, .int .i64 addr, .int .i64 0, .slice A1 n1 c1, .slice A2 n2 c2, .slice A3 n3 c3]] W fun e w' => e = .returned (.int .i64 N) ∧ Ext W w')
    (hM : M ≤ 2000)
    (f1 : Hid ((0 < n2 ∨ 0 < n3) → K = 23)) (f2 : Hid (¬ (0 < n2 ∨ 0 < n3) → (addr < 0 ∨ 65535 < addr) → K = 21)) (f3 : Hid (¬ (0 < n2 ∨ 0 < n3) → ¬ (addr < 0 ∨ 65535 < addr) → (N < 1 ∨ M < N) → K = 22))
    (f4 : Hid (¬ (0 < n2 ∨ 0 < n3) → ¬ (addr < 0 ∨ 65535 < addr) → ¬ (N < 1 ∨ M < N) → 65536 < addr + N → K = 21)) (f5 : Hid (¬ (0 < n2 ∨ 0 < n3) → ¬ (addr < 0 ∨ 65535 < addr) → ¬ (N < 1 ∨ M < N) → ¬ 65536 < addr + N → K = 0)) :
    Calls Try.prog 27 #[.agg #[.int .i64 code, .int .i64 addr, .int .i64 0, .slice A1 n1 c1, .slice A2 n2 c2, .slice A3 n3 c3]] w (RetI w K) := by
  go_enter Try.func27, Try.ntmps27
  go_wp2_with fail
  refine (shapeOf_any code _).mono ?_
  rintro e w1 ⟨rfl, hb⟩
  rw [hs, decide_eq_true hp]
  have XA : ∀ o : Obj, Ext _ (w1.alloc o) := fun o => hb.trans (Ext.alloc _ o)
  have D := fun o => ask_cells _ (XA o)
  have d0 := fun o => (D o).1
  have d1 := fun o => (D o).2.1
  have d2 := fun o => (D o).2.2.1
  have d3 := fun o => (D o).2.2.2.1
  have d4 := fun o => (D o).2.2.2.2.1
  have d5 := fun o => (D o).2.2.2.2.2
  clear D
  have HX := Lib.hid XA
  clear XA
  go_wp2_with fail
  all_goals first
    | go_ret
      exact RetI.of (f1.out (by omega)) ((Ext.alloc _ _).trans (HX.out _))
    | go_ret
      exact RetI.of (f2.out (by omega) (by omega)) ((Ext.alloc _ _).trans (HX.out _))
    | skip
  refine (hm _).mono ?_
  rintro e w2 ⟨rfl, hb2⟩
  obtain ⟨d0, d1, d2, d3, d4, d5⟩ := ask_cells _ ((HX.out _).trans hb2)
  obtain ⟨g0, g1, g2, g3, g4⟩ := shape_cells _ hb2
  have HY := Lib.hid ((Ext.alloc _ _).trans ((HX.out _).trans hb2))
  clear HX hb hb2
  go_wp2_with fail
  all_goals first
    | go_ret
      exact RetI.of (f3.out (by omega) (by omega) (by omega)) HY.out
    | go_ret
      exact RetI.of (f4.out (by omega) (by omega) (by omega) (by omega)) HY.out
    | go_ret
      exact RetI.of (f5.out (by omega) (by omega) (by omega) (by omega)) HY.out
    | skip
  rename_i q1 q2 q3 q4 q5 q6 q7 q8
  obtain rfl : n3 = 0 := by omega
  go_loopw [6, 94] (fun room i wr => room = .int .i64 245 ∧ i = .int .i64 0 ∧ wr = w2) (fun _ _ _ => 0)
  case atStart => exact ⟨rfl, rfl, rfl⟩
  case round =>
    obtain ⟨rfl, rfl, rfl⟩ := hrel
    go_wp2_with fail
    go_ret
    exact RetI.of (f5.out (by omega) (by omega) (by omega) (by omega)) HY.out
theorem check_set (code addr : Int) (A1 A2 A3 : Option Addr) (n1 c1 n2 c2 n3 c3 : Nat) (M N K : Int) (w : World) (hs : shapeV code = .agg #[.int .i64 M, .bool false, .bool false, .bool true, .bool false]) (hp : codeP code)
    (hm : ∀ W : World, Calls Try.prog 39 #[.agg #[.int .i64 M, .bool false, .bool false, .bool true, .bool false], .agg #[.int .i64 code, .int .i64 addr, .int .i64 0, .slice A1 n1 c1, .slice A2 n2 c2, .slice A3 n3 c3]] W fun e w' => e = .returned (.int .i64 N) ∧ Ext W w')
    (hM : M ≤ 2000)
    (f1 : Hid ((0 < n1 ∨ 0 < n3) → K = 23)) (f2 : Hid (¬ (0 < n1 ∨ 0 < n3) → (addr < 0 ∨ 65535 < addr) → K = 21)) (f3 : Hid (¬ (0 < n1 ∨ 0 < n3) → ¬ (addr < 0 ∨ 65535 < addr) → (N < 1 ∨ M < N) → K = 22))
    (f4 : Hid (¬ (0 < n1 ∨ 0 < n3) → ¬ (addr < 0 ∨ 65535 < addr) → ¬ (N < 1 ∨ M < N) → 65536 < addr + N → K = 21)) (f5 : Hid (¬ (0 < n1 ∨ 0 < n3) → ¬ (addr < 0 ∨ 65535 < addr) → ¬ (N < 1 ∨ M < N) → ¬ 65536 < addr + N → K = 0)) :
    Calls Try.prog 27 #[.agg #[.int .i64 code, .int .i64 addr, .int .i64 0, .slice A1 n1 c1, .slice A2 n2 c2, .slice A3 n3 c3]] w (RetI w K) := by
  go_enter Try.func27, Try.ntmps27
  go_wp2_with fail
  refine (shapeOf_any code _).mono ?_
  rintro e w1 ⟨rfl, hb⟩
  rw [hs, decide_eq_true hp]
  have XA : ∀ o : Obj, Ext _ (w1.alloc o) := fun o => hb.trans (Ext.alloc _ o)
  have D := fun o => ask_cells _ (XA o)
  have d0 := fun o => (D o).1
  have d1 := fun o => (D o).2.1
  have d2 := fun o => (D o).2.2.1
  have d3 := fun o => (D o).2.2.2.1
  have d4 := fun o => (D o).2.2.2.2.1
  have d5 := fun o => (D o).2.2.2.2.2
  clear D
  have HX := Lib.hid XA
  clear XA
  go_wp2_with fail
  all_goals first
    | go_ret
      exact RetI.of (f1.out (by omega)) ((Ext.alloc _ _).trans (HX.out _))
    | go_ret
      exact RetI.of (f2.out (by omega) (by omega)) ((Ext.alloc _ _).trans (HX.out _))
    | skip
  refine (hm _).mono ?_
  rintro e w2 ⟨rfl, hb2⟩
  obtain ⟨d0, d1, d2, d3, d4, d5⟩ := ask_cells _ ((HX.out _).trans hb2)
  obtain ⟨g0, g1, g2, g3, g4⟩ := shape_cells _ hb2
  have HY := Lib.hid ((Ext.alloc _ _).trans ((HX.out _).trans hb2))
  clear HX hb hb2
  go_wp2_with fail
  all_goals first
    | go_ret
      exact RetI.of (f3.out (by omega) (by omega) (by omega)) HY.out
    | go_ret
      exact RetI.of (f4.out (by omega) (by omega) (by omega) (by omega)) HY.out
    | go_ret
      exact RetI.of (f5.out (by omega) (by omega) (by omega) (by omega)) HY.out
    | skip
  rename_i q1 q2 q3 q4 q5 q6 q7 q8
  obtain rfl : n3 = 0 := by omega
  go_loopw [6, 94] (fun room i wr => room = .int .i64 245 ∧ i = .int .i64 0 ∧ wr = w2) (fun _ _ _ => 0)
  case atStart => exact ⟨rfl, rfl, rfl⟩
  case round =>
    obtain ⟨rfl, rfl, rfl⟩ := hrel
    go_wp2_with fail
    go_ret
    exact RetI.of (f5.out (by omega) (by omega) (by omega) (by omega)) HY.out
theorem check_count (code addr count : Int) (A1 A2 A3 : Option Addr) (n1 c1 n2 c2 n3 c3 : Nat) (M : Int) (b2 b3 b4 : Bool) (w : World) (hs : shapeV code = .agg #[.int .i64 M, .bool false, .bool b2, .bool b3, .bool b4]) (hp : codeP code)
    (hc0 : count ≠ 0) :
    Calls Try.prog 27 #[.agg #[.int .i64 code, .int .i64 addr, .int .i64 count, .slice A1 n1 c1, .slice A2 n2 c2, .slice A3 n3 c3]] w (RetI w 23) := by
  have hcb : (count != 0) = true := by simpa using hc0
  go_enter Try.func27, Try.ntmps27
  go_wp2_with fail
  refine (shapeOf_any code _).mono ?_
  rintro e w1 ⟨rfl, hb⟩
  rw [hs, decide_eq_true hp]
  have XA : ∀ o : Obj, Ext _ (w1.alloc o) := fun o => hb.trans (Ext.alloc _ o)
  have D := fun o => ask_cells _ (XA o)
  have d0 := fun o => (D o).1
  have d1 := fun o => (D o).2.1
  have d2 := fun o => (D o).2.2.1
  have d3 := fun o => (D o).2.2.2.1
  have d4 := fun o => (D o).2.2.2.2.1
  have d5 := fun o => (D o).2.2.2.2.2
  clear D
  have HX := Lib.hid XA
  clear XA
  go_wp2_with fail
  go_ret
  exact RetI.of rfl ((Ext.alloc _ _).trans (HX.out _))
theorem check_addr (code addr : Int) (A1 A2 A3 : Option Addr) (n1 c1 n2 c2 n3 c3 : Nat) (M : Int) (w : World) (hs : shapeV code = .agg #[.int .i64 M, .bool false, .bool false, .bool false, .bool true]) (hp : codeP code)
    (hc0 : addr ≠ 0) :
    Calls Try.prog 27 #[.agg #[.int .i64 code, .int .i64 addr, .int .i64 0, .slice A1 n1 c1, .slice A2 n2 c2, .slice A3 n3 c3]] w (RetI w 23) := by
  have hcb : (addr != 0) = true := by simpa using hc0
  go_enter Try.func27, Try.ntmps27
  go_wp2_with fail
  refine (shapeOf_any code _).mono ?_
  rintro e w1 ⟨rfl, hb⟩
  rw [hs, decide_eq_true hp]
  have XA : ∀ o : Obj, Ext _ (w1.alloc o) := fun o => hb.trans (Ext.alloc _ o)
  have D := fun o => ask_cells _ (XA o)
  have d0 := fun o => (D o).1
  have d1 := fun o => (D o).2.1
  have d2 := fun o => (D o).2.2.1
  have d3 := fun o => (D o).2.2.2.1
  have d4 := fun o => (D o).2.2.2.2.1
  have d5 := fun o => (D o).2.2.2.2.2
  clear D
  have HX := Lib.hid XA
  clear XA
  go_wp2_with fail
  all_goals
    go_ret
    exact RetI.of rfl ((Ext.alloc _ _).trans (HX.out _))
end Go.Proofs.Ytcnjhjfepojdaaa
