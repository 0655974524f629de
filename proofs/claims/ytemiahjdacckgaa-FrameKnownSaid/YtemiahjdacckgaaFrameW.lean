/- Contracts of the statements' same and known (layer 05). -/
import Derived.Test.YtemiahjdacckgaaStream2R
import Derived.Test.YtemiahjdacckgaaStreamLaw
import Derived.Test.YtemiahjdacckgaaSeenP
import Derived.Test.YtemiahjdacckgaaList
namespace Go.Proofs.Ytemiahjdacckgaa
set_option linter.unusedVariables false
open Go Go.RowKit Go.Out

theorem tcpSame_any (x : TcpD) (A B : Option Addr) (n m ca cb : Nat) (w : World) (ha : Rd w A n (x.pdu.map cB)) (hb : Rd w B m (x.pdu.map cB)) (hn : n ≤ 9223372036854775807) :
    Calls Try.prog 35 #[.agg #[.int .u16 (x.id : Int), .int .u8 (x.unit.toNat : Int), .slice A n ca], .agg #[.int .u16 (x.id : Int), .int .u8 (x.unit.toNat : Int), .slice B m cb]] w fun e w' => e = .returned (.bool true) ∧ Below w.heap.size w w' := by
  have X0 : Ext w ((w.alloc (.cells #[.int .u16 (x.id : Int), .int .u8 (x.unit.toNat : Int), .slice A n ca] 34)).alloc (.cells #[.int .u16 (x.id : Int), .int .u8 (x.unit.toNat : Int), .slice B m cb] 34)) := (Ext.alloc _ _).trans (Ext.alloc _ _)
  have Ha := Lib.hid (ha.ext X0); have Hb := Lib.hid (hb.ext X0); clear ha hb
  have HX := Lib.hid X0; clear X0
  go_enter Try.func35, Try.ntmps35
  go_wp2_with fail
  refine (same_any x.pdu x.pdu _ _ _ _ _ _ _ Ha.out Hb.out (by unfold maxLen; omega)).mono ?_
  rintro e w1 ⟨rfl, hb1⟩
  rw [decide_eq_true rfl]
  go_wp2_with fail
  go_ret
  exact ⟨rfl, (HX.out.trans hb1).below⟩

theorem k5a : rtuF 1 [3, 0, 0, 0, 10] = ([1, 3, 0, 0, 0, 10, 197, 205], 0) := by decide +kernel
theorem k5b : openRtuF [1, 3, 0, 0, 0, 10, 197, 205] = (1, [3, 0, 0, 0, 10], 0) := by decide +kernel
theorem k5c : getTF [0, 1, 0, 0, 0, 2, 17, 7, 9] = (⟨1, 17, [7]⟩, 8, 0) := by kernel_rfl

theorem known5_any (w : World) : Calls Try.prog 52 #[] w fun e w' => e = .returned (.bool true) ∧ Below w.heap.size w w' := by
  go_enter Try.func52, Try.ntmps52
  go_wp2_with fail
  refine (rtu_any 1 [3, 0, 0, 0, 10] _ _ _ _ (Rd.lit _ (([3, 0, 0, 0, 10] : List UInt8).map cB) _ _ 5 _ rfl (by simp)) (by omega)).mono ?_
  rintro e w1 ⟨A1, n1, c1, rfl, ho, hb1⟩
  rw [k5a] at ho ⊢
  obtain rfl : n1 = 8 := ho.len.symm
  have X1 : Ext w w1 := (Ext.alloc _ _).trans hb1
  have Ho1 := Lib.hid ho; clear ho hb1
  go_wp2_with fail
  refine (openRtu_any [1, 3, 0, 0, 0, 10, 197, 205] _ _ _ _ (Rd.lit _ (([1, 3, 0, 0, 0, 10, 197, 205] : List UInt8).map cB) _ _ 8 _ rfl (by simp)) (by omega)).mono ?_
  rintro e w2 ⟨A2, n2, c2, rfl, ho, hb2⟩
  rw [k5b] at ho ⊢
  obtain rfl : n2 = 5 := ho.len.symm
  have X2 : Ext w1 w2 := (Ext.alloc _ _).trans hb2
  have Ho2 := Lib.hid ho; clear ho hb2
  go_wp2_with fail
  refine (tcpGet_any [0, 1, 0, 0, 0, 2, 17, 7, 9] _ _ _ _ (Rd.lit _ (([0, 1, 0, 0, 0, 2, 17, 7, 9] : List UInt8).map cB) _ _ 9 _ rfl (by simp)) (by omega) (by omega)).mono ?_
  rintro e w3 ⟨A3, n3, c3, rfl, ho, hb3⟩
  rw [k5c] at ho ⊢
  obtain rfl : n3 = 1 := ho.len.symm
  have X3 : Ext w2 w3 := (Ext.alloc _ _).trans hb3
  have Ho3 := Lib.hid ho; clear ho hb3
  go_wp2_with fail
  refine (same_any [1, 3, 0, 0, 0, 10, 197, 205] [1, 3, 0, 0, 0, 10, 197, 205] _ _ _ _ _ _ _ ((Ho1.out.ext (X2.trans X3)).rd.ext ((Ext.alloc _ _).trans (Ext.alloc _ _))) (Rd.lit _ (([1, 3, 0, 0, 0, 10, 197, 205] : List UInt8).map cB) _ _ 8 _ rfl (by simp)) (by unfold maxLen; omega)).mono ?_
  rintro e w4 ⟨rfl, hb4⟩
  rw [decide_eq_true rfl]
  have X4 : Ext (w3.alloc (.cells #[.int .u16 1, .int .u8 17, .slice A3 1 c3] 34)) w4 := (Ext.alloc _ _).trans hb4
  clear hb4
  go_wp2_with fail
  refine (same_any [3, 0, 0, 0, 10] [3, 0, 0, 0, 10] _ _ _ _ _ _ _ ((Ho2.out.ext X3).rd.ext ((Ext.alloc _ _).trans (X4.trans (Ext.alloc _ _)))) (Rd.lit _ (([3, 0, 0, 0, 10] : List UInt8).map cB) _ _ 5 _ rfl (by simp)) (by unfold maxLen; omega)).mono ?_
  rintro e w5 ⟨rfl, hb5⟩
  rw [decide_eq_true rfl]
  have X5 : Ext (w3.alloc (.cells #[.int .u16 1, .int .u8 17, .slice A3 1 c3] 34)) w5 := X4.trans ((Ext.alloc _ _).trans hb5)
  have hF : w5.heap[w3.heap.size]? = some (.cells #[.int .u16 1, .int .u8 17, .slice A3 1 c3] 34 (0, 0)) := X5.block (heap_alloc_new w3 _)
  have d0 : w5.cell? ⟨w3.heap.size, 0, none⟩ = some (.int .u16 1) := (cell_of_row _ _ _ _ _ _ hF).trans rfl
  have d1 : w5.cell? ⟨w3.heap.size, 1, none⟩ = some (.int .u8 17) := (cell_of_row _ _ _ _ _ _ hF).trans rfl
  have d2 : w5.cell? ⟨w3.heap.size, 2, none⟩ = some (.slice A3 1 c3) := (cell_of_row _ _ _ _ _ _ hF).trans rfl
  clear hb5 hF
  go_wp2_with fail
  refine (same_any [7] [7] _ _ _ _ _ _ _ (Ho3.out.rd.ext ((Ext.alloc _ _).trans (X5.trans (Ext.alloc _ _)))) (Rd.lit _ (([7] : List UInt8).map cB) _ _ 1 _ rfl (by simp)) (by unfold maxLen; omega)).mono ?_
  rintro e w6 ⟨rfl, hb6⟩
  rw [decide_eq_true rfl]
  go_wp2_with fail
  go_ret
  exact ⟨rfl, (X1.trans (X2.trans (X3.trans ((Ext.alloc _ _).trans (X5.trans ((Ext.alloc _ _).trans hb6)))))).below⟩
end Go.Proofs.Ytemiahjdacckgaa
