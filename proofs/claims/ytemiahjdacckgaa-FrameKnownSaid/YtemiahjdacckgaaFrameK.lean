/- The walk of FrameKnown. (genframeknown.py prints this.) -/
import Derived.Test.YtemiahjdacckgaaStream3
namespace Go.Proofs.Ytemiahjdacckgaa
set_option linter.unusedVariables false
set_option maxRecDepth 100000
set_option maxHeartbeats 4000000
open Go Go.RowKit Go.Out

/-- Noughts. -/
def zer (n : Nat) : Array Value := Array.replicate n (.int .u8 0)
theorem rd_zer (w : World) (n : Nat) : Rd (w.alloc (.cells (zer n) 5)) (some ⟨w.heap.size, 0, none⟩) n ((List.replicate n (0 : UInt8)).map cB) :=
  Rd.of_heap (ys := []) (heap_alloc_new w _) (by unfold zer; rw [Array.toList_replicate, List.map_replicate, List.append_nil]; rfl) (by simp)
theorem make_zer (n : Nat) (h : n ≤ 1000) : ∀ W : World, (Instr.makeSlice 22 (.int .i64 (n : Int)) (.int .i64 (n : Int))).run Try.prog W = .ok (.slice (some ⟨W.heap.size, 0, none⟩) n n) (W.alloc (.cells (zer n) 5)) :=
  fun W => run_make1 (P := Try.prog) 22 5 (.int .u8 0) 1 Try.underlying22 info_u8 rfl n (by omega) (by omega) W
theorem fk1 : openRtuF [1, 3, 0, 0, 0, 10, 197, 204] = (0, [], 5) := by decide +kernel
theorem fk2 : rtuF 0 [3] = ([], 24) := by decide +kernel
theorem fk3 : rtuF 248 [3] = ([], 24) := by decide +kernel
theorem fk4 : rtuF 1 [] = ([], 1) := by decide +kernel
theorem fk5 : (rtuF 247 (List.replicate 253 0)).2 = 0 := rtu_fits.2 ⟨⟨by decide, by decide⟩, by simp, by simp⟩
theorem fk6 : (rtuF 1 (List.replicate 254 0)).2 = 2 := by rw [rtuF_size (by decide) (by simp [szF])]; simp [szF]
theorem fk7 : putTF ⟨1, 17, [3, 0, 107, 0, 3]⟩ = ([0, 1, 0, 0, 0, 6, 17, 3, 0, 107, 0, 3], 0) := by kernel_rfl
theorem fk11 : getTF [0, 1, 0, 0, 0, 6, 17, 3, 0, 107, 0, 3, 255] = (⟨1, 17, [3, 0, 107, 0, 3]⟩, 12, 0) := by kernel_rfl
theorem fk12 : getTF [0, 1, 0, 0, 0, 1, 17] = (tcp0, 0, 4) := by kernel_rfl
theorem fk13 : getTF [0, 1, 0, 1, 0, 6, 17] = (tcp0, 0, 4) := by kernel_rfl
theorem fk14 : getTF [0, 1, 0, 0, 0, 6] = (tcp0, 0, 1) := by kernel_rfl
theorem fk15 : getTF [0, 1, 0, 0, 0, 255, 17] = (tcp0, 0, 4) := by kernel_rfl
theorem fk16 : getTF [0, 1, 0, 0, 0, 254, 17] = (tcp0, 0, 1) := by kernel_rfl
theorem fk20a : (splitF [0, 1, 0, 0, 0, 6, 17, 3, 0, 107, 0, 3, 0, 1, 0, 0, 0, 6, 17, 3, 0, 107, 0, 3, 0, 1, 0, 0, 0]).1.length = 2 := by decide +kernel
theorem fk20b : (splitF [0, 1, 0, 0, 0, 6, 17, 3, 0, 107, 0, 3, 0, 1, 0, 0, 0, 6, 17, 3, 0, 107, 0, 3, 0, 1, 0, 0, 0]).2.1 = 24 := by decide +kernel
theorem fk20c : (splitF [0, 1, 0, 0, 0, 6, 17, 3, 0, 107, 0, 3, 0, 1, 0, 0, 0, 6, 17, 3, 0, 107, 0, 3, 0, 1, 0, 0, 0]).2.2 = 0 := by decide +kernel
theorem fk23a : (splitF [0, 1, 0, 0, 0, 6, 17, 3, 0, 107, 0, 3, 0, 1, 0, 0, 0, 0, 17]).1.length = 1 := by decide +kernel
theorem fk23b : (splitF [0, 1, 0, 0, 0, 6, 17, 3, 0, 107, 0, 3, 0, 1, 0, 0, 0, 0, 17]).2.1 = 12 := by decide +kernel
theorem fk23c : (splitF [0, 1, 0, 0, 0, 6, 17, 3, 0, 107, 0, 3, 0, 1, 0, 0, 0, 0, 17]).2.2 = 4 := by decide +kernel

theorem lawFrameKnown (w : World) :
    Calls Try.prog 14 #[] w fun e w' => e = .returned (.bool true) ∧ Below w.heap.size w w' := by
  have hmk1 : ∀ W : World, (Instr.makeSlice 22 (.int .i64 253) (.int .i64 253)).run Try.prog W = .ok (.slice (some ⟨W.heap.size, 0, none⟩) 253 253) (W.alloc (.cells (zer 253) 5)) := make_zer 253 (by omega)
  have hmk2 : ∀ W : World, (Instr.makeSlice 22 (.int .i64 254) (.int .i64 254)).run Try.prog W = .ok (.slice (some ⟨W.heap.size, 0, none⟩) 254 254) (W.alloc (.cells (zer 254) 5)) := make_zer 254 (by omega)
  go_enter Try.func14, Try.ntmps14
  go_wp2_with fail
  refine (openRtu_any [1, 3, 0, 0, 0, 10, 197, 204] _ _ _ _ (Rd.lit _ (([1, 3, 0, 0, 0, 10, 197, 204] : List UInt8).map cB) _ _ 8 _ rfl (by simp)) (by omega)).mono ?_
  rintro e w1 ⟨A1, n1, c1, rfl, ho, hb⟩
  have Xw1 : Ext w w1 := (Ext.alloc _ _).trans (Ext.of hb)
  clear hb
  rw [fk1]
  clear ho
  go_wp2_with fail
  refine (rtu_any 0 [3] _ _ _ _ (Rd.lit _ (([3] : List UInt8).map cB) _ _ 1 _ rfl (by simp)) (by omega)).mono ?_
  rintro e w2 ⟨A2, n2, c2, rfl, ho, hb⟩
  have Xw2 : Ext w1 w2 := (Ext.alloc _ _).trans (Ext.of hb)
  clear hb
  rw [fk2]
  clear ho
  go_wp2_with fail
  refine (rtu_any 248 [3] _ _ _ _ (Rd.lit _ (([3] : List UInt8).map cB) _ _ 1 _ rfl (by simp)) (by omega)).mono ?_
  rintro e w3 ⟨A3, n3, c3, rfl, ho, hb⟩
  have Xw3 : Ext w2 w3 := (Ext.alloc _ _).trans (Ext.of hb)
  clear hb
  rw [fk3]
  clear ho
  go_wp2_with fail
  refine (rtu_any 1 [] _ _ _ _ (Rd.nil_ _) (by omega)).mono ?_
  rintro e w4 ⟨A4, n4, c4, rfl, ho, hb⟩
  have Xw4 : Ext w3 w4 := Ext.of hb
  clear hb
  rw [fk4]
  clear ho
  go_wp2_with fail
  refine (rtu_any 247 (List.replicate 253 0) _ _ _ _ (rd_zer _ 253) (by omega)).mono ?_
  rintro e w5 ⟨A5, n5, c5, rfl, ho, hb⟩
  have Xw5 : Ext w4 w5 := (Ext.alloc _ _).trans (Ext.of hb)
  clear hb
  rw [fk5]
  clear ho
  go_wp2_with fail
  refine (rtu_any 1 (List.replicate 254 0) _ _ _ _ (rd_zer _ 254) (by omega)).mono ?_
  rintro e w6 ⟨A6, n6, c6, rfl, ho, hb⟩
  have Xw6 : Ext w5 w6 := (Ext.alloc _ _).trans (Ext.of hb)
  clear hb
  rw [fk6]
  clear ho
  go_wp2_with fail
  refine (tcpPut_any 1 17 [3, 0, 107, 0, 3] _ _ _ _ (by omega) (Rd.lit _ (([3, 0, 107, 0, 3] : List UInt8).map cB) _ _ 5 _ rfl (by simp)) (by omega)).mono ?_
  rintro e w7 ⟨A7, n7, c7, rfl, ho, hb⟩
  have Xw7 : Ext w6 w7 := (Ext.alloc _ _).trans (Ext.of hb)
  clear hb
  rw [fk7] at ho
  rw [fk7]
  obtain rfl : n7 = 12 := ho.len.symm
  have Ho7 := Lib.hid ho; clear ho
  go_wp2_with fail
  refine (same_any [0, 1, 0, 0, 0, 6, 17, 3, 0, 107, 0, 3] [0, 1, 0, 0, 0, 6, 17, 3, 0, 107, 0, 3] _ _ _ _ _ _ _ (Own.rd (Ho7.out.ext (Ext.alloc _ _))) (Rd.lit _ (([0, 1, 0, 0, 0, 6, 17, 3, 0, 107, 0, 3] : List UInt8).map cB) _ _ 12 _ rfl (by simp)) (by unfold maxLen; omega)).mono ?_
  rintro e w8 ⟨rfl, hb⟩
  have Xw8 : Ext w7 w8 := (Ext.alloc _ _).trans (Ext.of hb)
  clear hb
  rw [decide_eq_true rfl]
  go_wp2_with fail
  refine (copy_any [0, 1, 0, 0, 0, 6, 17, 3, 0, 107, 0, 3] _ _ _ _ (Own.rd (Ho7.out.ext (Xw8))) (by omega)).mono ?_
  rintro e w9 ⟨A9, c9, rfl, ho, hb⟩
  have Xw9 : Ext w8 w9 := Ext.of hb
  clear hb
  have Ho9 := Lib.hid ho; clear ho
  go_wp2_with (at_builtin; go_must (refine app_u8 _ rfl (.tmp 110) (.tmp 111) rfl rfl (Ho9.out.ext (Ext.alloc _ _)) rfl (Rd.lit _ (([255] : List UInt8).map cB) _ _ 1 _ rfl (by simp)) isU8_map (by omega) ((Xw9.trans (Ext.alloc _ _))).size ?_); intro A_w10 c_w10 w10 hown hg hbk)
  rw [← List.map_append] at hown
  have Xw10 : Ext w8 w10 := (Xw9.trans (Ext.alloc _ _)).grown' hg (fun g hg => (Ho9.out.lt g hg).1)
  have Ho10 := Lib.hid hown; clear hown hg hbk
  refine (tcpGet_any [0, 1, 0, 0, 0, 6, 17, 3, 0, 107, 0, 3, 255] _ _ _ _ (Own.rd Ho10.out) Ho10.out.cap (by omega)).mono ?_
  rintro e w11 ⟨A11, n11, c11, rfl, ho, hb⟩
  have Xw11 : Ext w10 w11 := Ext.of hb
  clear hb
  rw [fk11]
  clear ho
  go_wp2_with fail
  refine (tcpGet_any [0, 1, 0, 0, 0, 1, 17] _ _ _ _ (Rd.lit _ (([0, 1, 0, 0, 0, 1, 17] : List UInt8).map cB) _ _ 7 _ rfl (by simp)) (by omega) (by omega)).mono ?_
  rintro e w12 ⟨A12, n12, c12, rfl, ho, hb⟩
  have Xw12 : Ext w11 w12 := (Ext.alloc _ _).trans ((Ext.alloc _ _).trans (Ext.of hb))
  clear hb
  rw [fk12]
  clear ho
  go_wp2_with fail
  refine (tcpGet_any [0, 1, 0, 1, 0, 6, 17] _ _ _ _ (Rd.lit _ (([0, 1, 0, 1, 0, 6, 17] : List UInt8).map cB) _ _ 7 _ rfl (by simp)) (by omega) (by omega)).mono ?_
  rintro e w13 ⟨A13, n13, c13, rfl, ho, hb⟩
  have Xw13 : Ext w12 w13 := (Ext.alloc _ _).trans ((Ext.alloc _ _).trans (Ext.of hb))
  clear hb
  rw [fk13]
  clear ho
  go_wp2_with fail
  refine (tcpGet_any [0, 1, 0, 0, 0, 6] _ _ _ _ (Rd.lit _ (([0, 1, 0, 0, 0, 6] : List UInt8).map cB) _ _ 6 _ rfl (by simp)) (by omega) (by omega)).mono ?_
  rintro e w14 ⟨A14, n14, c14, rfl, ho, hb⟩
  have Xw14 : Ext w13 w14 := (Ext.alloc _ _).trans ((Ext.alloc _ _).trans (Ext.of hb))
  clear hb
  rw [fk14]
  clear ho
  go_wp2_with fail
  refine (tcpGet_any [0, 1, 0, 0, 0, 255, 17] _ _ _ _ (Rd.lit _ (([0, 1, 0, 0, 0, 255, 17] : List UInt8).map cB) _ _ 7 _ rfl (by simp)) (by omega) (by omega)).mono ?_
  rintro e w15 ⟨A15, n15, c15, rfl, ho, hb⟩
  have Xw15 : Ext w14 w15 := (Ext.alloc _ _).trans ((Ext.alloc _ _).trans (Ext.of hb))
  clear hb
  rw [fk15]
  clear ho
  go_wp2_with fail
  refine (tcpGet_any [0, 1, 0, 0, 0, 254, 17] _ _ _ _ (Rd.lit _ (([0, 1, 0, 0, 0, 254, 17] : List UInt8).map cB) _ _ 7 _ rfl (by simp)) (by omega) (by omega)).mono ?_
  rintro e w16 ⟨A16, n16, c16, rfl, ho, hb⟩
  have Xw16 : Ext w15 w16 := (Ext.alloc _ _).trans ((Ext.alloc _ _).trans (Ext.of hb))
  clear hb
  rw [fk16]
  clear ho
  go_wp2_with fail
  refine (copy_any [0, 1, 0, 0, 0, 6, 17, 3, 0, 107, 0, 3] _ _ _ _ (Own.rd ((Ho7.out.ext (Xw8.trans (Xw10.trans (Xw11.trans (Xw12.trans (Xw13.trans (Xw14.trans (Xw15.trans (Xw16))))))))).ext (Ext.alloc _ _))) (by omega)).mono ?_
  rintro e w17 ⟨A17, c17, rfl, ho, hb⟩
  have Y17 := Ext.of hb
  have Xw17 : Ext w16 w17 := (Ext.alloc _ _).trans (Ext.of hb)
  clear hb
  have Ho17 := Lib.hid ho; clear ho
  go_wp2_with (at_builtin; first
    | (refine app_u8 _ rfl (.tmp 148) (.tmp 149) rfl rfl Ho17.out rfl ((Ho7.out.ext ((Xw8.trans (Xw10.trans (Xw11.trans (Xw12.trans (Xw13.trans (Xw14.trans (Xw15.trans (Xw16.trans (Xw17))))))))))).rd) isU8_map (by omega) Y17.size ?_
       intro A_w18 c_w18 w18 hown hg hbk
       rw [← List.map_append] at hown
       have Y18 := Y17.grown' hg (fun g hg => (Ho17.out.lt g hg).1)
       have Xw18 : Ext w16 w18 := (Ext.alloc _ _).trans Y18
       have Ho18 := Lib.hid hown
       clear hown hg hbk)
    | (go_must (refine app_u8 _ rfl (.tmp 150) (.tmp 151) rfl rfl (Ho18.out.ext (Ext.alloc _ _)) rfl (Rd.lit _ (([0, 1, 0, 0, 0] : List UInt8).map cB) _ _ 5 _ rfl (by simp)) isU8_map (by omega) (Y18.trans (Ext.alloc _ _)).size ?_)
       intro A_w19 c_w19 w19 hown hg hbk
       rw [← List.map_append] at hown
       have Xw19 : Ext w16 w19 := (Ext.alloc _ _).trans ((Y18.trans (Ext.alloc _ _)).grown' hg (fun g hg => (Ho18.out.lt g hg).1))
       have Ho19 := Lib.hid hown
       clear hown hg hbk))
  go_wp2_with fail
  refine (tcpSplit_any [0, 1, 0, 0, 0, 6, 17, 3, 0, 107, 0, 3, 0, 1, 0, 0, 0, 6, 17, 3, 0, 107, 0, 3, 0, 1, 0, 0, 0] _ _ _ _ (Own.rd Ho19.out) Ho19.out.cap Ho19.out.capLe (by omega)).mono ?_
  rintro e w20 ⟨v20, rfl, ho, hb⟩
  have Xw20 : Ext w19 w20 := Ext.of hb
  clear hb
  obtain ⟨A20, c20, rfl, -, -, -, -⟩ := ho.form
  rw [fk20a, fk20b, fk20c]
  clear ho
  go_wp2_with fail
  refine (copy_any [0, 1, 0, 0, 0, 6, 17, 3, 0, 107, 0, 3] _ _ _ _ (Own.rd (Ho7.out.ext (Xw8.trans (Xw10.trans (Xw11.trans (Xw12.trans (Xw13.trans (Xw14.trans (Xw15.trans (Xw16.trans (Xw19.trans (Xw20)))))))))))) (by omega)).mono ?_
  rintro e w21 ⟨A21, c21, rfl, ho, hb⟩
  have Xw21 : Ext w20 w21 := Ext.of hb
  clear hb
  have Ho21 := Lib.hid ho; clear ho
  go_wp2_with (at_builtin; go_must (refine app_u8 _ rfl (.tmp 161) (.tmp 162) rfl rfl (Ho21.out.ext (Ext.alloc _ _)) rfl (Rd.lit _ (([0, 1, 0, 0, 0, 0, 17] : List UInt8).map cB) _ _ 7 _ rfl (by simp)) isU8_map (by omega) ((Xw21.trans (Ext.alloc _ _))).size ?_); intro A_w22 c_w22 w22 hown hg hbk)
  rw [← List.map_append] at hown
  have Xw22 : Ext w20 w22 := (Xw21.trans (Ext.alloc _ _)).grown' hg (fun g hg => (Ho21.out.lt g hg).1)
  have Ho22 := Lib.hid hown; clear hown hg hbk
  refine (tcpSplit_any [0, 1, 0, 0, 0, 6, 17, 3, 0, 107, 0, 3, 0, 1, 0, 0, 0, 0, 17] _ _ _ _ (Own.rd Ho22.out) Ho22.out.cap Ho22.out.capLe (by omega)).mono ?_
  rintro e w23 ⟨v23, rfl, ho, hb⟩
  have Xw23 : Ext w22 w23 := Ext.of hb
  clear hb
  obtain ⟨A23, c23, rfl, -, -, -, -⟩ := ho.form
  rw [fk23a, fk23b, fk23c]
  clear ho
  go_wp2_with fail
  refine (known5_any _).mono ?_
  rintro e w24 ⟨rfl, hb⟩
  have Xw24 : Ext w23 w24 := Ext.of hb
  clear hb
  go_wp2_with fail
  go_ret
  exact ⟨rfl, (Ext.below (Xw1.trans (Xw2.trans (Xw3.trans (Xw4.trans (Xw5.trans (Xw6.trans (Xw7.trans (Xw8.trans (Xw10.trans (Xw11.trans (Xw12.trans (Xw13.trans (Xw14.trans (Xw15.trans (Xw16.trans (Xw19.trans (Xw20.trans (Xw22.trans (Xw23.trans (Xw24)))))))))))))))))))))⟩
end Go.Proofs.Ytemiahjdacckgaa
