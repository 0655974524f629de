/- The walk of SumsKnown. (gensumsknown.py prints this.) -/
import Derived.Test.YtemiahjdacckgaaSeal3
namespace Go.Proofs.Ytemiahjdacckgaa
set_option linter.unusedVariables false
set_option maxRecDepth 100000
open Go Go.RowKit Go.Out

theorem below_of_alloc {w w' : World} {o : Obj} (h : Below (w.alloc o).heap.size (w.alloc o) w') : Below w.heap.size w w' :=
  ((Below.refl _ _).alloc (Nat.le_refl _) _).trans (h.mono (by simp))
theorem le_alloc (w : World) (o : Obj) : w.heap.size ≤ (w.alloc o).heap.size := by simp
theorem k1 : sealF 2 (more16 65535) [1, 3, 0, 0, 0, 10] = [1, 3, 0, 0, 0, 10, 197, 205] := by decide +kernel
theorem k2 : openF 2 (more16 65535) [1, 3, 0, 0, 0, 10, 197, 205] = ([1, 3, 0, 0, 0, 10], 0) := by decide +kernel
theorem k3 : openF 2 (more16 65535) [5] = ([], 1) := by decide +kernel
theorem k4 : openF 2 (more16 65535) [255, 255] = ([], 0) := by decide +kernel
theorem k5 : openF 4 (more32 0) [0, 0, 0, 0] = ([], 0) := by decide +kernel
theorem k6 : openF 4 (more32 0) [0, 0, 0, 1] = ([], 5) := by decide +kernel
theorem k7 : openF 4 (more32 0) [0, 0, 0] = ([], 1) := by decide +kernel
theorem q9 : more16 65535 [] = 65535 := by decide +kernel
theorem q10 : more32 0 [] = 0 := by decide +kernel
theorem q11 : more16 7 [] = 7 := by decide +kernel
theorem q12 : more32 7 [] = 7 := by decide +kernel

theorem lawSumsKnown (w : World) :
    Calls Try.prog 7 #[] w fun e w' => e = .returned (.bool true) ∧ Below w.heap.size w w' := by
  go_enter Try.func7, Try.ntmps7
  have hB0 : Below w.heap.size w w := Below.refl _ _
  go_wp2_with fail
  refine (seal16_any [1, 3, 0, 0, 0, 10] _ _ _ _ (Go.Proofs.Ytemiahjdacckgaa.Rd.marked _ (([1, 3, 0, 0, 0, 10] : List UInt8).map cB) _ _ 6 rfl) (by omega)).mono ?_
  rintro e w1 ⟨A1, c1, rfl, ho, hb1⟩
  replace hb1 := below_of_alloc hb1
  replace ho := ho.mono (le_alloc _ _)
  rw [k1] at ho
  have hc1 := ho.cap
  have hz1 := hb1.size
  have Ho1 := Lib.hid ho; clear ho
  have hB1 := hB0.trans (hb1.mono hB0.size)
  go_wp2_with fail
  refine (open16_any [1, 3, 0, 0, 0, 10, 197, 205] _ _ _ _ Ho1.out.rd hc1 (by omega)).mono ?_
  rintro e w2 ⟨A2, n2, c2, rfl, ho, hb2⟩
  rw [k2] at ho
  rw [k2]
  obtain rfl : n2 = 6 := ho.len.symm
  have hz2 := hb2.size
  have Ho2 := Lib.hid ho; clear ho
  have sepHo1Ho2 := Lib.hid (Sep.of_lt Ho1.out Ho2.out (Nat.le_refl _))
  have hB2 := hB1.trans (hb2.mono hB1.size)
  replace Ho1 := Lib.hid (Ho1.out.below hb2)
  go_wp2_with fail
  refine (open16_any [5] _ _ _ _ (Go.Proofs.Ytemiahjdacckgaa.Rd.marked _ (([5] : List UInt8).map cB) _ _ 1 rfl) (by omega) (by omega)).mono ?_
  rintro e w3 ⟨A3, n3, c3, rfl, ho, hb3⟩
  replace hb3 := below_of_alloc hb3
  replace ho := ho.mono (le_alloc _ _)
  rw [k3] at ho
  rw [k3]
  obtain rfl : n3 = 0 := ho.len.symm
  have hz3 := hb3.size
  have Ho3 := Lib.hid ho; clear ho
  have sepHo1Ho3 := Lib.hid (Sep.of_lt Ho1.out Ho3.out (Nat.le_refl _))
  have sepHo2Ho3 := Lib.hid (Sep.of_lt Ho2.out Ho3.out (Nat.le_refl _))
  have hB3 := hB2.trans (hb3.mono hB2.size)
  replace Ho1 := Lib.hid (Ho1.out.below hb3)
  replace Ho2 := Lib.hid (Ho2.out.below hb3)
  go_wp2_with fail
  refine (open16_any [255, 255] _ _ _ _ (Go.Proofs.Ytemiahjdacckgaa.Rd.marked _ (([255, 255] : List UInt8).map cB) _ _ 2 rfl) (by omega) (by omega)).mono ?_
  rintro e w4 ⟨A4, n4, c4, rfl, ho, hb4⟩
  replace hb4 := below_of_alloc hb4
  replace ho := ho.mono (le_alloc _ _)
  rw [k4] at ho
  rw [k4]
  obtain rfl : n4 = 0 := ho.len.symm
  have hz4 := hb4.size
  have Ho4 := Lib.hid ho; clear ho
  have sepHo1Ho4 := Lib.hid (Sep.of_lt Ho1.out Ho4.out (Nat.le_refl _))
  have sepHo2Ho4 := Lib.hid (Sep.of_lt Ho2.out Ho4.out (Nat.le_refl _))
  have sepHo3Ho4 := Lib.hid (Sep.of_lt Ho3.out Ho4.out (Nat.le_refl _))
  have hB4 := hB3.trans (hb4.mono hB3.size)
  replace Ho1 := Lib.hid (Ho1.out.below hb4)
  replace Ho2 := Lib.hid (Ho2.out.below hb4)
  replace Ho3 := Lib.hid (Ho3.out.below hb4)
  go_wp2_with fail
  refine (open32_any [0, 0, 0, 0] _ _ _ _ (Go.Proofs.Ytemiahjdacckgaa.Rd.marked _ (([0, 0, 0, 0] : List UInt8).map cB) _ _ 4 rfl) (by omega) (by omega)).mono ?_
  rintro e w5 ⟨A5, n5, c5, rfl, ho, hb5⟩
  replace hb5 := below_of_alloc hb5
  replace ho := ho.mono (le_alloc _ _)
  rw [k5] at ho
  rw [k5]
  obtain rfl : n5 = 0 := ho.len.symm
  have hz5 := hb5.size
  have Ho5 := Lib.hid ho; clear ho
  have sepHo1Ho5 := Lib.hid (Sep.of_lt Ho1.out Ho5.out (Nat.le_refl _))
  have sepHo2Ho5 := Lib.hid (Sep.of_lt Ho2.out Ho5.out (Nat.le_refl _))
  have sepHo3Ho5 := Lib.hid (Sep.of_lt Ho3.out Ho5.out (Nat.le_refl _))
  have sepHo4Ho5 := Lib.hid (Sep.of_lt Ho4.out Ho5.out (Nat.le_refl _))
  have hB5 := hB4.trans (hb5.mono hB4.size)
  replace Ho1 := Lib.hid (Ho1.out.below hb5)
  replace Ho2 := Lib.hid (Ho2.out.below hb5)
  replace Ho3 := Lib.hid (Ho3.out.below hb5)
  replace Ho4 := Lib.hid (Ho4.out.below hb5)
  go_wp2_with fail
  refine (open32_any [0, 0, 0, 1] _ _ _ _ (Go.Proofs.Ytemiahjdacckgaa.Rd.marked _ (([0, 0, 0, 1] : List UInt8).map cB) _ _ 4 rfl) (by omega) (by omega)).mono ?_
  rintro e w6 ⟨A6, n6, c6, rfl, ho, hb6⟩
  replace hb6 := below_of_alloc hb6
  replace ho := ho.mono (le_alloc _ _)
  rw [k6] at ho
  rw [k6]
  obtain rfl : n6 = 0 := ho.len.symm
  have hz6 := hb6.size
  have Ho6 := Lib.hid ho; clear ho
  have sepHo1Ho6 := Lib.hid (Sep.of_lt Ho1.out Ho6.out (Nat.le_refl _))
  have sepHo2Ho6 := Lib.hid (Sep.of_lt Ho2.out Ho6.out (Nat.le_refl _))
  have sepHo3Ho6 := Lib.hid (Sep.of_lt Ho3.out Ho6.out (Nat.le_refl _))
  have sepHo4Ho6 := Lib.hid (Sep.of_lt Ho4.out Ho6.out (Nat.le_refl _))
  have sepHo5Ho6 := Lib.hid (Sep.of_lt Ho5.out Ho6.out (Nat.le_refl _))
  have hB6 := hB5.trans (hb6.mono hB5.size)
  replace Ho1 := Lib.hid (Ho1.out.below hb6)
  replace Ho2 := Lib.hid (Ho2.out.below hb6)
  replace Ho3 := Lib.hid (Ho3.out.below hb6)
  replace Ho4 := Lib.hid (Ho4.out.below hb6)
  replace Ho5 := Lib.hid (Ho5.out.below hb6)
  go_wp2_with fail
  refine (open32_any [0, 0, 0] _ _ _ _ (Go.Proofs.Ytemiahjdacckgaa.Rd.marked _ (([0, 0, 0] : List UInt8).map cB) _ _ 3 rfl) (by omega) (by omega)).mono ?_
  rintro e w7 ⟨A7, n7, c7, rfl, ho, hb7⟩
  replace hb7 := below_of_alloc hb7
  replace ho := ho.mono (le_alloc _ _)
  rw [k7] at ho
  rw [k7]
  obtain rfl : n7 = 0 := ho.len.symm
  have hz7 := hb7.size
  have Ho7 := Lib.hid ho; clear ho
  have sepHo1Ho7 := Lib.hid (Sep.of_lt Ho1.out Ho7.out (Nat.le_refl _))
  have sepHo2Ho7 := Lib.hid (Sep.of_lt Ho2.out Ho7.out (Nat.le_refl _))
  have sepHo3Ho7 := Lib.hid (Sep.of_lt Ho3.out Ho7.out (Nat.le_refl _))
  have sepHo4Ho7 := Lib.hid (Sep.of_lt Ho4.out Ho7.out (Nat.le_refl _))
  have sepHo5Ho7 := Lib.hid (Sep.of_lt Ho5.out Ho7.out (Nat.le_refl _))
  have sepHo6Ho7 := Lib.hid (Sep.of_lt Ho6.out Ho7.out (Nat.le_refl _))
  have hB7 := hB6.trans (hb7.mono hB6.size)
  replace Ho1 := Lib.hid (Ho1.out.below hb7)
  replace Ho2 := Lib.hid (Ho2.out.below hb7)
  replace Ho3 := Lib.hid (Ho3.out.below hb7)
  replace Ho4 := Lib.hid (Ho4.out.below hb7)
  replace Ho5 := Lib.hid (Ho5.out.below hb7)
  replace Ho6 := Lib.hid (Ho6.out.below hb7)
  go_wp2_with fail
  refine (same_any [1, 3, 0, 0, 0, 10, 197, 205] [1, 3, 0, 0, 0, 10, 197, 205] _ _ _ _ _ _ _ (Ho1.out.alloc _).rd (Go.Proofs.Ytemiahjdacckgaa.Rd.marked _ (([1, 3, 0, 0, 0, 10, 197, 205] : List UInt8).map cB) _ _ 8 rfl) (by unfold maxLen; omega)).mono ?_
  rintro e w8 ⟨rfl, hb8⟩
  replace hb8 := below_of_alloc hb8
  rw [decide_eq_true rfl]
  have hz8 := hb8.size
  have hB8 := hB7.trans (hb8.mono hB7.size)
  replace Ho1 := Lib.hid (Ho1.out.below hb8)
  replace Ho2 := Lib.hid (Ho2.out.below hb8)
  replace Ho3 := Lib.hid (Ho3.out.below hb8)
  replace Ho4 := Lib.hid (Ho4.out.below hb8)
  replace Ho5 := Lib.hid (Ho5.out.below hb8)
  replace Ho6 := Lib.hid (Ho6.out.below hb8)
  replace Ho7 := Lib.hid (Ho7.out.below hb8)
  go_wp2_with fail
  refine (crc16_any [] none 0 0 _ (Rd.nil_ _) (by omega)).mono ?_
  rintro e v9 ⟨rfl, rfl⟩
  rw [q9]
  go_wp2_with fail
  refine (crc32_any [] none 0 0 _ (Rd.nil_ _) (by omega)).mono ?_
  rintro e v10 ⟨rfl, rfl⟩
  rw [q10]
  go_wp2_with fail
  refine (more16_any [] none 0 0 7 _ (Rd.nil_ _) (by omega) (by omega)).mono ?_
  rintro e v11 ⟨rfl, rfl⟩
  rw [q11]
  go_wp2_with fail
  refine (more32_any [] none 0 0 7 _ (Rd.nil_ _) (by omega) (by omega)).mono ?_
  rintro e v12 ⟨rfl, rfl⟩
  rw [q12]
  go_wp2_with fail
  refine (known_any _).mono ?_
  rintro e v9 ⟨rfl, hb9⟩
  go_wp2_with fail
  go_ret
  exact ⟨rfl, hB8.trans (hb9.mono hB8.size)⟩
end Go.Proofs.Ytemiahjdacckgaa
