/- The walk of SumsSeal: for every input true; nothing that was there turns. (gensumseal.py prints this.) -/
import Derived.Test.YtemiahjdacckgaaSeal3
namespace Go.Proofs.Ytemiahjdacckgaa
set_option linter.unusedVariables false
set_option maxRecDepth 100000
open Go Go.RowKit Go.Out

theorem openF_len (k : Nat) (s : List UInt8 → Nat) (b : List UInt8) : (openF k s b).1.length ≤ b.length := by
  unfold openF
  split
  · simp
  · split
    · simp
    · simp

theorem lawSumsSeal (b : List UInt8) (A : Option Addr) (m c : Nat) (w : World) (hr : Rd w A m (b.map cB)) (hc : m ≤ c) (_ : c ≤ 9223372036854775807) (hb : c * 1 ≤ 140737488351232) :
    Calls Try.prog 8 #[.slice A m c] w fun e w' => e = .returned (.bool true) ∧ Below w.heap.size w w' := by
  have Hr := Lib.hid hr; clear hr
  go_enter Try.func8, Try.ntmps8
  have hB0 : Below w.heap.size w w := Below.refl _ _
  go_wp2_with fail
  refine (lent_any b _ _ _ _ Hr.out (by omega)).mono ?_
  rintro e w1 ⟨gx, curx, rfl, hgx, hhx, hcurx, hb1⟩
  have hox := lent_own hgx hhx hcurx Hr.out.length (by omega)
  have hgxl := lt_of_heap hhx
  have Hhx := Lib.hid hhx; have Hcx := Lib.hid hcurx; clear hhx hcurx
  have hz1 := hb1.size
  have Hox := Lib.hid hox; clear hox
  have hB1 := hB0.trans (hb1.mono hB0.size)
  replace Hr := Lib.hid (Hr.out.below hb1)
  go_wp2_with fail
  refine (seal16_any b _ _ _ _ Hox.out.rd (by omega)).mono ?_
  rintro e w2 ⟨A2, c2, rfl, ho, hb2⟩
  have hz2 := hb2.size
  have Ho2 := Lib.hid ho; clear ho
  have sepHoxHo2 := Lib.hid (Sep.of_lt Hox.out Ho2.out (Nat.le_refl _))
  have hB2 := hB1.trans (hb2.mono hB1.size)
  replace Hox := Lib.hid (Hox.out.below hb2)
  replace Hr := Lib.hid (Hr.out.below hb2)
  replace Hhx := Lib.hid ((hb2.block gx hgxl).trans Hhx.out)
  replace hgxl := Nat.lt_of_lt_of_le hgxl hz2
  go_wp2_with fail
  refine (seal32_any b _ _ _ _ Hox.out.rd (by omega)).mono ?_
  rintro e w3 ⟨A3, c3, rfl, ho, hb3⟩
  have hz3 := hb3.size
  have Ho3 := Lib.hid ho; clear ho
  have sepHoxHo3 := Lib.hid (Sep.of_lt Hox.out Ho3.out (Nat.le_refl _))
  have sepHo2Ho3 := Lib.hid (Sep.of_lt Ho2.out Ho3.out (Nat.le_refl _))
  have hB3 := hB2.trans (hb3.mono hB2.size)
  replace Hox := Lib.hid (Hox.out.below hb3)
  replace Ho2 := Lib.hid (Ho2.out.below hb3)
  replace Hr := Lib.hid (Hr.out.below hb3)
  replace Hhx := Lib.hid ((hb3.block gx hgxl).trans Hhx.out)
  replace hgxl := Nat.lt_of_lt_of_le hgxl hz3
  go_wp2_with fail
  refine (open16_any b _ _ _ _ Hox.out.rd (by omega) (by omega)).mono ?_
  rintro e w4 ⟨A4, n4, c4, rfl, ho, hb4⟩
  have hz4 := hb4.size
  have Ho4 := Lib.hid ho; clear ho
  have sepHoxHo4 := Lib.hid (Sep.of_lt Hox.out Ho4.out (Nat.le_refl _))
  have sepHo2Ho4 := Lib.hid (Sep.of_lt Ho2.out Ho4.out (Nat.le_refl _))
  have sepHo3Ho4 := Lib.hid (Sep.of_lt Ho3.out Ho4.out (Nat.le_refl _))
  have hB4 := hB3.trans (hb4.mono hB3.size)
  replace Hox := Lib.hid (Hox.out.below hb4)
  replace Ho2 := Lib.hid (Ho2.out.below hb4)
  replace Ho3 := Lib.hid (Ho3.out.below hb4)
  replace Hr := Lib.hid (Hr.out.below hb4)
  replace Hhx := Lib.hid ((hb4.block gx hgxl).trans Hhx.out)
  replace hgxl := Nat.lt_of_lt_of_le hgxl hz4
  go_wp2_with fail
  refine (open32_any b _ _ _ _ Hox.out.rd (by omega) (by omega)).mono ?_
  rintro e w5 ⟨A5, n5, c5, rfl, ho, hb5⟩
  have hz5 := hb5.size
  have Ho5 := Lib.hid ho; clear ho
  have sepHoxHo5 := Lib.hid (Sep.of_lt Hox.out Ho5.out (Nat.le_refl _))
  have sepHo2Ho5 := Lib.hid (Sep.of_lt Ho2.out Ho5.out (Nat.le_refl _))
  have sepHo3Ho5 := Lib.hid (Sep.of_lt Ho3.out Ho5.out (Nat.le_refl _))
  have sepHo4Ho5 := Lib.hid (Sep.of_lt Ho4.out Ho5.out (Nat.le_refl _))
  have hB5 := hB4.trans (hb5.mono hB4.size)
  replace Hox := Lib.hid (Hox.out.below hb5)
  replace Ho2 := Lib.hid (Ho2.out.below hb5)
  replace Ho3 := Lib.hid (Ho3.out.below hb5)
  replace Ho4 := Lib.hid (Ho4.out.below hb5)
  replace Hr := Lib.hid (Hr.out.below hb5)
  replace Hhx := Lib.hid ((hb5.block gx hgxl).trans Hhx.out)
  replace hgxl := Nat.lt_of_lt_of_le hgxl hz5
  go_wp2_with fail
  refine (refOpen16_any b _ _ _ _ Hr.out (by omega) (by omega)).mono ?_
  rintro e w6 ⟨A6, n6, c6, rfl, ho, hb6⟩
  have hz6 := hb6.size
  have Ho6 := Lib.hid ho; clear ho
  have sepHoxHo6 := Lib.hid (Sep.of_lt Hox.out Ho6.out (Nat.le_refl _))
  have sepHo2Ho6 := Lib.hid (Sep.of_lt Ho2.out Ho6.out (Nat.le_refl _))
  have sepHo3Ho6 := Lib.hid (Sep.of_lt Ho3.out Ho6.out (Nat.le_refl _))
  have sepHo4Ho6 := Lib.hid (Sep.of_lt Ho4.out Ho6.out (Nat.le_refl _))
  have sepHo5Ho6 := Lib.hid (Sep.of_lt Ho5.out Ho6.out (Nat.le_refl _))
  have hB6 := hB5.trans (hb6.mono hB5.size)
  replace Hox := Lib.hid (Hox.out.below hb6)
  replace Ho2 := Lib.hid (Ho2.out.below hb6)
  replace Ho3 := Lib.hid (Ho3.out.below hb6)
  replace Ho4 := Lib.hid (Ho4.out.below hb6)
  replace Ho5 := Lib.hid (Ho5.out.below hb6)
  replace Hr := Lib.hid (Hr.out.below hb6)
  replace Hhx := Lib.hid ((hb6.block gx hgxl).trans Hhx.out)
  replace hgxl := Nat.lt_of_lt_of_le hgxl hz6
  go_wp2_with fail
  refine (refOpen32_any b _ _ _ _ Hr.out (by omega) (by omega)).mono ?_
  rintro e w7 ⟨A7, n7, c7, rfl, ho, hb7⟩
  have hz7 := hb7.size
  have Ho7 := Lib.hid ho; clear ho
  have sepHoxHo7 := Lib.hid (Sep.of_lt Hox.out Ho7.out (Nat.le_refl _))
  have sepHo2Ho7 := Lib.hid (Sep.of_lt Ho2.out Ho7.out (Nat.le_refl _))
  have sepHo3Ho7 := Lib.hid (Sep.of_lt Ho3.out Ho7.out (Nat.le_refl _))
  have sepHo4Ho7 := Lib.hid (Sep.of_lt Ho4.out Ho7.out (Nat.le_refl _))
  have sepHo5Ho7 := Lib.hid (Sep.of_lt Ho5.out Ho7.out (Nat.le_refl _))
  have sepHo6Ho7 := Lib.hid (Sep.of_lt Ho6.out Ho7.out (Nat.le_refl _))
  have hB7 := hB6.trans (hb7.mono hB6.size)
  replace Hox := Lib.hid (Hox.out.below hb7)
  replace Ho2 := Lib.hid (Ho2.out.below hb7)
  replace Ho3 := Lib.hid (Ho3.out.below hb7)
  replace Ho4 := Lib.hid (Ho4.out.below hb7)
  replace Ho5 := Lib.hid (Ho5.out.below hb7)
  replace Ho6 := Lib.hid (Ho6.out.below hb7)
  replace Hr := Lib.hid (Hr.out.below hb7)
  replace Hhx := Lib.hid ((hb7.block gx hgxl).trans Hhx.out)
  replace hgxl := Nat.lt_of_lt_of_le hgxl hz7
  have ht1 : ((openF 2 (more16 65535) b).2 == (openF 2 (more16 65535) b).2) = true := by simp
  have ht2 : ((openF 4 (more32 0) b).2 == (openF 4 (more32 0) b).2) = true := by simp
  go_wp2_with fail
  refine (refSeal16_any b _ _ _ _ Hr.out (by omega)).mono ?_
  rintro e w8 ⟨A8, c8, rfl, ho, hb8⟩
  have hz8 := hb8.size
  have Ho8 := Lib.hid ho; clear ho
  have sepHoxHo8 := Lib.hid (Sep.of_lt Hox.out Ho8.out (Nat.le_refl _))
  have sepHo2Ho8 := Lib.hid (Sep.of_lt Ho2.out Ho8.out (Nat.le_refl _))
  have sepHo3Ho8 := Lib.hid (Sep.of_lt Ho3.out Ho8.out (Nat.le_refl _))
  have sepHo4Ho8 := Lib.hid (Sep.of_lt Ho4.out Ho8.out (Nat.le_refl _))
  have sepHo5Ho8 := Lib.hid (Sep.of_lt Ho5.out Ho8.out (Nat.le_refl _))
  have sepHo6Ho8 := Lib.hid (Sep.of_lt Ho6.out Ho8.out (Nat.le_refl _))
  have sepHo7Ho8 := Lib.hid (Sep.of_lt Ho7.out Ho8.out (Nat.le_refl _))
  have hB8 := hB7.trans (hb8.mono hB7.size)
  replace Hox := Lib.hid (Hox.out.below hb8)
  replace Ho2 := Lib.hid (Ho2.out.below hb8)
  replace Ho3 := Lib.hid (Ho3.out.below hb8)
  replace Ho4 := Lib.hid (Ho4.out.below hb8)
  replace Ho5 := Lib.hid (Ho5.out.below hb8)
  replace Ho6 := Lib.hid (Ho6.out.below hb8)
  replace Ho7 := Lib.hid (Ho7.out.below hb8)
  replace Hr := Lib.hid (Hr.out.below hb8)
  replace Hhx := Lib.hid ((hb8.block gx hgxl).trans Hhx.out)
  replace hgxl := Nat.lt_of_lt_of_le hgxl hz8
  go_wp2_with fail
  refine (same_any _ _ _ _ _ _ _ _ _ Ho2.out.rd Ho8.out.rd (by unfold maxLen; omega)).mono ?_
  rintro e w9 ⟨rfl, hb9⟩
  rw [decide_eq_true rfl]
  have hz9 := hb9.size
  have hB9 := hB8.trans (hb9.mono hB8.size)
  replace Hox := Lib.hid (Hox.out.below hb9)
  replace Ho2 := Lib.hid (Ho2.out.below hb9)
  replace Ho3 := Lib.hid (Ho3.out.below hb9)
  replace Ho4 := Lib.hid (Ho4.out.below hb9)
  replace Ho5 := Lib.hid (Ho5.out.below hb9)
  replace Ho6 := Lib.hid (Ho6.out.below hb9)
  replace Ho7 := Lib.hid (Ho7.out.below hb9)
  replace Ho8 := Lib.hid (Ho8.out.below hb9)
  replace Hr := Lib.hid (Hr.out.below hb9)
  replace Hhx := Lib.hid ((hb9.block gx hgxl).trans Hhx.out)
  replace hgxl := Nat.lt_of_lt_of_le hgxl hz9
  go_wp2_with fail
  refine (refSeal32_any b _ _ _ _ Hr.out (by omega)).mono ?_
  rintro e w10 ⟨A10, c10, rfl, ho, hb10⟩
  have hz10 := hb10.size
  have Ho10 := Lib.hid ho; clear ho
  have sepHoxHo10 := Lib.hid (Sep.of_lt Hox.out Ho10.out (Nat.le_refl _))
  have sepHo2Ho10 := Lib.hid (Sep.of_lt Ho2.out Ho10.out (Nat.le_refl _))
  have sepHo3Ho10 := Lib.hid (Sep.of_lt Ho3.out Ho10.out (Nat.le_refl _))
  have sepHo4Ho10 := Lib.hid (Sep.of_lt Ho4.out Ho10.out (Nat.le_refl _))
  have sepHo5Ho10 := Lib.hid (Sep.of_lt Ho5.out Ho10.out (Nat.le_refl _))
  have sepHo6Ho10 := Lib.hid (Sep.of_lt Ho6.out Ho10.out (Nat.le_refl _))
  have sepHo7Ho10 := Lib.hid (Sep.of_lt Ho7.out Ho10.out (Nat.le_refl _))
  have sepHo8Ho10 := Lib.hid (Sep.of_lt Ho8.out Ho10.out (Nat.le_refl _))
  have hB10 := hB9.trans (hb10.mono hB9.size)
  replace Hox := Lib.hid (Hox.out.below hb10)
  replace Ho2 := Lib.hid (Ho2.out.below hb10)
  replace Ho3 := Lib.hid (Ho3.out.below hb10)
  replace Ho4 := Lib.hid (Ho4.out.below hb10)
  replace Ho5 := Lib.hid (Ho5.out.below hb10)
  replace Ho6 := Lib.hid (Ho6.out.below hb10)
  replace Ho7 := Lib.hid (Ho7.out.below hb10)
  replace Ho8 := Lib.hid (Ho8.out.below hb10)
  replace Hr := Lib.hid (Hr.out.below hb10)
  replace Hhx := Lib.hid ((hb10.block gx hgxl).trans Hhx.out)
  replace hgxl := Nat.lt_of_lt_of_le hgxl hz10
  go_wp2_with fail
  refine (same_any _ _ _ _ _ _ _ _ _ Ho3.out.rd Ho10.out.rd (by unfold maxLen; omega)).mono ?_
  rintro e w11 ⟨rfl, hb11⟩
  rw [decide_eq_true rfl]
  have hz11 := hb11.size
  have hB11 := hB10.trans (hb11.mono hB10.size)
  replace Hox := Lib.hid (Hox.out.below hb11)
  replace Ho2 := Lib.hid (Ho2.out.below hb11)
  replace Ho3 := Lib.hid (Ho3.out.below hb11)
  replace Ho4 := Lib.hid (Ho4.out.below hb11)
  replace Ho5 := Lib.hid (Ho5.out.below hb11)
  replace Ho6 := Lib.hid (Ho6.out.below hb11)
  replace Ho7 := Lib.hid (Ho7.out.below hb11)
  replace Ho8 := Lib.hid (Ho8.out.below hb11)
  replace Ho10 := Lib.hid (Ho10.out.below hb11)
  replace Hr := Lib.hid (Hr.out.below hb11)
  replace Hhx := Lib.hid ((hb11.block gx hgxl).trans Hhx.out)
  replace hgxl := Nat.lt_of_lt_of_le hgxl hz11
  have hn4 : n4 ≤ m := by have h1 := Ho4.out.len; have h2 := openF_len 2 (more16 65535) b; have h3 := Hr.out.length; simp at h1; omega
  have hn5 : n5 ≤ m := by have h1 := Ho5.out.len; have h2 := openF_len 4 (more32 0) b; have h3 := Hr.out.length; simp at h1; omega
  go_wp2_with fail
  refine (same_any _ _ _ _ _ _ _ _ _ Ho4.out.rd Ho6.out.rd (by unfold maxLen; omega)).mono ?_
  rintro e w12 ⟨rfl, hb12⟩
  rw [decide_eq_true rfl]
  have hz12 := hb12.size
  have hB12 := hB11.trans (hb12.mono hB11.size)
  replace Hox := Lib.hid (Hox.out.below hb12)
  replace Ho2 := Lib.hid (Ho2.out.below hb12)
  replace Ho3 := Lib.hid (Ho3.out.below hb12)
  replace Ho4 := Lib.hid (Ho4.out.below hb12)
  replace Ho5 := Lib.hid (Ho5.out.below hb12)
  replace Ho6 := Lib.hid (Ho6.out.below hb12)
  replace Ho7 := Lib.hid (Ho7.out.below hb12)
  replace Ho8 := Lib.hid (Ho8.out.below hb12)
  replace Ho10 := Lib.hid (Ho10.out.below hb12)
  replace Hr := Lib.hid (Hr.out.below hb12)
  replace Hhx := Lib.hid ((hb12.block gx hgxl).trans Hhx.out)
  replace hgxl := Nat.lt_of_lt_of_le hgxl hz12
  go_wp2_with fail
  refine (same_any _ _ _ _ _ _ _ _ _ Ho5.out.rd Ho7.out.rd (by unfold maxLen; omega)).mono ?_
  rintro e w13 ⟨rfl, hb13⟩
  rw [decide_eq_true rfl]
  have hz13 := hb13.size
  have hB13 := hB12.trans (hb13.mono hB12.size)
  replace Hox := Lib.hid (Hox.out.below hb13)
  replace Ho2 := Lib.hid (Ho2.out.below hb13)
  replace Ho3 := Lib.hid (Ho3.out.below hb13)
  replace Ho4 := Lib.hid (Ho4.out.below hb13)
  replace Ho5 := Lib.hid (Ho5.out.below hb13)
  replace Ho6 := Lib.hid (Ho6.out.below hb13)
  replace Ho7 := Lib.hid (Ho7.out.below hb13)
  replace Ho8 := Lib.hid (Ho8.out.below hb13)
  replace Ho10 := Lib.hid (Ho10.out.below hb13)
  replace Hr := Lib.hid (Hr.out.below hb13)
  replace Hhx := Lib.hid ((hb13.block gx hgxl).trans Hhx.out)
  replace hgxl := Nat.lt_of_lt_of_le hgxl hz13
  go_wp2_with fail
  refine (kept_any b _ _ _ gx curx _ Hr.out Hhx.out Hcx.out (by omega)).mono ?_
  rintro e w14 ⟨rfl, hb14⟩
  have hz14 := hb14.size
  have hB14 := hB13.trans (hb14.mono hB13.size)
  replace Hox := Lib.hid (Hox.out.below hb14)
  replace Ho2 := Lib.hid (Ho2.out.below hb14)
  replace Ho3 := Lib.hid (Ho3.out.below hb14)
  replace Ho4 := Lib.hid (Ho4.out.below hb14)
  replace Ho5 := Lib.hid (Ho5.out.below hb14)
  replace Ho6 := Lib.hid (Ho6.out.below hb14)
  replace Ho7 := Lib.hid (Ho7.out.below hb14)
  replace Ho8 := Lib.hid (Ho8.out.below hb14)
  replace Ho10 := Lib.hid (Ho10.out.below hb14)
  replace Hr := Lib.hid (Hr.out.below hb14)
  replace Hhx := Lib.hid ((hb14.block gx hgxl).trans Hhx.out)
  replace hgxl := Nat.lt_of_lt_of_le hgxl hz14
  go_wp2_with fail
  refine (apart_alloc [(A2, m + 2, c2), (A3, m + 4, c3), (A4, n4, c4), (A5, n5, c5), (some ⟨gx, 0, none⟩, m, m + 5)] 5 w.heap.size w14 rfl ?_ ?_ ?_ hB14.size (by omega)).mono ?_
  · intro s hs
    simp only [List.mem_cons, List.not_mem_nil, or_false] at hs
    rcases hs with rfl | rfl | rfl | rfl | rfl
    · exact ⟨_, Ho2.out.mono hB1.size⟩
    · exact ⟨_, Ho3.out.mono hB2.size⟩
    · exact ⟨_, Ho4.out.mono hB3.size⟩
    · exact ⟨_, Ho5.out.mono hB4.size⟩
    · exact ⟨_, Hox.out.mono hB0.size⟩
  · simp only [List.pairwise_cons, List.mem_cons, List.not_mem_nil, or_false, forall_eq_or_imp, forall_eq]
    exact ⟨⟨sepHo2Ho3.out, sepHo2Ho4.out, sepHo2Ho5.out, sepHoxHo2.out.symm⟩, ⟨sepHo3Ho4.out, sepHo3Ho5.out, sepHoxHo3.out.symm⟩, ⟨sepHo4Ho5.out, sepHoxHo4.out.symm⟩, sepHoxHo5.out.symm, by simp, List.Pairwise.nil⟩
  · intro s hs
    simp only [List.mem_cons, List.not_mem_nil, or_false] at hs
    rcases hs with rfl | rfl | rfl | rfl | rfl <;> simp only <;> omega
  rintro e w15 ⟨rfl, hb15⟩
  go_wp2_with fail
  go_ret
  exact ⟨rfl, hB14.trans hb15⟩
end Go.Proofs.Ytemiahjdacckgaa
