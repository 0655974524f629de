/- The walk of FrameLines: for every input true; nothing that was there turns. (genframelines.py prints this.) -/
import Derived.Test.YtemiahjdacckgaaFrame2
import Derived.Test.YtemiahjdacckgaaSums5
namespace Go.Proofs.Ytemiahjdacckgaa
set_option linter.unusedVariables false
set_option maxRecDepth 100000
open Go Go.RowKit Go.Out

theorem rtuF_len (u : UInt8) (b : List UInt8) : (rtuF u b).1.length ≤ b.length + 3 := by
  unfold rtuF
  split
  · simp
  · split
    · simp
    · simp [sealF, le_length]
theorem lineF_len (o : List UInt8 × Int) : (lineF o).2.1.length ≤ o.1.length := by
  by_cases h : o.2 = 0
  · obtain ⟨l, e⟩ := o
    simp only at h; subst h
    cases l with
    | nil => simp [lineF]
    | cons x l =>
      by_cases hu : x.toNat < 1 ∨ 247 < x.toNat
      · rw [lineF_unit hu]; simp
      · rw [lineF_ok hu]; simp
  · rw [lineF_err h]; simp
theorem openRtuF_len (b : List UInt8) : (openRtuF b).2.1.length ≤ b.length := by
  unfold openRtuF
  split
  · simp
  · split
    · simp
    · exact Nat.le_trans (lineF_len _) (openF_len _ _ _)

theorem lawFrameLines (a : Int) (b : List UInt8) (A : Option Addr) (m c : Nat) (w : World) (wfa : (Lit.int .u8 a).wf = true) (hr : Rd w A m (b.map cB)) (hc : m ≤ c) (_ : c ≤ 9223372036854775807) (hb : c * 1 ≤ 140737488351232) :
    Calls Try.prog 10 #[.int .u8 a, .slice A m c] w fun e w' => e = .returned (.bool true) ∧ Below w.heap.size w w' := by
  have Hr := Lib.hid hr; clear hr
  obtain ⟨u, rfl⟩ : ∃ u : UInt8, a = (u.toNat : Int) := ⟨UInt8.ofNat a.toNat, by have h1 := (bounds_u8 wfa).1; have h2 := (bounds_u8 wfa).2; simp; omega⟩
  clear wfa
  go_enter Try.func10, Try.ntmps10
  have hB0 : Below w.heap.size w w := Below.refl _ _
  go_wp2_with fail
  refine (lent_any b _ _ _ _ Hr.out (by omega)).mono ?_
  rintro e w1 ⟨gx, curx, rfl, hgx, hhx, hcurx, hb1⟩
  have hox := lent_own hgx hhx hcurx Hr.out.length (by omega)
  have hgxl := lt_of_heap hhx
  have Hhx := Lib.hid hhx; have Hcx := Lib.hid hcurx; clear hhx hcurx
  have hz1 := hb1.size
  have Hox := Lib.hid hox; clear hox
  have hB1 := hB0.trans (hb1.mono hB0.size)
  replace Hr := Lib.hid (Hr.out.below hb1)
  go_wp2_with fail
  refine (rtu_any u b _ _ _ _ Hox.out.rd (by omega)).mono ?_
  rintro e w2 ⟨A2, n2, c2, rfl, ho, hb2⟩
  have hz2 := hb2.size
  have Ho2 := Lib.hid ho; clear ho
  have sepHoxHo2 := Lib.hid (Sep.of_lt Hox.out Ho2.out (Nat.le_refl _))
  have hB2 := hB1.trans (hb2.mono hB1.size)
  replace Hox := Lib.hid (Hox.out.below hb2)
  replace Hr := Lib.hid (Hr.out.below hb2)
  replace Hhx := Lib.hid ((hb2.block gx hgxl).trans Hhx.out)
  replace hgxl := Nat.lt_of_lt_of_le hgxl hz2
  go_wp2_with fail
  refine (refRtu_any u b _ _ _ _ Hr.out (by omega)).mono ?_
  rintro e w3 ⟨A3, n3, c3, rfl, ho, hb3⟩
  have hz3 := hb3.size
  have Ho3 := Lib.hid ho; clear ho
  have sepHoxHo3 := Lib.hid (Sep.of_lt Hox.out Ho3.out (Nat.le_refl _))
  have sepHo2Ho3 := Lib.hid (Sep.of_lt Ho2.out Ho3.out (Nat.le_refl _))
  have hB3 := hB2.trans (hb3.mono hB2.size)
  replace Hox := Lib.hid (Hox.out.below hb3)
  replace Ho2 := Lib.hid (Ho2.out.below hb3)
  replace Hr := Lib.hid (Hr.out.below hb3)
  replace Hhx := Lib.hid ((hb3.block gx hgxl).trans Hhx.out)
  replace hgxl := Nat.lt_of_lt_of_le hgxl hz3
  go_wp2_with fail
  refine (openRtu_any b _ _ _ _ Hox.out.rd (by omega)).mono ?_
  rintro e w4 ⟨A4, n4, c4, rfl, ho, hb4⟩
  have hz4 := hb4.size
  have Ho4 := Lib.hid ho; clear ho
  have sepHoxHo4 := Lib.hid (Sep.of_lt Hox.out Ho4.out (Nat.le_refl _))
  have sepHo2Ho4 := Lib.hid (Sep.of_lt Ho2.out Ho4.out (Nat.le_refl _))
  have sepHo3Ho4 := Lib.hid (Sep.of_lt Ho3.out Ho4.out (Nat.le_refl _))
  have hB4 := hB3.trans (hb4.mono hB3.size)
  replace Hox := Lib.hid (Hox.out.below hb4)
  replace Ho2 := Lib.hid (Ho2.out.below hb4)
  replace Ho3 := Lib.hid (Ho3.out.below hb4)
  replace Hr := Lib.hid (Hr.out.below hb4)
  replace Hhx := Lib.hid ((hb4.block gx hgxl).trans Hhx.out)
  replace hgxl := Nat.lt_of_lt_of_le hgxl hz4
  go_wp2_with fail
  refine (refOpenRtu_any b _ _ _ _ Hr.out (by omega)).mono ?_
  rintro e w5 ⟨A5, n5, c5, rfl, ho, hb5⟩
  have hz5 := hb5.size
  have Ho5 := Lib.hid ho; clear ho
  have sepHoxHo5 := Lib.hid (Sep.of_lt Hox.out Ho5.out (Nat.le_refl _))
  have sepHo2Ho5 := Lib.hid (Sep.of_lt Ho2.out Ho5.out (Nat.le_refl _))
  have sepHo3Ho5 := Lib.hid (Sep.of_lt Ho3.out Ho5.out (Nat.le_refl _))
  have sepHo4Ho5 := Lib.hid (Sep.of_lt Ho4.out Ho5.out (Nat.le_refl _))
  have hB5 := hB4.trans (hb5.mono hB4.size)
  replace Hox := Lib.hid (Hox.out.below hb5)
  replace Ho2 := Lib.hid (Ho2.out.below hb5)
  replace Ho3 := Lib.hid (Ho3.out.below hb5)
  replace Ho4 := Lib.hid (Ho4.out.below hb5)
  replace Hr := Lib.hid (Hr.out.below hb5)
  replace Hhx := Lib.hid ((hb5.block gx hgxl).trans Hhx.out)
  replace hgxl := Nat.lt_of_lt_of_le hgxl hz5
  have ht1 : ((rtuF u b).2 != (rtuF u b).2) = false := by simp
  have ht2 : (((openRtuF b).1.toNat : Int) != ((openRtuF b).1.toNat : Int)) = false := by simp
  have ht3 : ((openRtuF b).2.2 != (openRtuF b).2.2) = false := by simp
  go_wp2_with fail
  refine (same_any _ _ _ _ _ _ _ _ _ Ho2.out.rd Ho3.out.rd (by have h1 := Ho2.out.cap; have h2 := Ho2.out.capLe; unfold maxLen; omega)).mono ?_
  rintro e w6 ⟨rfl, hb6⟩
  rw [decide_eq_true rfl]
  have hz6 := hb6.size
  have hB6 := hB5.trans (hb6.mono hB5.size)
  replace Hox := Lib.hid (Hox.out.below hb6)
  replace Ho2 := Lib.hid (Ho2.out.below hb6)
  replace Ho3 := Lib.hid (Ho3.out.below hb6)
  replace Ho4 := Lib.hid (Ho4.out.below hb6)
  replace Ho5 := Lib.hid (Ho5.out.below hb6)
  replace Hr := Lib.hid (Hr.out.below hb6)
  replace Hhx := Lib.hid ((hb6.block gx hgxl).trans Hhx.out)
  replace hgxl := Nat.lt_of_lt_of_le hgxl hz6
  go_wp2_with fail
  refine (same_any _ _ _ _ _ _ _ _ _ Ho4.out.rd Ho5.out.rd (by have h1 := Ho4.out.cap; have h2 := Ho4.out.capLe; unfold maxLen; omega)).mono ?_
  rintro e w7 ⟨rfl, hb7⟩
  rw [decide_eq_true rfl]
  have hz7 := hb7.size
  have hB7 := hB6.trans (hb7.mono hB6.size)
  replace Hox := Lib.hid (Hox.out.below hb7)
  replace Ho2 := Lib.hid (Ho2.out.below hb7)
  replace Ho3 := Lib.hid (Ho3.out.below hb7)
  replace Ho4 := Lib.hid (Ho4.out.below hb7)
  replace Ho5 := Lib.hid (Ho5.out.below hb7)
  replace Hr := Lib.hid (Hr.out.below hb7)
  replace Hhx := Lib.hid ((hb7.block gx hgxl).trans Hhx.out)
  replace hgxl := Nat.lt_of_lt_of_le hgxl hz7
  go_wp2_with fail
  refine (kept_any b _ _ _ gx curx _ Hr.out Hhx.out Hcx.out (by omega)).mono ?_
  rintro e w8 ⟨rfl, hb8⟩
  have hz8 := hb8.size
  have hB8 := hB7.trans (hb8.mono hB7.size)
  replace Hox := Lib.hid (Hox.out.below hb8)
  replace Ho2 := Lib.hid (Ho2.out.below hb8)
  replace Ho3 := Lib.hid (Ho3.out.below hb8)
  replace Ho4 := Lib.hid (Ho4.out.below hb8)
  replace Ho5 := Lib.hid (Ho5.out.below hb8)
  replace Hr := Lib.hid (Hr.out.below hb8)
  replace Hhx := Lib.hid ((hb8.block gx hgxl).trans Hhx.out)
  replace hgxl := Nat.lt_of_lt_of_le hgxl hz8
  have hn2 : n2 ≤ m + 3 := by have h1 := Ho2.out.len; have h2 := rtuF_len u b; have h3 := Hr.out.length; simp at h1; omega
  have hn4 : n4 ≤ m := by have h1 := Ho4.out.len; have h2 := openRtuF_len b; have h3 := Hr.out.length; simp at h1; omega
  go_wp2_with fail
  refine (apart_alloc [(A2, n2, c2), (A4, n4, c4), (some ⟨gx, 0, none⟩, m, m + 5)] 3 w.heap.size w8 rfl ?_ ?_ ?_ hB8.size (by omega)).mono ?_
  · intro s hs
    simp only [List.mem_cons, List.not_mem_nil, or_false] at hs
    rcases hs with rfl | rfl | rfl
    · exact ⟨_, Ho2.out.mono hB1.size⟩
    · exact ⟨_, Ho4.out.mono hB3.size⟩
    · exact ⟨_, Hox.out.mono hB0.size⟩
  · simp only [List.pairwise_cons, List.mem_cons, List.not_mem_nil, or_false, forall_eq_or_imp, forall_eq]
    exact ⟨⟨sepHo2Ho4.out, sepHoxHo2.out.symm⟩, sepHoxHo4.out.symm, by simp, List.Pairwise.nil⟩
  · intro s hs
    simp only [List.mem_cons, List.not_mem_nil, or_false] at hs
    rcases hs with rfl | rfl | rfl <;> simp only <;> omega
  rintro e w15 ⟨rfl, hb15⟩
  go_wp2_with fail
  go_ret
  exact ⟨rfl, hB8.trans hb15⟩
end Go.Proofs.Ytemiahjdacckgaa
