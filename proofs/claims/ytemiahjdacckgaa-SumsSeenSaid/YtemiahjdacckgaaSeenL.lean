/- The walk of SumsSeen: for every input true; nothing that was there turns. (gensumsseen.py prints this.) -/
import Derived.Test.YtemiahjdacckgaaSeenP
namespace Go.Proofs.Ytemiahjdacckgaa
set_option linter.unusedVariables false
set_option maxRecDepth 100000
set_option maxHeartbeats 4000000
open Go Go.RowKit Go.Out

theorem lawSumsSeen (b : List UInt8) (A : Option Addr) (m c : Nat) (x y : Int) (w : World) (hr : Rd w A m (b.map cB)) (hc : m ≤ c) (_ : c ≤ 9223372036854775807) (hb : c * 1 ≤ 140737488351232) (wfx : (Lit.int .i64 x).wf = true) (wfy : (Lit.int .u32 y).wf = true) :
    Calls Try.prog 9 #[.slice A m c, .int .i64 x, .int .u32 y] w fun e w' => e = .returned (.bool true) ∧ Below w.heap.size w w' := by
  have Hr := Lib.hid hr; clear hr
  obtain ⟨M, rfl⟩ := Int.eq_ofNat_of_zero_le (bounds_u32 wfy).1
  have hM : M < 4294967296 := by have := (bounds_u32 wfy).2; omega
  clear wfx wfy
  rcases Nat.lt_or_ge 65536 m with hbig | hbig
  · go_enter Try.func9, Try.ntmps9
    go_wp2_with fail
    refine (known_any _).mono ?_
    rintro e w1 ⟨rfl, hb⟩
    go_wp2_with fail
    go_ret
    exact ⟨rfl, hb⟩
  · obtain ⟨M', hM'⟩ : ∃ M', M % 65536 = M' := ⟨_, rfl⟩
    have hM1 : M' < 65536 := by omega
    have hMi : (M : Int) % 65536 = (M' : Int) := by omega
    have hMt : (M : Int).tmod 65536 = (M' : Int) := by rw [Int.tmod_eq_emod_of_nonneg (by omega)]; exact hMi
    have hn : 8 * (m : Int) + 48 = ((8 * m + 48 : Nat) : Int) := by omega
    have Hn := Lib.hid hn; clear hn
    go_enter Try.func9, Try.ntmps9
    go_wp2_with fail
    rw [Hn.out]
    refine (pick_any _ (8 * m + 48) _ (by omega) (by omega)).mono ?_
    rintro e v ⟨r, hr48, rfl, rfl⟩
    have Hs16 := Lib.hid (seen16 b r M' 32 hM1)
    have Hs32 := Lib.hid (seen32 b r M 32 hM)
    rcases Nat.eq_zero_or_pos (turn b r M' 32).2 with q1 | q1
    · have _u : True := trivial
      rcases Nat.eq_zero_or_pos (turn b r M 32).2 with q2 | q2
      · have _u : True := trivial
        rcases Nat.eq_zero_or_pos (turn (sealF 2 (more16 65535) b) r M' 32).2 with q3 | q3
        · have Hp : Hid (openF 2 (more16 65535) (turn (sealF 2 (more16 65535) b) r M' 32).1 = (b, 0)) := open_same 2 (more16 65535) b r M' 32 q3
          rcases Nat.eq_zero_or_pos (turn (sealF 4 (more32 0) b) r M 32).2 with q4 | q4
          · have Hq : Hid (openF 4 (more32 0) (turn (sealF 4 (more32 0) b) r M 32).1 = (b, 0)) := open_same 4 (more32 0) b r M 32 q4
            have hB0 : Below w.heap.size w w := Below.refl _ _
            go_wp2_with fail
            refine (turned_any b _ _ _ r M' _ Hr.out (by omega) (by omega) (by omega)).mono ?_
            rintro e w1 ⟨A1, c1, rfl, ho, hb1⟩
            generalize hC1 : (turn b r M' 32).2 = C1 at *
            have hz1 := hb1.size
            have Ho1 := Lib.hid ho; clear ho
            have hB1 := hB0.trans (hb1.mono hB0.size)
            replace Hr := Lib.hid (Hr.out.below hb1)
            go_wp2_with fail
            refine (turned_any b _ _ _ r M _ Hr.out (by omega) (by omega) (by omega)).mono ?_
            rintro e w2 ⟨A2, c2, rfl, ho, hb2⟩
            generalize hC2 : (turn b r M 32).2 = C2 at *
            have hz2 := hb2.size
            have Ho2 := Lib.hid ho; clear ho
            have sepHo1Ho2 := Lib.hid (Sep.of_lt Ho1.out Ho2.out (Nat.le_refl _))
            have hB2 := hB1.trans (hb2.mono hB1.size)
            replace Ho1 := Lib.hid (Ho1.out.below hb2)
            replace Hr := Lib.hid (Hr.out.below hb2)
            have HC1 := Lib.hid hC1; clear hC1
            subst q1
            have HC2 := Lib.hid hC2; clear hC2
            subst q2
            go_wp2_with fail
            refine (seal16_any b _ _ _ _ Hr.out (by omega)).mono ?_
            rintro e w3 ⟨A3, c3, rfl, ho, hb3⟩
            have hz3 := hb3.size
            have Ho3 := Lib.hid ho; clear ho
            have sepHo1Ho3 := Lib.hid (Sep.of_lt Ho1.out Ho3.out (Nat.le_refl _))
            have sepHo2Ho3 := Lib.hid (Sep.of_lt Ho2.out Ho3.out (Nat.le_refl _))
            have hB3 := hB2.trans (hb3.mono hB2.size)
            replace Ho1 := Lib.hid (Ho1.out.below hb3)
            replace Ho2 := Lib.hid (Ho2.out.below hb3)
            replace Hr := Lib.hid (Hr.out.below hb3)
            go_wp2_with fail
            refine (turned_any (sealF 2 (more16 65535) b) _ _ _ r M' _ Ho3.out.rd (by omega) (by omega) (by omega)).mono ?_
            rintro e w4 ⟨A4, c4, rfl, ho, hb4⟩
            generalize hC3 : (turn (sealF 2 (more16 65535) b) r M' 32).2 = C3 at *
            have hz4 := hb4.size
            have Ho4 := Lib.hid ho; clear ho
            have sepHo1Ho4 := Lib.hid (Sep.of_lt Ho1.out Ho4.out (Nat.le_refl _))
            have sepHo2Ho4 := Lib.hid (Sep.of_lt Ho2.out Ho4.out (Nat.le_refl _))
            have sepHo3Ho4 := Lib.hid (Sep.of_lt Ho3.out Ho4.out (Nat.le_refl _))
            have hB4 := hB3.trans (hb4.mono hB3.size)
            replace Ho1 := Lib.hid (Ho1.out.below hb4)
            replace Ho2 := Lib.hid (Ho2.out.below hb4)
            replace Ho3 := Lib.hid (Ho3.out.below hb4)
            replace Hr := Lib.hid (Hr.out.below hb4)
            go_wp2_with fail
            refine (seal32_any b _ _ _ _ Hr.out (by omega)).mono ?_
            rintro e w5 ⟨A5, c5, rfl, ho, hb5⟩
            have hz5 := hb5.size
            have Ho5 := Lib.hid ho; clear ho
            have sepHo1Ho5 := Lib.hid (Sep.of_lt Ho1.out Ho5.out (Nat.le_refl _))
            have sepHo2Ho5 := Lib.hid (Sep.of_lt Ho2.out Ho5.out (Nat.le_refl _))
            have sepHo3Ho5 := Lib.hid (Sep.of_lt Ho3.out Ho5.out (Nat.le_refl _))
            have sepHo4Ho5 := Lib.hid (Sep.of_lt Ho4.out Ho5.out (Nat.le_refl _))
            have hB5 := hB4.trans (hb5.mono hB4.size)
            replace Ho1 := Lib.hid (Ho1.out.below hb5)
            replace Ho2 := Lib.hid (Ho2.out.below hb5)
            replace Ho3 := Lib.hid (Ho3.out.below hb5)
            replace Ho4 := Lib.hid (Ho4.out.below hb5)
            replace Hr := Lib.hid (Hr.out.below hb5)
            go_wp2_with fail
            refine (turned_any (sealF 4 (more32 0) b) _ _ _ r M _ Ho5.out.rd (by omega) (by omega) (by omega)).mono ?_
            rintro e w6 ⟨A6, c6, rfl, ho, hb6⟩
            generalize hC4 : (turn (sealF 4 (more32 0) b) r M 32).2 = C4 at *
            have hz6 := hb6.size
            have Ho6 := Lib.hid ho; clear ho
            have sepHo1Ho6 := Lib.hid (Sep.of_lt Ho1.out Ho6.out (Nat.le_refl _))
            have sepHo2Ho6 := Lib.hid (Sep.of_lt Ho2.out Ho6.out (Nat.le_refl _))
            have sepHo3Ho6 := Lib.hid (Sep.of_lt Ho3.out Ho6.out (Nat.le_refl _))
            have sepHo4Ho6 := Lib.hid (Sep.of_lt Ho4.out Ho6.out (Nat.le_refl _))
            have sepHo5Ho6 := Lib.hid (Sep.of_lt Ho5.out Ho6.out (Nat.le_refl _))
            have hB6 := hB5.trans (hb6.mono hB5.size)
            replace Ho1 := Lib.hid (Ho1.out.below hb6)
            replace Ho2 := Lib.hid (Ho2.out.below hb6)
            replace Ho3 := Lib.hid (Ho3.out.below hb6)
            replace Ho4 := Lib.hid (Ho4.out.below hb6)
            replace Ho5 := Lib.hid (Ho5.out.below hb6)
            replace Hr := Lib.hid (Hr.out.below hb6)
            have HC3 := Lib.hid hC3; clear hC3
            subst q3
            have HC4 := Lib.hid hC4; clear hC4
            subst q4
            go_wp2_with fail
            refine (open16_any _ _ _ _ _ Ho4.out.rd Ho4.out.cap (by omega)).mono ?_
            rintro e w7 ⟨A7, n7, c7, rfl, ho, hb7⟩
            rw [Hp.out] at ho ⊢
            obtain rfl : m = n7 := by have h1 := ho.len; have h2 := Hr.out.length; simp at h1; omega
            have hz7 := hb7.size
            have Ho7 := Lib.hid ho; clear ho
            have sepHo1Ho7 := Lib.hid (Sep.of_lt Ho1.out Ho7.out (Nat.le_refl _))
            have sepHo2Ho7 := Lib.hid (Sep.of_lt Ho2.out Ho7.out (Nat.le_refl _))
            have sepHo3Ho7 := Lib.hid (Sep.of_lt Ho3.out Ho7.out (Nat.le_refl _))
            have sepHo4Ho7 := Lib.hid (Sep.of_lt Ho4.out Ho7.out (Nat.le_refl _))
            have sepHo5Ho7 := Lib.hid (Sep.of_lt Ho5.out Ho7.out (Nat.le_refl _))
            have sepHo6Ho7 := Lib.hid (Sep.of_lt Ho6.out Ho7.out (Nat.le_refl _))
            have hB7 := hB6.trans (hb7.mono hB6.size)
            replace Ho1 := Lib.hid (Ho1.out.below hb7)
            replace Ho2 := Lib.hid (Ho2.out.below hb7)
            replace Ho3 := Lib.hid (Ho3.out.below hb7)
            replace Ho4 := Lib.hid (Ho4.out.below hb7)
            replace Ho5 := Lib.hid (Ho5.out.below hb7)
            replace Ho6 := Lib.hid (Ho6.out.below hb7)
            replace Hr := Lib.hid (Hr.out.below hb7)
            go_wp2_with fail
            refine (open32_any _ _ _ _ _ Ho6.out.rd Ho6.out.cap (by omega)).mono ?_
            rintro e w8 ⟨A8, n8, c8, rfl, ho, hb8⟩
            rw [Hq.out] at ho ⊢
            obtain rfl : m = n8 := by have h1 := ho.len; have h2 := Hr.out.length; simp at h1; omega
            have hz8 := hb8.size
            have Ho8 := Lib.hid ho; clear ho
            have sepHo1Ho8 := Lib.hid (Sep.of_lt Ho1.out Ho8.out (Nat.le_refl _))
            have sepHo2Ho8 := Lib.hid (Sep.of_lt Ho2.out Ho8.out (Nat.le_refl _))
            have sepHo3Ho8 := Lib.hid (Sep.of_lt Ho3.out Ho8.out (Nat.le_refl _))
            have sepHo4Ho8 := Lib.hid (Sep.of_lt Ho4.out Ho8.out (Nat.le_refl _))
            have sepHo5Ho8 := Lib.hid (Sep.of_lt Ho5.out Ho8.out (Nat.le_refl _))
            have sepHo6Ho8 := Lib.hid (Sep.of_lt Ho6.out Ho8.out (Nat.le_refl _))
            have sepHo7Ho8 := Lib.hid (Sep.of_lt Ho7.out Ho8.out (Nat.le_refl _))
            have hB8 := hB7.trans (hb8.mono hB7.size)
            replace Ho1 := Lib.hid (Ho1.out.below hb8)
            replace Ho2 := Lib.hid (Ho2.out.below hb8)
            replace Ho3 := Lib.hid (Ho3.out.below hb8)
            replace Ho4 := Lib.hid (Ho4.out.below hb8)
            replace Ho5 := Lib.hid (Ho5.out.below hb8)
            replace Ho6 := Lib.hid (Ho6.out.below hb8)
            replace Ho7 := Lib.hid (Ho7.out.below hb8)
            replace Hr := Lib.hid (Hr.out.below hb8)
            go_wp2_with fail
            refine (same_any b b _ _ _ _ _ _ _ Ho7.out.rd Hr.out (by unfold maxLen; omega)).mono ?_
            rintro e w9 ⟨rfl, hb9⟩
            rw [decide_eq_true rfl]
            have hz9 := hb9.size
            have hB9 := hB8.trans (hb9.mono hB8.size)
            replace Ho1 := Lib.hid (Ho1.out.below hb9)
            replace Ho2 := Lib.hid (Ho2.out.below hb9)
            replace Ho3 := Lib.hid (Ho3.out.below hb9)
            replace Ho4 := Lib.hid (Ho4.out.below hb9)
            replace Ho5 := Lib.hid (Ho5.out.below hb9)
            replace Ho6 := Lib.hid (Ho6.out.below hb9)
            replace Ho7 := Lib.hid (Ho7.out.below hb9)
            replace Ho8 := Lib.hid (Ho8.out.below hb9)
            replace Hr := Lib.hid (Hr.out.below hb9)
            go_wp2_with fail
            refine (same_any b b _ _ _ _ _ _ _ Ho8.out.rd Hr.out (by unfold maxLen; omega)).mono ?_
            rintro e w10 ⟨rfl, hb10⟩
            rw [decide_eq_true rfl]
            have hz10 := hb10.size
            have hB10 := hB9.trans (hb10.mono hB9.size)
            replace Ho1 := Lib.hid (Ho1.out.below hb10)
            replace Ho2 := Lib.hid (Ho2.out.below hb10)
            replace Ho3 := Lib.hid (Ho3.out.below hb10)
            replace Ho4 := Lib.hid (Ho4.out.below hb10)
            replace Ho5 := Lib.hid (Ho5.out.below hb10)
            replace Ho6 := Lib.hid (Ho6.out.below hb10)
            replace Ho7 := Lib.hid (Ho7.out.below hb10)
            replace Ho8 := Lib.hid (Ho8.out.below hb10)
            replace Hr := Lib.hid (Hr.out.below hb10)
            go_wp2_with fail
            refine (known_any _).mono ?_
            rintro e w11 ⟨rfl, hb11⟩
            have hz11 := hb11.size
            have hB11 := hB10.trans (hb11.mono hB10.size)
            replace Ho1 := Lib.hid (Ho1.out.below hb11)
            replace Ho2 := Lib.hid (Ho2.out.below hb11)
            replace Ho3 := Lib.hid (Ho3.out.below hb11)
            replace Ho4 := Lib.hid (Ho4.out.below hb11)
            replace Ho5 := Lib.hid (Ho5.out.below hb11)
            replace Ho6 := Lib.hid (Ho6.out.below hb11)
            replace Ho7 := Lib.hid (Ho7.out.below hb11)
            replace Ho8 := Lib.hid (Ho8.out.below hb11)
            replace Hr := Lib.hid (Hr.out.below hb11)
            go_wp2_with fail
            go_ret
            exact ⟨rfl, hB11⟩
          · have Hq : Hid (openF 4 (more32 0) (turn (sealF 4 (more32 0) b) r M 32).1 = ([], 5)) := open32_turned b r M 32 hM (by omega)
            have hB0 : Below w.heap.size w w := Below.refl _ _
            go_wp2_with fail
            refine (turned_any b _ _ _ r M' _ Hr.out (by omega) (by omega) (by omega)).mono ?_
            rintro e w1 ⟨A1, c1, rfl, ho, hb1⟩
            generalize hC1 : (turn b r M' 32).2 = C1 at *
            have hz1 := hb1.size
            have Ho1 := Lib.hid ho; clear ho
            have hB1 := hB0.trans (hb1.mono hB0.size)
            replace Hr := Lib.hid (Hr.out.below hb1)
            go_wp2_with fail
            refine (turned_any b _ _ _ r M _ Hr.out (by omega) (by omega) (by omega)).mono ?_
            rintro e w2 ⟨A2, c2, rfl, ho, hb2⟩
            generalize hC2 : (turn b r M 32).2 = C2 at *
            have hz2 := hb2.size
            have Ho2 := Lib.hid ho; clear ho
            have sepHo1Ho2 := Lib.hid (Sep.of_lt Ho1.out Ho2.out (Nat.le_refl _))
            have hB2 := hB1.trans (hb2.mono hB1.size)
            replace Ho1 := Lib.hid (Ho1.out.below hb2)
            replace Hr := Lib.hid (Hr.out.below hb2)
            have HC1 := Lib.hid hC1; clear hC1
            subst q1
            have HC2 := Lib.hid hC2; clear hC2
            subst q2
            go_wp2_with fail
            refine (seal16_any b _ _ _ _ Hr.out (by omega)).mono ?_
            rintro e w3 ⟨A3, c3, rfl, ho, hb3⟩
            have hz3 := hb3.size
            have Ho3 := Lib.hid ho; clear ho
            have sepHo1Ho3 := Lib.hid (Sep.of_lt Ho1.out Ho3.out (Nat.le_refl _))
            have sepHo2Ho3 := Lib.hid (Sep.of_lt Ho2.out Ho3.out (Nat.le_refl _))
            have hB3 := hB2.trans (hb3.mono hB2.size)
            replace Ho1 := Lib.hid (Ho1.out.below hb3)
            replace Ho2 := Lib.hid (Ho2.out.below hb3)
            replace Hr := Lib.hid (Hr.out.below hb3)
            go_wp2_with fail
            refine (turned_any (sealF 2 (more16 65535) b) _ _ _ r M' _ Ho3.out.rd (by omega) (by omega) (by omega)).mono ?_
            rintro e w4 ⟨A4, c4, rfl, ho, hb4⟩
            generalize hC3 : (turn (sealF 2 (more16 65535) b) r M' 32).2 = C3 at *
            have hz4 := hb4.size
            have Ho4 := Lib.hid ho; clear ho
            have sepHo1Ho4 := Lib.hid (Sep.of_lt Ho1.out Ho4.out (Nat.le_refl _))
            have sepHo2Ho4 := Lib.hid (Sep.of_lt Ho2.out Ho4.out (Nat.le_refl _))
            have sepHo3Ho4 := Lib.hid (Sep.of_lt Ho3.out Ho4.out (Nat.le_refl _))
            have hB4 := hB3.trans (hb4.mono hB3.size)
            replace Ho1 := Lib.hid (Ho1.out.below hb4)
            replace Ho2 := Lib.hid (Ho2.out.below hb4)
            replace Ho3 := Lib.hid (Ho3.out.below hb4)
            replace Hr := Lib.hid (Hr.out.below hb4)
            go_wp2_with fail
            refine (seal32_any b _ _ _ _ Hr.out (by omega)).mono ?_
            rintro e w5 ⟨A5, c5, rfl, ho, hb5⟩
            have hz5 := hb5.size
            have Ho5 := Lib.hid ho; clear ho
            have sepHo1Ho5 := Lib.hid (Sep.of_lt Ho1.out Ho5.out (Nat.le_refl _))
            have sepHo2Ho5 := Lib.hid (Sep.of_lt Ho2.out Ho5.out (Nat.le_refl _))
            have sepHo3Ho5 := Lib.hid (Sep.of_lt Ho3.out Ho5.out (Nat.le_refl _))
            have sepHo4Ho5 := Lib.hid (Sep.of_lt Ho4.out Ho5.out (Nat.le_refl _))
            have hB5 := hB4.trans (hb5.mono hB4.size)
            replace Ho1 := Lib.hid (Ho1.out.below hb5)
            replace Ho2 := Lib.hid (Ho2.out.below hb5)
            replace Ho3 := Lib.hid (Ho3.out.below hb5)
            replace Ho4 := Lib.hid (Ho4.out.below hb5)
            replace Hr := Lib.hid (Hr.out.below hb5)
            go_wp2_with fail
            refine (turned_any (sealF 4 (more32 0) b) _ _ _ r M _ Ho5.out.rd (by omega) (by omega) (by omega)).mono ?_
            rintro e w6 ⟨A6, c6, rfl, ho, hb6⟩
            generalize hC4 : (turn (sealF 4 (more32 0) b) r M 32).2 = C4 at *
            have hz6 := hb6.size
            have Ho6 := Lib.hid ho; clear ho
            have sepHo1Ho6 := Lib.hid (Sep.of_lt Ho1.out Ho6.out (Nat.le_refl _))
            have sepHo2Ho6 := Lib.hid (Sep.of_lt Ho2.out Ho6.out (Nat.le_refl _))
            have sepHo3Ho6 := Lib.hid (Sep.of_lt Ho3.out Ho6.out (Nat.le_refl _))
            have sepHo4Ho6 := Lib.hid (Sep.of_lt Ho4.out Ho6.out (Nat.le_refl _))
            have sepHo5Ho6 := Lib.hid (Sep.of_lt Ho5.out Ho6.out (Nat.le_refl _))
            have hB6 := hB5.trans (hb6.mono hB5.size)
            replace Ho1 := Lib.hid (Ho1.out.below hb6)
            replace Ho2 := Lib.hid (Ho2.out.below hb6)
            replace Ho3 := Lib.hid (Ho3.out.below hb6)
            replace Ho4 := Lib.hid (Ho4.out.below hb6)
            replace Ho5 := Lib.hid (Ho5.out.below hb6)
            replace Hr := Lib.hid (Hr.out.below hb6)
            have HC3 := Lib.hid hC3; clear hC3
            subst q3
            have HC4 := Lib.hid hC4; clear hC4
            go_wp2_with fail
            refine (open16_any _ _ _ _ _ Ho4.out.rd Ho4.out.cap (by omega)).mono ?_
            rintro e w7 ⟨A7, n7, c7, rfl, ho, hb7⟩
            rw [Hp.out] at ho ⊢
            obtain rfl : m = n7 := by have h1 := ho.len; have h2 := Hr.out.length; simp at h1; omega
            have hz7 := hb7.size
            have Ho7 := Lib.hid ho; clear ho
            have sepHo1Ho7 := Lib.hid (Sep.of_lt Ho1.out Ho7.out (Nat.le_refl _))
            have sepHo2Ho7 := Lib.hid (Sep.of_lt Ho2.out Ho7.out (Nat.le_refl _))
            have sepHo3Ho7 := Lib.hid (Sep.of_lt Ho3.out Ho7.out (Nat.le_refl _))
            have sepHo4Ho7 := Lib.hid (Sep.of_lt Ho4.out Ho7.out (Nat.le_refl _))
            have sepHo5Ho7 := Lib.hid (Sep.of_lt Ho5.out Ho7.out (Nat.le_refl _))
            have sepHo6Ho7 := Lib.hid (Sep.of_lt Ho6.out Ho7.out (Nat.le_refl _))
            have hB7 := hB6.trans (hb7.mono hB6.size)
            replace Ho1 := Lib.hid (Ho1.out.below hb7)
            replace Ho2 := Lib.hid (Ho2.out.below hb7)
            replace Ho3 := Lib.hid (Ho3.out.below hb7)
            replace Ho4 := Lib.hid (Ho4.out.below hb7)
            replace Ho5 := Lib.hid (Ho5.out.below hb7)
            replace Ho6 := Lib.hid (Ho6.out.below hb7)
            replace Hr := Lib.hid (Hr.out.below hb7)
            go_wp2_with fail
            refine (open32_any _ _ _ _ _ Ho6.out.rd Ho6.out.cap (by omega)).mono ?_
            rintro e w8 ⟨A8, n8, c8, rfl, ho, hb8⟩
            rw [Hq.out] at ho ⊢
            obtain rfl : n8 = 0 := ho.len.symm
            have hz8 := hb8.size
            have Ho8 := Lib.hid ho; clear ho
            have sepHo1Ho8 := Lib.hid (Sep.of_lt Ho1.out Ho8.out (Nat.le_refl _))
            have sepHo2Ho8 := Lib.hid (Sep.of_lt Ho2.out Ho8.out (Nat.le_refl _))
            have sepHo3Ho8 := Lib.hid (Sep.of_lt Ho3.out Ho8.out (Nat.le_refl _))
            have sepHo4Ho8 := Lib.hid (Sep.of_lt Ho4.out Ho8.out (Nat.le_refl _))
            have sepHo5Ho8 := Lib.hid (Sep.of_lt Ho5.out Ho8.out (Nat.le_refl _))
            have sepHo6Ho8 := Lib.hid (Sep.of_lt Ho6.out Ho8.out (Nat.le_refl _))
            have sepHo7Ho8 := Lib.hid (Sep.of_lt Ho7.out Ho8.out (Nat.le_refl _))
            have hB8 := hB7.trans (hb8.mono hB7.size)
            replace Ho1 := Lib.hid (Ho1.out.below hb8)
            replace Ho2 := Lib.hid (Ho2.out.below hb8)
            replace Ho3 := Lib.hid (Ho3.out.below hb8)
            replace Ho4 := Lib.hid (Ho4.out.below hb8)
            replace Ho5 := Lib.hid (Ho5.out.below hb8)
            replace Ho6 := Lib.hid (Ho6.out.below hb8)
            replace Ho7 := Lib.hid (Ho7.out.below hb8)
            replace Hr := Lib.hid (Hr.out.below hb8)
            go_wp2_with fail
            refine (same_any b b _ _ _ _ _ _ _ Ho7.out.rd Hr.out (by unfold maxLen; omega)).mono ?_
            rintro e w9 ⟨rfl, hb9⟩
            rw [decide_eq_true rfl]
            have hz9 := hb9.size
            have hB9 := hB8.trans (hb9.mono hB8.size)
            replace Ho1 := Lib.hid (Ho1.out.below hb9)
            replace Ho2 := Lib.hid (Ho2.out.below hb9)
            replace Ho3 := Lib.hid (Ho3.out.below hb9)
            replace Ho4 := Lib.hid (Ho4.out.below hb9)
            replace Ho5 := Lib.hid (Ho5.out.below hb9)
            replace Ho6 := Lib.hid (Ho6.out.below hb9)
            replace Ho7 := Lib.hid (Ho7.out.below hb9)
            replace Ho8 := Lib.hid (Ho8.out.below hb9)
            replace Hr := Lib.hid (Hr.out.below hb9)
            go_wp2_with fail
            refine (known_any _).mono ?_
            rintro e w10 ⟨rfl, hb10⟩
            have hz10 := hb10.size
            have hB10 := hB9.trans (hb10.mono hB9.size)
            replace Ho1 := Lib.hid (Ho1.out.below hb10)
            replace Ho2 := Lib.hid (Ho2.out.below hb10)
            replace Ho3 := Lib.hid (Ho3.out.below hb10)
            replace Ho4 := Lib.hid (Ho4.out.below hb10)
            replace Ho5 := Lib.hid (Ho5.out.below hb10)
            replace Ho6 := Lib.hid (Ho6.out.below hb10)
            replace Ho7 := Lib.hid (Ho7.out.below hb10)
            replace Ho8 := Lib.hid (Ho8.out.below hb10)
            replace Hr := Lib.hid (Hr.out.below hb10)
            go_wp2_with fail
            go_ret
            exact ⟨rfl, hB10⟩
        · have Hp : Hid (openF 2 (more16 65535) (turn (sealF 2 (more16 65535) b) r M' 32).1 = ([], 5)) := open16_turned b r M' 32 hM1 (by omega)
          rcases Nat.eq_zero_or_pos (turn (sealF 4 (more32 0) b) r M 32).2 with q4 | q4
          · have Hq : Hid (openF 4 (more32 0) (turn (sealF 4 (more32 0) b) r M 32).1 = (b, 0)) := open_same 4 (more32 0) b r M 32 q4
            have hB0 : Below w.heap.size w w := Below.refl _ _
            go_wp2_with fail
            refine (turned_any b _ _ _ r M' _ Hr.out (by omega) (by omega) (by omega)).mono ?_
            rintro e w1 ⟨A1, c1, rfl, ho, hb1⟩
            generalize hC1 : (turn b r M' 32).2 = C1 at *
            have hz1 := hb1.size
            have Ho1 := Lib.hid ho; clear ho
            have hB1 := hB0.trans (hb1.mono hB0.size)
            replace Hr := Lib.hid (Hr.out.below hb1)
            go_wp2_with fail
            refine (turned_any b _ _ _ r M _ Hr.out (by omega) (by omega) (by omega)).mono ?_
            rintro e w2 ⟨A2, c2, rfl, ho, hb2⟩
            generalize hC2 : (turn b r M 32).2 = C2 at *
            have hz2 := hb2.size
            have Ho2 := Lib.hid ho; clear ho
            have sepHo1Ho2 := Lib.hid (Sep.of_lt Ho1.out Ho2.out (Nat.le_refl _))
            have hB2 := hB1.trans (hb2.mono hB1.size)
            replace Ho1 := Lib.hid (Ho1.out.below hb2)
            replace Hr := Lib.hid (Hr.out.below hb2)
            have HC1 := Lib.hid hC1; clear hC1
            subst q1
            have HC2 := Lib.hid hC2; clear hC2
            subst q2
            go_wp2_with fail
            refine (seal16_any b _ _ _ _ Hr.out (by omega)).mono ?_
            rintro e w3 ⟨A3, c3, rfl, ho, hb3⟩
            have hz3 := hb3.size
            have Ho3 := Lib.hid ho; clear ho
            have sepHo1Ho3 := Lib.hid (Sep.of_lt Ho1.out Ho3.out (Nat.le_refl _))
            have sepHo2Ho3 := Lib.hid (Sep.of_lt Ho2.out Ho3.out (Nat.le_refl _))
            have hB3 := hB2.trans (hb3.mono hB2.size)
            replace Ho1 := Lib.hid (Ho1.out.below hb3)
            replace Ho2 := Lib.hid (Ho2.out.below hb3)
            replace Hr := Lib.hid (Hr.out.below hb3)
            go_wp2_with fail
            refine (turned_any (sealF 2 (more16 65535) b) _ _ _ r M' _ Ho3.out.rd (by omega) (by omega) (by omega)).mono ?_
            rintro e w4 ⟨A4, c4, rfl, ho, hb4⟩
            generalize hC3 : (turn (sealF 2 (more16 65535) b) r M' 32).2 = C3 at *
            have hz4 := hb4.size
            have Ho4 := Lib.hid ho; clear ho
            have sepHo1Ho4 := Lib.hid (Sep.of_lt Ho1.out Ho4.out (Nat.le_refl _))
            have sepHo2Ho4 := Lib.hid (Sep.of_lt Ho2.out Ho4.out (Nat.le_refl _))
            have sepHo3Ho4 := Lib.hid (Sep.of_lt Ho3.out Ho4.out (Nat.le_refl _))
            have hB4 := hB3.trans (hb4.mono hB3.size)
            replace Ho1 := Lib.hid (Ho1.out.below hb4)
            replace Ho2 := Lib.hid (Ho2.out.below hb4)
            replace Ho3 := Lib.hid (Ho3.out.below hb4)
            replace Hr := Lib.hid (Hr.out.below hb4)
            go_wp2_with fail
            refine (seal32_any b _ _ _ _ Hr.out (by omega)).mono ?_
            rintro e w5 ⟨A5, c5, rfl, ho, hb5⟩
            have hz5 := hb5.size
            have Ho5 := Lib.hid ho; clear ho
            have sepHo1Ho5 := Lib.hid (Sep.of_lt Ho1.out Ho5.out (Nat.le_refl _))
            have sepHo2Ho5 := Lib.hid (Sep.of_lt Ho2.out Ho5.out (Nat.le_refl _))
            have sepHo3Ho5 := Lib.hid (Sep.of_lt Ho3.out Ho5.out (Nat.le_refl _))
            have sepHo4Ho5 := Lib.hid (Sep.of_lt Ho4.out Ho5.out (Nat.le_refl _))
            have hB5 := hB4.trans (hb5.mono hB4.size)
            replace Ho1 := Lib.hid (Ho1.out.below hb5)
            replace Ho2 := Lib.hid (Ho2.out.below hb5)
            replace Ho3 := Lib.hid (Ho3.out.below hb5)
            replace Ho4 := Lib.hid (Ho4.out.below hb5)
            replace Hr := Lib.hid (Hr.out.below hb5)
            go_wp2_with fail
            refine (turned_any (sealF 4 (more32 0) b) _ _ _ r M _ Ho5.out.rd (by omega) (by omega) (by omega)).mono ?_
            rintro e w6 ⟨A6, c6, rfl, ho, hb6⟩
            generalize hC4 : (turn (sealF 4 (more32 0) b) r M 32).2 = C4 at *
            have hz6 := hb6.size
            have Ho6 := Lib.hid ho; clear ho
            have sepHo1Ho6 := Lib.hid (Sep.of_lt Ho1.out Ho6.out (Nat.le_refl _))
            have sepHo2Ho6 := Lib.hid (Sep.of_lt Ho2.out Ho6.out (Nat.le_refl _))
            have sepHo3Ho6 := Lib.hid (Sep.of_lt Ho3.out Ho6.out (Nat.le_refl _))
            have sepHo4Ho6 := Lib.hid (Sep.of_lt Ho4.out Ho6.out (Nat.le_refl _))
            have sepHo5Ho6 := Lib.hid (Sep.of_lt Ho5.out Ho6.out (Nat.le_refl _))
            have hB6 := hB5.trans (hb6.mono hB5.size)
            replace Ho1 := Lib.hid (Ho1.out.below hb6)
            replace Ho2 := Lib.hid (Ho2.out.below hb6)
            replace Ho3 := Lib.hid (Ho3.out.below hb6)
            replace Ho4 := Lib.hid (Ho4.out.below hb6)
            replace Ho5 := Lib.hid (Ho5.out.below hb6)
            replace Hr := Lib.hid (Hr.out.below hb6)
            have HC3 := Lib.hid hC3; clear hC3
            have HC4 := Lib.hid hC4; clear hC4
            subst q4
            go_wp2_with fail
            refine (open16_any _ _ _ _ _ Ho4.out.rd Ho4.out.cap (by omega)).mono ?_
            rintro e w7 ⟨A7, n7, c7, rfl, ho, hb7⟩
            rw [Hp.out] at ho ⊢
            obtain rfl : n7 = 0 := ho.len.symm
            have hz7 := hb7.size
            have Ho7 := Lib.hid ho; clear ho
            have sepHo1Ho7 := Lib.hid (Sep.of_lt Ho1.out Ho7.out (Nat.le_refl _))
            have sepHo2Ho7 := Lib.hid (Sep.of_lt Ho2.out Ho7.out (Nat.le_refl _))
            have sepHo3Ho7 := Lib.hid (Sep.of_lt Ho3.out Ho7.out (Nat.le_refl _))
            have sepHo4Ho7 := Lib.hid (Sep.of_lt Ho4.out Ho7.out (Nat.le_refl _))
            have sepHo5Ho7 := Lib.hid (Sep.of_lt Ho5.out Ho7.out (Nat.le_refl _))
            have sepHo6Ho7 := Lib.hid (Sep.of_lt Ho6.out Ho7.out (Nat.le_refl _))
            have hB7 := hB6.trans (hb7.mono hB6.size)
            replace Ho1 := Lib.hid (Ho1.out.below hb7)
            replace Ho2 := Lib.hid (Ho2.out.below hb7)
            replace Ho3 := Lib.hid (Ho3.out.below hb7)
            replace Ho4 := Lib.hid (Ho4.out.below hb7)
            replace Ho5 := Lib.hid (Ho5.out.below hb7)
            replace Ho6 := Lib.hid (Ho6.out.below hb7)
            replace Hr := Lib.hid (Hr.out.below hb7)
            go_wp2_with fail
            refine (open32_any _ _ _ _ _ Ho6.out.rd Ho6.out.cap (by omega)).mono ?_
            rintro e w8 ⟨A8, n8, c8, rfl, ho, hb8⟩
            rw [Hq.out] at ho ⊢
            obtain rfl : m = n8 := by have h1 := ho.len; have h2 := Hr.out.length; simp at h1; omega
            have hz8 := hb8.size
            have Ho8 := Lib.hid ho; clear ho
            have sepHo1Ho8 := Lib.hid (Sep.of_lt Ho1.out Ho8.out (Nat.le_refl _))
            have sepHo2Ho8 := Lib.hid (Sep.of_lt Ho2.out Ho8.out (Nat.le_refl _))
            have sepHo3Ho8 := Lib.hid (Sep.of_lt Ho3.out Ho8.out (Nat.le_refl _))
            have sepHo4Ho8 := Lib.hid (Sep.of_lt Ho4.out Ho8.out (Nat.le_refl _))
            have sepHo5Ho8 := Lib.hid (Sep.of_lt Ho5.out Ho8.out (Nat.le_refl _))
            have sepHo6Ho8 := Lib.hid (Sep.of_lt Ho6.out Ho8.out (Nat.le_refl _))
            have sepHo7Ho8 := Lib.hid (Sep.of_lt Ho7.out Ho8.out (Nat.le_refl _))
            have hB8 := hB7.trans (hb8.mono hB7.size)
            replace Ho1 := Lib.hid (Ho1.out.below hb8)
            replace Ho2 := Lib.hid (Ho2.out.below hb8)
            replace Ho3 := Lib.hid (Ho3.out.below hb8)
            replace Ho4 := Lib.hid (Ho4.out.below hb8)
            replace Ho5 := Lib.hid (Ho5.out.below hb8)
            replace Ho6 := Lib.hid (Ho6.out.below hb8)
            replace Ho7 := Lib.hid (Ho7.out.below hb8)
            replace Hr := Lib.hid (Hr.out.below hb8)
            go_wp2_with fail
            refine (same_any b b _ _ _ _ _ _ _ Ho8.out.rd Hr.out (by unfold maxLen; omega)).mono ?_
            rintro e w9 ⟨rfl, hb9⟩
            rw [decide_eq_true rfl]
            have hz9 := hb9.size
            have hB9 := hB8.trans (hb9.mono hB8.size)
            replace Ho1 := Lib.hid (Ho1.out.below hb9)
            replace Ho2 := Lib.hid (Ho2.out.below hb9)
            replace Ho3 := Lib.hid (Ho3.out.below hb9)
            replace Ho4 := Lib.hid (Ho4.out.below hb9)
            replace Ho5 := Lib.hid (Ho5.out.below hb9)
            replace Ho6 := Lib.hid (Ho6.out.below hb9)
            replace Ho7 := Lib.hid (Ho7.out.below hb9)
            replace Ho8 := Lib.hid (Ho8.out.below hb9)
            replace Hr := Lib.hid (Hr.out.below hb9)
            go_wp2_with fail
            refine (known_any _).mono ?_
            rintro e w10 ⟨rfl, hb10⟩
            have hz10 := hb10.size
            have hB10 := hB9.trans (hb10.mono hB9.size)
            replace Ho1 := Lib.hid (Ho1.out.below hb10)
            replace Ho2 := Lib.hid (Ho2.out.below hb10)
            replace Ho3 := Lib.hid (Ho3.out.below hb10)
            replace Ho4 := Lib.hid (Ho4.out.below hb10)
            replace Ho5 := Lib.hid (Ho5.out.below hb10)
            replace Ho6 := Lib.hid (Ho6.out.below hb10)
            replace Ho7 := Lib.hid (Ho7.out.below hb10)
            replace Ho8 := Lib.hid (Ho8.out.below hb10)
            replace Hr := Lib.hid (Hr.out.below hb10)
            go_wp2_with fail
            go_ret
            exact ⟨rfl, hB10⟩
          · have Hq : Hid (openF 4 (more32 0) (turn (sealF 4 (more32 0) b) r M 32).1 = ([], 5)) := open32_turned b r M 32 hM (by omega)
            have hB0 : Below w.heap.size w w := Below.refl _ _
            go_wp2_with fail
            refine (turned_any b _ _ _ r M' _ Hr.out (by omega) (by omega) (by omega)).mono ?_
            rintro e w1 ⟨A1, c1, rfl, ho, hb1⟩
            generalize hC1 : (turn b r M' 32).2 = C1 at *
            have hz1 := hb1.size
            have Ho1 := Lib.hid ho; clear ho
            have hB1 := hB0.trans (hb1.mono hB0.size)
            replace Hr := Lib.hid (Hr.out.below hb1)
            go_wp2_with fail
            refine (turned_any b _ _ _ r M _ Hr.out (by omega) (by omega) (by omega)).mono ?_
            rintro e w2 ⟨A2, c2, rfl, ho, hb2⟩
            generalize hC2 : (turn b r M 32).2 = C2 at *
            have hz2 := hb2.size
            have Ho2 := Lib.hid ho; clear ho
            have sepHo1Ho2 := Lib.hid (Sep.of_lt Ho1.out Ho2.out (Nat.le_refl _))
            have hB2 := hB1.trans (hb2.mono hB1.size)
            replace Ho1 := Lib.hid (Ho1.out.below hb2)
            replace Hr := Lib.hid (Hr.out.below hb2)
            have HC1 := Lib.hid hC1; clear hC1
            subst q1
            have HC2 := Lib.hid hC2; clear hC2
            subst q2
            go_wp2_with fail
            refine (seal16_any b _ _ _ _ Hr.out (by omega)).mono ?_
            rintro e w3 ⟨A3, c3, rfl, ho, hb3⟩
            have hz3 := hb3.size
            have Ho3 := Lib.hid ho; clear ho
            have sepHo1Ho3 := Lib.hid (Sep.of_lt Ho1.out Ho3.out (Nat.le_refl _))
            have sepHo2Ho3 := Lib.hid (Sep.of_lt Ho2.out Ho3.out (Nat.le_refl _))
            have hB3 := hB2.trans (hb3.mono hB2.size)
            replace Ho1 := Lib.hid (Ho1.out.below hb3)
            replace Ho2 := Lib.hid (Ho2.out.below hb3)
            replace Hr := Lib.hid (Hr.out.below hb3)
            go_wp2_with fail
            refine (turned_any (sealF 2 (more16 65535) b) _ _ _ r M' _ Ho3.out.rd (by omega) (by omega) (by omega)).mono ?_
            rintro e w4 ⟨A4, c4, rfl, ho, hb4⟩
            generalize hC3 : (turn (sealF 2 (more16 65535) b) r M' 32).2 = C3 at *
            have hz4 := hb4.size
            have Ho4 := Lib.hid ho; clear ho
            have sepHo1Ho4 := Lib.hid (Sep.of_lt Ho1.out Ho4.out (Nat.le_refl _))
            have sepHo2Ho4 := Lib.hid (Sep.of_lt Ho2.out Ho4.out (Nat.le_refl _))
            have sepHo3Ho4 := Lib.hid (Sep.of_lt Ho3.out Ho4.out (Nat.le_refl _))
            have hB4 := hB3.trans (hb4.mono hB3.size)
            replace Ho1 := Lib.hid (Ho1.out.below hb4)
            replace Ho2 := Lib.hid (Ho2.out.below hb4)
            replace Ho3 := Lib.hid (Ho3.out.below hb4)
            replace Hr := Lib.hid (Hr.out.below hb4)
            go_wp2_with fail
            refine (seal32_any b _ _ _ _ Hr.out (by omega)).mono ?_
            rintro e w5 ⟨A5, c5, rfl, ho, hb5⟩
            have hz5 := hb5.size
            have Ho5 := Lib.hid ho; clear ho
            have sepHo1Ho5 := Lib.hid (Sep.of_lt Ho1.out Ho5.out (Nat.le_refl _))
            have sepHo2Ho5 := Lib.hid (Sep.of_lt Ho2.out Ho5.out (Nat.le_refl _))
            have sepHo3Ho5 := Lib.hid (Sep.of_lt Ho3.out Ho5.out (Nat.le_refl _))
            have sepHo4Ho5 := Lib.hid (Sep.of_lt Ho4.out Ho5.out (Nat.le_refl _))
            have hB5 := hB4.trans (hb5.mono hB4.size)
            replace Ho1 := Lib.hid (Ho1.out.below hb5)
            replace Ho2 := Lib.hid (Ho2.out.below hb5)
            replace Ho3 := Lib.hid (Ho3.out.below hb5)
            replace Ho4 := Lib.hid (Ho4.out.below hb5)
            replace Hr := Lib.hid (Hr.out.below hb5)
            go_wp2_with fail
            refine (turned_any (sealF 4 (more32 0) b) _ _ _ r M _ Ho5.out.rd (by omega) (by omega) (by omega)).mono ?_
            rintro e w6 ⟨A6, c6, rfl, ho, hb6⟩
            generalize hC4 : (turn (sealF 4 (more32 0) b) r M 32).2 = C4 at *
            have hz6 := hb6.size
            have Ho6 := Lib.hid ho; clear ho
            have sepHo1Ho6 := Lib.hid (Sep.of_lt Ho1.out Ho6.out (Nat.le_refl _))
            have sepHo2Ho6 := Lib.hid (Sep.of_lt Ho2.out Ho6.out (Nat.le_refl _))
            have sepHo3Ho6 := Lib.hid (Sep.of_lt Ho3.out Ho6.out (Nat.le_refl _))
            have sepHo4Ho6 := Lib.hid (Sep.of_lt Ho4.out Ho6.out (Nat.le_refl _))
            have sepHo5Ho6 := Lib.hid (Sep.of_lt Ho5.out Ho6.out (Nat.le_refl _))
            have hB6 := hB5.trans (hb6.mono hB5.size)
            replace Ho1 := Lib.hid (Ho1.out.below hb6)
            replace Ho2 := Lib.hid (Ho2.out.below hb6)
            replace Ho3 := Lib.hid (Ho3.out.below hb6)
            replace Ho4 := Lib.hid (Ho4.out.below hb6)
            replace Ho5 := Lib.hid (Ho5.out.below hb6)
            replace Hr := Lib.hid (Hr.out.below hb6)
            have HC3 := Lib.hid hC3; clear hC3
            have HC4 := Lib.hid hC4; clear hC4
            go_wp2_with fail
            refine (open16_any _ _ _ _ _ Ho4.out.rd Ho4.out.cap (by omega)).mono ?_
            rintro e w7 ⟨A7, n7, c7, rfl, ho, hb7⟩
            rw [Hp.out] at ho ⊢
            obtain rfl : n7 = 0 := ho.len.symm
            have hz7 := hb7.size
            have Ho7 := Lib.hid ho; clear ho
            have sepHo1Ho7 := Lib.hid (Sep.of_lt Ho1.out Ho7.out (Nat.le_refl _))
            have sepHo2Ho7 := Lib.hid (Sep.of_lt Ho2.out Ho7.out (Nat.le_refl _))
            have sepHo3Ho7 := Lib.hid (Sep.of_lt Ho3.out Ho7.out (Nat.le_refl _))
            have sepHo4Ho7 := Lib.hid (Sep.of_lt Ho4.out Ho7.out (Nat.le_refl _))
            have sepHo5Ho7 := Lib.hid (Sep.of_lt Ho5.out Ho7.out (Nat.le_refl _))
            have sepHo6Ho7 := Lib.hid (Sep.of_lt Ho6.out Ho7.out (Nat.le_refl _))
            have hB7 := hB6.trans (hb7.mono hB6.size)
            replace Ho1 := Lib.hid (Ho1.out.below hb7)
            replace Ho2 := Lib.hid (Ho2.out.below hb7)
            replace Ho3 := Lib.hid (Ho3.out.below hb7)
            replace Ho4 := Lib.hid (Ho4.out.below hb7)
            replace Ho5 := Lib.hid (Ho5.out.below hb7)
            replace Ho6 := Lib.hid (Ho6.out.below hb7)
            replace Hr := Lib.hid (Hr.out.below hb7)
            go_wp2_with fail
            refine (open32_any _ _ _ _ _ Ho6.out.rd Ho6.out.cap (by omega)).mono ?_
            rintro e w8 ⟨A8, n8, c8, rfl, ho, hb8⟩
            rw [Hq.out] at ho ⊢
            obtain rfl : n8 = 0 := ho.len.symm
            have hz8 := hb8.size
            have Ho8 := Lib.hid ho; clear ho
            have sepHo1Ho8 := Lib.hid (Sep.of_lt Ho1.out Ho8.out (Nat.le_refl _))
            have sepHo2Ho8 := Lib.hid (Sep.of_lt Ho2.out Ho8.out (Nat.le_refl _))
            have sepHo3Ho8 := Lib.hid (Sep.of_lt Ho3.out Ho8.out (Nat.le_refl _))
            have sepHo4Ho8 := Lib.hid (Sep.of_lt Ho4.out Ho8.out (Nat.le_refl _))
            have sepHo5Ho8 := Lib.hid (Sep.of_lt Ho5.out Ho8.out (Nat.le_refl _))
            have sepHo6Ho8 := Lib.hid (Sep.of_lt Ho6.out Ho8.out (Nat.le_refl _))
            have sepHo7Ho8 := Lib.hid (Sep.of_lt Ho7.out Ho8.out (Nat.le_refl _))
            have hB8 := hB7.trans (hb8.mono hB7.size)
            replace Ho1 := Lib.hid (Ho1.out.below hb8)
            replace Ho2 := Lib.hid (Ho2.out.below hb8)
            replace Ho3 := Lib.hid (Ho3.out.below hb8)
            replace Ho4 := Lib.hid (Ho4.out.below hb8)
            replace Ho5 := Lib.hid (Ho5.out.below hb8)
            replace Ho6 := Lib.hid (Ho6.out.below hb8)
            replace Ho7 := Lib.hid (Ho7.out.below hb8)
            replace Hr := Lib.hid (Hr.out.below hb8)
            go_wp2_with fail
            refine (known_any _).mono ?_
            rintro e w9 ⟨rfl, hb9⟩
            have hz9 := hb9.size
            have hB9 := hB8.trans (hb9.mono hB8.size)
            replace Ho1 := Lib.hid (Ho1.out.below hb9)
            replace Ho2 := Lib.hid (Ho2.out.below hb9)
            replace Ho3 := Lib.hid (Ho3.out.below hb9)
            replace Ho4 := Lib.hid (Ho4.out.below hb9)
            replace Ho5 := Lib.hid (Ho5.out.below hb9)
            replace Ho6 := Lib.hid (Ho6.out.below hb9)
            replace Ho7 := Lib.hid (Ho7.out.below hb9)
            replace Ho8 := Lib.hid (Ho8.out.below hb9)
            replace Hr := Lib.hid (Hr.out.below hb9)
            go_wp2_with fail
            go_ret
            exact ⟨rfl, hB9⟩
      · have q2' : (turn b r M 32).2 ≠ 0 := by omega
        rcases Nat.eq_zero_or_pos (turn (sealF 2 (more16 65535) b) r M' 32).2 with q3 | q3
        · have Hp : Hid (openF 2 (more16 65535) (turn (sealF 2 (more16 65535) b) r M' 32).1 = (b, 0)) := open_same 2 (more16 65535) b r M' 32 q3
          rcases Nat.eq_zero_or_pos (turn (sealF 4 (more32 0) b) r M 32).2 with q4 | q4
          · have Hq : Hid (openF 4 (more32 0) (turn (sealF 4 (more32 0) b) r M 32).1 = (b, 0)) := open_same 4 (more32 0) b r M 32 q4
            have hB0 : Below w.heap.size w w := Below.refl _ _
            go_wp2_with fail
            refine (turned_any b _ _ _ r M' _ Hr.out (by omega) (by omega) (by omega)).mono ?_
            rintro e w1 ⟨A1, c1, rfl, ho, hb1⟩
            generalize hC1 : (turn b r M' 32).2 = C1 at *
            have hz1 := hb1.size
            have Ho1 := Lib.hid ho; clear ho
            have hB1 := hB0.trans (hb1.mono hB0.size)
            replace Hr := Lib.hid (Hr.out.below hb1)
            go_wp2_with fail
            refine (turned_any b _ _ _ r M _ Hr.out (by omega) (by omega) (by omega)).mono ?_
            rintro e w2 ⟨A2, c2, rfl, ho, hb2⟩
            generalize hC2 : (turn b r M 32).2 = C2 at *
            have hz2 := hb2.size
            have Ho2 := Lib.hid ho; clear ho
            have sepHo1Ho2 := Lib.hid (Sep.of_lt Ho1.out Ho2.out (Nat.le_refl _))
            have hB2 := hB1.trans (hb2.mono hB1.size)
            replace Ho1 := Lib.hid (Ho1.out.below hb2)
            replace Hr := Lib.hid (Hr.out.below hb2)
            have HC1 := Lib.hid hC1; clear hC1
            subst q1
            have HC2 := Lib.hid hC2; clear hC2
            go_wp2_with fail
            refine (crc32_any (turn b r M 32).1 _ _ _ _ Ho2.out.rd (by omega)).mono ?_
            rintro e v ⟨rfl, rfl⟩
            go_wp2_with fail
            refine (crc32_any b _ _ _ _ Hr.out (by omega)).mono ?_
            rintro e v ⟨rfl, rfl⟩
            have hne2 : ((more32 0 (turn b r M 32).1 : Int) == (more32 0 b : Int)) = false := by have h := Hs32.out q2'; simp; omega
            generalize more32 0 (turn b r M 32).1 = S3 at *
            generalize more32 0 b = S4 at *
            go_wp2_with fail
            refine (seal16_any b _ _ _ _ Hr.out (by omega)).mono ?_
            rintro e w3 ⟨A3, c3, rfl, ho, hb3⟩
            have hz3 := hb3.size
            have Ho3 := Lib.hid ho; clear ho
            have sepHo1Ho3 := Lib.hid (Sep.of_lt Ho1.out Ho3.out (Nat.le_refl _))
            have sepHo2Ho3 := Lib.hid (Sep.of_lt Ho2.out Ho3.out (Nat.le_refl _))
            have hB3 := hB2.trans (hb3.mono hB2.size)
            replace Ho1 := Lib.hid (Ho1.out.below hb3)
            replace Ho2 := Lib.hid (Ho2.out.below hb3)
            replace Hr := Lib.hid (Hr.out.below hb3)
            go_wp2_with fail
            refine (turned_any (sealF 2 (more16 65535) b) _ _ _ r M' _ Ho3.out.rd (by omega) (by omega) (by omega)).mono ?_
            rintro e w4 ⟨A4, c4, rfl, ho, hb4⟩
            generalize hC3 : (turn (sealF 2 (more16 65535) b) r M' 32).2 = C3 at *
            have hz4 := hb4.size
            have Ho4 := Lib.hid ho; clear ho
            have sepHo1Ho4 := Lib.hid (Sep.of_lt Ho1.out Ho4.out (Nat.le_refl _))
            have sepHo2Ho4 := Lib.hid (Sep.of_lt Ho2.out Ho4.out (Nat.le_refl _))
            have sepHo3Ho4 := Lib.hid (Sep.of_lt Ho3.out Ho4.out (Nat.le_refl _))
            have hB4 := hB3.trans (hb4.mono hB3.size)
            replace Ho1 := Lib.hid (Ho1.out.below hb4)
            replace Ho2 := Lib.hid (Ho2.out.below hb4)
            replace Ho3 := Lib.hid (Ho3.out.below hb4)
            replace Hr := Lib.hid (Hr.out.below hb4)
            go_wp2_with fail
            refine (seal32_any b _ _ _ _ Hr.out (by omega)).mono ?_
            rintro e w5 ⟨A5, c5, rfl, ho, hb5⟩
            have hz5 := hb5.size
            have Ho5 := Lib.hid ho; clear ho
            have sepHo1Ho5 := Lib.hid (Sep.of_lt Ho1.out Ho5.out (Nat.le_refl _))
            have sepHo2Ho5 := Lib.hid (Sep.of_lt Ho2.out Ho5.out (Nat.le_refl _))
            have sepHo3Ho5 := Lib.hid (Sep.of_lt Ho3.out Ho5.out (Nat.le_refl _))
            have sepHo4Ho5 := Lib.hid (Sep.of_lt Ho4.out Ho5.out (Nat.le_refl _))
            have hB5 := hB4.trans (hb5.mono hB4.size)
            replace Ho1 := Lib.hid (Ho1.out.below hb5)
            replace Ho2 := Lib.hid (Ho2.out.below hb5)
            replace Ho3 := Lib.hid (Ho3.out.below hb5)
            replace Ho4 := Lib.hid (Ho4.out.below hb5)
            replace Hr := Lib.hid (Hr.out.below hb5)
            go_wp2_with fail
            refine (turned_any (sealF 4 (more32 0) b) _ _ _ r M _ Ho5.out.rd (by omega) (by omega) (by omega)).mono ?_
            rintro e w6 ⟨A6, c6, rfl, ho, hb6⟩
            generalize hC4 : (turn (sealF 4 (more32 0) b) r M 32).2 = C4 at *
            have hz6 := hb6.size
            have Ho6 := Lib.hid ho; clear ho
            have sepHo1Ho6 := Lib.hid (Sep.of_lt Ho1.out Ho6.out (Nat.le_refl _))
            have sepHo2Ho6 := Lib.hid (Sep.of_lt Ho2.out Ho6.out (Nat.le_refl _))
            have sepHo3Ho6 := Lib.hid (Sep.of_lt Ho3.out Ho6.out (Nat.le_refl _))
            have sepHo4Ho6 := Lib.hid (Sep.of_lt Ho4.out Ho6.out (Nat.le_refl _))
            have sepHo5Ho6 := Lib.hid (Sep.of_lt Ho5.out Ho6.out (Nat.le_refl _))
            have hB6 := hB5.trans (hb6.mono hB5.size)
            replace Ho1 := Lib.hid (Ho1.out.below hb6)
            replace Ho2 := Lib.hid (Ho2.out.below hb6)
            replace Ho3 := Lib.hid (Ho3.out.below hb6)
            replace Ho4 := Lib.hid (Ho4.out.below hb6)
            replace Ho5 := Lib.hid (Ho5.out.below hb6)
            replace Hr := Lib.hid (Hr.out.below hb6)
            have HC3 := Lib.hid hC3; clear hC3
            subst q3
            have HC4 := Lib.hid hC4; clear hC4
            subst q4
            go_wp2_with fail
            refine (open16_any _ _ _ _ _ Ho4.out.rd Ho4.out.cap (by omega)).mono ?_
            rintro e w7 ⟨A7, n7, c7, rfl, ho, hb7⟩
            rw [Hp.out] at ho ⊢
            obtain rfl : m = n7 := by have h1 := ho.len; have h2 := Hr.out.length; simp at h1; omega
            have hz7 := hb7.size
            have Ho7 := Lib.hid ho; clear ho
            have sepHo1Ho7 := Lib.hid (Sep.of_lt Ho1.out Ho7.out (Nat.le_refl _))
            have sepHo2Ho7 := Lib.hid (Sep.of_lt Ho2.out Ho7.out (Nat.le_refl _))
            have sepHo3Ho7 := Lib.hid (Sep.of_lt Ho3.out Ho7.out (Nat.le_refl _))
            have sepHo4Ho7 := Lib.hid (Sep.of_lt Ho4.out Ho7.out (Nat.le_refl _))
            have sepHo5Ho7 := Lib.hid (Sep.of_lt Ho5.out Ho7.out (Nat.le_refl _))
            have sepHo6Ho7 := Lib.hid (Sep.of_lt Ho6.out Ho7.out (Nat.le_refl _))
            have hB7 := hB6.trans (hb7.mono hB6.size)
            replace Ho1 := Lib.hid (Ho1.out.below hb7)
            replace Ho2 := Lib.hid (Ho2.out.below hb7)
            replace Ho3 := Lib.hid (Ho3.out.below hb7)
            replace Ho4 := Lib.hid (Ho4.out.below hb7)
            replace Ho5 := Lib.hid (Ho5.out.below hb7)
            replace Ho6 := Lib.hid (Ho6.out.below hb7)
            replace Hr := Lib.hid (Hr.out.below hb7)
            go_wp2_with fail
            refine (open32_any _ _ _ _ _ Ho6.out.rd Ho6.out.cap (by omega)).mono ?_
            rintro e w8 ⟨A8, n8, c8, rfl, ho, hb8⟩
            rw [Hq.out] at ho ⊢
            obtain rfl : m = n8 := by have h1 := ho.len; have h2 := Hr.out.length; simp at h1; omega
            have hz8 := hb8.size
            have Ho8 := Lib.hid ho; clear ho
            have sepHo1Ho8 := Lib.hid (Sep.of_lt Ho1.out Ho8.out (Nat.le_refl _))
            have sepHo2Ho8 := Lib.hid (Sep.of_lt Ho2.out Ho8.out (Nat.le_refl _))
            have sepHo3Ho8 := Lib.hid (Sep.of_lt Ho3.out Ho8.out (Nat.le_refl _))
            have sepHo4Ho8 := Lib.hid (Sep.of_lt Ho4.out Ho8.out (Nat.le_refl _))
            have sepHo5Ho8 := Lib.hid (Sep.of_lt Ho5.out Ho8.out (Nat.le_refl _))
            have sepHo6Ho8 := Lib.hid (Sep.of_lt Ho6.out Ho8.out (Nat.le_refl _))
            have sepHo7Ho8 := Lib.hid (Sep.of_lt Ho7.out Ho8.out (Nat.le_refl _))
            have hB8 := hB7.trans (hb8.mono hB7.size)
            replace Ho1 := Lib.hid (Ho1.out.below hb8)
            replace Ho2 := Lib.hid (Ho2.out.below hb8)
            replace Ho3 := Lib.hid (Ho3.out.below hb8)
            replace Ho4 := Lib.hid (Ho4.out.below hb8)
            replace Ho5 := Lib.hid (Ho5.out.below hb8)
            replace Ho6 := Lib.hid (Ho6.out.below hb8)
            replace Ho7 := Lib.hid (Ho7.out.below hb8)
            replace Hr := Lib.hid (Hr.out.below hb8)
            go_wp2_with fail
            refine (same_any b b _ _ _ _ _ _ _ Ho7.out.rd Hr.out (by unfold maxLen; omega)).mono ?_
            rintro e w9 ⟨rfl, hb9⟩
            rw [decide_eq_true rfl]
            have hz9 := hb9.size
            have hB9 := hB8.trans (hb9.mono hB8.size)
            replace Ho1 := Lib.hid (Ho1.out.below hb9)
            replace Ho2 := Lib.hid (Ho2.out.below hb9)
            replace Ho3 := Lib.hid (Ho3.out.below hb9)
            replace Ho4 := Lib.hid (Ho4.out.below hb9)
            replace Ho5 := Lib.hid (Ho5.out.below hb9)
            replace Ho6 := Lib.hid (Ho6.out.below hb9)
            replace Ho7 := Lib.hid (Ho7.out.below hb9)
            replace Ho8 := Lib.hid (Ho8.out.below hb9)
            replace Hr := Lib.hid (Hr.out.below hb9)
            go_wp2_with fail
            refine (same_any b b _ _ _ _ _ _ _ Ho8.out.rd Hr.out (by unfold maxLen; omega)).mono ?_
            rintro e w10 ⟨rfl, hb10⟩
            rw [decide_eq_true rfl]
            have hz10 := hb10.size
            have hB10 := hB9.trans (hb10.mono hB9.size)
            replace Ho1 := Lib.hid (Ho1.out.below hb10)
            replace Ho2 := Lib.hid (Ho2.out.below hb10)
            replace Ho3 := Lib.hid (Ho3.out.below hb10)
            replace Ho4 := Lib.hid (Ho4.out.below hb10)
            replace Ho5 := Lib.hid (Ho5.out.below hb10)
            replace Ho6 := Lib.hid (Ho6.out.below hb10)
            replace Ho7 := Lib.hid (Ho7.out.below hb10)
            replace Ho8 := Lib.hid (Ho8.out.below hb10)
            replace Hr := Lib.hid (Hr.out.below hb10)
            go_wp2_with fail
            refine (known_any _).mono ?_
            rintro e w11 ⟨rfl, hb11⟩
            have hz11 := hb11.size
            have hB11 := hB10.trans (hb11.mono hB10.size)
            replace Ho1 := Lib.hid (Ho1.out.below hb11)
            replace Ho2 := Lib.hid (Ho2.out.below hb11)
            replace Ho3 := Lib.hid (Ho3.out.below hb11)
            replace Ho4 := Lib.hid (Ho4.out.below hb11)
            replace Ho5 := Lib.hid (Ho5.out.below hb11)
            replace Ho6 := Lib.hid (Ho6.out.below hb11)
            replace Ho7 := Lib.hid (Ho7.out.below hb11)
            replace Ho8 := Lib.hid (Ho8.out.below hb11)
            replace Hr := Lib.hid (Hr.out.below hb11)
            go_wp2_with fail
            go_ret
            exact ⟨rfl, hB11⟩
          · have Hq : Hid (openF 4 (more32 0) (turn (sealF 4 (more32 0) b) r M 32).1 = ([], 5)) := open32_turned b r M 32 hM (by omega)
            have hB0 : Below w.heap.size w w := Below.refl _ _
            go_wp2_with fail
            refine (turned_any b _ _ _ r M' _ Hr.out (by omega) (by omega) (by omega)).mono ?_
            rintro e w1 ⟨A1, c1, rfl, ho, hb1⟩
            generalize hC1 : (turn b r M' 32).2 = C1 at *
            have hz1 := hb1.size
            have Ho1 := Lib.hid ho; clear ho
            have hB1 := hB0.trans (hb1.mono hB0.size)
            replace Hr := Lib.hid (Hr.out.below hb1)
            go_wp2_with fail
            refine (turned_any b _ _ _ r M _ Hr.out (by omega) (by omega) (by omega)).mono ?_
            rintro e w2 ⟨A2, c2, rfl, ho, hb2⟩
            generalize hC2 : (turn b r M 32).2 = C2 at *
            have hz2 := hb2.size
            have Ho2 := Lib.hid ho; clear ho
            have sepHo1Ho2 := Lib.hid (Sep.of_lt Ho1.out Ho2.out (Nat.le_refl _))
            have hB2 := hB1.trans (hb2.mono hB1.size)
            replace Ho1 := Lib.hid (Ho1.out.below hb2)
            replace Hr := Lib.hid (Hr.out.below hb2)
            have HC1 := Lib.hid hC1; clear hC1
            subst q1
            have HC2 := Lib.hid hC2; clear hC2
            go_wp2_with fail
            refine (crc32_any (turn b r M 32).1 _ _ _ _ Ho2.out.rd (by omega)).mono ?_
            rintro e v ⟨rfl, rfl⟩
            go_wp2_with fail
            refine (crc32_any b _ _ _ _ Hr.out (by omega)).mono ?_
            rintro e v ⟨rfl, rfl⟩
            have hne2 : ((more32 0 (turn b r M 32).1 : Int) == (more32 0 b : Int)) = false := by have h := Hs32.out q2'; simp; omega
            generalize more32 0 (turn b r M 32).1 = S3 at *
            generalize more32 0 b = S4 at *
            go_wp2_with fail
            refine (seal16_any b _ _ _ _ Hr.out (by omega)).mono ?_
            rintro e w3 ⟨A3, c3, rfl, ho, hb3⟩
            have hz3 := hb3.size
            have Ho3 := Lib.hid ho; clear ho
            have sepHo1Ho3 := Lib.hid (Sep.of_lt Ho1.out Ho3.out (Nat.le_refl _))
            have sepHo2Ho3 := Lib.hid (Sep.of_lt Ho2.out Ho3.out (Nat.le_refl _))
            have hB3 := hB2.trans (hb3.mono hB2.size)
            replace Ho1 := Lib.hid (Ho1.out.below hb3)
            replace Ho2 := Lib.hid (Ho2.out.below hb3)
            replace Hr := Lib.hid (Hr.out.below hb3)
            go_wp2_with fail
            refine (turned_any (sealF 2 (more16 65535) b) _ _ _ r M' _ Ho3.out.rd (by omega) (by omega) (by omega)).mono ?_
            rintro e w4 ⟨A4, c4, rfl, ho, hb4⟩
            generalize hC3 : (turn (sealF 2 (more16 65535) b) r M' 32).2 = C3 at *
            have hz4 := hb4.size
            have Ho4 := Lib.hid ho; clear ho
            have sepHo1Ho4 := Lib.hid (Sep.of_lt Ho1.out Ho4.out (Nat.le_refl _))
            have sepHo2Ho4 := Lib.hid (Sep.of_lt Ho2.out Ho4.out (Nat.le_refl _))
            have sepHo3Ho4 := Lib.hid (Sep.of_lt Ho3.out Ho4.out (Nat.le_refl _))
            have hB4 := hB3.trans (hb4.mono hB3.size)
            replace Ho1 := Lib.hid (Ho1.out.below hb4)
            replace Ho2 := Lib.hid (Ho2.out.below hb4)
            replace Ho3 := Lib.hid (Ho3.out.below hb4)
            replace Hr := Lib.hid (Hr.out.below hb4)
            go_wp2_with fail
            refine (seal32_any b _ _ _ _ Hr.out (by omega)).mono ?_
            rintro e w5 ⟨A5, c5, rfl, ho, hb5⟩
            have hz5 := hb5.size
            have Ho5 := Lib.hid ho; clear ho
            have sepHo1Ho5 := Lib.hid (Sep.of_lt Ho1.out Ho5.out (Nat.le_refl _))
            have sepHo2Ho5 := Lib.hid (Sep.of_lt Ho2.out Ho5.out (Nat.le_refl _))
            have sepHo3Ho5 := Lib.hid (Sep.of_lt Ho3.out Ho5.out (Nat.le_refl _))
            have sepHo4Ho5 := Lib.hid (Sep.of_lt Ho4.out Ho5.out (Nat.le_refl _))
            have hB5 := hB4.trans (hb5.mono hB4.size)
            replace Ho1 := Lib.hid (Ho1.out.below hb5)
            replace Ho2 := Lib.hid (Ho2.out.below hb5)
            replace Ho3 := Lib.hid (Ho3.out.below hb5)
            replace Ho4 := Lib.hid (Ho4.out.below hb5)
            replace Hr := Lib.hid (Hr.out.below hb5)
            go_wp2_with fail
            refine (turned_any (sealF 4 (more32 0) b) _ _ _ r M _ Ho5.out.rd (by omega) (by omega) (by omega)).mono ?_
            rintro e w6 ⟨A6, c6, rfl, ho, hb6⟩
            generalize hC4 : (turn (sealF 4 (more32 0) b) r M 32).2 = C4 at *
            have hz6 := hb6.size
            have Ho6 := Lib.hid ho; clear ho
            have sepHo1Ho6 := Lib.hid (Sep.of_lt Ho1.out Ho6.out (Nat.le_refl _))
            have sepHo2Ho6 := Lib.hid (Sep.of_lt Ho2.out Ho6.out (Nat.le_refl _))
            have sepHo3Ho6 := Lib.hid (Sep.of_lt Ho3.out Ho6.out (Nat.le_refl _))
            have sepHo4Ho6 := Lib.hid (Sep.of_lt Ho4.out Ho6.out (Nat.le_refl _))
            have sepHo5Ho6 := Lib.hid (Sep.of_lt Ho5.out Ho6.out (Nat.le_refl _))
            have hB6 := hB5.trans (hb6.mono hB5.size)
            replace Ho1 := Lib.hid (Ho1.out.below hb6)
            replace Ho2 := Lib.hid (Ho2.out.below hb6)
            replace Ho3 := Lib.hid (Ho3.out.below hb6)
            replace Ho4 := Lib.hid (Ho4.out.below hb6)
            replace Ho5 := Lib.hid (Ho5.out.below hb6)
            replace Hr := Lib.hid (Hr.out.below hb6)
            have HC3 := Lib.hid hC3; clear hC3
            subst q3
            have HC4 := Lib.hid hC4; clear hC4
            go_wp2_with fail
            refine (open16_any _ _ _ _ _ Ho4.out.rd Ho4.out.cap (by omega)).mono ?_
            rintro e w7 ⟨A7, n7, c7, rfl, ho, hb7⟩
            rw [Hp.out] at ho ⊢
            obtain rfl : m = n7 := by have h1 := ho.len; have h2 := Hr.out.length; simp at h1; omega
            have hz7 := hb7.size
            have Ho7 := Lib.hid ho; clear ho
            have sepHo1Ho7 := Lib.hid (Sep.of_lt Ho1.out Ho7.out (Nat.le_refl _))
            have sepHo2Ho7 := Lib.hid (Sep.of_lt Ho2.out Ho7.out (Nat.le_refl _))
            have sepHo3Ho7 := Lib.hid (Sep.of_lt Ho3.out Ho7.out (Nat.le_refl _))
            have sepHo4Ho7 := Lib.hid (Sep.of_lt Ho4.out Ho7.out (Nat.le_refl _))
            have sepHo5Ho7 := Lib.hid (Sep.of_lt Ho5.out Ho7.out (Nat.le_refl _))
            have sepHo6Ho7 := Lib.hid (Sep.of_lt Ho6.out Ho7.out (Nat.le_refl _))
            have hB7 := hB6.trans (hb7.mono hB6.size)
            replace Ho1 := Lib.hid (Ho1.out.below hb7)
            replace Ho2 := Lib.hid (Ho2.out.below hb7)
            replace Ho3 := Lib.hid (Ho3.out.below hb7)
            replace Ho4 := Lib.hid (Ho4.out.below hb7)
            replace Ho5 := Lib.hid (Ho5.out.below hb7)
            replace Ho6 := Lib.hid (Ho6.out.below hb7)
            replace Hr := Lib.hid (Hr.out.below hb7)
            go_wp2_with fail
            refine (open32_any _ _ _ _ _ Ho6.out.rd Ho6.out.cap (by omega)).mono ?_
            rintro e w8 ⟨A8, n8, c8, rfl, ho, hb8⟩
            rw [Hq.out] at ho ⊢
            obtain rfl : n8 = 0 := ho.len.symm
            have hz8 := hb8.size
            have Ho8 := Lib.hid ho; clear ho
            have sepHo1Ho8 := Lib.hid (Sep.of_lt Ho1.out Ho8.out (Nat.le_refl _))
            have sepHo2Ho8 := Lib.hid (Sep.of_lt Ho2.out Ho8.out (Nat.le_refl _))
            have sepHo3Ho8 := Lib.hid (Sep.of_lt Ho3.out Ho8.out (Nat.le_refl _))
            have sepHo4Ho8 := Lib.hid (Sep.of_lt Ho4.out Ho8.out (Nat.le_refl _))
            have sepHo5Ho8 := Lib.hid (Sep.of_lt Ho5.out Ho8.out (Nat.le_refl _))
            have sepHo6Ho8 := Lib.hid (Sep.of_lt Ho6.out Ho8.out (Nat.le_refl _))
            have sepHo7Ho8 := Lib.hid (Sep.of_lt Ho7.out Ho8.out (Nat.le_refl _))
            have hB8 := hB7.trans (hb8.mono hB7.size)
            replace Ho1 := Lib.hid (Ho1.out.below hb8)
            replace Ho2 := Lib.hid (Ho2.out.below hb8)
            replace Ho3 := Lib.hid (Ho3.out.below hb8)
            replace Ho4 := Lib.hid (Ho4.out.below hb8)
            replace Ho5 := Lib.hid (Ho5.out.below hb8)
            replace Ho6 := Lib.hid (Ho6.out.below hb8)
            replace Ho7 := Lib.hid (Ho7.out.below hb8)
            replace Hr := Lib.hid (Hr.out.below hb8)
            go_wp2_with fail
            refine (same_any b b _ _ _ _ _ _ _ Ho7.out.rd Hr.out (by unfold maxLen; omega)).mono ?_
            rintro e w9 ⟨rfl, hb9⟩
            rw [decide_eq_true rfl]
            have hz9 := hb9.size
            have hB9 := hB8.trans (hb9.mono hB8.size)
            replace Ho1 := Lib.hid (Ho1.out.below hb9)
            replace Ho2 := Lib.hid (Ho2.out.below hb9)
            replace Ho3 := Lib.hid (Ho3.out.below hb9)
            replace Ho4 := Lib.hid (Ho4.out.below hb9)
            replace Ho5 := Lib.hid (Ho5.out.below hb9)
            replace Ho6 := Lib.hid (Ho6.out.below hb9)
            replace Ho7 := Lib.hid (Ho7.out.below hb9)
            replace Ho8 := Lib.hid (Ho8.out.below hb9)
            replace Hr := Lib.hid (Hr.out.below hb9)
            go_wp2_with fail
            refine (known_any _).mono ?_
            rintro e w10 ⟨rfl, hb10⟩
            have hz10 := hb10.size
            have hB10 := hB9.trans (hb10.mono hB9.size)
            replace Ho1 := Lib.hid (Ho1.out.below hb10)
            replace Ho2 := Lib.hid (Ho2.out.below hb10)
            replace Ho3 := Lib.hid (Ho3.out.below hb10)
            replace Ho4 := Lib.hid (Ho4.out.below hb10)
            replace Ho5 := Lib.hid (Ho5.out.below hb10)
            replace Ho6 := Lib.hid (Ho6.out.below hb10)
            replace Ho7 := Lib.hid (Ho7.out.below hb10)
            replace Ho8 := Lib.hid (Ho8.out.below hb10)
            replace Hr := Lib.hid (Hr.out.below hb10)
            go_wp2_with fail
            go_ret
            exact ⟨rfl, hB10⟩
        · have Hp : Hid (openF 2 (more16 65535) (turn (sealF 2 (more16 65535) b) r M' 32).1 = ([], 5)) := open16_turned b r M' 32 hM1 (by omega)
          rcases Nat.eq_zero_or_pos (turn (sealF 4 (more32 0) b) r M 32).2 with q4 | q4
          · have Hq : Hid (openF 4 (more32 0) (turn (sealF 4 (more32 0) b) r M 32).1 = (b, 0)) := open_same 4 (more32 0) b r M 32 q4
            have hB0 : Below w.heap.size w w := Below.refl _ _
            go_wp2_with fail
            refine (turned_any b _ _ _ r M' _ Hr.out (by omega) (by omega) (by omega)).mono ?_
            rintro e w1 ⟨A1, c1, rfl, ho, hb1⟩
            generalize hC1 : (turn b r M' 32).2 = C1 at *
            have hz1 := hb1.size
            have Ho1 := Lib.hid ho; clear ho
            have hB1 := hB0.trans (hb1.mono hB0.size)
            replace Hr := Lib.hid (Hr.out.below hb1)
            go_wp2_with fail
            refine (turned_any b _ _ _ r M _ Hr.out (by omega) (by omega) (by omega)).mono ?_
            rintro e w2 ⟨A2, c2, rfl, ho, hb2⟩
            generalize hC2 : (turn b r M 32).2 = C2 at *
            have hz2 := hb2.size
            have Ho2 := Lib.hid ho; clear ho
            have sepHo1Ho2 := Lib.hid (Sep.of_lt Ho1.out Ho2.out (Nat.le_refl _))
            have hB2 := hB1.trans (hb2.mono hB1.size)
            replace Ho1 := Lib.hid (Ho1.out.below hb2)
            replace Hr := Lib.hid (Hr.out.below hb2)
            have HC1 := Lib.hid hC1; clear hC1
            subst q1
            have HC2 := Lib.hid hC2; clear hC2
            go_wp2_with fail
            refine (crc32_any (turn b r M 32).1 _ _ _ _ Ho2.out.rd (by omega)).mono ?_
            rintro e v ⟨rfl, rfl⟩
            go_wp2_with fail
            refine (crc32_any b _ _ _ _ Hr.out (by omega)).mono ?_
            rintro e v ⟨rfl, rfl⟩
            have hne2 : ((more32 0 (turn b r M 32).1 : Int) == (more32 0 b : Int)) = false := by have h := Hs32.out q2'; simp; omega
            generalize more32 0 (turn b r M 32).1 = S3 at *
            generalize more32 0 b = S4 at *
            go_wp2_with fail
            refine (seal16_any b _ _ _ _ Hr.out (by omega)).mono ?_
            rintro e w3 ⟨A3, c3, rfl, ho, hb3⟩
            have hz3 := hb3.size
            have Ho3 := Lib.hid ho; clear ho
            have sepHo1Ho3 := Lib.hid (Sep.of_lt Ho1.out Ho3.out (Nat.le_refl _))
            have sepHo2Ho3 := Lib.hid (Sep.of_lt Ho2.out Ho3.out (Nat.le_refl _))
            have hB3 := hB2.trans (hb3.mono hB2.size)
            replace Ho1 := Lib.hid (Ho1.out.below hb3)
            replace Ho2 := Lib.hid (Ho2.out.below hb3)
            replace Hr := Lib.hid (Hr.out.below hb3)
            go_wp2_with fail
            refine (turned_any (sealF 2 (more16 65535) b) _ _ _ r M' _ Ho3.out.rd (by omega) (by omega) (by omega)).mono ?_
            rintro e w4 ⟨A4, c4, rfl, ho, hb4⟩
            generalize hC3 : (turn (sealF 2 (more16 65535) b) r M' 32).2 = C3 at *
            have hz4 := hb4.size
            have Ho4 := Lib.hid ho; clear ho
            have sepHo1Ho4 := Lib.hid (Sep.of_lt Ho1.out Ho4.out (Nat.le_refl _))
            have sepHo2Ho4 := Lib.hid (Sep.of_lt Ho2.out Ho4.out (Nat.le_refl _))
            have sepHo3Ho4 := Lib.hid (Sep.of_lt Ho3.out Ho4.out (Nat.le_refl _))
            have hB4 := hB3.trans (hb4.mono hB3.size)
            replace Ho1 := Lib.hid (Ho1.out.below hb4)
            replace Ho2 := Lib.hid (Ho2.out.below hb4)
            replace Ho3 := Lib.hid (Ho3.out.below hb4)
            replace Hr := Lib.hid (Hr.out.below hb4)
            go_wp2_with fail
            refine (seal32_any b _ _ _ _ Hr.out (by omega)).mono ?_
            rintro e w5 ⟨A5, c5, rfl, ho, hb5⟩
            have hz5 := hb5.size
            have Ho5 := Lib.hid ho; clear ho
            have sepHo1Ho5 := Lib.hid (Sep.of_lt Ho1.out Ho5.out (Nat.le_refl _))
            have sepHo2Ho5 := Lib.hid (Sep.of_lt Ho2.out Ho5.out (Nat.le_refl _))
            have sepHo3Ho5 := Lib.hid (Sep.of_lt Ho3.out Ho5.out (Nat.le_refl _))
            have sepHo4Ho5 := Lib.hid (Sep.of_lt Ho4.out Ho5.out (Nat.le_refl _))
            have hB5 := hB4.trans (hb5.mono hB4.size)
            replace Ho1 := Lib.hid (Ho1.out.below hb5)
            replace Ho2 := Lib.hid (Ho2.out.below hb5)
            replace Ho3 := Lib.hid (Ho3.out.below hb5)
            replace Ho4 := Lib.hid (Ho4.out.below hb5)
            replace Hr := Lib.hid (Hr.out.below hb5)
            go_wp2_with fail
            refine (turned_any (sealF 4 (more32 0) b) _ _ _ r M _ Ho5.out.rd (by omega) (by omega) (by omega)).mono ?_
            rintro e w6 ⟨A6, c6, rfl, ho, hb6⟩
            generalize hC4 : (turn (sealF 4 (more32 0) b) r M 32).2 = C4 at *
            have hz6 := hb6.size
            have Ho6 := Lib.hid ho; clear ho
            have sepHo1Ho6 := Lib.hid (Sep.of_lt Ho1.out Ho6.out (Nat.le_refl _))
            have sepHo2Ho6 := Lib.hid (Sep.of_lt Ho2.out Ho6.out (Nat.le_refl _))
            have sepHo3Ho6 := Lib.hid (Sep.of_lt Ho3.out Ho6.out (Nat.le_refl _))
            have sepHo4Ho6 := Lib.hid (Sep.of_lt Ho4.out Ho6.out (Nat.le_refl _))
            have sepHo5Ho6 := Lib.hid (Sep.of_lt Ho5.out Ho6.out (Nat.le_refl _))
            have hB6 := hB5.trans (hb6.mono hB5.size)
            replace Ho1 := Lib.hid (Ho1.out.below hb6)
            replace Ho2 := Lib.hid (Ho2.out.below hb6)
            replace Ho3 := Lib.hid (Ho3.out.below hb6)
            replace Ho4 := Lib.hid (Ho4.out.below hb6)
            replace Ho5 := Lib.hid (Ho5.out.below hb6)
            replace Hr := Lib.hid (Hr.out.below hb6)
            have HC3 := Lib.hid hC3; clear hC3
            have HC4 := Lib.hid hC4; clear hC4
            subst q4
            go_wp2_with fail
            refine (open16_any _ _ _ _ _ Ho4.out.rd Ho4.out.cap (by omega)).mono ?_
            rintro e w7 ⟨A7, n7, c7, rfl, ho, hb7⟩
            rw [Hp.out] at ho ⊢
            obtain rfl : n7 = 0 := ho.len.symm
            have hz7 := hb7.size
            have Ho7 := Lib.hid ho; clear ho
            have sepHo1Ho7 := Lib.hid (Sep.of_lt Ho1.out Ho7.out (Nat.le_refl _))
            have sepHo2Ho7 := Lib.hid (Sep.of_lt Ho2.out Ho7.out (Nat.le_refl _))
            have sepHo3Ho7 := Lib.hid (Sep.of_lt Ho3.out Ho7.out (Nat.le_refl _))
            have sepHo4Ho7 := Lib.hid (Sep.of_lt Ho4.out Ho7.out (Nat.le_refl _))
            have sepHo5Ho7 := Lib.hid (Sep.of_lt Ho5.out Ho7.out (Nat.le_refl _))
            have sepHo6Ho7 := Lib.hid (Sep.of_lt Ho6.out Ho7.out (Nat.le_refl _))
            have hB7 := hB6.trans (hb7.mono hB6.size)
            replace Ho1 := Lib.hid (Ho1.out.below hb7)
            replace Ho2 := Lib.hid (Ho2.out.below hb7)
            replace Ho3 := Lib.hid (Ho3.out.below hb7)
            replace Ho4 := Lib.hid (Ho4.out.below hb7)
            replace Ho5 := Lib.hid (Ho5.out.below hb7)
            replace Ho6 := Lib.hid (Ho6.out.below hb7)
            replace Hr := Lib.hid (Hr.out.below hb7)
            go_wp2_with fail
            refine (open32_any _ _ _ _ _ Ho6.out.rd Ho6.out.cap (by omega)).mono ?_
            rintro e w8 ⟨A8, n8, c8, rfl, ho, hb8⟩
            rw [Hq.out] at ho ⊢
            obtain rfl : m = n8 := by have h1 := ho.len; have h2 := Hr.out.length; simp at h1; omega
            have hz8 := hb8.size
            have Ho8 := Lib.hid ho; clear ho
            have sepHo1Ho8 := Lib.hid (Sep.of_lt Ho1.out Ho8.out (Nat.le_refl _))
            have sepHo2Ho8 := Lib.hid (Sep.of_lt Ho2.out Ho8.out (Nat.le_refl _))
            have sepHo3Ho8 := Lib.hid (Sep.of_lt Ho3.out Ho8.out (Nat.le_refl _))
            have sepHo4Ho8 := Lib.hid (Sep.of_lt Ho4.out Ho8.out (Nat.le_refl _))
            have sepHo5Ho8 := Lib.hid (Sep.of_lt Ho5.out Ho8.out (Nat.le_refl _))
            have sepHo6Ho8 := Lib.hid (Sep.of_lt Ho6.out Ho8.out (Nat.le_refl _))
            have sepHo7Ho8 := Lib.hid (Sep.of_lt Ho7.out Ho8.out (Nat.le_refl _))
            have hB8 := hB7.trans (hb8.mono hB7.size)
            replace Ho1 := Lib.hid (Ho1.out.below hb8)
            replace Ho2 := Lib.hid (Ho2.out.below hb8)
            replace Ho3 := Lib.hid (Ho3.out.below hb8)
            replace Ho4 := Lib.hid (Ho4.out.below hb8)
            replace Ho5 := Lib.hid (Ho5.out.below hb8)
            replace Ho6 := Lib.hid (Ho6.out.below hb8)
            replace Ho7 := Lib.hid (Ho7.out.below hb8)
            replace Hr := Lib.hid (Hr.out.below hb8)
            go_wp2_with fail
            refine (same_any b b _ _ _ _ _ _ _ Ho8.out.rd Hr.out (by unfold maxLen; omega)).mono ?_
            rintro e w9 ⟨rfl, hb9⟩
            rw [decide_eq_true rfl]
            have hz9 := hb9.size
            have hB9 := hB8.trans (hb9.mono hB8.size)
            replace Ho1 := Lib.hid (Ho1.out.below hb9)
            replace Ho2 := Lib.hid (Ho2.out.below hb9)
            replace Ho3 := Lib.hid (Ho3.out.below hb9)
            replace Ho4 := Lib.hid (Ho4.out.below hb9)
            replace Ho5 := Lib.hid (Ho5.out.below hb9)
            replace Ho6 := Lib.hid (Ho6.out.below hb9)
            replace Ho7 := Lib.hid (Ho7.out.below hb9)
            replace Ho8 := Lib.hid (Ho8.out.below hb9)
            replace Hr := Lib.hid (Hr.out.below hb9)
            go_wp2_with fail
            refine (known_any _).mono ?_
            rintro e w10 ⟨rfl, hb10⟩
            have hz10 := hb10.size
            have hB10 := hB9.trans (hb10.mono hB9.size)
            replace Ho1 := Lib.hid (Ho1.out.below hb10)
            replace Ho2 := Lib.hid (Ho2.out.below hb10)
            replace Ho3 := Lib.hid (Ho3.out.below hb10)
            replace Ho4 := Lib.hid (Ho4.out.below hb10)
            replace Ho5 := Lib.hid (Ho5.out.below hb10)
            replace Ho6 := Lib.hid (Ho6.out.below hb10)
            replace Ho7 := Lib.hid (Ho7.out.below hb10)
            replace Ho8 := Lib.hid (Ho8.out.below hb10)
            replace Hr := Lib.hid (Hr.out.below hb10)
            go_wp2_with fail
            go_ret
            exact ⟨rfl, hB10⟩
          · have Hq : Hid (openF 4 (more32 0) (turn (sealF 4 (more32 0) b) r M 32).1 = ([], 5)) := open32_turned b r M 32 hM (by omega)
            have hB0 : Below w.heap.size w w := Below.refl _ _
            go_wp2_with fail
            refine (turned_any b _ _ _ r M' _ Hr.out (by omega) (by omega) (by omega)).mono ?_
            rintro e w1 ⟨A1, c1, rfl, ho, hb1⟩
            generalize hC1 : (turn b r M' 32).2 = C1 at *
            have hz1 := hb1.size
            have Ho1 := Lib.hid ho; clear ho
            have hB1 := hB0.trans (hb1.mono hB0.size)
            replace Hr := Lib.hid (Hr.out.below hb1)
            go_wp2_with fail
            refine (turned_any b _ _ _ r M _ Hr.out (by omega) (by omega) (by omega)).mono ?_
            rintro e w2 ⟨A2, c2, rfl, ho, hb2⟩
            generalize hC2 : (turn b r M 32).2 = C2 at *
            have hz2 := hb2.size
            have Ho2 := Lib.hid ho; clear ho
            have sepHo1Ho2 := Lib.hid (Sep.of_lt Ho1.out Ho2.out (Nat.le_refl _))
            have hB2 := hB1.trans (hb2.mono hB1.size)
            replace Ho1 := Lib.hid (Ho1.out.below hb2)
            replace Hr := Lib.hid (Hr.out.below hb2)
            have HC1 := Lib.hid hC1; clear hC1
            subst q1
            have HC2 := Lib.hid hC2; clear hC2
            go_wp2_with fail
            refine (crc32_any (turn b r M 32).1 _ _ _ _ Ho2.out.rd (by omega)).mono ?_
            rintro e v ⟨rfl, rfl⟩
            go_wp2_with fail
            refine (crc32_any b _ _ _ _ Hr.out (by omega)).mono ?_
            rintro e v ⟨rfl, rfl⟩
            have hne2 : ((more32 0 (turn b r M 32).1 : Int) == (more32 0 b : Int)) = false := by have h := Hs32.out q2'; simp; omega
            generalize more32 0 (turn b r M 32).1 = S3 at *
            generalize more32 0 b = S4 at *
            go_wp2_with fail
            refine (seal16_any b _ _ _ _ Hr.out (by omega)).mono ?_
            rintro e w3 ⟨A3, c3, rfl, ho, hb3⟩
            have hz3 := hb3.size
            have Ho3 := Lib.hid ho; clear ho
            have sepHo1Ho3 := Lib.hid (Sep.of_lt Ho1.out Ho3.out (Nat.le_refl _))
            have sepHo2Ho3 := Lib.hid (Sep.of_lt Ho2.out Ho3.out (Nat.le_refl _))
            have hB3 := hB2.trans (hb3.mono hB2.size)
            replace Ho1 := Lib.hid (Ho1.out.below hb3)
            replace Ho2 := Lib.hid (Ho2.out.below hb3)
            replace Hr := Lib.hid (Hr.out.below hb3)
            go_wp2_with fail
            refine (turned_any (sealF 2 (more16 65535) b) _ _ _ r M' _ Ho3.out.rd (by omega) (by omega) (by omega)).mono ?_
            rintro e w4 ⟨A4, c4, rfl, ho, hb4⟩
            generalize hC3 : (turn (sealF 2 (more16 65535) b) r M' 32).2 = C3 at *
            have hz4 := hb4.size
            have Ho4 := Lib.hid ho; clear ho
            have sepHo1Ho4 := Lib.hid (Sep.of_lt Ho1.out Ho4.out (Nat.le_refl _))
            have sepHo2Ho4 := Lib.hid (Sep.of_lt Ho2.out Ho4.out (Nat.le_refl _))
            have sepHo3Ho4 := Lib.hid (Sep.of_lt Ho3.out Ho4.out (Nat.le_refl _))
            have hB4 := hB3.trans (hb4.mono hB3.size)
            replace Ho1 := Lib.hid (Ho1.out.below hb4)
            replace Ho2 := Lib.hid (Ho2.out.below hb4)
            replace Ho3 := Lib.hid (Ho3.out.below hb4)
            replace Hr := Lib.hid (Hr.out.below hb4)
            go_wp2_with fail
            refine (seal32_any b _ _ _ _ Hr.out (by omega)).mono ?_
            rintro e w5 ⟨A5, c5, rfl, ho, hb5⟩
            have hz5 := hb5.size
            have Ho5 := Lib.hid ho; clear ho
            have sepHo1Ho5 := Lib.hid (Sep.of_lt Ho1.out Ho5.out (Nat.le_refl _))
            have sepHo2Ho5 := Lib.hid (Sep.of_lt Ho2.out Ho5.out (Nat.le_refl _))
            have sepHo3Ho5 := Lib.hid (Sep.of_lt Ho3.out Ho5.out (Nat.le_refl _))
            have sepHo4Ho5 := Lib.hid (Sep.of_lt Ho4.out Ho5.out (Nat.le_refl _))
            have hB5 := hB4.trans (hb5.mono hB4.size)
            replace Ho1 := Lib.hid (Ho1.out.below hb5)
            replace Ho2 := Lib.hid (Ho2.out.below hb5)
            replace Ho3 := Lib.hid (Ho3.out.below hb5)
            replace Ho4 := Lib.hid (Ho4.out.below hb5)
            replace Hr := Lib.hid (Hr.out.below hb5)
            go_wp2_with fail
            refine (turned_any (sealF 4 (more32 0) b) _ _ _ r M _ Ho5.out.rd (by omega) (by omega) (by omega)).mono ?_
            rintro e w6 ⟨A6, c6, rfl, ho, hb6⟩
            generalize hC4 : (turn (sealF 4 (more32 0) b) r M 32).2 = C4 at *
            have hz6 := hb6.size
            have Ho6 := Lib.hid ho; clear ho
            have sepHo1Ho6 := Lib.hid (Sep.of_lt Ho1.out Ho6.out (Nat.le_refl _))
            have sepHo2Ho6 := Lib.hid (Sep.of_lt Ho2.out Ho6.out (Nat.le_refl _))
            have sepHo3Ho6 := Lib.hid (Sep.of_lt Ho3.out Ho6.out (Nat.le_refl _))
            have sepHo4Ho6 := Lib.hid (Sep.of_lt Ho4.out Ho6.out (Nat.le_refl _))
            have sepHo5Ho6 := Lib.hid (Sep.of_lt Ho5.out Ho6.out (Nat.le_refl _))
            have hB6 := hB5.trans (hb6.mono hB5.size)
            replace Ho1 := Lib.hid (Ho1.out.below hb6)
            replace Ho2 := Lib.hid (Ho2.out.below hb6)
            replace Ho3 := Lib.hid (Ho3.out.below hb6)
            replace Ho4 := Lib.hid (Ho4.out.below hb6)
            replace Ho5 := Lib.hid (Ho5.out.below hb6)
            replace Hr := Lib.hid (Hr.out.below hb6)
            have HC3 := Lib.hid hC3; clear hC3
            have HC4 := Lib.hid hC4; clear hC4
            go_wp2_with fail
            refine (open16_any _ _ _ _ _ Ho4.out.rd Ho4.out.cap (by omega)).mono ?_
            rintro e w7 ⟨A7, n7, c7, rfl, ho, hb7⟩
            rw [Hp.out] at ho ⊢
            obtain rfl : n7 = 0 := ho.len.symm
            have hz7 := hb7.size
            have Ho7 := Lib.hid ho; clear ho
            have sepHo1Ho7 := Lib.hid (Sep.of_lt Ho1.out Ho7.out (Nat.le_refl _))
            have sepHo2Ho7 := Lib.hid (Sep.of_lt Ho2.out Ho7.out (Nat.le_refl _))
            have sepHo3Ho7 := Lib.hid (Sep.of_lt Ho3.out Ho7.out (Nat.le_refl _))
            have sepHo4Ho7 := Lib.hid (Sep.of_lt Ho4.out Ho7.out (Nat.le_refl _))
            have sepHo5Ho7 := Lib.hid (Sep.of_lt Ho5.out Ho7.out (Nat.le_refl _))
            have sepHo6Ho7 := Lib.hid (Sep.of_lt Ho6.out Ho7.out (Nat.le_refl _))
            have hB7 := hB6.trans (hb7.mono hB6.size)
            replace Ho1 := Lib.hid (Ho1.out.below hb7)
            replace Ho2 := Lib.hid (Ho2.out.below hb7)
            replace Ho3 := Lib.hid (Ho3.out.below hb7)
            replace Ho4 := Lib.hid (Ho4.out.below hb7)
            replace Ho5 := Lib.hid (Ho5.out.below hb7)
            replace Ho6 := Lib.hid (Ho6.out.below hb7)
            replace Hr := Lib.hid (Hr.out.below hb7)
            go_wp2_with fail
            refine (open32_any _ _ _ _ _ Ho6.out.rd Ho6.out.cap (by omega)).mono ?_
            rintro e w8 ⟨A8, n8, c8, rfl, ho, hb8⟩
            rw [Hq.out] at ho ⊢
            obtain rfl : n8 = 0 := ho.len.symm
            have hz8 := hb8.size
            have Ho8 := Lib.hid ho; clear ho
            have sepHo1Ho8 := Lib.hid (Sep.of_lt Ho1.out Ho8.out (Nat.le_refl _))
            have sepHo2Ho8 := Lib.hid (Sep.of_lt Ho2.out Ho8.out (Nat.le_refl _))
            have sepHo3Ho8 := Lib.hid (Sep.of_lt Ho3.out Ho8.out (Nat.le_refl _))
            have sepHo4Ho8 := Lib.hid (Sep.of_lt Ho4.out Ho8.out (Nat.le_refl _))
            have sepHo5Ho8 := Lib.hid (Sep.of_lt Ho5.out Ho8.out (Nat.le_refl _))
            have sepHo6Ho8 := Lib.hid (Sep.of_lt Ho6.out Ho8.out (Nat.le_refl _))
            have sepHo7Ho8 := Lib.hid (Sep.of_lt Ho7.out Ho8.out (Nat.le_refl _))
            have hB8 := hB7.trans (hb8.mono hB7.size)
            replace Ho1 := Lib.hid (Ho1.out.below hb8)
            replace Ho2 := Lib.hid (Ho2.out.below hb8)
            replace Ho3 := Lib.hid (Ho3.out.below hb8)
            replace Ho4 := Lib.hid (Ho4.out.below hb8)
            replace Ho5 := Lib.hid (Ho5.out.below hb8)
            replace Ho6 := Lib.hid (Ho6.out.below hb8)
            replace Ho7 := Lib.hid (Ho7.out.below hb8)
            replace Hr := Lib.hid (Hr.out.below hb8)
            go_wp2_with fail
            refine (known_any _).mono ?_
            rintro e w9 ⟨rfl, hb9⟩
            have hz9 := hb9.size
            have hB9 := hB8.trans (hb9.mono hB8.size)
            replace Ho1 := Lib.hid (Ho1.out.below hb9)
            replace Ho2 := Lib.hid (Ho2.out.below hb9)
            replace Ho3 := Lib.hid (Ho3.out.below hb9)
            replace Ho4 := Lib.hid (Ho4.out.below hb9)
            replace Ho5 := Lib.hid (Ho5.out.below hb9)
            replace Ho6 := Lib.hid (Ho6.out.below hb9)
            replace Ho7 := Lib.hid (Ho7.out.below hb9)
            replace Ho8 := Lib.hid (Ho8.out.below hb9)
            replace Hr := Lib.hid (Hr.out.below hb9)
            go_wp2_with fail
            go_ret
            exact ⟨rfl, hB9⟩
    · have q1' : (turn b r M' 32).2 ≠ 0 := by omega
      rcases Nat.eq_zero_or_pos (turn b r M 32).2 with q2 | q2
      · have _u : True := trivial
        rcases Nat.eq_zero_or_pos (turn (sealF 2 (more16 65535) b) r M' 32).2 with q3 | q3
        · have Hp : Hid (openF 2 (more16 65535) (turn (sealF 2 (more16 65535) b) r M' 32).1 = (b, 0)) := open_same 2 (more16 65535) b r M' 32 q3
          rcases Nat.eq_zero_or_pos (turn (sealF 4 (more32 0) b) r M 32).2 with q4 | q4
          · have Hq : Hid (openF 4 (more32 0) (turn (sealF 4 (more32 0) b) r M 32).1 = (b, 0)) := open_same 4 (more32 0) b r M 32 q4
            have hB0 : Below w.heap.size w w := Below.refl _ _
            go_wp2_with fail
            refine (turned_any b _ _ _ r M' _ Hr.out (by omega) (by omega) (by omega)).mono ?_
            rintro e w1 ⟨A1, c1, rfl, ho, hb1⟩
            generalize hC1 : (turn b r M' 32).2 = C1 at *
            have hz1 := hb1.size
            have Ho1 := Lib.hid ho; clear ho
            have hB1 := hB0.trans (hb1.mono hB0.size)
            replace Hr := Lib.hid (Hr.out.below hb1)
            go_wp2_with fail
            refine (turned_any b _ _ _ r M _ Hr.out (by omega) (by omega) (by omega)).mono ?_
            rintro e w2 ⟨A2, c2, rfl, ho, hb2⟩
            generalize hC2 : (turn b r M 32).2 = C2 at *
            have hz2 := hb2.size
            have Ho2 := Lib.hid ho; clear ho
            have sepHo1Ho2 := Lib.hid (Sep.of_lt Ho1.out Ho2.out (Nat.le_refl _))
            have hB2 := hB1.trans (hb2.mono hB1.size)
            replace Ho1 := Lib.hid (Ho1.out.below hb2)
            replace Hr := Lib.hid (Hr.out.below hb2)
            have HC1 := Lib.hid hC1; clear hC1
            have HC2 := Lib.hid hC2; clear hC2
            subst q2
            go_wp2_with fail
            refine (crc16_any (turn b r M' 32).1 _ _ _ _ Ho1.out.rd (by omega)).mono ?_
            rintro e v ⟨rfl, rfl⟩
            go_wp2_with fail
            refine (crc16_any b _ _ _ _ Hr.out (by omega)).mono ?_
            rintro e v ⟨rfl, rfl⟩
            have hne : ((more16 65535 (turn b r M' 32).1 : Int) == (more16 65535 b : Int)) = false := by have h := Hs16.out q1'; simp; omega
            generalize more16 65535 (turn b r M' 32).1 = S1 at *
            generalize more16 65535 b = S2 at *
            go_wp2_with fail
            refine (seal16_any b _ _ _ _ Hr.out (by omega)).mono ?_
            rintro e w3 ⟨A3, c3, rfl, ho, hb3⟩
            have hz3 := hb3.size
            have Ho3 := Lib.hid ho; clear ho
            have sepHo1Ho3 := Lib.hid (Sep.of_lt Ho1.out Ho3.out (Nat.le_refl _))
            have sepHo2Ho3 := Lib.hid (Sep.of_lt Ho2.out Ho3.out (Nat.le_refl _))
            have hB3 := hB2.trans (hb3.mono hB2.size)
            replace Ho1 := Lib.hid (Ho1.out.below hb3)
            replace Ho2 := Lib.hid (Ho2.out.below hb3)
            replace Hr := Lib.hid (Hr.out.below hb3)
            go_wp2_with fail
            refine (turned_any (sealF 2 (more16 65535) b) _ _ _ r M' _ Ho3.out.rd (by omega) (by omega) (by omega)).mono ?_
            rintro e w4 ⟨A4, c4, rfl, ho, hb4⟩
            generalize hC3 : (turn (sealF 2 (more16 65535) b) r M' 32).2 = C3 at *
            have hz4 := hb4.size
            have Ho4 := Lib.hid ho; clear ho
            have sepHo1Ho4 := Lib.hid (Sep.of_lt Ho1.out Ho4.out (Nat.le_refl _))
            have sepHo2Ho4 := Lib.hid (Sep.of_lt Ho2.out Ho4.out (Nat.le_refl _))
            have sepHo3Ho4 := Lib.hid (Sep.of_lt Ho3.out Ho4.out (Nat.le_refl _))
            have hB4 := hB3.trans (hb4.mono hB3.size)
            replace Ho1 := Lib.hid (Ho1.out.below hb4)
            replace Ho2 := Lib.hid (Ho2.out.below hb4)
            replace Ho3 := Lib.hid (Ho3.out.below hb4)
            replace Hr := Lib.hid (Hr.out.below hb4)
            go_wp2_with fail
            refine (seal32_any b _ _ _ _ Hr.out (by omega)).mono ?_
            rintro e w5 ⟨A5, c5, rfl, ho, hb5⟩
            have hz5 := hb5.size
            have Ho5 := Lib.hid ho; clear ho
            have sepHo1Ho5 := Lib.hid (Sep.of_lt Ho1.out Ho5.out (Nat.le_refl _))
            have sepHo2Ho5 := Lib.hid (Sep.of_lt Ho2.out Ho5.out (Nat.le_refl _))
            have sepHo3Ho5 := Lib.hid (Sep.of_lt Ho3.out Ho5.out (Nat.le_refl _))
            have sepHo4Ho5 := Lib.hid (Sep.of_lt Ho4.out Ho5.out (Nat.le_refl _))
            have hB5 := hB4.trans (hb5.mono hB4.size)
            replace Ho1 := Lib.hid (Ho1.out.below hb5)
            replace Ho2 := Lib.hid (Ho2.out.below hb5)
            replace Ho3 := Lib.hid (Ho3.out.below hb5)
            replace Ho4 := Lib.hid (Ho4.out.below hb5)
            replace Hr := Lib.hid (Hr.out.below hb5)
            go_wp2_with fail
            refine (turned_any (sealF 4 (more32 0) b) _ _ _ r M _ Ho5.out.rd (by omega) (by omega) (by omega)).mono ?_
            rintro e w6 ⟨A6, c6, rfl, ho, hb6⟩
            generalize hC4 : (turn (sealF 4 (more32 0) b) r M 32).2 = C4 at *
            have hz6 := hb6.size
            have Ho6 := Lib.hid ho; clear ho
            have sepHo1Ho6 := Lib.hid (Sep.of_lt Ho1.out Ho6.out (Nat.le_refl _))
            have sepHo2Ho6 := Lib.hid (Sep.of_lt Ho2.out Ho6.out (Nat.le_refl _))
            have sepHo3Ho6 := Lib.hid (Sep.of_lt Ho3.out Ho6.out (Nat.le_refl _))
            have sepHo4Ho6 := Lib.hid (Sep.of_lt Ho4.out Ho6.out (Nat.le_refl _))
            have sepHo5Ho6 := Lib.hid (Sep.of_lt Ho5.out Ho6.out (Nat.le_refl _))
            have hB6 := hB5.trans (hb6.mono hB5.size)
            replace Ho1 := Lib.hid (Ho1.out.below hb6)
            replace Ho2 := Lib.hid (Ho2.out.below hb6)
            replace Ho3 := Lib.hid (Ho3.out.below hb6)
            replace Ho4 := Lib.hid (Ho4.out.below hb6)
            replace Ho5 := Lib.hid (Ho5.out.below hb6)
            replace Hr := Lib.hid (Hr.out.below hb6)
            have HC3 := Lib.hid hC3; clear hC3
            subst q3
            have HC4 := Lib.hid hC4; clear hC4
            subst q4
            go_wp2_with fail
            refine (open16_any _ _ _ _ _ Ho4.out.rd Ho4.out.cap (by omega)).mono ?_
            rintro e w7 ⟨A7, n7, c7, rfl, ho, hb7⟩
            rw [Hp.out] at ho ⊢
            obtain rfl : m = n7 := by have h1 := ho.len; have h2 := Hr.out.length; simp at h1; omega
            have hz7 := hb7.size
            have Ho7 := Lib.hid ho; clear ho
            have sepHo1Ho7 := Lib.hid (Sep.of_lt Ho1.out Ho7.out (Nat.le_refl _))
            have sepHo2Ho7 := Lib.hid (Sep.of_lt Ho2.out Ho7.out (Nat.le_refl _))
            have sepHo3Ho7 := Lib.hid (Sep.of_lt Ho3.out Ho7.out (Nat.le_refl _))
            have sepHo4Ho7 := Lib.hid (Sep.of_lt Ho4.out Ho7.out (Nat.le_refl _))
            have sepHo5Ho7 := Lib.hid (Sep.of_lt Ho5.out Ho7.out (Nat.le_refl _))
            have sepHo6Ho7 := Lib.hid (Sep.of_lt Ho6.out Ho7.out (Nat.le_refl _))
            have hB7 := hB6.trans (hb7.mono hB6.size)
            replace Ho1 := Lib.hid (Ho1.out.below hb7)
            replace Ho2 := Lib.hid (Ho2.out.below hb7)
            replace Ho3 := Lib.hid (Ho3.out.below hb7)
            replace Ho4 := Lib.hid (Ho4.out.below hb7)
            replace Ho5 := Lib.hid (Ho5.out.below hb7)
            replace Ho6 := Lib.hid (Ho6.out.below hb7)
            replace Hr := Lib.hid (Hr.out.below hb7)
            go_wp2_with fail
            refine (open32_any _ _ _ _ _ Ho6.out.rd Ho6.out.cap (by omega)).mono ?_
            rintro e w8 ⟨A8, n8, c8, rfl, ho, hb8⟩
            rw [Hq.out] at ho ⊢
            obtain rfl : m = n8 := by have h1 := ho.len; have h2 := Hr.out.length; simp at h1; omega
            have hz8 := hb8.size
            have Ho8 := Lib.hid ho; clear ho
            have sepHo1Ho8 := Lib.hid (Sep.of_lt Ho1.out Ho8.out (Nat.le_refl _))
            have sepHo2Ho8 := Lib.hid (Sep.of_lt Ho2.out Ho8.out (Nat.le_refl _))
            have sepHo3Ho8 := Lib.hid (Sep.of_lt Ho3.out Ho8.out (Nat.le_refl _))
            have sepHo4Ho8 := Lib.hid (Sep.of_lt Ho4.out Ho8.out (Nat.le_refl _))
            have sepHo5Ho8 := Lib.hid (Sep.of_lt Ho5.out Ho8.out (Nat.le_refl _))
            have sepHo6Ho8 := Lib.hid (Sep.of_lt Ho6.out Ho8.out (Nat.le_refl _))
            have sepHo7Ho8 := Lib.hid (Sep.of_lt Ho7.out Ho8.out (Nat.le_refl _))
            have hB8 := hB7.trans (hb8.mono hB7.size)
            replace Ho1 := Lib.hid (Ho1.out.below hb8)
            replace Ho2 := Lib.hid (Ho2.out.below hb8)
            replace Ho3 := Lib.hid (Ho3.out.below hb8)
            replace Ho4 := Lib.hid (Ho4.out.below hb8)
            replace Ho5 := Lib.hid (Ho5.out.below hb8)
            replace Ho6 := Lib.hid (Ho6.out.below hb8)
            replace Ho7 := Lib.hid (Ho7.out.below hb8)
            replace Hr := Lib.hid (Hr.out.below hb8)
            go_wp2_with fail
            refine (same_any b b _ _ _ _ _ _ _ Ho7.out.rd Hr.out (by unfold maxLen; omega)).mono ?_
            rintro e w9 ⟨rfl, hb9⟩
            rw [decide_eq_true rfl]
            have hz9 := hb9.size
            have hB9 := hB8.trans (hb9.mono hB8.size)
            replace Ho1 := Lib.hid (Ho1.out.below hb9)
            replace Ho2 := Lib.hid (Ho2.out.below hb9)
            replace Ho3 := Lib.hid (Ho3.out.below hb9)
            replace Ho4 := Lib.hid (Ho4.out.below hb9)
            replace Ho5 := Lib.hid (Ho5.out.below hb9)
            replace Ho6 := Lib.hid (Ho6.out.below hb9)
            replace Ho7 := Lib.hid (Ho7.out.below hb9)
            replace Ho8 := Lib.hid (Ho8.out.below hb9)
            replace Hr := Lib.hid (Hr.out.below hb9)
            go_wp2_with fail
            refine (same_any b b _ _ _ _ _ _ _ Ho8.out.rd Hr.out (by unfold maxLen; omega)).mono ?_
            rintro e w10 ⟨rfl, hb10⟩
            rw [decide_eq_true rfl]
            have hz10 := hb10.size
            have hB10 := hB9.trans (hb10.mono hB9.size)
            replace Ho1 := Lib.hid (Ho1.out.below hb10)
            replace Ho2 := Lib.hid (Ho2.out.below hb10)
            replace Ho3 := Lib.hid (Ho3.out.below hb10)
            replace Ho4 := Lib.hid (Ho4.out.below hb10)
            replace Ho5 := Lib.hid (Ho5.out.below hb10)
            replace Ho6 := Lib.hid (Ho6.out.below hb10)
            replace Ho7 := Lib.hid (Ho7.out.below hb10)
            replace Ho8 := Lib.hid (Ho8.out.below hb10)
            replace Hr := Lib.hid (Hr.out.below hb10)
            go_wp2_with fail
            refine (known_any _).mono ?_
            rintro e w11 ⟨rfl, hb11⟩
            have hz11 := hb11.size
            have hB11 := hB10.trans (hb11.mono hB10.size)
            replace Ho1 := Lib.hid (Ho1.out.below hb11)
            replace Ho2 := Lib.hid (Ho2.out.below hb11)
            replace Ho3 := Lib.hid (Ho3.out.below hb11)
            replace Ho4 := Lib.hid (Ho4.out.below hb11)
            replace Ho5 := Lib.hid (Ho5.out.below hb11)
            replace Ho6 := Lib.hid (Ho6.out.below hb11)
            replace Ho7 := Lib.hid (Ho7.out.below hb11)
            replace Ho8 := Lib.hid (Ho8.out.below hb11)
            replace Hr := Lib.hid (Hr.out.below hb11)
            go_wp2_with fail
            go_ret
            exact ⟨rfl, hB11⟩
          · have Hq : Hid (openF 4 (more32 0) (turn (sealF 4 (more32 0) b) r M 32).1 = ([], 5)) := open32_turned b r M 32 hM (by omega)
            have hB0 : Below w.heap.size w w := Below.refl _ _
            go_wp2_with fail
            refine (turned_any b _ _ _ r M' _ Hr.out (by omega) (by omega) (by omega)).mono ?_
            rintro e w1 ⟨A1, c1, rfl, ho, hb1⟩
            generalize hC1 : (turn b r M' 32).2 = C1 at *
            have hz1 := hb1.size
            have Ho1 := Lib.hid ho; clear ho
            have hB1 := hB0.trans (hb1.mono hB0.size)
            replace Hr := Lib.hid (Hr.out.below hb1)
            go_wp2_with fail
            refine (turned_any b _ _ _ r M _ Hr.out (by omega) (by omega) (by omega)).mono ?_
            rintro e w2 ⟨A2, c2, rfl, ho, hb2⟩
            generalize hC2 : (turn b r M 32).2 = C2 at *
            have hz2 := hb2.size
            have Ho2 := Lib.hid ho; clear ho
            have sepHo1Ho2 := Lib.hid (Sep.of_lt Ho1.out Ho2.out (Nat.le_refl _))
            have hB2 := hB1.trans (hb2.mono hB1.size)
            replace Ho1 := Lib.hid (Ho1.out.below hb2)
            replace Hr := Lib.hid (Hr.out.below hb2)
            have HC1 := Lib.hid hC1; clear hC1
            have HC2 := Lib.hid hC2; clear hC2
            subst q2
            go_wp2_with fail
            refine (crc16_any (turn b r M' 32).1 _ _ _ _ Ho1.out.rd (by omega)).mono ?_
            rintro e v ⟨rfl, rfl⟩
            go_wp2_with fail
            refine (crc16_any b _ _ _ _ Hr.out (by omega)).mono ?_
            rintro e v ⟨rfl, rfl⟩
            have hne : ((more16 65535 (turn b r M' 32).1 : Int) == (more16 65535 b : Int)) = false := by have h := Hs16.out q1'; simp; omega
            generalize more16 65535 (turn b r M' 32).1 = S1 at *
            generalize more16 65535 b = S2 at *
            go_wp2_with fail
            refine (seal16_any b _ _ _ _ Hr.out (by omega)).mono ?_
            rintro e w3 ⟨A3, c3, rfl, ho, hb3⟩
            have hz3 := hb3.size
            have Ho3 := Lib.hid ho; clear ho
            have sepHo1Ho3 := Lib.hid (Sep.of_lt Ho1.out Ho3.out (Nat.le_refl _))
            have sepHo2Ho3 := Lib.hid (Sep.of_lt Ho2.out Ho3.out (Nat.le_refl _))
            have hB3 := hB2.trans (hb3.mono hB2.size)
            replace Ho1 := Lib.hid (Ho1.out.below hb3)
            replace Ho2 := Lib.hid (Ho2.out.below hb3)
            replace Hr := Lib.hid (Hr.out.below hb3)
            go_wp2_with fail
            refine (turned_any (sealF 2 (more16 65535) b) _ _ _ r M' _ Ho3.out.rd (by omega) (by omega) (by omega)).mono ?_
            rintro e w4 ⟨A4, c4, rfl, ho, hb4⟩
            generalize hC3 : (turn (sealF 2 (more16 65535) b) r M' 32).2 = C3 at *
            have hz4 := hb4.size
            have Ho4 := Lib.hid ho; clear ho
            have sepHo1Ho4 := Lib.hid (Sep.of_lt Ho1.out Ho4.out (Nat.le_refl _))
            have sepHo2Ho4 := Lib.hid (Sep.of_lt Ho2.out Ho4.out (Nat.le_refl _))
            have sepHo3Ho4 := Lib.hid (Sep.of_lt Ho3.out Ho4.out (Nat.le_refl _))
            have hB4 := hB3.trans (hb4.mono hB3.size)
            replace Ho1 := Lib.hid (Ho1.out.below hb4)
            replace Ho2 := Lib.hid (Ho2.out.below hb4)
            replace Ho3 := Lib.hid (Ho3.out.below hb4)
            replace Hr := Lib.hid (Hr.out.below hb4)
            go_wp2_with fail
            refine (seal32_any b _ _ _ _ Hr.out (by omega)).mono ?_
            rintro e w5 ⟨A5, c5, rfl, ho, hb5⟩
            have hz5 := hb5.size
            have Ho5 := Lib.hid ho; clear ho
            have sepHo1Ho5 := Lib.hid (Sep.of_lt Ho1.out Ho5.out (Nat.le_refl _))
            have sepHo2Ho5 := Lib.hid (Sep.of_lt Ho2.out Ho5.out (Nat.le_refl _))
            have sepHo3Ho5 := Lib.hid (Sep.of_lt Ho3.out Ho5.out (Nat.le_refl _))
            have sepHo4Ho5 := Lib.hid (Sep.of_lt Ho4.out Ho5.out (Nat.le_refl _))
            have hB5 := hB4.trans (hb5.mono hB4.size)
            replace Ho1 := Lib.hid (Ho1.out.below hb5)
            replace Ho2 := Lib.hid (Ho2.out.below hb5)
            replace Ho3 := Lib.hid (Ho3.out.below hb5)
            replace Ho4 := Lib.hid (Ho4.out.below hb5)
            replace Hr := Lib.hid (Hr.out.below hb5)
            go_wp2_with fail
            refine (turned_any (sealF 4 (more32 0) b) _ _ _ r M _ Ho5.out.rd (by omega) (by omega) (by omega)).mono ?_
            rintro e w6 ⟨A6, c6, rfl, ho, hb6⟩
            generalize hC4 : (turn (sealF 4 (more32 0) b) r M 32).2 = C4 at *
            have hz6 := hb6.size
            have Ho6 := Lib.hid ho; clear ho
            have sepHo1Ho6 := Lib.hid (Sep.of_lt Ho1.out Ho6.out (Nat.le_refl _))
            have sepHo2Ho6 := Lib.hid (Sep.of_lt Ho2.out Ho6.out (Nat.le_refl _))
            have sepHo3Ho6 := Lib.hid (Sep.of_lt Ho3.out Ho6.out (Nat.le_refl _))
            have sepHo4Ho6 := Lib.hid (Sep.of_lt Ho4.out Ho6.out (Nat.le_refl _))
            have sepHo5Ho6 := Lib.hid (Sep.of_lt Ho5.out Ho6.out (Nat.le_refl _))
            have hB6 := hB5.trans (hb6.mono hB5.size)
            replace Ho1 := Lib.hid (Ho1.out.below hb6)
            replace Ho2 := Lib.hid (Ho2.out.below hb6)
            replace Ho3 := Lib.hid (Ho3.out.below hb6)
            replace Ho4 := Lib.hid (Ho4.out.below hb6)
            replace Ho5 := Lib.hid (Ho5.out.below hb6)
            replace Hr := Lib.hid (Hr.out.below hb6)
            have HC3 := Lib.hid hC3; clear hC3
            subst q3
            have HC4 := Lib.hid hC4; clear hC4
            go_wp2_with fail
            refine (open16_any _ _ _ _ _ Ho4.out.rd Ho4.out.cap (by omega)).mono ?_
            rintro e w7 ⟨A7, n7, c7, rfl, ho, hb7⟩
            rw [Hp.out] at ho ⊢
            obtain rfl : m = n7 := by have h1 := ho.len; have h2 := Hr.out.length; simp at h1; omega
            have hz7 := hb7.size
            have Ho7 := Lib.hid ho; clear ho
            have sepHo1Ho7 := Lib.hid (Sep.of_lt Ho1.out Ho7.out (Nat.le_refl _))
            have sepHo2Ho7 := Lib.hid (Sep.of_lt Ho2.out Ho7.out (Nat.le_refl _))
            have sepHo3Ho7 := Lib.hid (Sep.of_lt Ho3.out Ho7.out (Nat.le_refl _))
            have sepHo4Ho7 := Lib.hid (Sep.of_lt Ho4.out Ho7.out (Nat.le_refl _))
            have sepHo5Ho7 := Lib.hid (Sep.of_lt Ho5.out Ho7.out (Nat.le_refl _))
            have sepHo6Ho7 := Lib.hid (Sep.of_lt Ho6.out Ho7.out (Nat.le_refl _))
            have hB7 := hB6.trans (hb7.mono hB6.size)
            replace Ho1 := Lib.hid (Ho1.out.below hb7)
            replace Ho2 := Lib.hid (Ho2.out.below hb7)
            replace Ho3 := Lib.hid (Ho3.out.below hb7)
            replace Ho4 := Lib.hid (Ho4.out.below hb7)
            replace Ho5 := Lib.hid (Ho5.out.below hb7)
            replace Ho6 := Lib.hid (Ho6.out.below hb7)
            replace Hr := Lib.hid (Hr.out.below hb7)
            go_wp2_with fail
            refine (open32_any _ _ _ _ _ Ho6.out.rd Ho6.out.cap (by omega)).mono ?_
            rintro e w8 ⟨A8, n8, c8, rfl, ho, hb8⟩
            rw [Hq.out] at ho ⊢
            obtain rfl : n8 = 0 := ho.len.symm
            have hz8 := hb8.size
            have Ho8 := Lib.hid ho; clear ho
            have sepHo1Ho8 := Lib.hid (Sep.of_lt Ho1.out Ho8.out (Nat.le_refl _))
            have sepHo2Ho8 := Lib.hid (Sep.of_lt Ho2.out Ho8.out (Nat.le_refl _))
            have sepHo3Ho8 := Lib.hid (Sep.of_lt Ho3.out Ho8.out (Nat.le_refl _))
            have sepHo4Ho8 := Lib.hid (Sep.of_lt Ho4.out Ho8.out (Nat.le_refl _))
            have sepHo5Ho8 := Lib.hid (Sep.of_lt Ho5.out Ho8.out (Nat.le_refl _))
            have sepHo6Ho8 := Lib.hid (Sep.of_lt Ho6.out Ho8.out (Nat.le_refl _))
            have sepHo7Ho8 := Lib.hid (Sep.of_lt Ho7.out Ho8.out (Nat.le_refl _))
            have hB8 := hB7.trans (hb8.mono hB7.size)
            replace Ho1 := Lib.hid (Ho1.out.below hb8)
            replace Ho2 := Lib.hid (Ho2.out.below hb8)
            replace Ho3 := Lib.hid (Ho3.out.below hb8)
            replace Ho4 := Lib.hid (Ho4.out.below hb8)
            replace Ho5 := Lib.hid (Ho5.out.below hb8)
            replace Ho6 := Lib.hid (Ho6.out.below hb8)
            replace Ho7 := Lib.hid (Ho7.out.below hb8)
            replace Hr := Lib.hid (Hr.out.below hb8)
            go_wp2_with fail
            refine (same_any b b _ _ _ _ _ _ _ Ho7.out.rd Hr.out (by unfold maxLen; omega)).mono ?_
            rintro e w9 ⟨rfl, hb9⟩
            rw [decide_eq_true rfl]
            have hz9 := hb9.size
            have hB9 := hB8.trans (hb9.mono hB8.size)
            replace Ho1 := Lib.hid (Ho1.out.below hb9)
            replace Ho2 := Lib.hid (Ho2.out.below hb9)
            replace Ho3 := Lib.hid (Ho3.out.below hb9)
            replace Ho4 := Lib.hid (Ho4.out.below hb9)
            replace Ho5 := Lib.hid (Ho5.out.below hb9)
            replace Ho6 := Lib.hid (Ho6.out.below hb9)
            replace Ho7 := Lib.hid (Ho7.out.below hb9)
            replace Ho8 := Lib.hid (Ho8.out.below hb9)
            replace Hr := Lib.hid (Hr.out.below hb9)
            go_wp2_with fail
            refine (known_any _).mono ?_
            rintro e w10 ⟨rfl, hb10⟩
            have hz10 := hb10.size
            have hB10 := hB9.trans (hb10.mono hB9.size)
            replace Ho1 := Lib.hid (Ho1.out.below hb10)
            replace Ho2 := Lib.hid (Ho2.out.below hb10)
            replace Ho3 := Lib.hid (Ho3.out.below hb10)
            replace Ho4 := Lib.hid (Ho4.out.below hb10)
            replace Ho5 := Lib.hid (Ho5.out.below hb10)
            replace Ho6 := Lib.hid (Ho6.out.below hb10)
            replace Ho7 := Lib.hid (Ho7.out.below hb10)
            replace Ho8 := Lib.hid (Ho8.out.below hb10)
            replace Hr := Lib.hid (Hr.out.below hb10)
            go_wp2_with fail
            go_ret
            exact ⟨rfl, hB10⟩
        · have Hp : Hid (openF 2 (more16 65535) (turn (sealF 2 (more16 65535) b) r M' 32).1 = ([], 5)) := open16_turned b r M' 32 hM1 (by omega)
          rcases Nat.eq_zero_or_pos (turn (sealF 4 (more32 0) b) r M 32).2 with q4 | q4
          · have Hq : Hid (openF 4 (more32 0) (turn (sealF 4 (more32 0) b) r M 32).1 = (b, 0)) := open_same 4 (more32 0) b r M 32 q4
            have hB0 : Below w.heap.size w w := Below.refl _ _
            go_wp2_with fail
            refine (turned_any b _ _ _ r M' _ Hr.out (by omega) (by omega) (by omega)).mono ?_
            rintro e w1 ⟨A1, c1, rfl, ho, hb1⟩
            generalize hC1 : (turn b r M' 32).2 = C1 at *
            have hz1 := hb1.size
            have Ho1 := Lib.hid ho; clear ho
            have hB1 := hB0.trans (hb1.mono hB0.size)
            replace Hr := Lib.hid (Hr.out.below hb1)
            go_wp2_with fail
            refine (turned_any b _ _ _ r M _ Hr.out (by omega) (by omega) (by omega)).mono ?_
            rintro e w2 ⟨A2, c2, rfl, ho, hb2⟩
            generalize hC2 : (turn b r M 32).2 = C2 at *
            have hz2 := hb2.size
            have Ho2 := Lib.hid ho; clear ho
            have sepHo1Ho2 := Lib.hid (Sep.of_lt Ho1.out Ho2.out (Nat.le_refl _))
            have hB2 := hB1.trans (hb2.mono hB1.size)
            replace Ho1 := Lib.hid (Ho1.out.below hb2)
            replace Hr := Lib.hid (Hr.out.below hb2)
            have HC1 := Lib.hid hC1; clear hC1
            have HC2 := Lib.hid hC2; clear hC2
            subst q2
            go_wp2_with fail
            refine (crc16_any (turn b r M' 32).1 _ _ _ _ Ho1.out.rd (by omega)).mono ?_
            rintro e v ⟨rfl, rfl⟩
            go_wp2_with fail
            refine (crc16_any b _ _ _ _ Hr.out (by omega)).mono ?_
            rintro e v ⟨rfl, rfl⟩
            have hne : ((more16 65535 (turn b r M' 32).1 : Int) == (more16 65535 b : Int)) = false := by have h := Hs16.out q1'; simp; omega
            generalize more16 65535 (turn b r M' 32).1 = S1 at *
            generalize more16 65535 b = S2 at *
            go_wp2_with fail
            refine (seal16_any b _ _ _ _ Hr.out (by omega)).mono ?_
            rintro e w3 ⟨A3, c3, rfl, ho, hb3⟩
            have hz3 := hb3.size
            have Ho3 := Lib.hid ho; clear ho
            have sepHo1Ho3 := Lib.hid (Sep.of_lt Ho1.out Ho3.out (Nat.le_refl _))
            have sepHo2Ho3 := Lib.hid (Sep.of_lt Ho2.out Ho3.out (Nat.le_refl _))
            have hB3 := hB2.trans (hb3.mono hB2.size)
            replace Ho1 := Lib.hid (Ho1.out.below hb3)
            replace Ho2 := Lib.hid (Ho2.out.below hb3)
            replace Hr := Lib.hid (Hr.out.below hb3)
            go_wp2_with fail
            refine (turned_any (sealF 2 (more16 65535) b) _ _ _ r M' _ Ho3.out.rd (by omega) (by omega) (by omega)).mono ?_
            rintro e w4 ⟨A4, c4, rfl, ho, hb4⟩
            generalize hC3 : (turn (sealF 2 (more16 65535) b) r M' 32).2 = C3 at *
            have hz4 := hb4.size
            have Ho4 := Lib.hid ho; clear ho
            have sepHo1Ho4 := Lib.hid (Sep.of_lt Ho1.out Ho4.out (Nat.le_refl _))
            have sepHo2Ho4 := Lib.hid (Sep.of_lt Ho2.out Ho4.out (Nat.le_refl _))
            have sepHo3Ho4 := Lib.hid (Sep.of_lt Ho3.out Ho4.out (Nat.le_refl _))
            have hB4 := hB3.trans (hb4.mono hB3.size)
            replace Ho1 := Lib.hid (Ho1.out.below hb4)
            replace Ho2 := Lib.hid (Ho2.out.below hb4)
            replace Ho3 := Lib.hid (Ho3.out.below hb4)
            replace Hr := Lib.hid (Hr.out.below hb4)
            go_wp2_with fail
            refine (seal32_any b _ _ _ _ Hr.out (by omega)).mono ?_
            rintro e w5 ⟨A5, c5, rfl, ho, hb5⟩
            have hz5 := hb5.size
            have Ho5 := Lib.hid ho; clear ho
            have sepHo1Ho5 := Lib.hid (Sep.of_lt Ho1.out Ho5.out (Nat.le_refl _))
            have sepHo2Ho5 := Lib.hid (Sep.of_lt Ho2.out Ho5.out (Nat.le_refl _))
            have sepHo3Ho5 := Lib.hid (Sep.of_lt Ho3.out Ho5.out (Nat.le_refl _))
            have sepHo4Ho5 := Lib.hid (Sep.of_lt Ho4.out Ho5.out (Nat.le_refl _))
            have hB5 := hB4.trans (hb5.mono hB4.size)
            replace Ho1 := Lib.hid (Ho1.out.below hb5)
            replace Ho2 := Lib.hid (Ho2.out.below hb5)
            replace Ho3 := Lib.hid (Ho3.out.below hb5)
            replace Ho4 := Lib.hid (Ho4.out.below hb5)
            replace Hr := Lib.hid (Hr.out.below hb5)
            go_wp2_with fail
            refine (turned_any (sealF 4 (more32 0) b) _ _ _ r M _ Ho5.out.rd (by omega) (by omega) (by omega)).mono ?_
            rintro e w6 ⟨A6, c6, rfl, ho, hb6⟩
            generalize hC4 : (turn (sealF 4 (more32 0) b) r M 32).2 = C4 at *
            have hz6 := hb6.size
            have Ho6 := Lib.hid ho; clear ho
            have sepHo1Ho6 := Lib.hid (Sep.of_lt Ho1.out Ho6.out (Nat.le_refl _))
            have sepHo2Ho6 := Lib.hid (Sep.of_lt Ho2.out Ho6.out (Nat.le_refl _))
            have sepHo3Ho6 := Lib.hid (Sep.of_lt Ho3.out Ho6.out (Nat.le_refl _))
            have sepHo4Ho6 := Lib.hid (Sep.of_lt Ho4.out Ho6.out (Nat.le_refl _))
            have sepHo5Ho6 := Lib.hid (Sep.of_lt Ho5.out Ho6.out (Nat.le_refl _))
            have hB6 := hB5.trans (hb6.mono hB5.size)
            replace Ho1 := Lib.hid (Ho1.out.below hb6)
            replace Ho2 := Lib.hid (Ho2.out.below hb6)
            replace Ho3 := Lib.hid (Ho3.out.below hb6)
            replace Ho4 := Lib.hid (Ho4.out.below hb6)
            replace Ho5 := Lib.hid (Ho5.out.below hb6)
            replace Hr := Lib.hid (Hr.out.below hb6)
            have HC3 := Lib.hid hC3; clear hC3
            have HC4 := Lib.hid hC4; clear hC4
            subst q4
            go_wp2_with fail
            refine (open16_any _ _ _ _ _ Ho4.out.rd Ho4.out.cap (by omega)).mono ?_
            rintro e w7 ⟨A7, n7, c7, rfl, ho, hb7⟩
            rw [Hp.out] at ho ⊢
            obtain rfl : n7 = 0 := ho.len.symm
            have hz7 := hb7.size
            have Ho7 := Lib.hid ho; clear ho
            have sepHo1Ho7 := Lib.hid (Sep.of_lt Ho1.out Ho7.out (Nat.le_refl _))
            have sepHo2Ho7 := Lib.hid (Sep.of_lt Ho2.out Ho7.out (Nat.le_refl _))
            have sepHo3Ho7 := Lib.hid (Sep.of_lt Ho3.out Ho7.out (Nat.le_refl _))
            have sepHo4Ho7 := Lib.hid (Sep.of_lt Ho4.out Ho7.out (Nat.le_refl _))
            have sepHo5Ho7 := Lib.hid (Sep.of_lt Ho5.out Ho7.out (Nat.le_refl _))
            have sepHo6Ho7 := Lib.hid (Sep.of_lt Ho6.out Ho7.out (Nat.le_refl _))
            have hB7 := hB6.trans (hb7.mono hB6.size)
            replace Ho1 := Lib.hid (Ho1.out.below hb7)
            replace Ho2 := Lib.hid (Ho2.out.below hb7)
            replace Ho3 := Lib.hid (Ho3.out.below hb7)
            replace Ho4 := Lib.hid (Ho4.out.below hb7)
            replace Ho5 := Lib.hid (Ho5.out.below hb7)
            replace Ho6 := Lib.hid (Ho6.out.below hb7)
            replace Hr := Lib.hid (Hr.out.below hb7)
            go_wp2_with fail
            refine (open32_any _ _ _ _ _ Ho6.out.rd Ho6.out.cap (by omega)).mono ?_
            rintro e w8 ⟨A8, n8, c8, rfl, ho, hb8⟩
            rw [Hq.out] at ho ⊢
            obtain rfl : m = n8 := by have h1 := ho.len; have h2 := Hr.out.length; simp at h1; omega
            have hz8 := hb8.size
            have Ho8 := Lib.hid ho; clear ho
            have sepHo1Ho8 := Lib.hid (Sep.of_lt Ho1.out Ho8.out (Nat.le_refl _))
            have sepHo2Ho8 := Lib.hid (Sep.of_lt Ho2.out Ho8.out (Nat.le_refl _))
            have sepHo3Ho8 := Lib.hid (Sep.of_lt Ho3.out Ho8.out (Nat.le_refl _))
            have sepHo4Ho8 := Lib.hid (Sep.of_lt Ho4.out Ho8.out (Nat.le_refl _))
            have sepHo5Ho8 := Lib.hid (Sep.of_lt Ho5.out Ho8.out (Nat.le_refl _))
            have sepHo6Ho8 := Lib.hid (Sep.of_lt Ho6.out Ho8.out (Nat.le_refl _))
            have sepHo7Ho8 := Lib.hid (Sep.of_lt Ho7.out Ho8.out (Nat.le_refl _))
            have hB8 := hB7.trans (hb8.mono hB7.size)
            replace Ho1 := Lib.hid (Ho1.out.below hb8)
            replace Ho2 := Lib.hid (Ho2.out.below hb8)
            replace Ho3 := Lib.hid (Ho3.out.below hb8)
            replace Ho4 := Lib.hid (Ho4.out.below hb8)
            replace Ho5 := Lib.hid (Ho5.out.below hb8)
            replace Ho6 := Lib.hid (Ho6.out.below hb8)
            replace Ho7 := Lib.hid (Ho7.out.below hb8)
            replace Hr := Lib.hid (Hr.out.below hb8)
            go_wp2_with fail
            refine (same_any b b _ _ _ _ _ _ _ Ho8.out.rd Hr.out (by unfold maxLen; omega)).mono ?_
            rintro e w9 ⟨rfl, hb9⟩
            rw [decide_eq_true rfl]
            have hz9 := hb9.size
            have hB9 := hB8.trans (hb9.mono hB8.size)
            replace Ho1 := Lib.hid (Ho1.out.below hb9)
            replace Ho2 := Lib.hid (Ho2.out.below hb9)
            replace Ho3 := Lib.hid (Ho3.out.below hb9)
            replace Ho4 := Lib.hid (Ho4.out.below hb9)
            replace Ho5 := Lib.hid (Ho5.out.below hb9)
            replace Ho6 := Lib.hid (Ho6.out.below hb9)
            replace Ho7 := Lib.hid (Ho7.out.below hb9)
            replace Ho8 := Lib.hid (Ho8.out.below hb9)
            replace Hr := Lib.hid (Hr.out.below hb9)
            go_wp2_with fail
            refine (known_any _).mono ?_
            rintro e w10 ⟨rfl, hb10⟩
            have hz10 := hb10.size
            have hB10 := hB9.trans (hb10.mono hB9.size)
            replace Ho1 := Lib.hid (Ho1.out.below hb10)
            replace Ho2 := Lib.hid (Ho2.out.below hb10)
            replace Ho3 := Lib.hid (Ho3.out.below hb10)
            replace Ho4 := Lib.hid (Ho4.out.below hb10)
            replace Ho5 := Lib.hid (Ho5.out.below hb10)
            replace Ho6 := Lib.hid (Ho6.out.below hb10)
            replace Ho7 := Lib.hid (Ho7.out.below hb10)
            replace Ho8 := Lib.hid (Ho8.out.below hb10)
            replace Hr := Lib.hid (Hr.out.below hb10)
            go_wp2_with fail
            go_ret
            exact ⟨rfl, hB10⟩
          · have Hq : Hid (openF 4 (more32 0) (turn (sealF 4 (more32 0) b) r M 32).1 = ([], 5)) := open32_turned b r M 32 hM (by omega)
            have hB0 : Below w.heap.size w w := Below.refl _ _
            go_wp2_with fail
            refine (turned_any b _ _ _ r M' _ Hr.out (by omega) (by omega) (by omega)).mono ?_
            rintro e w1 ⟨A1, c1, rfl, ho, hb1⟩
            generalize hC1 : (turn b r M' 32).2 = C1 at *
            have hz1 := hb1.size
            have Ho1 := Lib.hid ho; clear ho
            have hB1 := hB0.trans (hb1.mono hB0.size)
            replace Hr := Lib.hid (Hr.out.below hb1)
            go_wp2_with fail
            refine (turned_any b _ _ _ r M _ Hr.out (by omega) (by omega) (by omega)).mono ?_
            rintro e w2 ⟨A2, c2, rfl, ho, hb2⟩
            generalize hC2 : (turn b r M 32).2 = C2 at *
            have hz2 := hb2.size
            have Ho2 := Lib.hid ho; clear ho
            have sepHo1Ho2 := Lib.hid (Sep.of_lt Ho1.out Ho2.out (Nat.le_refl _))
            have hB2 := hB1.trans (hb2.mono hB1.size)
            replace Ho1 := Lib.hid (Ho1.out.below hb2)
            replace Hr := Lib.hid (Hr.out.below hb2)
            have HC1 := Lib.hid hC1; clear hC1
            have HC2 := Lib.hid hC2; clear hC2
            subst q2
            go_wp2_with fail
            refine (crc16_any (turn b r M' 32).1 _ _ _ _ Ho1.out.rd (by omega)).mono ?_
            rintro e v ⟨rfl, rfl⟩
            go_wp2_with fail
            refine (crc16_any b _ _ _ _ Hr.out (by omega)).mono ?_
            rintro e v ⟨rfl, rfl⟩
            have hne : ((more16 65535 (turn b r M' 32).1 : Int) == (more16 65535 b : Int)) = false := by have h := Hs16.out q1'; simp; omega
            generalize more16 65535 (turn b r M' 32).1 = S1 at *
            generalize more16 65535 b = S2 at *
            go_wp2_with fail
            refine (seal16_any b _ _ _ _ Hr.out (by omega)).mono ?_
            rintro e w3 ⟨A3, c3, rfl, ho, hb3⟩
            have hz3 := hb3.size
            have Ho3 := Lib.hid ho; clear ho
            have sepHo1Ho3 := Lib.hid (Sep.of_lt Ho1.out Ho3.out (Nat.le_refl _))
            have sepHo2Ho3 := Lib.hid (Sep.of_lt Ho2.out Ho3.out (Nat.le_refl _))
            have hB3 := hB2.trans (hb3.mono hB2.size)
            replace Ho1 := Lib.hid (Ho1.out.below hb3)
            replace Ho2 := Lib.hid (Ho2.out.below hb3)
            replace Hr := Lib.hid (Hr.out.below hb3)
            go_wp2_with fail
            refine (turned_any (sealF 2 (more16 65535) b) _ _ _ r M' _ Ho3.out.rd (by omega) (by omega) (by omega)).mono ?_
            rintro e w4 ⟨A4, c4, rfl, ho, hb4⟩
            generalize hC3 : (turn (sealF 2 (more16 65535) b) r M' 32).2 = C3 at *
            have hz4 := hb4.size
            have Ho4 := Lib.hid ho; clear ho
            have sepHo1Ho4 := Lib.hid (Sep.of_lt Ho1.out Ho4.out (Nat.le_refl _))
            have sepHo2Ho4 := Lib.hid (Sep.of_lt Ho2.out Ho4.out (Nat.le_refl _))
            have sepHo3Ho4 := Lib.hid (Sep.of_lt Ho3.out Ho4.out (Nat.le_refl _))
            have hB4 := hB3.trans (hb4.mono hB3.size)
            replace Ho1 := Lib.hid (Ho1.out.below hb4)
            replace Ho2 := Lib.hid (Ho2.out.below hb4)
            replace Ho3 := Lib.hid (Ho3.out.below hb4)
            replace Hr := Lib.hid (Hr.out.below hb4)
            go_wp2_with fail
            refine (seal32_any b _ _ _ _ Hr.out (by omega)).mono ?_
            rintro e w5 ⟨A5, c5, rfl, ho, hb5⟩
            have hz5 := hb5.size
            have Ho5 := Lib.hid ho; clear ho
            have sepHo1Ho5 := Lib.hid (Sep.of_lt Ho1.out Ho5.out (Nat.le_refl _))
            have sepHo2Ho5 := Lib.hid (Sep.of_lt Ho2.out Ho5.out (Nat.le_refl _))
            have sepHo3Ho5 := Lib.hid (Sep.of_lt Ho3.out Ho5.out (Nat.le_refl _))
            have sepHo4Ho5 := Lib.hid (Sep.of_lt Ho4.out Ho5.out (Nat.le_refl _))
            have hB5 := hB4.trans (hb5.mono hB4.size)
            replace Ho1 := Lib.hid (Ho1.out.below hb5)
            replace Ho2 := Lib.hid (Ho2.out.below hb5)
            replace Ho3 := Lib.hid (Ho3.out.below hb5)
            replace Ho4 := Lib.hid (Ho4.out.below hb5)
            replace Hr := Lib.hid (Hr.out.below hb5)
            go_wp2_with fail
            refine (turned_any (sealF 4 (more32 0) b) _ _ _ r M _ Ho5.out.rd (by omega) (by omega) (by omega)).mono ?_
            rintro e w6 ⟨A6, c6, rfl, ho, hb6⟩
            generalize hC4 : (turn (sealF 4 (more32 0) b) r M 32).2 = C4 at *
            have hz6 := hb6.size
            have Ho6 := Lib.hid ho; clear ho
            have sepHo1Ho6 := Lib.hid (Sep.of_lt Ho1.out Ho6.out (Nat.le_refl _))
            have sepHo2Ho6 := Lib.hid (Sep.of_lt Ho2.out Ho6.out (Nat.le_refl _))
            have sepHo3Ho6 := Lib.hid (Sep.of_lt Ho3.out Ho6.out (Nat.le_refl _))
            have sepHo4Ho6 := Lib.hid (Sep.of_lt Ho4.out Ho6.out (Nat.le_refl _))
            have sepHo5Ho6 := Lib.hid (Sep.of_lt Ho5.out Ho6.out (Nat.le_refl _))
            have hB6 := hB5.trans (hb6.mono hB5.size)
            replace Ho1 := Lib.hid (Ho1.out.below hb6)
            replace Ho2 := Lib.hid (Ho2.out.below hb6)
            replace Ho3 := Lib.hid (Ho3.out.below hb6)
            replace Ho4 := Lib.hid (Ho4.out.below hb6)
            replace Ho5 := Lib.hid (Ho5.out.below hb6)
            replace Hr := Lib.hid (Hr.out.below hb6)
            have HC3 := Lib.hid hC3; clear hC3
            have HC4 := Lib.hid hC4; clear hC4
            go_wp2_with fail
            refine (open16_any _ _ _ _ _ Ho4.out.rd Ho4.out.cap (by omega)).mono ?_
            rintro e w7 ⟨A7, n7, c7, rfl, ho, hb7⟩
            rw [Hp.out] at ho ⊢
            obtain rfl : n7 = 0 := ho.len.symm
            have hz7 := hb7.size
            have Ho7 := Lib.hid ho; clear ho
            have sepHo1Ho7 := Lib.hid (Sep.of_lt Ho1.out Ho7.out (Nat.le_refl _))
            have sepHo2Ho7 := Lib.hid (Sep.of_lt Ho2.out Ho7.out (Nat.le_refl _))
            have sepHo3Ho7 := Lib.hid (Sep.of_lt Ho3.out Ho7.out (Nat.le_refl _))
            have sepHo4Ho7 := Lib.hid (Sep.of_lt Ho4.out Ho7.out (Nat.le_refl _))
            have sepHo5Ho7 := Lib.hid (Sep.of_lt Ho5.out Ho7.out (Nat.le_refl _))
            have sepHo6Ho7 := Lib.hid (Sep.of_lt Ho6.out Ho7.out (Nat.le_refl _))
            have hB7 := hB6.trans (hb7.mono hB6.size)
            replace Ho1 := Lib.hid (Ho1.out.below hb7)
            replace Ho2 := Lib.hid (Ho2.out.below hb7)
            replace Ho3 := Lib.hid (Ho3.out.below hb7)
            replace Ho4 := Lib.hid (Ho4.out.below hb7)
            replace Ho5 := Lib.hid (Ho5.out.below hb7)
            replace Ho6 := Lib.hid (Ho6.out.below hb7)
            replace Hr := Lib.hid (Hr.out.below hb7)
            go_wp2_with fail
            refine (open32_any _ _ _ _ _ Ho6.out.rd Ho6.out.cap (by omega)).mono ?_
            rintro e w8 ⟨A8, n8, c8, rfl, ho, hb8⟩
            rw [Hq.out] at ho ⊢
            obtain rfl : n8 = 0 := ho.len.symm
            have hz8 := hb8.size
            have Ho8 := Lib.hid ho; clear ho
            have sepHo1Ho8 := Lib.hid (Sep.of_lt Ho1.out Ho8.out (Nat.le_refl _))
            have sepHo2Ho8 := Lib.hid (Sep.of_lt Ho2.out Ho8.out (Nat.le_refl _))
            have sepHo3Ho8 := Lib.hid (Sep.of_lt Ho3.out Ho8.out (Nat.le_refl _))
            have sepHo4Ho8 := Lib.hid (Sep.of_lt Ho4.out Ho8.out (Nat.le_refl _))
            have sepHo5Ho8 := Lib.hid (Sep.of_lt Ho5.out Ho8.out (Nat.le_refl _))
            have sepHo6Ho8 := Lib.hid (Sep.of_lt Ho6.out Ho8.out (Nat.le_refl _))
            have sepHo7Ho8 := Lib.hid (Sep.of_lt Ho7.out Ho8.out (Nat.le_refl _))
            have hB8 := hB7.trans (hb8.mono hB7.size)
            replace Ho1 := Lib.hid (Ho1.out.below hb8)
            replace Ho2 := Lib.hid (Ho2.out.below hb8)
            replace Ho3 := Lib.hid (Ho3.out.below hb8)
            replace Ho4 := Lib.hid (Ho4.out.below hb8)
            replace Ho5 := Lib.hid (Ho5.out.below hb8)
            replace Ho6 := Lib.hid (Ho6.out.below hb8)
            replace Ho7 := Lib.hid (Ho7.out.below hb8)
            replace Hr := Lib.hid (Hr.out.below hb8)
            go_wp2_with fail
            refine (known_any _).mono ?_
            rintro e w9 ⟨rfl, hb9⟩
            have hz9 := hb9.size
            have hB9 := hB8.trans (hb9.mono hB8.size)
            replace Ho1 := Lib.hid (Ho1.out.below hb9)
            replace Ho2 := Lib.hid (Ho2.out.below hb9)
            replace Ho3 := Lib.hid (Ho3.out.below hb9)
            replace Ho4 := Lib.hid (Ho4.out.below hb9)
            replace Ho5 := Lib.hid (Ho5.out.below hb9)
            replace Ho6 := Lib.hid (Ho6.out.below hb9)
            replace Ho7 := Lib.hid (Ho7.out.below hb9)
            replace Ho8 := Lib.hid (Ho8.out.below hb9)
            replace Hr := Lib.hid (Hr.out.below hb9)
            go_wp2_with fail
            go_ret
            exact ⟨rfl, hB9⟩
      · have q2' : (turn b r M 32).2 ≠ 0 := by omega
        rcases Nat.eq_zero_or_pos (turn (sealF 2 (more16 65535) b) r M' 32).2 with q3 | q3
        · have Hp : Hid (openF 2 (more16 65535) (turn (sealF 2 (more16 65535) b) r M' 32).1 = (b, 0)) := open_same 2 (more16 65535) b r M' 32 q3
          rcases Nat.eq_zero_or_pos (turn (sealF 4 (more32 0) b) r M 32).2 with q4 | q4
          · have Hq : Hid (openF 4 (more32 0) (turn (sealF 4 (more32 0) b) r M 32).1 = (b, 0)) := open_same 4 (more32 0) b r M 32 q4
            have hB0 : Below w.heap.size w w := Below.refl _ _
            go_wp2_with fail
            refine (turned_any b _ _ _ r M' _ Hr.out (by omega) (by omega) (by omega)).mono ?_
            rintro e w1 ⟨A1, c1, rfl, ho, hb1⟩
            generalize hC1 : (turn b r M' 32).2 = C1 at *
            have hz1 := hb1.size
            have Ho1 := Lib.hid ho; clear ho
            have hB1 := hB0.trans (hb1.mono hB0.size)
            replace Hr := Lib.hid (Hr.out.below hb1)
            go_wp2_with fail
            refine (turned_any b _ _ _ r M _ Hr.out (by omega) (by omega) (by omega)).mono ?_
            rintro e w2 ⟨A2, c2, rfl, ho, hb2⟩
            generalize hC2 : (turn b r M 32).2 = C2 at *
            have hz2 := hb2.size
            have Ho2 := Lib.hid ho; clear ho
            have sepHo1Ho2 := Lib.hid (Sep.of_lt Ho1.out Ho2.out (Nat.le_refl _))
            have hB2 := hB1.trans (hb2.mono hB1.size)
            replace Ho1 := Lib.hid (Ho1.out.below hb2)
            replace Hr := Lib.hid (Hr.out.below hb2)
            have HC1 := Lib.hid hC1; clear hC1
            have HC2 := Lib.hid hC2; clear hC2
            go_wp2_with fail
            refine (crc16_any (turn b r M' 32).1 _ _ _ _ Ho1.out.rd (by omega)).mono ?_
            rintro e v ⟨rfl, rfl⟩
            go_wp2_with fail
            refine (crc16_any b _ _ _ _ Hr.out (by omega)).mono ?_
            rintro e v ⟨rfl, rfl⟩
            have hne : ((more16 65535 (turn b r M' 32).1 : Int) == (more16 65535 b : Int)) = false := by have h := Hs16.out q1'; simp; omega
            generalize more16 65535 (turn b r M' 32).1 = S1 at *
            generalize more16 65535 b = S2 at *
            go_wp2_with fail
            refine (crc32_any (turn b r M 32).1 _ _ _ _ Ho2.out.rd (by omega)).mono ?_
            rintro e v ⟨rfl, rfl⟩
            go_wp2_with fail
            refine (crc32_any b _ _ _ _ Hr.out (by omega)).mono ?_
            rintro e v ⟨rfl, rfl⟩
            have hne2 : ((more32 0 (turn b r M 32).1 : Int) == (more32 0 b : Int)) = false := by have h := Hs32.out q2'; simp; omega
            generalize more32 0 (turn b r M 32).1 = S3 at *
            generalize more32 0 b = S4 at *
            go_wp2_with fail
            refine (seal16_any b _ _ _ _ Hr.out (by omega)).mono ?_
            rintro e w3 ⟨A3, c3, rfl, ho, hb3⟩
            have hz3 := hb3.size
            have Ho3 := Lib.hid ho; clear ho
            have sepHo1Ho3 := Lib.hid (Sep.of_lt Ho1.out Ho3.out (Nat.le_refl _))
            have sepHo2Ho3 := Lib.hid (Sep.of_lt Ho2.out Ho3.out (Nat.le_refl _))
            have hB3 := hB2.trans (hb3.mono hB2.size)
            replace Ho1 := Lib.hid (Ho1.out.below hb3)
            replace Ho2 := Lib.hid (Ho2.out.below hb3)
            replace Hr := Lib.hid (Hr.out.below hb3)
            go_wp2_with fail
            refine (turned_any (sealF 2 (more16 65535) b) _ _ _ r M' _ Ho3.out.rd (by omega) (by omega) (by omega)).mono ?_
            rintro e w4 ⟨A4, c4, rfl, ho, hb4⟩
            generalize hC3 : (turn (sealF 2 (more16 65535) b) r M' 32).2 = C3 at *
            have hz4 := hb4.size
            have Ho4 := Lib.hid ho; clear ho
            have sepHo1Ho4 := Lib.hid (Sep.of_lt Ho1.out Ho4.out (Nat.le_refl _))
            have sepHo2Ho4 := Lib.hid (Sep.of_lt Ho2.out Ho4.out (Nat.le_refl _))
            have sepHo3Ho4 := Lib.hid (Sep.of_lt Ho3.out Ho4.out (Nat.le_refl _))
            have hB4 := hB3.trans (hb4.mono hB3.size)
            replace Ho1 := Lib.hid (Ho1.out.below hb4)
            replace Ho2 := Lib.hid (Ho2.out.below hb4)
            replace Ho3 := Lib.hid (Ho3.out.below hb4)
            replace Hr := Lib.hid (Hr.out.below hb4)
            go_wp2_with fail
            refine (seal32_any b _ _ _ _ Hr.out (by omega)).mono ?_
            rintro e w5 ⟨A5, c5, rfl, ho, hb5⟩
            have hz5 := hb5.size
            have Ho5 := Lib.hid ho; clear ho
            have sepHo1Ho5 := Lib.hid (Sep.of_lt Ho1.out Ho5.out (Nat.le_refl _))
            have sepHo2Ho5 := Lib.hid (Sep.of_lt Ho2.out Ho5.out (Nat.le_refl _))
            have sepHo3Ho5 := Lib.hid (Sep.of_lt Ho3.out Ho5.out (Nat.le_refl _))
            have sepHo4Ho5 := Lib.hid (Sep.of_lt Ho4.out Ho5.out (Nat.le_refl _))
            have hB5 := hB4.trans (hb5.mono hB4.size)
            replace Ho1 := Lib.hid (Ho1.out.below hb5)
            replace Ho2 := Lib.hid (Ho2.out.below hb5)
            replace Ho3 := Lib.hid (Ho3.out.below hb5)
            replace Ho4 := Lib.hid (Ho4.out.below hb5)
            replace Hr := Lib.hid (Hr.out.below hb5)
            go_wp2_with fail
            refine (turned_any (sealF 4 (more32 0) b) _ _ _ r M _ Ho5.out.rd (by omega) (by omega) (by omega)).mono ?_
            rintro e w6 ⟨A6, c6, rfl, ho, hb6⟩
            generalize hC4 : (turn (sealF 4 (more32 0) b) r M 32).2 = C4 at *
            have hz6 := hb6.size
            have Ho6 := Lib.hid ho; clear ho
            have sepHo1Ho6 := Lib.hid (Sep.of_lt Ho1.out Ho6.out (Nat.le_refl _))
            have sepHo2Ho6 := Lib.hid (Sep.of_lt Ho2.out Ho6.out (Nat.le_refl _))
            have sepHo3Ho6 := Lib.hid (Sep.of_lt Ho3.out Ho6.out (Nat.le_refl _))
            have sepHo4Ho6 := Lib.hid (Sep.of_lt Ho4.out Ho6.out (Nat.le_refl _))
            have sepHo5Ho6 := Lib.hid (Sep.of_lt Ho5.out Ho6.out (Nat.le_refl _))
            have hB6 := hB5.trans (hb6.mono hB5.size)
            replace Ho1 := Lib.hid (Ho1.out.below hb6)
            replace Ho2 := Lib.hid (Ho2.out.below hb6)
            replace Ho3 := Lib.hid (Ho3.out.below hb6)
            replace Ho4 := Lib.hid (Ho4.out.below hb6)
            replace Ho5 := Lib.hid (Ho5.out.below hb6)
            replace Hr := Lib.hid (Hr.out.below hb6)
            have HC3 := Lib.hid hC3; clear hC3
            subst q3
            have HC4 := Lib.hid hC4; clear hC4
            subst q4
            go_wp2_with fail
            refine (open16_any _ _ _ _ _ Ho4.out.rd Ho4.out.cap (by omega)).mono ?_
            rintro e w7 ⟨A7, n7, c7, rfl, ho, hb7⟩
            rw [Hp.out] at ho ⊢
            obtain rfl : m = n7 := by have h1 := ho.len; have h2 := Hr.out.length; simp at h1; omega
            have hz7 := hb7.size
            have Ho7 := Lib.hid ho; clear ho
            have sepHo1Ho7 := Lib.hid (Sep.of_lt Ho1.out Ho7.out (Nat.le_refl _))
            have sepHo2Ho7 := Lib.hid (Sep.of_lt Ho2.out Ho7.out (Nat.le_refl _))
            have sepHo3Ho7 := Lib.hid (Sep.of_lt Ho3.out Ho7.out (Nat.le_refl _))
            have sepHo4Ho7 := Lib.hid (Sep.of_lt Ho4.out Ho7.out (Nat.le_refl _))
            have sepHo5Ho7 := Lib.hid (Sep.of_lt Ho5.out Ho7.out (Nat.le_refl _))
            have sepHo6Ho7 := Lib.hid (Sep.of_lt Ho6.out Ho7.out (Nat.le_refl _))
            have hB7 := hB6.trans (hb7.mono hB6.size)
            replace Ho1 := Lib.hid (Ho1.out.below hb7)
            replace Ho2 := Lib.hid (Ho2.out.below hb7)
            replace Ho3 := Lib.hid (Ho3.out.below hb7)
            replace Ho4 := Lib.hid (Ho4.out.below hb7)
            replace Ho5 := Lib.hid (Ho5.out.below hb7)
            replace Ho6 := Lib.hid (Ho6.out.below hb7)
            replace Hr := Lib.hid (Hr.out.below hb7)
            go_wp2_with fail
            refine (open32_any _ _ _ _ _ Ho6.out.rd Ho6.out.cap (by omega)).mono ?_
            rintro e w8 ⟨A8, n8, c8, rfl, ho, hb8⟩
            rw [Hq.out] at ho ⊢
            obtain rfl : m = n8 := by have h1 := ho.len; have h2 := Hr.out.length; simp at h1; omega
            have hz8 := hb8.size
            have Ho8 := Lib.hid ho; clear ho
            have sepHo1Ho8 := Lib.hid (Sep.of_lt Ho1.out Ho8.out (Nat.le_refl _))
            have sepHo2Ho8 := Lib.hid (Sep.of_lt Ho2.out Ho8.out (Nat.le_refl _))
            have sepHo3Ho8 := Lib.hid (Sep.of_lt Ho3.out Ho8.out (Nat.le_refl _))
            have sepHo4Ho8 := Lib.hid (Sep.of_lt Ho4.out Ho8.out (Nat.le_refl _))
            have sepHo5Ho8 := Lib.hid (Sep.of_lt Ho5.out Ho8.out (Nat.le_refl _))
            have sepHo6Ho8 := Lib.hid (Sep.of_lt Ho6.out Ho8.out (Nat.le_refl _))
            have sepHo7Ho8 := Lib.hid (Sep.of_lt Ho7.out Ho8.out (Nat.le_refl _))
            have hB8 := hB7.trans (hb8.mono hB7.size)
            replace Ho1 := Lib.hid (Ho1.out.below hb8)
            replace Ho2 := Lib.hid (Ho2.out.below hb8)
            replace Ho3 := Lib.hid (Ho3.out.below hb8)
            replace Ho4 := Lib.hid (Ho4.out.below hb8)
            replace Ho5 := Lib.hid (Ho5.out.below hb8)
            replace Ho6 := Lib.hid (Ho6.out.below hb8)
            replace Ho7 := Lib.hid (Ho7.out.below hb8)
            replace Hr := Lib.hid (Hr.out.below hb8)
            go_wp2_with fail
            refine (same_any b b _ _ _ _ _ _ _ Ho7.out.rd Hr.out (by unfold maxLen; omega)).mono ?_
            rintro e w9 ⟨rfl, hb9⟩
            rw [decide_eq_true rfl]
            have hz9 := hb9.size
            have hB9 := hB8.trans (hb9.mono hB8.size)
            replace Ho1 := Lib.hid (Ho1.out.below hb9)
            replace Ho2 := Lib.hid (Ho2.out.below hb9)
            replace Ho3 := Lib.hid (Ho3.out.below hb9)
            replace Ho4 := Lib.hid (Ho4.out.below hb9)
            replace Ho5 := Lib.hid (Ho5.out.below hb9)
            replace Ho6 := Lib.hid (Ho6.out.below hb9)
            replace Ho7 := Lib.hid (Ho7.out.below hb9)
            replace Ho8 := Lib.hid (Ho8.out.below hb9)
            replace Hr := Lib.hid (Hr.out.below hb9)
            go_wp2_with fail
            refine (same_any b b _ _ _ _ _ _ _ Ho8.out.rd Hr.out (by unfold maxLen; omega)).mono ?_
            rintro e w10 ⟨rfl, hb10⟩
            rw [decide_eq_true rfl]
            have hz10 := hb10.size
            have hB10 := hB9.trans (hb10.mono hB9.size)
            replace Ho1 := Lib.hid (Ho1.out.below hb10)
            replace Ho2 := Lib.hid (Ho2.out.below hb10)
            replace Ho3 := Lib.hid (Ho3.out.below hb10)
            replace Ho4 := Lib.hid (Ho4.out.below hb10)
            replace Ho5 := Lib.hid (Ho5.out.below hb10)
            replace Ho6 := Lib.hid (Ho6.out.below hb10)
            replace Ho7 := Lib.hid (Ho7.out.below hb10)
            replace Ho8 := Lib.hid (Ho8.out.below hb10)
            replace Hr := Lib.hid (Hr.out.below hb10)
            go_wp2_with fail
            refine (known_any _).mono ?_
            rintro e w11 ⟨rfl, hb11⟩
            have hz11 := hb11.size
            have hB11 := hB10.trans (hb11.mono hB10.size)
            replace Ho1 := Lib.hid (Ho1.out.below hb11)
            replace Ho2 := Lib.hid (Ho2.out.below hb11)
            replace Ho3 := Lib.hid (Ho3.out.below hb11)
            replace Ho4 := Lib.hid (Ho4.out.below hb11)
            replace Ho5 := Lib.hid (Ho5.out.below hb11)
            replace Ho6 := Lib.hid (Ho6.out.below hb11)
            replace Ho7 := Lib.hid (Ho7.out.below hb11)
            replace Ho8 := Lib.hid (Ho8.out.below hb11)
            replace Hr := Lib.hid (Hr.out.below hb11)
            go_wp2_with fail
            go_ret
            exact ⟨rfl, hB11⟩
          · have Hq : Hid (openF 4 (more32 0) (turn (sealF 4 (more32 0) b) r M 32).1 = ([], 5)) := open32_turned b r M 32 hM (by omega)
            have hB0 : Below w.heap.size w w := Below.refl _ _
            go_wp2_with fail
            refine (turned_any b _ _ _ r M' _ Hr.out (by omega) (by omega) (by omega)).mono ?_
            rintro e w1 ⟨A1, c1, rfl, ho, hb1⟩
            generalize hC1 : (turn b r M' 32).2 = C1 at *
            have hz1 := hb1.size
            have Ho1 := Lib.hid ho; clear ho
            have hB1 := hB0.trans (hb1.mono hB0.size)
            replace Hr := Lib.hid (Hr.out.below hb1)
            go_wp2_with fail
            refine (turned_any b _ _ _ r M _ Hr.out (by omega) (by omega) (by omega)).mono ?_
            rintro e w2 ⟨A2, c2, rfl, ho, hb2⟩
            generalize hC2 : (turn b r M 32).2 = C2 at *
            have hz2 := hb2.size
            have Ho2 := Lib.hid ho; clear ho
            have sepHo1Ho2 := Lib.hid (Sep.of_lt Ho1.out Ho2.out (Nat.le_refl _))
            have hB2 := hB1.trans (hb2.mono hB1.size)
            replace Ho1 := Lib.hid (Ho1.out.below hb2)
            replace Hr := Lib.hid (Hr.out.below hb2)
            have HC1 := Lib.hid hC1; clear hC1
            have HC2 := Lib.hid hC2; clear hC2
            go_wp2_with fail
            refine (crc16_any (turn b r M' 32).1 _ _ _ _ Ho1.out.rd (by omega)).mono ?_
            rintro e v ⟨rfl, rfl⟩
            go_wp2_with fail
            refine (crc16_any b _ _ _ _ Hr.out (by omega)).mono ?_
            rintro e v ⟨rfl, rfl⟩
            have hne : ((more16 65535 (turn b r M' 32).1 : Int) == (more16 65535 b : Int)) = false := by have h := Hs16.out q1'; simp; omega
            generalize more16 65535 (turn b r M' 32).1 = S1 at *
            generalize more16 65535 b = S2 at *
            go_wp2_with fail
            refine (crc32_any (turn b r M 32).1 _ _ _ _ Ho2.out.rd (by omega)).mono ?_
            rintro e v ⟨rfl, rfl⟩
            go_wp2_with fail
            refine (crc32_any b _ _ _ _ Hr.out (by omega)).mono ?_
            rintro e v ⟨rfl, rfl⟩
            have hne2 : ((more32 0 (turn b r M 32).1 : Int) == (more32 0 b : Int)) = false := by have h := Hs32.out q2'; simp; omega
            generalize more32 0 (turn b r M 32).1 = S3 at *
            generalize more32 0 b = S4 at *
            go_wp2_with fail
            refine (seal16_any b _ _ _ _ Hr.out (by omega)).mono ?_
            rintro e w3 ⟨A3, c3, rfl, ho, hb3⟩
            have hz3 := hb3.size
            have Ho3 := Lib.hid ho; clear ho
            have sepHo1Ho3 := Lib.hid (Sep.of_lt Ho1.out Ho3.out (Nat.le_refl _))
            have sepHo2Ho3 := Lib.hid (Sep.of_lt Ho2.out Ho3.out (Nat.le_refl _))
            have hB3 := hB2.trans (hb3.mono hB2.size)
            replace Ho1 := Lib.hid (Ho1.out.below hb3)
            replace Ho2 := Lib.hid (Ho2.out.below hb3)
            replace Hr := Lib.hid (Hr.out.below hb3)
            go_wp2_with fail
            refine (turned_any (sealF 2 (more16 65535) b) _ _ _ r M' _ Ho3.out.rd (by omega) (by omega) (by omega)).mono ?_
            rintro e w4 ⟨A4, c4, rfl, ho, hb4⟩
            generalize hC3 : (turn (sealF 2 (more16 65535) b) r M' 32).2 = C3 at *
            have hz4 := hb4.size
            have Ho4 := Lib.hid ho; clear ho
            have sepHo1Ho4 := Lib.hid (Sep.of_lt Ho1.out Ho4.out (Nat.le_refl _))
            have sepHo2Ho4 := Lib.hid (Sep.of_lt Ho2.out Ho4.out (Nat.le_refl _))
            have sepHo3Ho4 := Lib.hid (Sep.of_lt Ho3.out Ho4.out (Nat.le_refl _))
            have hB4 := hB3.trans (hb4.mono hB3.size)
            replace Ho1 := Lib.hid (Ho1.out.below hb4)
            replace Ho2 := Lib.hid (Ho2.out.below hb4)
            replace Ho3 := Lib.hid (Ho3.out.below hb4)
            replace Hr := Lib.hid (Hr.out.below hb4)
            go_wp2_with fail
            refine (seal32_any b _ _ _ _ Hr.out (by omega)).mono ?_
            rintro e w5 ⟨A5, c5, rfl, ho, hb5⟩
            have hz5 := hb5.size
            have Ho5 := Lib.hid ho; clear ho
            have sepHo1Ho5 := Lib.hid (Sep.of_lt Ho1.out Ho5.out (Nat.le_refl _))
            have sepHo2Ho5 := Lib.hid (Sep.of_lt Ho2.out Ho5.out (Nat.le_refl _))
            have sepHo3Ho5 := Lib.hid (Sep.of_lt Ho3.out Ho5.out (Nat.le_refl _))
            have sepHo4Ho5 := Lib.hid (Sep.of_lt Ho4.out Ho5.out (Nat.le_refl _))
            have hB5 := hB4.trans (hb5.mono hB4.size)
            replace Ho1 := Lib.hid (Ho1.out.below hb5)
            replace Ho2 := Lib.hid (Ho2.out.below hb5)
            replace Ho3 := Lib.hid (Ho3.out.below hb5)
            replace Ho4 := Lib.hid (Ho4.out.below hb5)
            replace Hr := Lib.hid (Hr.out.below hb5)
            go_wp2_with fail
            refine (turned_any (sealF 4 (more32 0) b) _ _ _ r M _ Ho5.out.rd (by omega) (by omega) (by omega)).mono ?_
            rintro e w6 ⟨A6, c6, rfl, ho, hb6⟩
            generalize hC4 : (turn (sealF 4 (more32 0) b) r M 32).2 = C4 at *
            have hz6 := hb6.size
            have Ho6 := Lib.hid ho; clear ho
            have sepHo1Ho6 := Lib.hid (Sep.of_lt Ho1.out Ho6.out (Nat.le_refl _))
            have sepHo2Ho6 := Lib.hid (Sep.of_lt Ho2.out Ho6.out (Nat.le_refl _))
            have sepHo3Ho6 := Lib.hid (Sep.of_lt Ho3.out Ho6.out (Nat.le_refl _))
            have sepHo4Ho6 := Lib.hid (Sep.of_lt Ho4.out Ho6.out (Nat.le_refl _))
            have sepHo5Ho6 := Lib.hid (Sep.of_lt Ho5.out Ho6.out (Nat.le_refl _))
            have hB6 := hB5.trans (hb6.mono hB5.size)
            replace Ho1 := Lib.hid (Ho1.out.below hb6)
            replace Ho2 := Lib.hid (Ho2.out.below hb6)
            replace Ho3 := Lib.hid (Ho3.out.below hb6)
            replace Ho4 := Lib.hid (Ho4.out.below hb6)
            replace Ho5 := Lib.hid (Ho5.out.below hb6)
            replace Hr := Lib.hid (Hr.out.below hb6)
            have HC3 := Lib.hid hC3; clear hC3
            subst q3
            have HC4 := Lib.hid hC4; clear hC4
            go_wp2_with fail
            refine (open16_any _ _ _ _ _ Ho4.out.rd Ho4.out.cap (by omega)).mono ?_
            rintro e w7 ⟨A7, n7, c7, rfl, ho, hb7⟩
            rw [Hp.out] at ho ⊢
            obtain rfl : m = n7 := by have h1 := ho.len; have h2 := Hr.out.length; simp at h1; omega
            have hz7 := hb7.size
            have Ho7 := Lib.hid ho; clear ho
            have sepHo1Ho7 := Lib.hid (Sep.of_lt Ho1.out Ho7.out (Nat.le_refl _))
            have sepHo2Ho7 := Lib.hid (Sep.of_lt Ho2.out Ho7.out (Nat.le_refl _))
            have sepHo3Ho7 := Lib.hid (Sep.of_lt Ho3.out Ho7.out (Nat.le_refl _))
            have sepHo4Ho7 := Lib.hid (Sep.of_lt Ho4.out Ho7.out (Nat.le_refl _))
            have sepHo5Ho7 := Lib.hid (Sep.of_lt Ho5.out Ho7.out (Nat.le_refl _))
            have sepHo6Ho7 := Lib.hid (Sep.of_lt Ho6.out Ho7.out (Nat.le_refl _))
            have hB7 := hB6.trans (hb7.mono hB6.size)
            replace Ho1 := Lib.hid (Ho1.out.below hb7)
            replace Ho2 := Lib.hid (Ho2.out.below hb7)
            replace Ho3 := Lib.hid (Ho3.out.below hb7)
            replace Ho4 := Lib.hid (Ho4.out.below hb7)
            replace Ho5 := Lib.hid (Ho5.out.below hb7)
            replace Ho6 := Lib.hid (Ho6.out.below hb7)
            replace Hr := Lib.hid (Hr.out.below hb7)
            go_wp2_with fail
            refine (open32_any _ _ _ _ _ Ho6.out.rd Ho6.out.cap (by omega)).mono ?_
            rintro e w8 ⟨A8, n8, c8, rfl, ho, hb8⟩
            rw [Hq.out] at ho ⊢
            obtain rfl : n8 = 0 := ho.len.symm
            have hz8 := hb8.size
            have Ho8 := Lib.hid ho; clear ho
            have sepHo1Ho8 := Lib.hid (Sep.of_lt Ho1.out Ho8.out (Nat.le_refl _))
            have sepHo2Ho8 := Lib.hid (Sep.of_lt Ho2.out Ho8.out (Nat.le_refl _))
            have sepHo3Ho8 := Lib.hid (Sep.of_lt Ho3.out Ho8.out (Nat.le_refl _))
            have sepHo4Ho8 := Lib.hid (Sep.of_lt Ho4.out Ho8.out (Nat.le_refl _))
            have sepHo5Ho8 := Lib.hid (Sep.of_lt Ho5.out Ho8.out (Nat.le_refl _))
            have sepHo6Ho8 := Lib.hid (Sep.of_lt Ho6.out Ho8.out (Nat.le_refl _))
            have sepHo7Ho8 := Lib.hid (Sep.of_lt Ho7.out Ho8.out (Nat.le_refl _))
            have hB8 := hB7.trans (hb8.mono hB7.size)
            replace Ho1 := Lib.hid (Ho1.out.below hb8)
            replace Ho2 := Lib.hid (Ho2.out.below hb8)
            replace Ho3 := Lib.hid (Ho3.out.below hb8)
            replace Ho4 := Lib.hid (Ho4.out.below hb8)
            replace Ho5 := Lib.hid (Ho5.out.below hb8)
            replace Ho6 := Lib.hid (Ho6.out.below hb8)
            replace Ho7 := Lib.hid (Ho7.out.below hb8)
            replace Hr := Lib.hid (Hr.out.below hb8)
            go_wp2_with fail
            refine (same_any b b _ _ _ _ _ _ _ Ho7.out.rd Hr.out (by unfold maxLen; omega)).mono ?_
            rintro e w9 ⟨rfl, hb9⟩
            rw [decide_eq_true rfl]
            have hz9 := hb9.size
            have hB9 := hB8.trans (hb9.mono hB8.size)
            replace Ho1 := Lib.hid (Ho1.out.below hb9)
            replace Ho2 := Lib.hid (Ho2.out.below hb9)
            replace Ho3 := Lib.hid (Ho3.out.below hb9)
            replace Ho4 := Lib.hid (Ho4.out.below hb9)
            replace Ho5 := Lib.hid (Ho5.out.below hb9)
            replace Ho6 := Lib.hid (Ho6.out.below hb9)
            replace Ho7 := Lib.hid (Ho7.out.below hb9)
            replace Ho8 := Lib.hid (Ho8.out.below hb9)
            replace Hr := Lib.hid (Hr.out.below hb9)
            go_wp2_with fail
            refine (known_any _).mono ?_
            rintro e w10 ⟨rfl, hb10⟩
            have hz10 := hb10.size
            have hB10 := hB9.trans (hb10.mono hB9.size)
            replace Ho1 := Lib.hid (Ho1.out.below hb10)
            replace Ho2 := Lib.hid (Ho2.out.below hb10)
            replace Ho3 := Lib.hid (Ho3.out.below hb10)
            replace Ho4 := Lib.hid (Ho4.out.below hb10)
            replace Ho5 := Lib.hid (Ho5.out.below hb10)
            replace Ho6 := Lib.hid (Ho6.out.below hb10)
            replace Ho7 := Lib.hid (Ho7.out.below hb10)
            replace Ho8 := Lib.hid (Ho8.out.below hb10)
            replace Hr := Lib.hid (Hr.out.below hb10)
            go_wp2_with fail
            go_ret
            exact ⟨rfl, hB10⟩
        · have Hp : Hid (openF 2 (more16 65535) (turn (sealF 2 (more16 65535) b) r M' 32).1 = ([], 5)) := open16_turned b r M' 32 hM1 (by omega)
          rcases Nat.eq_zero_or_pos (turn (sealF 4 (more32 0) b) r M 32).2 with q4 | q4
          · have Hq : Hid (openF 4 (more32 0) (turn (sealF 4 (more32 0) b) r M 32).1 = (b, 0)) := open_same 4 (more32 0) b r M 32 q4
            have hB0 : Below w.heap.size w w := Below.refl _ _
            go_wp2_with fail
            refine (turned_any b _ _ _ r M' _ Hr.out (by omega) (by omega) (by omega)).mono ?_
            rintro e w1 ⟨A1, c1, rfl, ho, hb1⟩
            generalize hC1 : (turn b r M' 32).2 = C1 at *
            have hz1 := hb1.size
            have Ho1 := Lib.hid ho; clear ho
            have hB1 := hB0.trans (hb1.mono hB0.size)
            replace Hr := Lib.hid (Hr.out.below hb1)
            go_wp2_with fail
            refine (turned_any b _ _ _ r M _ Hr.out (by omega) (by omega) (by omega)).mono ?_
            rintro e w2 ⟨A2, c2, rfl, ho, hb2⟩
            generalize hC2 : (turn b r M 32).2 = C2 at *
            have hz2 := hb2.size
            have Ho2 := Lib.hid ho; clear ho
            have sepHo1Ho2 := Lib.hid (Sep.of_lt Ho1.out Ho2.out (Nat.le_refl _))
            have hB2 := hB1.trans (hb2.mono hB1.size)
            replace Ho1 := Lib.hid (Ho1.out.below hb2)
            replace Hr := Lib.hid (Hr.out.below hb2)
            have HC1 := Lib.hid hC1; clear hC1
            have HC2 := Lib.hid hC2; clear hC2
            go_wp2_with fail
            refine (crc16_any (turn b r M' 32).1 _ _ _ _ Ho1.out.rd (by omega)).mono ?_
            rintro e v ⟨rfl, rfl⟩
            go_wp2_with fail
            refine (crc16_any b _ _ _ _ Hr.out (by omega)).mono ?_
            rintro e v ⟨rfl, rfl⟩
            have hne : ((more16 65535 (turn b r M' 32).1 : Int) == (more16 65535 b : Int)) = false := by have h := Hs16.out q1'; simp; omega
            generalize more16 65535 (turn b r M' 32).1 = S1 at *
            generalize more16 65535 b = S2 at *
            go_wp2_with fail
            refine (crc32_any (turn b r M 32).1 _ _ _ _ Ho2.out.rd (by omega)).mono ?_
            rintro e v ⟨rfl, rfl⟩
            go_wp2_with fail
            refine (crc32_any b _ _ _ _ Hr.out (by omega)).mono ?_
            rintro e v ⟨rfl, rfl⟩
            have hne2 : ((more32 0 (turn b r M 32).1 : Int) == (more32 0 b : Int)) = false := by have h := Hs32.out q2'; simp; omega
            generalize more32 0 (turn b r M 32).1 = S3 at *
            generalize more32 0 b = S4 at *
            go_wp2_with fail
            refine (seal16_any b _ _ _ _ Hr.out (by omega)).mono ?_
            rintro e w3 ⟨A3, c3, rfl, ho, hb3⟩
            have hz3 := hb3.size
            have Ho3 := Lib.hid ho; clear ho
            have sepHo1Ho3 := Lib.hid (Sep.of_lt Ho1.out Ho3.out (Nat.le_refl _))
            have sepHo2Ho3 := Lib.hid (Sep.of_lt Ho2.out Ho3.out (Nat.le_refl _))
            have hB3 := hB2.trans (hb3.mono hB2.size)
            replace Ho1 := Lib.hid (Ho1.out.below hb3)
            replace Ho2 := Lib.hid (Ho2.out.below hb3)
            replace Hr := Lib.hid (Hr.out.below hb3)
            go_wp2_with fail
            refine (turned_any (sealF 2 (more16 65535) b) _ _ _ r M' _ Ho3.out.rd (by omega) (by omega) (by omega)).mono ?_
            rintro e w4 ⟨A4, c4, rfl, ho, hb4⟩
            generalize hC3 : (turn (sealF 2 (more16 65535) b) r M' 32).2 = C3 at *
            have hz4 := hb4.size
            have Ho4 := Lib.hid ho; clear ho
            have sepHo1Ho4 := Lib.hid (Sep.of_lt Ho1.out Ho4.out (Nat.le_refl _))
            have sepHo2Ho4 := Lib.hid (Sep.of_lt Ho2.out Ho4.out (Nat.le_refl _))
            have sepHo3Ho4 := Lib.hid (Sep.of_lt Ho3.out Ho4.out (Nat.le_refl _))
            have hB4 := hB3.trans (hb4.mono hB3.size)
            replace Ho1 := Lib.hid (Ho1.out.below hb4)
            replace Ho2 := Lib.hid (Ho2.out.below hb4)
            replace Ho3 := Lib.hid (Ho3.out.below hb4)
            replace Hr := Lib.hid (Hr.out.below hb4)
            go_wp2_with fail
            refine (seal32_any b _ _ _ _ Hr.out (by omega)).mono ?_
            rintro e w5 ⟨A5, c5, rfl, ho, hb5⟩
            have hz5 := hb5.size
            have Ho5 := Lib.hid ho; clear ho
            have sepHo1Ho5 := Lib.hid (Sep.of_lt Ho1.out Ho5.out (Nat.le_refl _))
            have sepHo2Ho5 := Lib.hid (Sep.of_lt Ho2.out Ho5.out (Nat.le_refl _))
            have sepHo3Ho5 := Lib.hid (Sep.of_lt Ho3.out Ho5.out (Nat.le_refl _))
            have sepHo4Ho5 := Lib.hid (Sep.of_lt Ho4.out Ho5.out (Nat.le_refl _))
            have hB5 := hB4.trans (hb5.mono hB4.size)
            replace Ho1 := Lib.hid (Ho1.out.below hb5)
            replace Ho2 := Lib.hid (Ho2.out.below hb5)
            replace Ho3 := Lib.hid (Ho3.out.below hb5)
            replace Ho4 := Lib.hid (Ho4.out.below hb5)
            replace Hr := Lib.hid (Hr.out.below hb5)
            go_wp2_with fail
            refine (turned_any (sealF 4 (more32 0) b) _ _ _ r M _ Ho5.out.rd (by omega) (by omega) (by omega)).mono ?_
            rintro e w6 ⟨A6, c6, rfl, ho, hb6⟩
            generalize hC4 : (turn (sealF 4 (more32 0) b) r M 32).2 = C4 at *
            have hz6 := hb6.size
            have Ho6 := Lib.hid ho; clear ho
            have sepHo1Ho6 := Lib.hid (Sep.of_lt Ho1.out Ho6.out (Nat.le_refl _))
            have sepHo2Ho6 := Lib.hid (Sep.of_lt Ho2.out Ho6.out (Nat.le_refl _))
            have sepHo3Ho6 := Lib.hid (Sep.of_lt Ho3.out Ho6.out (Nat.le_refl _))
            have sepHo4Ho6 := Lib.hid (Sep.of_lt Ho4.out Ho6.out (Nat.le_refl _))
            have sepHo5Ho6 := Lib.hid (Sep.of_lt Ho5.out Ho6.out (Nat.le_refl _))
            have hB6 := hB5.trans (hb6.mono hB5.size)
            replace Ho1 := Lib.hid (Ho1.out.below hb6)
            replace Ho2 := Lib.hid (Ho2.out.below hb6)
            replace Ho3 := Lib.hid (Ho3.out.below hb6)
            replace Ho4 := Lib.hid (Ho4.out.below hb6)
            replace Ho5 := Lib.hid (Ho5.out.below hb6)
            replace Hr := Lib.hid (Hr.out.below hb6)
            have HC3 := Lib.hid hC3; clear hC3
            have HC4 := Lib.hid hC4; clear hC4
            subst q4
            go_wp2_with fail
            refine (open16_any _ _ _ _ _ Ho4.out.rd Ho4.out.cap (by omega)).mono ?_
            rintro e w7 ⟨A7, n7, c7, rfl, ho, hb7⟩
            rw [Hp.out] at ho ⊢
            obtain rfl : n7 = 0 := ho.len.symm
            have hz7 := hb7.size
            have Ho7 := Lib.hid ho; clear ho
            have sepHo1Ho7 := Lib.hid (Sep.of_lt Ho1.out Ho7.out (Nat.le_refl _))
            have sepHo2Ho7 := Lib.hid (Sep.of_lt Ho2.out Ho7.out (Nat.le_refl _))
            have sepHo3Ho7 := Lib.hid (Sep.of_lt Ho3.out Ho7.out (Nat.le_refl _))
            have sepHo4Ho7 := Lib.hid (Sep.of_lt Ho4.out Ho7.out (Nat.le_refl _))
            have sepHo5Ho7 := Lib.hid (Sep.of_lt Ho5.out Ho7.out (Nat.le_refl _))
            have sepHo6Ho7 := Lib.hid (Sep.of_lt Ho6.out Ho7.out (Nat.le_refl _))
            have hB7 := hB6.trans (hb7.mono hB6.size)
            replace Ho1 := Lib.hid (Ho1.out.below hb7)
            replace Ho2 := Lib.hid (Ho2.out.below hb7)
            replace Ho3 := Lib.hid (Ho3.out.below hb7)
            replace Ho4 := Lib.hid (Ho4.out.below hb7)
            replace Ho5 := Lib.hid (Ho5.out.below hb7)
            replace Ho6 := Lib.hid (Ho6.out.below hb7)
            replace Hr := Lib.hid (Hr.out.below hb7)
            go_wp2_with fail
            refine (open32_any _ _ _ _ _ Ho6.out.rd Ho6.out.cap (by omega)).mono ?_
            rintro e w8 ⟨A8, n8, c8, rfl, ho, hb8⟩
            rw [Hq.out] at ho ⊢
            obtain rfl : m = n8 := by have h1 := ho.len; have h2 := Hr.out.length; simp at h1; omega
            have hz8 := hb8.size
            have Ho8 := Lib.hid ho; clear ho
            have sepHo1Ho8 := Lib.hid (Sep.of_lt Ho1.out Ho8.out (Nat.le_refl _))
            have sepHo2Ho8 := Lib.hid (Sep.of_lt Ho2.out Ho8.out (Nat.le_refl _))
            have sepHo3Ho8 := Lib.hid (Sep.of_lt Ho3.out Ho8.out (Nat.le_refl _))
            have sepHo4Ho8 := Lib.hid (Sep.of_lt Ho4.out Ho8.out (Nat.le_refl _))
            have sepHo5Ho8 := Lib.hid (Sep.of_lt Ho5.out Ho8.out (Nat.le_refl _))
            have sepHo6Ho8 := Lib.hid (Sep.of_lt Ho6.out Ho8.out (Nat.le_refl _))
            have sepHo7Ho8 := Lib.hid (Sep.of_lt Ho7.out Ho8.out (Nat.le_refl _))
            have hB8 := hB7.trans (hb8.mono hB7.size)
            replace Ho1 := Lib.hid (Ho1.out.below hb8)
            replace Ho2 := Lib.hid (Ho2.out.below hb8)
            replace Ho3 := Lib.hid (Ho3.out.below hb8)
            replace Ho4 := Lib.hid (Ho4.out.below hb8)
            replace Ho5 := Lib.hid (Ho5.out.below hb8)
            replace Ho6 := Lib.hid (Ho6.out.below hb8)
            replace Ho7 := Lib.hid (Ho7.out.below hb8)
            replace Hr := Lib.hid (Hr.out.below hb8)
            go_wp2_with fail
            refine (same_any b b _ _ _ _ _ _ _ Ho8.out.rd Hr.out (by unfold maxLen; omega)).mono ?_
            rintro e w9 ⟨rfl, hb9⟩
            rw [decide_eq_true rfl]
            have hz9 := hb9.size
            have hB9 := hB8.trans (hb9.mono hB8.size)
            replace Ho1 := Lib.hid (Ho1.out.below hb9)
            replace Ho2 := Lib.hid (Ho2.out.below hb9)
            replace Ho3 := Lib.hid (Ho3.out.below hb9)
            replace Ho4 := Lib.hid (Ho4.out.below hb9)
            replace Ho5 := Lib.hid (Ho5.out.below hb9)
            replace Ho6 := Lib.hid (Ho6.out.below hb9)
            replace Ho7 := Lib.hid (Ho7.out.below hb9)
            replace Ho8 := Lib.hid (Ho8.out.below hb9)
            replace Hr := Lib.hid (Hr.out.below hb9)
            go_wp2_with fail
            refine (known_any _).mono ?_
            rintro e w10 ⟨rfl, hb10⟩
            have hz10 := hb10.size
            have hB10 := hB9.trans (hb10.mono hB9.size)
            replace Ho1 := Lib.hid (Ho1.out.below hb10)
            replace Ho2 := Lib.hid (Ho2.out.below hb10)
            replace Ho3 := Lib.hid (Ho3.out.below hb10)
            replace Ho4 := Lib.hid (Ho4.out.below hb10)
            replace Ho5 := Lib.hid (Ho5.out.below hb10)
            replace Ho6 := Lib.hid (Ho6.out.below hb10)
            replace Ho7 := Lib.hid (Ho7.out.below hb10)
            replace Ho8 := Lib.hid (Ho8.out.below hb10)
            replace Hr := Lib.hid (Hr.out.below hb10)
            go_wp2_with fail
            go_ret
            exact ⟨rfl, hB10⟩
          · have Hq : Hid (openF 4 (more32 0) (turn (sealF 4 (more32 0) b) r M 32).1 = ([], 5)) := open32_turned b r M 32 hM (by omega)
            have hB0 : Below w.heap.size w w := Below.refl _ _
            go_wp2_with fail
            refine (turned_any b _ _ _ r M' _ Hr.out (by omega) (by omega) (by omega)).mono ?_
            rintro e w1 ⟨A1, c1, rfl, ho, hb1⟩
            generalize hC1 : (turn b r M' 32).2 = C1 at *
            have hz1 := hb1.size
            have Ho1 := Lib.hid ho; clear ho
            have hB1 := hB0.trans (hb1.mono hB0.size)
            replace Hr := Lib.hid (Hr.out.below hb1)
            go_wp2_with fail
            refine (turned_any b _ _ _ r M _ Hr.out (by omega) (by omega) (by omega)).mono ?_
            rintro e w2 ⟨A2, c2, rfl, ho, hb2⟩
            generalize hC2 : (turn b r M 32).2 = C2 at *
            have hz2 := hb2.size
            have Ho2 := Lib.hid ho; clear ho
            have sepHo1Ho2 := Lib.hid (Sep.of_lt Ho1.out Ho2.out (Nat.le_refl _))
            have hB2 := hB1.trans (hb2.mono hB1.size)
            replace Ho1 := Lib.hid (Ho1.out.below hb2)
            replace Hr := Lib.hid (Hr.out.below hb2)
            have HC1 := Lib.hid hC1; clear hC1
            have HC2 := Lib.hid hC2; clear hC2
            go_wp2_with fail
            refine (crc16_any (turn b r M' 32).1 _ _ _ _ Ho1.out.rd (by omega)).mono ?_
            rintro e v ⟨rfl, rfl⟩
            go_wp2_with fail
            refine (crc16_any b _ _ _ _ Hr.out (by omega)).mono ?_
            rintro e v ⟨rfl, rfl⟩
            have hne : ((more16 65535 (turn b r M' 32).1 : Int) == (more16 65535 b : Int)) = false := by have h := Hs16.out q1'; simp; omega
            generalize more16 65535 (turn b r M' 32).1 = S1 at *
            generalize more16 65535 b = S2 at *
            go_wp2_with fail
            refine (crc32_any (turn b r M 32).1 _ _ _ _ Ho2.out.rd (by omega)).mono ?_
            rintro e v ⟨rfl, rfl⟩
            go_wp2_with fail
            refine (crc32_any b _ _ _ _ Hr.out (by omega)).mono ?_
            rintro e v ⟨rfl, rfl⟩
            have hne2 : ((more32 0 (turn b r M 32).1 : Int) == (more32 0 b : Int)) = false := by have h := Hs32.out q2'; simp; omega
            generalize more32 0 (turn b r M 32).1 = S3 at *
            generalize more32 0 b = S4 at *
            go_wp2_with fail
            refine (seal16_any b _ _ _ _ Hr.out (by omega)).mono ?_
            rintro e w3 ⟨A3, c3, rfl, ho, hb3⟩
            have hz3 := hb3.size
            have Ho3 := Lib.hid ho; clear ho
            have sepHo1Ho3 := Lib.hid (Sep.of_lt Ho1.out Ho3.out (Nat.le_refl _))
            have sepHo2Ho3 := Lib.hid (Sep.of_lt Ho2.out Ho3.out (Nat.le_refl _))
            have hB3 := hB2.trans (hb3.mono hB2.size)
            replace Ho1 := Lib.hid (Ho1.out.below hb3)
            replace Ho2 := Lib.hid (Ho2.out.below hb3)
            replace Hr := Lib.hid (Hr.out.below hb3)
            go_wp2_with fail
            refine (turned_any (sealF 2 (more16 65535) b) _ _ _ r M' _ Ho3.out.rd (by omega) (by omega) (by omega)).mono ?_
            rintro e w4 ⟨A4, c4, rfl, ho, hb4⟩
            generalize hC3 : (turn (sealF 2 (more16 65535) b) r M' 32).2 = C3 at *
            have hz4 := hb4.size
            have Ho4 := Lib.hid ho; clear ho
            have sepHo1Ho4 := Lib.hid (Sep.of_lt Ho1.out Ho4.out (Nat.le_refl _))
            have sepHo2Ho4 := Lib.hid (Sep.of_lt Ho2.out Ho4.out (Nat.le_refl _))
            have sepHo3Ho4 := Lib.hid (Sep.of_lt Ho3.out Ho4.out (Nat.le_refl _))
            have hB4 := hB3.trans (hb4.mono hB3.size)
            replace Ho1 := Lib.hid (Ho1.out.below hb4)
            replace Ho2 := Lib.hid (Ho2.out.below hb4)
            replace Ho3 := Lib.hid (Ho3.out.below hb4)
            replace Hr := Lib.hid (Hr.out.below hb4)
            go_wp2_with fail
            refine (seal32_any b _ _ _ _ Hr.out (by omega)).mono ?_
            rintro e w5 ⟨A5, c5, rfl, ho, hb5⟩
            have hz5 := hb5.size
            have Ho5 := Lib.hid ho; clear ho
            have sepHo1Ho5 := Lib.hid (Sep.of_lt Ho1.out Ho5.out (Nat.le_refl _))
            have sepHo2Ho5 := Lib.hid (Sep.of_lt Ho2.out Ho5.out (Nat.le_refl _))
            have sepHo3Ho5 := Lib.hid (Sep.of_lt Ho3.out Ho5.out (Nat.le_refl _))
            have sepHo4Ho5 := Lib.hid (Sep.of_lt Ho4.out Ho5.out (Nat.le_refl _))
            have hB5 := hB4.trans (hb5.mono hB4.size)
            replace Ho1 := Lib.hid (Ho1.out.below hb5)
            replace Ho2 := Lib.hid (Ho2.out.below hb5)
            replace Ho3 := Lib.hid (Ho3.out.below hb5)
            replace Ho4 := Lib.hid (Ho4.out.below hb5)
            replace Hr := Lib.hid (Hr.out.below hb5)
            go_wp2_with fail
            refine (turned_any (sealF 4 (more32 0) b) _ _ _ r M _ Ho5.out.rd (by omega) (by omega) (by omega)).mono ?_
            rintro e w6 ⟨A6, c6, rfl, ho, hb6⟩
            generalize hC4 : (turn (sealF 4 (more32 0) b) r M 32).2 = C4 at *
            have hz6 := hb6.size
            have Ho6 := Lib.hid ho; clear ho
            have sepHo1Ho6 := Lib.hid (Sep.of_lt Ho1.out Ho6.out (Nat.le_refl _))
            have sepHo2Ho6 := Lib.hid (Sep.of_lt Ho2.out Ho6.out (Nat.le_refl _))
            have sepHo3Ho6 := Lib.hid (Sep.of_lt Ho3.out Ho6.out (Nat.le_refl _))
            have sepHo4Ho6 := Lib.hid (Sep.of_lt Ho4.out Ho6.out (Nat.le_refl _))
            have sepHo5Ho6 := Lib.hid (Sep.of_lt Ho5.out Ho6.out (Nat.le_refl _))
            have hB6 := hB5.trans (hb6.mono hB5.size)
            replace Ho1 := Lib.hid (Ho1.out.below hb6)
            replace Ho2 := Lib.hid (Ho2.out.below hb6)
            replace Ho3 := Lib.hid (Ho3.out.below hb6)
            replace Ho4 := Lib.hid (Ho4.out.below hb6)
            replace Ho5 := Lib.hid (Ho5.out.below hb6)
            replace Hr := Lib.hid (Hr.out.below hb6)
            have HC3 := Lib.hid hC3; clear hC3
            have HC4 := Lib.hid hC4; clear hC4
            go_wp2_with fail
            refine (open16_any _ _ _ _ _ Ho4.out.rd Ho4.out.cap (by omega)).mono ?_
            rintro e w7 ⟨A7, n7, c7, rfl, ho, hb7⟩
            rw [Hp.out] at ho ⊢
            obtain rfl : n7 = 0 := ho.len.symm
            have hz7 := hb7.size
            have Ho7 := Lib.hid ho; clear ho
            have sepHo1Ho7 := Lib.hid (Sep.of_lt Ho1.out Ho7.out (Nat.le_refl _))
            have sepHo2Ho7 := Lib.hid (Sep.of_lt Ho2.out Ho7.out (Nat.le_refl _))
            have sepHo3Ho7 := Lib.hid (Sep.of_lt Ho3.out Ho7.out (Nat.le_refl _))
            have sepHo4Ho7 := Lib.hid (Sep.of_lt Ho4.out Ho7.out (Nat.le_refl _))
            have sepHo5Ho7 := Lib.hid (Sep.of_lt Ho5.out Ho7.out (Nat.le_refl _))
            have sepHo6Ho7 := Lib.hid (Sep.of_lt Ho6.out Ho7.out (Nat.le_refl _))
            have hB7 := hB6.trans (hb7.mono hB6.size)
            replace Ho1 := Lib.hid (Ho1.out.below hb7)
            replace Ho2 := Lib.hid (Ho2.out.below hb7)
            replace Ho3 := Lib.hid (Ho3.out.below hb7)
            replace Ho4 := Lib.hid (Ho4.out.below hb7)
            replace Ho5 := Lib.hid (Ho5.out.below hb7)
            replace Ho6 := Lib.hid (Ho6.out.below hb7)
            replace Hr := Lib.hid (Hr.out.below hb7)
            go_wp2_with fail
            refine (open32_any _ _ _ _ _ Ho6.out.rd Ho6.out.cap (by omega)).mono ?_
            rintro e w8 ⟨A8, n8, c8, rfl, ho, hb8⟩
            rw [Hq.out] at ho ⊢
            obtain rfl : n8 = 0 := ho.len.symm
            have hz8 := hb8.size
            have Ho8 := Lib.hid ho; clear ho
            have sepHo1Ho8 := Lib.hid (Sep.of_lt Ho1.out Ho8.out (Nat.le_refl _))
            have sepHo2Ho8 := Lib.hid (Sep.of_lt Ho2.out Ho8.out (Nat.le_refl _))
            have sepHo3Ho8 := Lib.hid (Sep.of_lt Ho3.out Ho8.out (Nat.le_refl _))
            have sepHo4Ho8 := Lib.hid (Sep.of_lt Ho4.out Ho8.out (Nat.le_refl _))
            have sepHo5Ho8 := Lib.hid (Sep.of_lt Ho5.out Ho8.out (Nat.le_refl _))
            have sepHo6Ho8 := Lib.hid (Sep.of_lt Ho6.out Ho8.out (Nat.le_refl _))
            have sepHo7Ho8 := Lib.hid (Sep.of_lt Ho7.out Ho8.out (Nat.le_refl _))
            have hB8 := hB7.trans (hb8.mono hB7.size)
            replace Ho1 := Lib.hid (Ho1.out.below hb8)
            replace Ho2 := Lib.hid (Ho2.out.below hb8)
            replace Ho3 := Lib.hid (Ho3.out.below hb8)
            replace Ho4 := Lib.hid (Ho4.out.below hb8)
            replace Ho5 := Lib.hid (Ho5.out.below hb8)
            replace Ho6 := Lib.hid (Ho6.out.below hb8)
            replace Ho7 := Lib.hid (Ho7.out.below hb8)
            replace Hr := Lib.hid (Hr.out.below hb8)
            go_wp2_with fail
            refine (known_any _).mono ?_
            rintro e w9 ⟨rfl, hb9⟩
            have hz9 := hb9.size
            have hB9 := hB8.trans (hb9.mono hB8.size)
            replace Ho1 := Lib.hid (Ho1.out.below hb9)
            replace Ho2 := Lib.hid (Ho2.out.below hb9)
            replace Ho3 := Lib.hid (Ho3.out.below hb9)
            replace Ho4 := Lib.hid (Ho4.out.below hb9)
            replace Ho5 := Lib.hid (Ho5.out.below hb9)
            replace Ho6 := Lib.hid (Ho6.out.below hb9)
            replace Ho7 := Lib.hid (Ho7.out.below hb9)
            replace Ho8 := Lib.hid (Ho8.out.below hb9)
            replace Hr := Lib.hid (Hr.out.below hb9)
            go_wp2_with fail
            go_ret
            exact ⟨rfl, hB9⟩
end Go.Proofs.Ytemiahjdacckgaa
