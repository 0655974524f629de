/- Contracts for the laws PackBack and PackRises: what the functions they call return, and their own walks. -/
import Derived.Test.YtomjfnjlihhpmaaPack2
namespace Go.Proofs.Ytomjfnjlihhpmaa
set_option linter.unusedVariables false
open Go Go.RowKit Go.Out

theorem least_any (v n : Nat) (w : World) (hv : v < 2 ^ 64) (h1 : 1 ≤ n) (h8 : n ≤ 8) :
    Calls Try.prog 21 #[.int .u64 v, .int .i64 n] w fun e w' => e = .returned (.int .u64 ((v % 256 ^ n : Nat) : Int)) ∧ w = w' := by
  have Hv := Lib.hid hv; clear hv
  rcases Nat.lt_or_ge n 8 with h | h
  · go_enter Try.func21, Try.ntmps21
    go_wp2_with fail
    go_ret
    exact ⟨ret_int (by rw [← mask_low v n h1 (by omega) Hv.out]), rfl⟩
  · obtain rfl : n = 8 := by omega
    go_enter Try.func21, Try.ntmps21
    go_wp2_with fail
    go_ret
    exact ⟨ret_int (by have := Hv.out; rw [Nat.mod_eq_of_lt (by omega)]), rfl⟩

theorem lawPackBack (b : List UInt8) (A : Option Addr) (m c : Nat) (more : List UInt8) (A' : Option Addr) (m' c' : Nat) (v : Int) (w : World) (hr : Rd w A m (b.map cB)) (hc : m ≤ c) (hm : c ≤ 9223372036854775807) (_ : c * 1 ≤ 140737488351232) (hr' : Rd w A' m' (more.map cB)) (hc' : m' ≤ c') (hm' : c' ≤ 9223372036854775807) (_ : c' * 1 ≤ 140737488351232) (wfv : (Lit.int .u64 v).wf = true) :
    Calls Try.prog 5 #[.slice A m c, .slice A' m' c', .int .u64 v] w fun e w' => e = .returned (.bool true) ∧ Below w.heap.size w w' := by
  have Hr := Lib.hid hr; have Hr' := Lib.hid hr'; clear hr hr'
  obtain ⟨v, rfl⟩ := Int.eq_ofNat_of_zero_le (bounds_u64 wfv).1
  have Hv : Hid (v < 2 ^ 64) := by have := (bounds_u64 wfv).2; unfold Hid; omega
  clear wfv
  by_cases hbig : 65536 < m ∨ 65536 < m'
  · rcases Nat.lt_or_ge 65536 m with h1 | h1
    all_goals try (have h2 : 65536 < m' := by omega)
    all_goals
      clear hbig
      go_enter Try.func5, Try.ntmps5
      go_wp2_with fail
      refine (works_any _).mono ?_
      rintro e w1 ⟨rfl, hb⟩
      go_wp2_with fail
      go_ret
      exact ⟨rfl, hb⟩
  · have h1 : m ≤ 65536 := by omega
    have h2 : m' ≤ 65536 := by omega
    clear hbig
    go_enter Try.func5, Try.ntmps5
    go_wp2_with fail
    go_loopw [7] (fun i wr => ∃ n : Nat, 1 ≤ n ∧ n ≤ 9 ∧ i = .int .i64 n ∧ Below w.heap.size w wr) (fun i _ => 9 - (intOf i).toNat)
    case atStart => exact ⟨1, by omega, by omega, rfl, Below.refl _ _⟩
    case round =>
      obtain ⟨n, hn1, hn9, rfl, hbel⟩ := hrel
      by_cases hlt : n ≤ 8
      · have hz := hbel.size
        go_wp2_with fail
        refine (least_any v n _ Hv.out hn1 hlt).mono ?_
        rintro e w1 ⟨rfl, rfl⟩
        have hw : v % 256 ^ n < 256 ^ n := Nat.mod_lt _ (pow_pos256 n)
        generalize v % 256 ^ n = W at *
        have Hw := Lib.hid hw; clear hw
        go_wp2_with fail
        refine (put_ok b _ _ _ W n _ (Hr.out.below hbel) (by omega) hn1 hlt Hw.out).mono ?_
        rintro e w1 ⟨A1, c1, rfl, ho1, hb1⟩
        have Ho1 := Lib.hid ho1; clear ho1
        have hz1 := hb1.size
        have hcap1 := Ho1.out.cap
        go_wp2_with fail
        refine (same_any b b _ _ _ _ _ _ _ (by have h := Ho1.out.rd.take (k := m) (by omega); rw [← List.map_take, List.take_append_of_le_length (by have := Hr.out.length; omega), List.take_of_length_le (by have := Hr.out.length; omega)] at h; exact h) ((Hr.out.below hbel).below hb1) (by unfold maxLen; omega)).mono ?_
        rintro e w2 ⟨rfl, hb2⟩
        rw [decide_eq_true rfl]
        have hz2 := hb2.size
        go_wp2_with (at_builtin; refine app_u8 _ rfl (.tmp 56) (.tmp 57) rfl rfl (Ho1.out.below hb2) rfl (((Hr'.out.below hbel).below hb1).below hb2) isU8_map (by omega) (by omega) ?_; intro A2 c2 w3 hown2 hg2 hbk2)
        have hz3 := hg2.size
        have Ho3 := Lib.hid hown2; clear hown2
        have hcap3 := Ho3.out.cap
        have hcm3 := Ho3.out.capLe
        refine (get_ok ((b ++ be W n) ++ more) _ _ _ m n _ (by have h := Ho3.out.rd; rwa [← List.map_append] at h) hcap3 hcm3 hn1 hlt (by omega)).mono ?_
        rintro e w4 ⟨rfl, hb4⟩
        have hnum : num ((((b ++ be W n) ++ more).drop m).take n) = W := by
          have hl := Hr.out.length
          rw [List.append_assoc, List.drop_append_of_le_length (by omega), List.drop_of_length_le (by omega), List.nil_append, List.take_append_of_le_length (by rw [be_length]; omega), List.take_of_length_le (by rw [be_length]; omega), num_be, Nat.mod_eq_of_lt Hw.out]
        rw [hnum]
        clear hnum
        have ht : ((W : Int) != (W : Int)) = false := by simp
        have hb3 : Below w.heap.size w w3 := ((hbel.trans (hb1.mono hz)).trans (hb2.mono (by omega))).grown hg2 (by omega) (fun g hg => by have := (Ho1.out.lt g hg).1; omega)
        go_wp2_with fail
        go_roundw
        case rel => exact ⟨n + 1, by omega, by omega, by go_num, hb3.trans (hb4.mono (by omega))⟩
        case measure => simp [intOf]; omega
      · go_wp2_with fail
        refine (works_any _).mono ?_
        rintro e w1 ⟨rfl, hb⟩
        go_wp2_with fail
        go_ret
        exact ⟨rfl, hbel.trans (hb.mono hbel.size)⟩

end Go.Proofs.Ytomjfnjlihhpmaa
