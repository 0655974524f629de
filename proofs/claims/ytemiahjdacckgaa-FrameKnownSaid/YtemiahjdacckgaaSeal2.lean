/- Contracts of the reference's seals. (genseal.py prints this.) -/
import Derived.Test.YtemiahjdacckgaaSeal
namespace Go.Proofs.Ytemiahjdacckgaa
set_option linter.unusedVariables false
open Go Go.RowKit Go.Out

theorem refSame_any (a b : List UInt8) (A B : Option Addr) (n m ca cb : Nat) (w : World) (ha : Rd w A n (a.map cB)) (hb : Rd w B m (b.map cB)) (hn : n ≤ maxLen) :
    Calls Try.prog 55 #[.slice A n ca, .slice B m cb] w fun e w' => e = .returned (.bool (decide (a = b))) ∧ Below w.heap.size w w' := by
  unfold maxLen at hn
  have hla : a.length = n := by have := ha.1; simpa using this
  have hlb : b.length = m := by have := hb.1; simpa using this
  by_cases hnm : n = m
  · subst hnm
    have Ha := Lib.hid ha; have Hb := Lib.hid hb; have Hla := Lib.hid hla; have Hlb := Lib.hid hlb; clear ha hb hla hlb
    go_enter Try.func55, Try.ntmps55
    go_wp2
    go_loopw [5] (fun i wr => ∃ k : Nat, k ≤ n ∧ i = .int .i64 k ∧ Below w.heap.size w wr ∧ Hid (a.take k = b.take k)) (fun i _ => n - (intOf i).toNat)
    case atStart => exact ⟨0, Nat.zero_le _, rfl, Below.refl _ _, by simp [Hid]⟩
    case round =>
      obtain ⟨k, hk, rfl, hbel, htk⟩ := hrel
      by_cases hlt : k < n
      · obtain ⟨b1, o1, rfl, -, hl1, hc1⟩ := ((Ha.out).below hbel).u8at hlt
        obtain ⟨b2, o2, rfl, -, hl2, hc2⟩ := ((Hb.out).below hbel).u8at hlt
        by_cases heq : a[k] = b[k]
        · have ht : ((a[k].toNat : Int) != (b[k].toNat : Int)) = false := by simp [heq]
          go_wp2
          go_quiet (fail)
          go_wp2
          go_roundw
          case rel => exact ⟨k + 1, by omega, by go_num, below_drewN hbel _, by unfold Hid at htk ⊢; rw [List.take_succ_eq_append_getElem hl1, List.take_succ_eq_append_getElem hl2]; simp [htk, heq]⟩
          case measure => simp [intOf]; omega
        · have ht : ((a[k].toNat : Int) != (b[k].toNat : Int)) = true := by simp; intro h; exact heq (UInt8.toNat.inj (by omega))
          go_wp2
          go_quiet (fail)
          go_wp2
          go_ret
          exact ⟨ret_bool (by symm; rw [decide_eq_false_iff_not]; intro h; subst h; exact heq rfl), below_drewN hbel _⟩
      · go_wp2
        go_ret
        exact ⟨ret_bool (by symm; rw [decide_eq_true_eq]; have h := htk.out; rwa [List.take_of_length_le (by have := Hla.out; omega), List.take_of_length_le (by have := Hlb.out; omega)] at h), hbel⟩
  · have H := Lib.hid hla; clear hla
    have H' := Lib.hid hlb; clear hlb
    have ht : ((n : Int) != (m : Int)) = true := by simp; omega
    go_enter Try.func55, Try.ntmps55
    go_wp2
    go_ret
    exact ⟨by simp; intro h; subst h; exact hnm (H.out.symm.trans H'.out), Below.refl _ _⟩

theorem refSeal16_any (b : List UInt8) (A : Option Addr) (m c : Nat) (w : World) (hr : Rd w A m (b.map cB)) (hm : m ≤ 140737488355300) :
    Calls Try.prog 44 #[.slice A m c] w (RetOwn w 5 IsU8 (m + 2) ((sealF 2 (more16 65535) b).map cB)) := by
  have Hr := Lib.hid hr; clear hr
  rw [show sealF 2 (more16 65535) b = b ++ le 2 (more16 65535 b) from rfl]
  go_enter Try.func44, Try.ntmps44
  go_wp2_with fail
  refine (refCrc16_any b _ _ _ _ Hr.out (by omega)).mono ?_
  rintro e w1 ⟨rfl, rfl⟩
  have hlt := more16_lt (r := 65535) (by decide) b
  generalize more16 65535 b = S at *
  go_wp2_with fail
  refine (behind_any b _ _ _ S 2 _ Hr.out hm (by omega) (by omega)).mono ?_
  rintro e w1 ⟨A1, c1, rfl, ho, hb⟩
  go_wp2_with fail
  go_ret
  exact ⟨_, _, rfl, ho, hb⟩

theorem refOpen16_any (b : List UInt8) (A : Option Addr) (m c : Nat) (w : World) (hr : Rd w A m (b.map cB)) (hc : m ≤ c) (hm : m ≤ 140737488355300) :
    Calls Try.prog 42 #[.slice A m c] w (RetS w 5 (openF 2 (more16 65535) b)) := by
  have hl := hr.length
  have Hr := Lib.hid hr; clear hr
  rcases Nat.lt_or_ge m 2 with h | h
  · rw [show openF 2 (more16 65535) b = ([], 1) from by unfold openF; rw [if_pos (by omega)]]
    go_enter Try.func42, Try.ntmps42
    go_wp2_with fail
    go_ret2
    exact ⟨_, _, _, rfl, Own.nil_ _ _ _ _, Below.refl _ _⟩
  · obtain ⟨n, hn⟩ : ∃ n, m = n + 2 := ⟨m - 2, by omega⟩
    have hsub : (m : Int) - 2 = (n : Int) := by omega
    have hof : openF 2 (more16 65535) b = if sealF 2 (more16 65535) (b.take n) = b then (b.take n, 0) else ([], 5) := by unfold openF; rw [if_neg (by omega), show b.length - 2 = n from by omega]
    rw [hof]
    have hra := Hr.out.take (k := n) (by omega)
    rw [← List.map_take] at hra
    have Hra := Lib.hid hra; have Hn := Lib.hid hn; clear hra hn hof hl
    have hnc : n ≤ c := by have := Hn.out; omega
    have hnm : n ≤ 140737488355300 := by have := Hn.out; omega
    by_cases heq : sealF 2 (more16 65535) (b.take n) = b
    all_goals
      have hd : decide (sealF 2 (more16 65535) (b.take n) = b) = decide (sealF 2 (more16 65535) (b.take n) = b) := rfl
      simp only [heq, decide_true, decide_false] at hd
      generalize hL : b.take n = L at *
      have HL := Lib.hid hL; clear hL
      go_enter Try.func42, Try.ntmps42
      go_wp2_with fail
      refine (refSeal16_any L _ _ _ _ Hra.out (by omega)).mono ?_
      rintro e w1 ⟨A1, c1, rfl, ho1, hb1⟩
      have hz1 := hb1.size
      have Ho1 := Lib.hid ho1; clear ho1
      go_wp2_with fail
      refine (refSame_any _ b _ _ _ _ _ _ _ Ho1.out.rd (Hr.out.below hb1) (by unfold maxLen; omega)).mono ?_
      rintro e w2 ⟨rfl, hb2⟩
      have hbb := hb1.trans (hb2.mono hz1)
      have HR2 := Lib.hid (Hra.out.below hbb)
      have hz2 := hbb.size
    · rw [decide_eq_true heq]
      go_wp2_with fail
      refine (behind_any L _ _ _ 0 0 _ HR2.out (by omega) (by omega) (by omega)).mono ?_
      rintro e w3 ⟨A3, c3, rfl, ho3, hb3⟩
      go_wp2_with fail
      go_ret2
      exact ⟨_, _, _, rfl, by simpa [le] using ho3.mono hz2, hbb.trans (hb3.mono hz2)⟩
    · rw [decide_eq_false heq]
      go_wp2_with fail
      go_ret2
      exact ⟨_, _, _, rfl, Own.nil_ _ _ _ _, hbb⟩

theorem refSeal32_any (b : List UInt8) (A : Option Addr) (m c : Nat) (w : World) (hr : Rd w A m (b.map cB)) (hm : m ≤ 140737488355300) :
    Calls Try.prog 45 #[.slice A m c] w (RetOwn w 5 IsU8 (m + 4) ((sealF 4 (more32 0) b).map cB)) := by
  have Hr := Lib.hid hr; clear hr
  rw [show sealF 4 (more32 0) b = b ++ le 4 (more32 0 b) from rfl]
  go_enter Try.func45, Try.ntmps45
  go_wp2_with fail
  refine (refCrc32_any b _ _ _ _ Hr.out (by omega)).mono ?_
  rintro e w1 ⟨rfl, rfl⟩
  have hlt := more32_lt (r := 0) (by decide) b
  generalize more32 0 b = S at *
  go_wp2_with fail
  refine (behind_any b _ _ _ S 4 _ Hr.out hm (by omega) (by omega)).mono ?_
  rintro e w1 ⟨A1, c1, rfl, ho, hb⟩
  go_wp2_with fail
  go_ret
  exact ⟨_, _, rfl, ho, hb⟩

theorem refOpen32_any (b : List UInt8) (A : Option Addr) (m c : Nat) (w : World) (hr : Rd w A m (b.map cB)) (hc : m ≤ c) (hm : m ≤ 140737488355300) :
    Calls Try.prog 43 #[.slice A m c] w (RetS w 5 (openF 4 (more32 0) b)) := by
  have hl := hr.length
  have Hr := Lib.hid hr; clear hr
  rcases Nat.lt_or_ge m 4 with h | h
  · rw [show openF 4 (more32 0) b = ([], 1) from by unfold openF; rw [if_pos (by omega)]]
    go_enter Try.func43, Try.ntmps43
    go_wp2_with fail
    go_ret2
    exact ⟨_, _, _, rfl, Own.nil_ _ _ _ _, Below.refl _ _⟩
  · obtain ⟨n, hn⟩ : ∃ n, m = n + 4 := ⟨m - 4, by omega⟩
    have hsub : (m : Int) - 4 = (n : Int) := by omega
    have hof : openF 4 (more32 0) b = if sealF 4 (more32 0) (b.take n) = b then (b.take n, 0) else ([], 5) := by unfold openF; rw [if_neg (by omega), show b.length - 4 = n from by omega]
    rw [hof]
    have hra := Hr.out.take (k := n) (by omega)
    rw [← List.map_take] at hra
    have Hra := Lib.hid hra; have Hn := Lib.hid hn; clear hra hn hof hl
    have hnc : n ≤ c := by have := Hn.out; omega
    have hnm : n ≤ 140737488355300 := by have := Hn.out; omega
    by_cases heq : sealF 4 (more32 0) (b.take n) = b
    all_goals
      have hd : decide (sealF 4 (more32 0) (b.take n) = b) = decide (sealF 4 (more32 0) (b.take n) = b) := rfl
      simp only [heq, decide_true, decide_false] at hd
      generalize hL : b.take n = L at *
      have HL := Lib.hid hL; clear hL
      go_enter Try.func43, Try.ntmps43
      go_wp2_with fail
      refine (refSeal32_any L _ _ _ _ Hra.out (by omega)).mono ?_
      rintro e w1 ⟨A1, c1, rfl, ho1, hb1⟩
      have hz1 := hb1.size
      have Ho1 := Lib.hid ho1; clear ho1
      go_wp2_with fail
      refine (refSame_any _ b _ _ _ _ _ _ _ Ho1.out.rd (Hr.out.below hb1) (by unfold maxLen; omega)).mono ?_
      rintro e w2 ⟨rfl, hb2⟩
      have hbb := hb1.trans (hb2.mono hz1)
      have HR2 := Lib.hid (Hra.out.below hbb)
      have hz2 := hbb.size
    · rw [decide_eq_true heq]
      go_wp2_with fail
      refine (behind_any L _ _ _ 0 0 _ HR2.out (by omega) (by omega) (by omega)).mono ?_
      rintro e w3 ⟨A3, c3, rfl, ho3, hb3⟩
      go_wp2_with fail
      go_ret2
      exact ⟨_, _, _, rfl, by simpa [le] using ho3.mono hz2, hbb.trans (hb3.mono hz2)⟩
    · rw [decide_eq_false heq]
      go_wp2_with fail
      go_ret2
      exact ⟨_, _, _, rfl, Own.nil_ _ _ _ _, hbb⟩

end Go.Proofs.Ytemiahjdacckgaa
