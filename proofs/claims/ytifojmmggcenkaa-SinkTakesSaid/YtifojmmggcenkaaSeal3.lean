/- Contracts of the reference's seals. -/
import Derived.Test.YtifojmmggcenkaaStreamLaw
import Derived.Test.YtifojmmggcenkaaSums2
import Derived.StillTailTactics
namespace Go.Proofs.Ytifojmmggcenkaa
set_option linter.unusedVariables false
open Go Go.RowKit Go.Out

/-- A call that hands back bytes of its own and an error's number. -/
def RetS (w : World) (t : TypeId) (l : List UInt8 × Int) (e : Ending) (w' : World) : Prop :=
  ∃ A n c, e = .returned (.tuple #[.slice A n c, .int .i64 l.2]) ∧ Own w' w.heap.size t IsU8 A n c (l.1.map cB) ∧ Below w.heap.size w w'

theorem behind_any (b : List UInt8) (A : Option Addr) (m c : Nat) (v n : Nat) (w : World) (hr : Rd w A m (b.map cB)) (hm : m ≤ 140737488355300) (hv : v < 4294967296) (hn : n ≤ 4) :
    Calls Try.prog 47 #[.slice A m c, .int .u32 v, .int .i64 n] w (RetOwn w 5 IsU8 (m + n) ((b ++ le n v).map cB)) := by
  have hl : b.length = m := by have := hr.1; simpa using this
  have Hv := Lib.hid hv; have Hr := Lib.hid hr; have Hl := Lib.hid hl; clear hv hr hl
  go_enter Try.func47, Try.ntmps47
  go_wp2_with fail
  go_loopw [7, 8] (fun x i wr => ∃ (k c : Nat) (A : Option Addr), k ≤ m ∧ i = .int .i64 k ∧ x = .slice A k c ∧ Own wr w.heap.size 5 IsU8 A k c ((b.take k).map cB) ∧ Below w.heap.size w wr) (fun _ i _ => m - (intOf i).toNat)
  case atStart => exact ⟨0, 0, none, Nat.zero_le _, rfl, rfl, Own.nil_ _ _ _ _, Below.refl _ _⟩
  case round =>
    obtain ⟨k, c1, A1, hk, rfl, rfl, hown, hbel⟩ := hrel
    by_cases hlt : k < m
    · obtain ⟨b1, o1, rfl, -, hl1, hc1⟩ := ((Hr.out).below hbel).u8at hlt
      have hbs := hbel.size
      go_wp2_with (at_builtin; go_must (refine app_u8 _ rfl (.tmp 16) (.tmp 21) rfl rfl (hown.alloc _) rfl (Rd.one _ _ _) (by intro u hu; simp at hu; subst hu; exact ⟨_, rfl⟩) (by omega) (by simp; omega) ?_); intro A2 c2 w2 hown2 hg2 hb2)
      go_roundw
      case rel => exact ⟨k + 1, c2, A2, by omega, by go_num, rfl, by rw [map_take_succ _ _ _ hl1]; exact hown2, below_app hbel hbs hg2 (fun g hg => (hown.lt g hg).1)⟩
      case measure => simp [intOf]; omega
    · obtain rfl : k = m := by omega
      rw [List.take_of_length_le (by have := Hl.out; omega)] at hown
      go_wp2_with fail
      go_loopw [7, 9, 1] (fun x i y wr => ∃ (j c : Nat) (A : Option Addr), j ≤ n ∧ i = .int .i64 j ∧ x = .slice A (k + j) c ∧ y = .int .u32 ((v / 256 ^ j : Nat) : Int) ∧ Own wr w.heap.size 5 IsU8 A (k + j) c ((b ++ le j v).map cB) ∧ Below w.heap.size w wr) (fun _ i _ _ => n - (intOf i).toNat)
      case atStart => exact ⟨0, c1, A1, Nat.zero_le _, rfl, rfl, by simp, by simpa [le] using hown, hbel⟩
      case round =>
        obtain ⟨j, c2, A2, hj, rfl, rfl, rfl, hown2, hbel2⟩ := hrel
        by_cases hjn : j < n
        · have hbs := hbel2.size
          have hle := le_map_succ b j v
          have hX : v / 256 ^ j < 4294967296 := Nat.lt_of_le_of_lt (Nat.div_le_self _ _) Hv.out
          have hd : v / 256 ^ (j + 1) = v / 256 ^ j / 256 := by rw [Nat.pow_succ, Nat.div_div_eq_div_mul]
          have Hle := Lib.hid hle; have Hd := Lib.hid hd; clear hle hd
          generalize hXe : v / 256 ^ j = X at *
          have e1 : (X : Int).tmod 256 = (X : Int) % 256 := Int.tmod_eq_emod_of_nonneg (by omega)
          have e2 : (X : Int).tdiv 256 = (X : Int) / 256 := Int.tdiv_eq_ediv_of_nonneg (by omega)
          go_wp2_with (at_builtin; go_must (refine app_u8 _ rfl (.tmp 28) (.tmp 32) rfl rfl (hown2.alloc _) rfl (Rd.one _ _ _) (by intro u hu; simp at hu; subst hu; exact isU8_of (by omega) (by omega)) (by omega) (by simp; omega) ?_); intro A3 c3 w3 hown3 hg3 hb3)
          go_roundw
          case rel => exact ⟨j + 1, c3, A3, by omega, by go_num, rfl, by rw [Hd.out]; simp, by rw [Hle.out]; exact hown3, below_app hbel2 hbs hg3 (fun g hg => (hown2.lt g hg).1)⟩
          case measure => simp [intOf]; omega
        · obtain rfl : j = n := by omega
          go_wp2_with fail
          go_ret
          exact ⟨_, _, rfl, hown2, hbel2⟩
end Go.Proofs.Ytifojmmggcenkaa

namespace Go.Proofs.Ytifojmmggcenkaa
set_option linter.unusedVariables false
open Go Go.RowKit Go.Out

theorem refSame_any (a b : List UInt8) (A B : Option Addr) (n m ca cb : Nat) (w : World) (ha : Rd w A n (a.map cB)) (hb : Rd w B m (b.map cB)) (hn : n ≤ maxLen) :
    Calls Try.prog 46 #[.slice A n ca, .slice B m cb] w fun e w' => e = .returned (.bool (decide (a = b))) ∧ Below w.heap.size w w' := by
  unfold maxLen at hn
  have hla : a.length = n := by have := ha.1; simpa using this
  have hlb : b.length = m := by have := hb.1; simpa using this
  by_cases hnm : n = m
  · subst hnm
    have Ha := Lib.hid ha; have Hb := Lib.hid hb; have Hla := Lib.hid hla; have Hlb := Lib.hid hlb; clear ha hb hla hlb
    go_enter Try.func46, Try.ntmps46
    go_wp2
    go_loopw [5] (fun i wr => ∃ k : Nat, k ≤ n ∧ i = .int .i64 k ∧ Below w.heap.size w wr ∧ Hid (a.take k = b.take k)) (fun i _ => n - (intOf i).toNat)
    case atStart => exact ⟨0, Nat.zero_le _, rfl, Below.refl _ _, by simp [Hid]⟩
    case round =>
      obtain ⟨k, hk, rfl, hbel, htk⟩ := hrel
      by_cases hlt : k < n
      · obtain ⟨b1, o1, rfl, -, hl1, hc1⟩ := ((Ha.out).below hbel).u8at hlt
        obtain ⟨b2, o2, rfl, -, hl2, hc2⟩ := ((Hb.out).below hbel).u8at hlt
        by_cases heq : a[k] = b[k]
        · have ht : ((a[k].toNat : Int) != (b[k].toNat : Int)) = false := by simp [heq]
          go_wp2
          go_quiet (fail)
          go_wp2
          go_roundw
          case rel => exact ⟨k + 1, by omega, by go_num, below_drewN hbel _, by unfold Hid at htk ⊢; rw [List.take_succ_eq_append_getElem hl1, List.take_succ_eq_append_getElem hl2]; simp [htk, heq]⟩
          case measure => simp [intOf]; omega
        · have ht : ((a[k].toNat : Int) != (b[k].toNat : Int)) = true := by simp; intro h; exact heq (UInt8.toNat.inj (by omega))
          go_wp2
          go_quiet (fail)
          go_wp2
          go_ret
          exact ⟨ret_bool (by symm; rw [decide_eq_false_iff_not]; intro h; subst h; exact heq rfl), below_drewN hbel _⟩
      · go_wp2
        go_ret
        exact ⟨ret_bool (by symm; rw [decide_eq_true_eq]; have h := htk.out; rwa [List.take_of_length_le (by have := Hla.out; omega), List.take_of_length_le (by have := Hlb.out; omega)] at h), hbel⟩
  · have H := Lib.hid hla; clear hla
    have H' := Lib.hid hlb; clear hlb
    have ht : ((n : Int) != (m : Int)) = true := by simp; omega
    go_enter Try.func46, Try.ntmps46
    go_wp2
    go_ret
    exact ⟨by simp; intro h; subst h; exact hnm (H.out.symm.trans H'.out), Below.refl _ _⟩

theorem refSeal32_any (b : List UInt8) (A : Option Addr) (m c : Nat) (w : World) (hr : Rd w A m (b.map cB)) (hm : m ≤ 140737488355300) :
    Calls Try.prog 44 #[.slice A m c] w (RetOwn w 5 IsU8 (m + 4) ((sealF 4 (more32 0) b).map cB)) := by
  have Hr := Lib.hid hr; clear hr
  rw [show sealF 4 (more32 0) b = b ++ le 4 (more32 0 b) from rfl]
  go_enter Try.func44, Try.ntmps44
  go_wp2_with fail
  refine (refCrc32_any b _ _ _ _ Hr.out (by omega)).mono ?_
  rintro e w1 ⟨rfl, rfl⟩
  have hlt := more32_lt (r := 0) (by decide) b
  generalize more32 0 b = S at *
  go_wp2_with fail
  refine (behind_any b _ _ _ S 4 _ Hr.out hm (by omega) (by omega)).mono ?_
  rintro e w1 ⟨A1, c1, rfl, ho, hb⟩
  go_wp2_with fail
  go_ret
  exact ⟨_, _, rfl, ho, hb⟩

theorem refOpen32_any (b : List UInt8) (A : Option Addr) (m c : Nat) (w : World) (hr : Rd w A m (b.map cB)) (hc : m ≤ c) (hm : m ≤ 140737488355300) :
    Calls Try.prog 37 #[.slice A m c] w (RetS w 5 (openF 4 (more32 0) b)) := by
  have hl := hr.length
  have Hr := Lib.hid hr; clear hr
  rcases Nat.lt_or_ge m 4 with h | h
  · rw [show openF 4 (more32 0) b = ([], 1) from by unfold openF; rw [if_pos (by omega)]]
    go_enter Try.func37, Try.ntmps37
    go_wp2_with fail
    go_ret2
    exact ⟨_, _, _, rfl, Own.nil_ _ _ _ _, Below.refl _ _⟩
  · obtain ⟨n, hn⟩ : ∃ n, m = n + 4 := ⟨m - 4, by omega⟩
    have hsub : (m : Int) - 4 = (n : Int) := by omega
    have hof : openF 4 (more32 0) b = if sealF 4 (more32 0) (b.take n) = b then (b.take n, 0) else ([], 5) := by unfold openF; rw [if_neg (by omega), show b.length - 4 = n from by omega]
    rw [hof]
    have hra := Hr.out.take (k := n) (by omega)
    rw [← List.map_take] at hra
    have Hra := Lib.hid hra; have Hn := Lib.hid hn; clear hra hn hof hl
    have hnc : n ≤ c := by have := Hn.out; omega
    have hnm : n ≤ 140737488355300 := by have := Hn.out; omega
    by_cases heq : sealF 4 (more32 0) (b.take n) = b
    all_goals
      have hd : decide (sealF 4 (more32 0) (b.take n) = b) = decide (sealF 4 (more32 0) (b.take n) = b) := rfl
      simp only [heq, decide_true, decide_false] at hd
      generalize hL : b.take n = L at *
      have HL := Lib.hid hL; clear hL
      go_enter Try.func37, Try.ntmps37
      go_wp2_with fail
      refine (refSeal32_any L _ _ _ _ Hra.out (by omega)).mono ?_
      rintro e w1 ⟨A1, c1, rfl, ho1, hb1⟩
      have hz1 := hb1.size
      have Ho1 := Lib.hid ho1; clear ho1
      go_wp2_with fail
      refine (refSame_any _ b _ _ _ _ _ _ _ Ho1.out.rd (Hr.out.below hb1) (by unfold maxLen; omega)).mono ?_
      rintro e w2 ⟨rfl, hb2⟩
      have hbb := hb1.trans (hb2.mono hz1)
      have HR2 := Lib.hid (Hra.out.below hbb)
      have hz2 := hbb.size
    · rw [decide_eq_true heq]
      go_wp2_with fail
      refine (behind_any L _ _ _ 0 0 _ HR2.out (by omega) (by omega) (by omega)).mono ?_
      rintro e w3 ⟨A3, c3, rfl, ho3, hb3⟩
      go_wp2_with fail
      go_ret2
      exact ⟨_, _, _, rfl, by simpa [le] using ho3.mono hz2, hbb.trans (hb3.mono hz2)⟩
    · rw [decide_eq_false heq]
      go_wp2_with fail
      go_ret2
      exact ⟨_, _, _, rfl, Own.nil_ _ _ _ _, hbb⟩

end Go.Proofs.Ytifojmmggcenkaa

namespace Go.Proofs.Ytifojmmggcenkaa
set_option linter.unusedVariables false
open Go Go.RowKit Go.Out

theorem seal32_any (b : List UInt8) (A : Option Addr) (m c : Nat) (w : World) (hr : Rd w A m (b.map cB)) (hm : m ≤ 140737488355300) :
    Calls Try.prog 36 #[.slice A m c] w (RetOwn w 5 IsU8 (m + 4) ((sealF 4 (more32 0) b).map cB)) := by
  have Hr := Lib.hid hr; clear hr
  have hlt := more32_lt (r := 0) (by decide) b
  rw [show sealF 4 (more32 0) b = b ++ le 4 (more32 0 b) from rfl]
  go_enter Try.func36, Try.ntmps36
  go_wp2_with fail
  refine (crc32_any b _ _ _ _ Hr.out (by omega)).mono ?_
  rintro e w1 ⟨rfl, rfl⟩
  have Hle := Lib.hid (le_four (more32 0 b) hlt)
  generalize more32 0 b = S at *
  have hown0 : Own (w.alloc (.cells #[] 5)) w.heap.size 5 IsU8 (some ⟨w.heap.size, 0, none⟩) 0 0 [] := Own.new w (Nat.le_refl _) _ #[] 0 (by simp) (by simp) (by simp)
  have hr0 : Rd (w.alloc (.cells #[] 5)) A m (b.map cB) := Hr.out.below ((Below.refl _ _).alloc (Nat.le_refl _) _)
  have hb0 : Below w.heap.size w (w.alloc (.cells #[] 5)) := (Below.refl _ _).alloc (Nat.le_refl _) _
  have Ho0 := Lib.hid hown0; have Hr0 := Lib.hid hr0; have Hb0 := Lib.hid hb0; clear hown0 hr0 hb0
  go_wp2_with (at_builtin; first
    | (refine app_u8 _ rfl (.tmp 6) (.tmp 7) rfl rfl Ho0.out rfl Hr0.out isU8_map (by omega) Hb0.out.size ?_; intro A2 c2 w2 hown2 hg2 hbk2; have hb2 := Hb0.out.grown hg2 Hb0.out.size (fun g hg => (Ho0.out.lt g hg).1); have hz2 := hb2.size; rw [List.nil_append, Nat.zero_add] at hown2; rw [Nat.zero_add]; have Ho2 := Lib.hid hown2; clear hown2)
    | (go_must (refine app_u8 _ rfl (.tmp 8) (.tmp 20) rfl rfl (Ho2.out.alloc _) rfl (Rd.marked _ _ _ _ 4 rfl) (by intro u hu; simp at hu; rcases hu with rfl | rfl | rfl | rfl <;> exact isU8_of (by omega) (by omega)) (by omega) (by simp; omega) ?_); intro A3 c3 w3 hown3 hg3 hbk3))
  go_ret
  exact ⟨_, _, rfl, by rw [List.map_append, Hle.out]; simpa using hown3, below_app hb2 hz2 hg3 (fun g hg => (Ho2.out.lt g hg).1)⟩

theorem open32_any (b : List UInt8) (A : Option Addr) (m c : Nat) (w : World) (hr : Rd w A m (b.map cB)) (hc : m ≤ c) (hm : m ≤ 140737488355300) :
    Calls Try.prog 26 #[.slice A m c] w (RetS w 5 (openF 4 (more32 0) b)) := by
  have hl := hr.length
  have Hr := Lib.hid hr; clear hr
  rcases Nat.lt_or_ge m 4 with h | h
  · rw [show openF 4 (more32 0) b = ([], 1) from by unfold openF; rw [if_pos (by omega)]]
    have hneg : (m : Int) - 4 < 0 := by omega
    go_enter Try.func26, Try.ntmps26
    go_wp2_with fail
    go_ret2
    exact ⟨_, _, _, rfl, Own.nil_ _ _ _ _, Below.refl _ _⟩
  · obtain ⟨n, hn⟩ : ∃ n, m = n + 4 := ⟨m - 4, by omega⟩
    have hsub : (m : Int) - 4 = (n : Int) := by omega
    have hof : openF 4 (more32 0) b = openR (sealF 4 (more32 0) (b.take n) = b) (b.take n) := by unfold openF openR; rw [if_neg (by omega), show b.length - 4 = n from by omega]
    rw [hof]
    have hra := Hr.out.take (k := n) (by omega)
    rw [← List.map_take] at hra
    have Hra := Lib.hid hra; clear hra hof
    have hnc : n ≤ c := by omega
    have hnm : n ≤ 140737488355300 := by omega
    have hok := tail_four b n (more32 0 (b.take n)) (by omega)
    rw [show b.take n ++ le 4 (more32 0 (b.take n)) = sealF 4 (more32 0) (b.take n) from rfl] at hok
    have Hok := Lib.hid hok; clear hok
    have hlt := more32_lt (r := 0) (by decide) (b.take n)
    obtain ⟨bk0, ok0, rfl, -, hl0, hc0⟩ := Hr.out.u8at (k := n) (by omega)
    obtain ⟨bk1, ok1, q1, -, hl1, hc1⟩ := Hr.out.u8at (k := n + 1) (by omega)
    injection q1 with q1; injection q1 with q1 q1'; subst q1; subst q1'
    obtain ⟨bk2, ok2, q2, -, hl2, hc2⟩ := Hr.out.u8at (k := n + 2) (by omega)
    injection q2 with q2; injection q2 with q2 q2'; subst q2; subst q2'
    obtain ⟨bk3, ok3, q3, -, hl3, hc3⟩ := Hr.out.u8at (k := n + 3) (by omega)
    injection q3 with q3; injection q3 with q3 q3'; subst q3; subst q3'
    generalize hL : b.take n = L at *
    have HL := Lib.hid hL; clear hL
    generalize b[n].toNat = x0 at *
    generalize b[n + 1].toNat = x1 at *
    generalize b[n + 2].toNat = x2 at *
    generalize b[n + 3].toNat = x3 at *
    have Hn := Lib.hid hn; have Hl := Lib.hid hl; clear hn hl
    have hi0 : n < m := by have := Hn.out; omega
    have hi1 : n + 1 < m := by have := Hn.out; omega
    have hi2 : n + 2 < m := by have := Hn.out; omega
    have hi3 : n + 3 < m := by have := Hn.out; omega
    go_enter Try.func26, Try.ntmps26
    go_wp2_with fail
    refine (crc32_any L _ _ _ _ Hra.out (by omega)).mono ?_
    rintro e w1 ⟨rfl, rfl⟩
    generalize more32 0 L = S at *
    by_cases h0 : x0 = S % 256
    · have ht0 : ((x0 : Int) != (S : Int) % 256) = false := by simp; omega
      by_cases h1 : x1 = S / 256 % 256
      · have ht1 : ((x1 : Int) != (S : Int) / 256 % 256) = false := by simp; omega
        by_cases h2 : x2 = S / 65536 % 256
        · have ht2 : ((x2 : Int) != (S : Int) / 65536 % 256) = false := by simp; omega
          by_cases h3 : x3 = S / 16777216 % 256
          · have ht3 : ((x3 : Int) != (S : Int) / 16777216) = false := by simp; omega
            have hown0 : Own (w.alloc (.cells #[] 5)) w.heap.size 5 IsU8 (some ⟨w.heap.size, 0, none⟩) 0 0 [] := Own.new w (Nat.le_refl _) _ #[] 0 (by simp) (by simp) (by simp)
            have hr0 : Rd (w.alloc (.cells #[] 5)) (some ⟨bk0, ok0, none⟩) n (L.map cB) := Hra.out.below ((Below.refl _ _).alloc (Nat.le_refl _) _)
            have hb0 : Below w.heap.size w (w.alloc (.cells #[] 5)) := (Below.refl _ _).alloc (Nat.le_refl _) _
            have Ho0 := Lib.hid hown0; have Hr0 := Lib.hid hr0; have Hb0 := Lib.hid hb0; clear hown0 hr0 hb0
            go_wp2_with (at_builtin; go_must (refine app_u8 _ rfl (.tmp 55) (.tmp 58) rfl rfl Ho0.out rfl Hr0.out isU8_map (by omega) Hb0.out.size ?_); intro A2 c2 w2 hown2 hg2 hbk2)
            go_ret2
            rw [openR_t (Hok.out.2 ⟨h0, h1, h2, h3⟩)]
            exact ⟨_, _, _, rfl, by simpa using hown2, Hb0.out.grown hg2 Hb0.out.size (fun g hg => (Ho0.out.lt g hg).1)⟩
          · have ht3 : ((x3 : Int) != (S : Int) / 16777216) = true := by simp; omega
            go_wp2_with fail
            go_ret2
            rw [openR_f (fun hh => h3 (Hok.out.1 hh).2.2.2)]
            exact ⟨_, _, _, rfl, Own.nil_ _ _ _ _, Below.refl _ _⟩
        · have ht2 : ((x2 : Int) != (S : Int) / 65536 % 256) = true := by simp; omega
          go_wp2_with fail
          go_ret2
          rw [openR_f (fun hh => h2 (Hok.out.1 hh).2.2.1)]
          exact ⟨_, _, _, rfl, Own.nil_ _ _ _ _, Below.refl _ _⟩
      · have ht1 : ((x1 : Int) != (S : Int) / 256 % 256) = true := by simp; omega
        go_wp2_with fail
        go_ret2
        rw [openR_f (fun hh => h1 (Hok.out.1 hh).2.1)]
        exact ⟨_, _, _, rfl, Own.nil_ _ _ _ _, Below.refl _ _⟩
    · have ht0 : ((x0 : Int) != (S : Int) % 256) = true := by simp; omega
      go_wp2_with fail
      go_ret2
      rw [openR_f (fun hh => h0 (Hok.out.1 hh).1)]
      exact ⟨_, _, _, rfl, Own.nil_ _ _ _ _, Below.refl _ _⟩

end Go.Proofs.Ytifojmmggcenkaa
