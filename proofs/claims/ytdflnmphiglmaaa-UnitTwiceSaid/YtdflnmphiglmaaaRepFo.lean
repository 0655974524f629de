/- What is read of bytes may be an answer, and is made into the same bytes (chapter 04); exceptions. Plain laws. -/
import Derived.Test.YtdflnmphiglmaaaRepLaw
import Derived.Test.YtdflnmphiglmaaaRepGA
import Derived.Test.YtdflnmphiglmaaaRepP2
import Derived.Test.YtdflnmphiglmaaaRepK
import Derived.Test.YtdflnmphiglmaaaAskKit
import Derived.Test.YtdflnmphiglmaaaAskS2
namespace Go.Out
open Go Go.RowKit
set_option linter.unusedVariables false

theorem many_of3 {a : AskD} (h : checkF a = 0) (hc : a.code = 3 ∨ a.code = 4) : 1 ≤ a.count ∧ a.count ≤ 125 := by
  obtain ⟨h1, h2, h3, h4, h5, h6, h7, h8⟩ := checkF_parts a h
  have h1 : manyF a = a.count := by unfold manyF; rw [if_pos (by unfold isCnt; omega)]
  have h2 : mostF a.code = 125 := by unfold mostF; rw [if_neg (by omega), if_pos hc]
  omega
theorem b0_ne {b : List UInt8} (h : b.length ≠ 0) : ∃ x r, b = x :: r ∧ b0 b = x.toNat := by
  cases b with
  | nil => exact absurd rfl h
  | cons x r => exact ⟨x, r, rfl, rfl⟩
theorem getR_cases {a : AskD} {b : List UInt8} (h : (getR a b).2 = 0) : checkF a = 0 ∧ b.length ≠ 0 ∧
    (((b0 b : Int) = a.code + 128 ∧ (exR b).2 = 0 ∧ (getR a b).1 = (exR b).1) ∨ ((b0 b : Int) = a.code ∧ b.length = lenR a ∧ readR a b = some (getR a b).1)) := by
  unfold getR at h ⊢
  split at h
  · rename_i h1; exact absurd h h1
  · rename_i h1
    rw [if_neg h1]
    have h1 : checkF a = 0 := Classical.not_not.1 h1
    refine ⟨h1, ?_⟩
    split at h
    · simp at h
    · rename_i h2
      rw [if_neg h2]
      refine ⟨h2, ?_⟩
      split at h
      · rename_i h3
        rw [if_pos h3]
        exact .inl ⟨h3, h, rfl⟩
      · rename_i h3
        rw [if_neg h3]
        split at h
        · simp at h
        · rename_i h4
          rw [if_neg h4]
          split at h
          · simp at h
          · rename_i h5
            rw [if_neg h5]
            split at h
            · simp at h
            · rename_i h6
              rw [if_neg h6]
              split at h
              · rename_i r hr
                rw [hr]
                exact .inr ⟨Classical.not_not.1 h4, by omega, rfl⟩
              · simp at h
theorem check_plain {a : AskD} {r : RepD} (hK : checkF a = 0) (h0 : r.exc = 0) (h1 : foreignB a.code r.on.length r.set.length r.files.length = false) (h2 : countedB a r = true) : checkR a r = 0 := by
  unfold checkR
  rw [if_neg (by simp [hK]), if_neg (by simp [h0]), if_neg (by simp [h1]), if_neg (by simp [h2])]
theorem check_ex {a : AskD} {e : Nat} (hK : checkF a = 0) (h1 : 1 ≤ e) (h2 : e ≤ 127) : checkR a ⟨(e : Nat), [], [], []⟩ = 0 := by
  unfold checkR
  rw [if_neg (by simp [hK]), if_pos (by simp only; omega), if_neg (by simp only; omega), if_neg (by simp)]
theorem cons2 {b : List UInt8} {c n : Nat} (h0 : b0 b = c) (h1 : (b.getD 1 0).toNat = n) (h : 2 ≤ b.length) : UInt8.ofNat c :: UInt8.ofNat n :: b.drop 2 = b := by
  obtain ⟨x0, x1, r, rfl⟩ := len2 h
  subst h0; subst h1
  show UInt8.ofNat x0.toNat :: UInt8.ofNat x1.toNat :: r = _
  rw [u8_eq_of (x := x0) rfl, u8_eq_of (x := x1) rfl]
theorem noParts {a : AskD} (h : checkF a = 0) (hp : ¬ plainC a.code) : a.parts = [] := by
  rcases ask_cases h with ⟨c, A, n, _, _, _, _, _, rfl⟩ | ⟨A, x, _, rfl⟩ | ⟨A, v, _, rfl⟩ | ⟨A, l, _, _, _, rfl⟩ | ⟨A, l, _, _, _, rfl⟩ | ⟨l, _, _, _, rfl⟩
  · rfl
  · rfl
  · rfl
  · rfl
  · rfl
  · exact absurd (by unfold plainC; simp) hp
theorem check_rep0 {a : AskD} (h : checkF a = 0) (hp : ¬ plainC a.code) : checkR a rep0 = 0 := by
  have hq := hp
  unfold plainC at hq
  refine check_plain h rfl ?_ ?_
  · unfold foreignB; rw [if_neg (by omega), if_neg (by omega), if_neg (by omega)]; rfl
  · unfold countedB; rw [if_neg (by omega), if_neg (by omega), noParts h hp]; rfl
/-- What is read may be an answer, and is made into the same bytes. -/
theorem putR_getR {a : AskD} {b : List UInt8} (h : (getR a b).2 = 0) : checkR a (getR a b).1 = 0 ∧ putR a (getR a b).1 = (b, 0) := by
  obtain ⟨hK, hb, h | h⟩ := getR_cases h
  · obtain ⟨h1, h2, h3⟩ := h
    rw [h3]
    have hcl := code_lt hK
    unfold exR at h2 ⊢
    split at h2
    · simp at h2
    · rename_i q1
      rw [if_neg q1]
      split at h2
      · simp at h2
      · rename_i q2
        rw [if_neg q2]
        split at h2
        · simp at h2
        · rename_i q3
          rw [if_neg q3]
          obtain ⟨x0, x1, r, rfl⟩ := len2 (b := b) (by omega)
          have hr : r = [] := by
            cases r with
            | nil => rfl
            | cons _ _ => simp at q2
          subst hr
          have h1' : (x0.toNat : Int) = a.code + 128 := h1
          have q3' : ¬ (x1 = 0 ∨ 127 < x1.toNat) := q3
          have hx1 : 1 ≤ x1.toNat := by
            rcases Nat.eq_zero_or_pos x1.toNat with hz | hz
            · exact absurd (.inl (UInt8.toNat.inj (by rw [hz]; rfl))) q3'
            · exact hz
          have hck := check_ex (a := a) (e := x1.toNat) hK hx1 (by omega)
          refine ⟨hck, ?_⟩
          show putR a ⟨((x1.toNat : Nat) : Int), [], [], []⟩ = _
          rw [putR_ex hck hx1 rfl, show (a.code + 128).toNat = x0.toNat by omega, u8_eq_of (x := x0) rfl, u8_eq_of (x := x1) rfl]
  · obtain ⟨h1, h2, h3⟩ := h
    generalize (getR a b).1 = r at *
    have hcl := code_lt hK
    by_cases hp : plainC a.code
    · by_cases hbad : ((b.getD 1 0).toNat : Int) = (b.length : Int) - 2
      · have hl2 : 2 ≤ b.length := by
          rw [h2]
          rcases plainC_cases hp with hc | hc | hc
          · rw [lenR1 hc]; omega
          · rw [lenR3 hc]; omega
          · rw [lenR20 hc]; omega
        have key : checkR a r = 0 → r.exc = 0 → bodyR a r = b.drop 2 → checkR a r = 0 ∧ putR a r = (b, 0) := fun k1 k2 k3 => by
          refine ⟨k1, ?_⟩
          rw [putR_plain k1 k2 hp, k3]
          have hd : (b.drop 2).length = b.length - 2 := List.length_drop
          rw [cons2 (c := a.code.toNat) (n := (b.drop 2).length) (by omega) (by omega) hl2]
        rcases plainC_cases hp with hc | hc | hc
        · rw [readR1 hc hbad] at h3
          split at h3
          · rename_i hz
            injection h3 with h3
            subst h3
            obtain ⟨u1, u2⟩ := unbitsF_zero hz
            refine key (check_plain hK rfl ?_ ?_) rfl ?_
            · unfold foreignB; rw [if_pos hc]; simp
            · unfold countedB; rw [if_pos hc]; simpa using u1
            · rw [bodyR1 hc]; exact u2
          · simp at h3
        · rw [readR3 hc hbad] at h3
          injection h3 with h3
          subst h3
          have hm := many_of3 hK hc
          rw [lenR3 hc] at h2
          refine key (check_plain hK rfl ?_ ?_) rfl ?_
          · unfold foreignB; rw [if_neg (by omega), if_pos hc]; simp
          · unfold countedB; rw [if_neg (by omega), if_pos hc]
            simp only [bw_length, List.length_drop, decide_eq_true_eq]
            omega
          · rw [bodyR3 hc]; exact wb_bw _ (by rw [List.length_drop]; omega)
        · rw [readR20 hc hbad] at h3
          rw [lenR20 hc] at h2
          obtain ⟨p1, p2⟩ := partsF_zero (checkF_parts a hK).2.2.2.2.2.2.2
          have p3 := sumP_nonneg p1
          cases hf : filesOf a.parts (b.drop 2) with
          | none => rw [hf] at h3; simp at h3
          | some l =>
            rw [hf] at h3
            simp only [Option.map_some, Option.some.injEq] at h3
            subst h3
            obtain ⟨f1, f2⟩ := filesOf_some hf p1 (by rw [List.length_drop]; omega)
            refine key (check_plain hK rfl ?_ ?_) rfl ?_
            · unfold foreignB; rw [if_neg (by omega), if_neg (by omega), if_pos hc]; simp
            · unfold countedB; rw [if_neg (by omega), if_neg (by omega)]; exact f2
            · rw [bodyR20 hc]; exact f1
      · rw [readR_bad hp hbad] at h3; simp at h3
    · rw [readR_echo hp] at h3
      split at h3
      · rename_i he
        injection h3 with h3
        subst h3
        have hck := check_rep0 hK hp
        refine ⟨hck, ?_⟩
        rw [putR_echo hck rfl hp, he]
      · simp at h3
/-- Any exception answers any right request. -/
theorem ex_law {a : AskD} {e : Int} (hK : checkF a = 0) : (e < 1 ∨ 127 < e → e ≠ 0 → checkR a ⟨e, [], [], []⟩ = 3) ∧ (1 ≤ e ∧ e ≤ 127 → checkR a ⟨e, [], [], []⟩ = 0 ∧ (putR a ⟨e, [], [], []⟩).1 = [UInt8.ofNat (a.code + 128).toNat, UInt8.ofNat e.toNat] ∧ (putR a ⟨e, [], [], []⟩).2 = 0 ∧ getR a [UInt8.ofNat (a.code + 128).toNat, UInt8.ofNat e.toNat] = (⟨e, [], [], []⟩, 0)) := by
  refine ⟨fun h1 h2 => ?_, fun h => ?_⟩
  · unfold checkR
    rw [if_neg (by simp [hK]), if_pos h2, if_pos (by simp only; omega)]
  · obtain ⟨n, rfl⟩ := Int.eq_ofNat_of_zero_le (show 0 ≤ e by omega)
    have hck := check_ex (a := a) (e := n) hK (by omega) (by omega)
    have hp := putR_ex hck (by omega) rfl
    have hg := (getR_putR hck).1
    rw [hp] at hg
    exact ⟨hck, by rw [hp]; rfl, by rw [hp], hg⟩
/-- Of no bytes it is told what is wrong with the request. -/
theorem getR_nil (a : AskD) : getR a [] = (rep0, if checkF a ≠ 0 then checkF a else 1) := by
  unfold getR
  split
  · rename_i h; rfl
  · rfl
end Go.Out

namespace Go.Proofs.Ytdflnmphiglmaaa
set_option linter.unusedVariables false
set_option linter.unusedSimpArgs false
set_option maxRecDepth 100000
set_option maxHeartbeats 2000000
open Go Go.RowKit Go.Out

def ask2 : AskD := ⟨3, 0, 2, [], [], []⟩
def rep2 : RepD := ⟨0, [], [1, 512], []⟩
theorem ask2_rd (w : World) : AskRd w ask2 askS0 :=
  ⟨Rd.nil_ _, Rd.nil_ _, RdL.nil_ _ _ _, by unfold i64P ask2; simp, by unfold i64P ask2; simp, by unfold i64P ask2; simp, by simp [askS0], by simp [askS0], by simp [askS0]⟩
theorem rep2_rd {w : World} {A : Option Addr} (h : Rd w A 2 (([1, 512] : List UInt16).map cW)) : RepRd w rep2 ⟨none, 0, 0, A, 2, 2, none, 0, 0⟩ :=
  ⟨Rd.nil_ _, h, RdL.nil_ _ _ _, by unfold i64P rep2; simp, by simp, by simp, by simp⟩
theorem put2 : putR ask2 rep2 = ([3, 4, 0, 1, 2, 0], 0) := by decide +kernel
theorem check2 : checkR ask2 rep2 = 0 := by decide +kernel
theorem get2 : getR ask2 [3, 4, 0, 1, 2, 0] = (rep2, 0) := by
  have h := (getR_putR check2).1
  rwa [put2] at h
theorem lit6 (w : World) (g : Nat) (hg : g = w.heap.size) : Rd (w.alloc (.cells #[.int .u8 3, .int .u8 4, .int .u8 0, .int .u8 1, .int .u8 2, .int .u8 0] 5)) (some ⟨g, 0, none⟩) 6 (([3, 4, 0, 1, 2, 0] : List UInt8).map cB) :=
  Rd.of_heap (ys := []) (heap_at _ _ _ hg) rfl rfl
end Go.Proofs.Ytdflnmphiglmaaa

namespace Go.Proofs.Ytdflnmphiglmaaa
set_option linter.unusedVariables false
set_option linter.unusedSimpArgs false
set_option maxRecDepth 100000
set_option maxHeartbeats 2000000
open Go Go.RowKit Go.Out

theorem same_reply (r : RepD) (s t : RepS) (W : World) (h1 : RepRd W r s) (h2 : RepRd W r t) : Calls Try.prog 11 #[repV r s, repV r t] W (RetQ W true) :=
  sameReply_eq r s t W h1 h2 (Nat.le_trans h1.cap1.1 h1.cap1.2) (Nat.le_trans h1.cap2.1 h1.cap2.2) (Nat.le_trans h1.cap3.1 h1.cap3.2)
theorem rep0_rd (w : World) : RepRd w rep0 repS0 := ⟨Rd.nil_ _, Rd.nil_ _, RdL.nil_ _ _ _, by unfold i64P rep0; simp, by simp [repS0], by simp [repS0], by simp [repS0]⟩
end Go.Proofs.Ytdflnmphiglmaaa
