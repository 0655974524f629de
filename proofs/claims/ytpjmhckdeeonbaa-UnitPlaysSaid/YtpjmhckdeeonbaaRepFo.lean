/- What is read of bytes may be an answer, and is made into the same bytes (chapter 04); exceptions. Plain laws. -/
import Derived.Test.YtpjmhckdeeonbaaRepLaw
import Derived.Test.YtpjmhckdeeonbaaRepGA
import Derived.Test.YtpjmhckdeeonbaaRepP2
import Derived.Test.YtpjmhckdeeonbaaRepK
import Derived.Test.YtpjmhckdeeonbaaAskKit
import Derived.Test.YtpjmhckdeeonbaaAskS2
namespace Go.Out
open Go Go.RowKit
set_option linter.unusedVariables false

theorem many_of3 {a : AskD} (h : checkF a = 0) (hc : a.code = 3 ∨ a.code = 4) : 1 ≤ a.count ∧ a.count ≤ 125 := by
  obtain ⟨h1, h2, h3, h4, h5, h6, h7, h8⟩ := checkF_parts a h
  have h1 : manyF a = a.count := by unfold manyF; rw [if_pos (by unfold isCnt; omega)]
  have h2 : mostF a.code = 125 := by unfold mostF; rw [if_neg (by omega), if_pos hc]
  omega
theorem b0_ne {b : List UInt8} (h : b.length ≠ 0) : ∃ x r, b = x :: r ∧ b0 b = x.toNat := by
  cases b with
  | nil => exact absurd rfl h
  | cons x r => exact ⟨x, r, rfl, rfl⟩
theorem getR_cases {a : AskD} {b : List UInt8} (h : (getR a b).2 = 0) : checkF a = 0 ∧ b.length ≠ 0 ∧
    (((b0 b : Int) = a.code + 128 ∧ (exR b).2 = 0 ∧ (getR a b).1 = (exR b).1) ∨ ((b0 b : Int) = a.code ∧ b.length = lenR a ∧ readR a b = some (getR a b).1)) := by
  unfold getR at h ⊢
  split at h
  · rename_i h1; exact absurd h h1
  · rename_i h1
    rw [if_neg h1]
    have h1 : checkF a = 0 := Classical.not_not.1 h1
    refine ⟨h1, ?_⟩
    split at h
    · simp at h
    · rename_i h2
      rw [if_neg h2]
      refine ⟨h2, ?_⟩
      split at h
      · rename_i h3
        rw [if_pos h3]
        exact .inl ⟨h3, h, rfl⟩
      · rename_i h3
        rw [if_neg h3]
        split at h
        · simp at h
        · rename_i h4
          rw [if_neg h4]
          split at h
          · simp at h
          · rename_i h5
            rw [if_neg h5]
            split at h
            · simp at h
            · rename_i h6
              rw [if_neg h6]
              split at h
              · rename_i r hr
                rw [hr]
                exact .inr ⟨Classical.not_not.1 h4, by omega, rfl⟩
              · simp at h
theorem check_plain {a : AskD} {r : RepD} (hK : checkF a = 0) (h0 : r.exc = 0) (h1 : foreignB a.code r.on.length r.set.length r.files.length = false) (h2 : countedB a r = true) : checkR a r = 0 := by
  unfold checkR
  rw [if_neg (by simp [hK]), if_neg (by simp [h0]), if_neg (by simp [h1]), if_neg (by simp [h2])]
theorem check_ex {a : AskD} {e : Nat} (hK : checkF a = 0) (h1 : 1 ≤ e) (h2 : e ≤ 127) : checkR a ⟨(e : Nat), [], [], []⟩ = 0 := by
  unfold checkR
  rw [if_neg (by simp [hK]), if_pos (by simp only; omega), if_neg (by simp only; omega), if_neg (by simp)]
theorem cons2 {b : List UInt8} {c n : Nat} (h0 : b0 b = c) (h1 : (b.getD 1 0).toNat = n) (h : 2 ≤ b.length) : UInt8.ofNat c :: UInt8.ofNat n :: b.drop 2 = b := by
  obtain ⟨x0, x1, r, rfl⟩ := len2 h
  subst h0; subst h1
  show UInt8.ofNat x0.toNat :: UInt8.ofNat x1.toNat :: r = _
  rw [u8_eq_of (x := x0) rfl, u8_eq_of (x := x1) rfl]
theorem noParts {a : AskD} (h : checkF a = 0) (hp : ¬ plainC a.code) : a.parts = [] := by
  rcases ask_cases h with ⟨c, A, n, _, _, _, _, _, rfl⟩ | ⟨A, x, _, rfl⟩ | ⟨A, v, _, rfl⟩ | ⟨A, l, _, _, _, rfl⟩ | ⟨A, l, _, _, _, rfl⟩ | ⟨l, _, _, _, rfl⟩
  · rfl
  · rfl
  · rfl
  · rfl
  · rfl
  · exact absurd (by unfold plainC; simp) hp
theorem check_rep0 {a : AskD} (h : checkF a = 0) (hp : ¬ plainC a.code) : checkR a rep0 = 0 := by
  have hq := hp
  unfold plainC at hq
  refine check_plain h rfl ?_ ?_
  · unfold foreignB; rw [if_neg (by omega), if_neg (by omega), if_neg (by omega)]; rfl
  · unfold countedB; rw [if_neg (by omega), if_neg (by omega), noParts h hp]; rfl
/-- What is read may be an answer, and is made into the same bytes. -/
theorem putR_getR {a : AskD} {b : List UInt8} (h : (getR a b).2 = 0) : checkR a (getR a b).1 = 0 ∧ putR a (getR a b).1 = (b, 0) := by
  obtain ⟨hK, hb, h | h⟩ := getR_cases h
  · obtain ⟨h1, h2, h3⟩ := h
    rw [h3]
    have hcl := code_lt hK
    unfold exR at h2 ⊢
    split at h2
    · simp at h2
    · rename_i q1
      rw [if_neg q1]
      split at h2
      · simp at h2
      · rename_i q2
        rw [if_neg q2]
        split at h2
        · simp at h2
        · rename_i q3
          rw [if_neg q3]
          obtain ⟨x0, x1, r, rfl⟩ := len2 (b := b) (by omega)
          have hr : r = [] := by
            cases r with
            | nil => rfl
            | cons _ _ => simp at q2
          subst hr
          have h1' : (x0.toNat : Int) = a.code + 128 := h1
          have q3' : ¬ (x1 = 0 ∨ 127 < x1.toNat) := q3
          have hx1 : 1 ≤ x1.toNat := by
            rcases Nat.eq_zero_or_pos x1.toNat with hz | hz
            · exact absurd (.inl (UInt8.toNat.inj (by rw [hz]; rfl))) q3'
            · exact hz
          have hck := check_ex (a := a) (e := x1.toNat) hK hx1 (by omega)
          refine ⟨hck, ?_⟩
          show putR a ⟨((x1.toNat : Nat) : Int), [], [], []⟩ = _
          rw [putR_ex hck hx1 rfl, show (a.code + 128).toNat = x0.toNat by omega, u8_eq_of (x := x0) rfl, u8_eq_of (x := x1) rfl]
  · obtain ⟨h1, h2, h3⟩ := h
    generalize (getR a b).1 = r at *
    have hcl := code_lt hK
    by_cases hp : plainC a.code
    · by_cases hbad : ((b.getD 1 0).toNat : Int) = (b.length : Int) - 2
      · have hl2 : 2 ≤ b.length := by
          rw [h2]
          rcases plainC_cases hp with hc | hc | hc
          · rw [lenR1 hc]; omega
          · rw [lenR3 hc]; omega
          · rw [lenR20 hc]; omega
        have key : checkR a r = 0 → r.exc = 0 → bodyR a r = b.drop 2 → checkR a r = 0 ∧ putR a r = (b, 0) := fun k1 k2 k3 => by
          refine ⟨k1, ?_⟩
          rw [putR_plain k1 k2 hp, k3]
          have hd : (b.drop 2).length = b.length - 2 := List.length_drop
          rw [cons2 (c := a.code.toNat) (n := (b.drop 2).length) (by omega) (by omega) hl2]
        rcases plainC_cases hp with hc | hc | hc
        · rw [readR1 hc hbad] at h3
          split at h3
          · rename_i hz
            injection h3 with h3
            subst h3
            obtain ⟨u1, u2⟩ := unbitsF_zero hz
            refine key (check_plain hK rfl ?_ ?_) rfl ?_
            · unfold foreignB; rw [if_pos hc]; simp
            · unfold countedB; rw [if_pos hc]; simpa using u1
            · rw [bodyR1 hc]; exact u2
          · simp at h3
        · rw [readR3 hc hbad] at h3
          injection h3 with h3
          subst h3
          have hm := many_of3 hK hc
          rw [lenR3 hc] at h2
          refine key (check_plain hK rfl ?_ ?_) rfl ?_
          · unfold foreignB; rw [if_neg (by omega), if_pos hc]; simp
          · unfold countedB; rw [if_neg (by omega), if_pos hc]
            simp only [bw_length, List.length_drop, decide_eq_true_eq]
            omega
          · rw [bodyR3 hc]; exact wb_bw _ (by rw [List.length_drop]; omega)
        · rw [readR20 hc hbad] at h3
          rw [lenR20 hc] at h2
          obtain ⟨p1, p2⟩ := partsF_zero (checkF_parts a hK).2.2.2.2.2.2.2
          have p3 := sumP_nonneg p1
          cases hf : filesOf a.parts (b.drop 2) with
          | none => rw [hf] at h3; simp at h3
          | some l =>
            rw [hf] at h3
            simp only [Option.map_some, Option.some.injEq] at h3
            subst h3
            obtain ⟨f1, f2⟩ := filesOf_some hf p1 (by rw [List.length_drop]; omega)
            refine key (check_plain hK rfl ?_ ?_) rfl ?_
            · unfold foreignB; rw [if_neg (by omega), if_neg (by omega), if_pos hc]; simp
            · unfold countedB; rw [if_neg (by omega), if_neg (by omega)]; exact f2
            · rw [bodyR20 hc]; exact f1
      · rw [readR_bad hp hbad] at h3; simp at h3
    · rw [readR_echo hp] at h3
      split at h3
      · rename_i he
        injection h3 with h3
        subst h3
        have hck := check_rep0 hK hp
        refine ⟨hck, ?_⟩
        rw [putR_echo hck rfl hp, he]
      · simp at h3
/-- Any exception answers any right request. -/
theorem ex_law {a : AskD} {e : Int} (hK : checkF a = 0) : (e < 1 ∨ 127 < e → e ≠ 0 → checkR a ⟨e, [], [], []⟩ = 3) ∧ (1 ≤ e ∧ e ≤ 127 → checkR a ⟨e, [], [], []⟩ = 0 ∧ (putR a ⟨e, [], [], []⟩).1 = [UInt8.ofNat (a.code + 128).toNat, UInt8.ofNat e.toNat] ∧ (putR a ⟨e, [], [], []⟩).2 = 0 ∧ getR a [UInt8.ofNat (a.code + 128).toNat, UInt8.ofNat e.toNat] = (⟨e, [], [], []⟩, 0)) := by
  refine ⟨fun h1 h2 => ?_, fun h => ?_⟩
  · unfold checkR
    rw [if_neg (by simp [hK]), if_pos h2, if_pos (by simp only; omega)]
  · obtain ⟨n, rfl⟩ := Int.eq_ofNat_of_zero_le (show 0 ≤ e by omega)
    have hck := check_ex (a := a) (e := n) hK (by omega) (by omega)
    have hp := putR_ex hck (by omega) rfl
    have hg := (getR_putR hck).1
    rw [hp] at hg
    exact ⟨hck, by rw [hp]; rfl, by rw [hp], hg⟩
/-- Of no bytes it is told what is wrong with the request. -/
theorem getR_nil (a : AskD) : getR a [] = (rep0, if checkF a ≠ 0 then checkF a else 1) := by
  unfold getR
  split
  · rename_i h; rfl
  · rfl
end Go.Out

namespace Go.Proofs.Ytpjmhckdeeonbaa
set_option linter.unusedVariables false
set_option linter.unusedSimpArgs false
set_option maxRecDepth 100000
set_option maxHeartbeats 2000000
open Go Go.RowKit Go.Out

def ask2 : AskD := ⟨3, 0, 2, [], [], []⟩
def rep2 : RepD := ⟨0, [], [1, 512], []⟩
theorem ask2_rd (w : World) : AskRd w ask2 askS0 :=
  ⟨Rd.nil_ _, Rd.nil_ _, RdL.nil_ _ _ _, by unfold i64P ask2; simp, by unfold i64P ask2; simp, by unfold i64P ask2; simp, by simp [askS0], by simp [askS0], by simp [askS0]⟩
theorem rep2_rd {w : World} {A : Option Addr} (h : Rd w A 2 (([1, 512] : List UInt16).map cW)) : RepRd w rep2 ⟨none, 0, 0, A, 2, 2, none, 0, 0⟩ :=
  ⟨Rd.nil_ _, h, RdL.nil_ _ _ _, by unfold i64P rep2; simp, by simp, by simp, by simp⟩
theorem put2 : putR ask2 rep2 = ([3, 4, 0, 1, 2, 0], 0) := by decide +kernel
theorem check2 : checkR ask2 rep2 = 0 := by decide +kernel
theorem get2 : getR ask2 [3, 4, 0, 1, 2, 0] = (rep2, 0) := by
  have h := (getR_putR check2).1
  rwa [put2] at h
theorem two04_any (w : World) : Calls Try.prog 33 #[] w fun e w' => ∃ A, e = .returned (.tuple #[askV ask2 askS0, repV rep2 ⟨none, 0, 0, A, 2, 2, none, 0, 0⟩]) ∧ Rd w' A 2 (([1, 512] : List UInt16).map cW) ∧ Ext w w' := by
  go_enter Try.func33, Try.ntmps33
  go_wp2_with fail
  refine bodyPost_ret (v := .tuple #[askV ask2 askS0, repV rep2 ⟨none, 0, 0, some ⟨w.heap.size + 2, 0, none⟩, 2, 2, none, 0, 0⟩]) (by simp [results, Try.results33, go_sem, askV, repV, ask2, rep2, askS0, *]) rfl ⟨_, rfl, ?_, ?_⟩
  · refine Rd.of_heap (cur := #[.int .u16 1, .int .u16 512]) (ys := []) (t := 54) (heap_at _ _ _ (by simp)) rfl rfl
  · repeat' (first | with_reducible exact Ext.refl _ | with_reducible refine Ext.alloc' ?_ _ | with_reducible refine Ext.set' ?_ (by simp) _)
theorem put2_any (w : World) (A : Option Addr) (h : Rd w A 2 (([1, 512] : List UInt16).map cW)) : Calls Try.prog 20 #[askV ask2 askS0, repV rep2 ⟨none, 0, 0, A, 2, 2, none, 0, 0⟩] w (RetU w [3, 4, 0, 1, 2, 0] 0) := by
  have := replyPut_any ask2 rep2 askS0 ⟨none, 0, 0, A, 2, 2, none, 0, 0⟩ w (ask2_rd w) (rep2_rd h)
  rwa [put2] at this
theorem get2_any (w : World) (A : Option Addr) (c : Nat) (hc : 6 ≤ c ∧ c ≤ 9223372036854775807) (h : Rd w A 6 (([3, 4, 0, 1, 2, 0] : List UInt8).map cB)) : Calls Try.prog 28 #[askV ask2 askS0, .slice A 6 c] w (RetGR w (rep2, 0)) := by
  have := replyGet_any ask2 [3, 4, 0, 1, 2, 0] askS0 A 6 c w (ask2_rd w) h hc (by omega)
  rwa [get2] at this
theorem lit6 (w : World) (g : Nat) (hg : g = w.heap.size) : Rd (w.alloc (.cells #[.int .u8 3, .int .u8 4, .int .u8 0, .int .u8 1, .int .u8 2, .int .u8 0] 5)) (some ⟨g, 0, none⟩) 6 (([3, 4, 0, 1, 2, 0] : List UInt8).map cB) :=
  Rd.of_heap (ys := []) (heap_at _ _ _ hg) rfl rfl
theorem works04_any (w : World) : Calls Try.prog 17 #[] w (RetQ w true) := by
  have H2 := Lib.hid put2_any; have H3 := Lib.hid get2_any
  have HS := Lib.hid (fun (s t : RepS) (W : World) (h1 : RepRd W rep2 s) (h2 : RepRd W rep2 t) => sameReply_eq rep2 s t W h1 h2 (Nat.le_trans h1.cap1.1 h1.cap1.2) (Nat.le_trans h1.cap2.1 h1.cap2.2) (Nat.le_trans h1.cap3.1 h1.cap3.2))
  simp only [askV, repV, ask2, rep2, askS0] at H2 H3 HS
  go_enter Try.func17, Try.ntmps17
  go_wp2_with fail
  refine (two04_any _).mono ?_
  rintro e w1 ⟨A, rfl, hrd, hx⟩
  have Z := Lib.hid (show Ext w w1 from hx)
  have X := Lib.hid Z.out
  have HR := Lib.hid hrd
  clear hrd
  simp only [askV, repV, ask2, rep2, askS0]
  clear hx Z
  go_wp2_with fail
  refine (H2.out _ A (HR.out.ext ((Ext.alloc _ _).trans (Ext.alloc _ _)))).mono ?_
  rintro e w2 ⟨A5, n5, c5, rfl, ho5, hx⟩
  have Z := Lib.hid (show Ext w1 w2 from ((Ext.alloc _ _).trans (Ext.alloc _ _)).trans hx)
  have BA := Lib.hid (show w2.heap[w1.heap.size]? = some (.cells #[.int .i64 3, .int .i64 0, .int .i64 2, .slice none 0 0, .slice none 0 0, .slice none 0 0] 26 (0, 0)) from hx.block ((Ext.alloc _ _).block (heap_at _ _ _ (by simp))))
  have BR := Lib.hid (show w2.heap[w1.heap.size + 1]? = some (.cells #[.int .i64 0, .slice none 0 0, .slice A 2 2, .slice none 0 0] 29 (0, 0)) from hx.block (heap_at _ _ _ (by simp)))
  replace X := Lib.hid (X.out.trans Z.out)
  obtain rfl : n5 = 6 := by have := ho5.len; simpa using this.symm
  have HO := Lib.hid ho5.rd
  have hc5 := ho5.cap
  have hk5 := ho5.capLe
  clear ho5
  replace HR := Lib.hid (HR.out.ext Z.out)
  clear hx Z
  obtain ⟨d0, d1, d2, d3, d4, d5⟩ := cells6 BA.out
  obtain ⟨g0, g1, g2, g3⟩ := cells4 BR.out
  go_wp2_with fail
  refine (H3.out _ A5 c5 ⟨hc5, hk5⟩ HO.out).mono ?_
  rintro e w3 ⟨t, rfl, how, hx⟩
  have Z := Lib.hid (show Ext w2 w3 from hx)
  replace BA := Lib.hid (Z.out.block BA.out)
  replace BR := Lib.hid (Z.out.block BR.out)
  replace X := Lib.hid (X.out.trans Z.out)
  replace HR := Lib.hid (HR.out.ext Z.out)
  replace HO := Lib.hid (HO.out.ext Z.out)
  have HW := Lib.hid how.rd
  clear how
  obtain ⟨E1, p1, q1, E2, p2, q2, E3, p3, q3⟩ := t
  simp only [repV, rep2]
  clear d0 d1 d2 d3 d4 d5 g0 g1 g2 g3
  clear hx Z
  obtain ⟨d0, d1, d2, d3, d4, d5⟩ := cells6 BA.out
  obtain ⟨g0, g1, g2, g3⟩ := cells4 BR.out
  go_wp2_with fail
  refine (same_any [3, 4, 0, 1, 2, 0] [3, 4, 0, 1, 2, 0] _ _ _ _ _ _ _ (HO.out.ext ((Ext.alloc _ _).trans (Ext.alloc _ _))) (lit6 _ _ (by simp)) (by unfold maxLen; omega)).mono ?_
  rintro e w4 ⟨rfl, hx⟩
  have Z := Lib.hid (show Ext w3 w4 from ((Ext.alloc _ _).trans (Ext.alloc _ _)).trans (Ext.of hx))
  replace BA := Lib.hid (Z.out.block BA.out)
  replace BR := Lib.hid (Z.out.block BR.out)
  have BX := Lib.hid (show w4.heap[w3.heap.size]? = some (.cells #[.int .i64 0, .slice E1 p1 q1, .slice E2 p2 q2, .slice E3 p3 q3] 29 (0, 0)) from (Ext.of hx).block ((Ext.alloc _ _).block (heap_at _ _ _ (by simp))))
  replace X := Lib.hid (X.out.trans Z.out)
  replace HR := Lib.hid (HR.out.ext Z.out)
  replace HO := Lib.hid (HO.out.ext Z.out)
  replace HW := Lib.hid (HW.out.ext Z.out)
  rw [decide_eq_true rfl]
  clear d0 d1 d2 d3 d4 d5 g0 g1 g2 g3
  clear hx Z
  obtain ⟨d0, d1, d2, d3, d4, d5⟩ := cells6 BA.out
  obtain ⟨g0, g1, g2, g3⟩ := cells4 BR.out
  obtain ⟨f0, f1, f2, f3⟩ := cells4 BX.out
  go_wp2_with fail
  refine (HS.out ⟨E1, p1, q1, E2, p2, q2, E3, p3, q3⟩ ⟨none, 0, 0, A, 2, 2, none, 0, 0⟩ _ HW.out (rep2_rd HR.out)).mono ?_
  rintro e w5 ⟨rfl, hx⟩
  have Z := Lib.hid (show Ext w4 w5 from hx)
  replace BA := Lib.hid (Z.out.block BA.out)
  replace BR := Lib.hid (Z.out.block BR.out)
  replace BX := Lib.hid (Z.out.block BX.out)
  replace X := Lib.hid (X.out.trans Z.out)
  replace HR := Lib.hid (HR.out.ext Z.out)
  replace HO := Lib.hid (HO.out.ext Z.out)
  replace HW := Lib.hid (HW.out.ext Z.out)
  clear d0 d1 d2 d3 d4 d5 g0 g1 g2 g3 f0 f1 f2 f3
  clear hx Z
  obtain ⟨d0, d1, d2, d3, d4, d5⟩ := cells6 BA.out
  obtain ⟨g0, g1, g2, g3⟩ := cells4 BR.out
  obtain ⟨f0, f1, f2, f3⟩ := cells4 BX.out
  go_wp2_with fail
  go_ret
  exact ⟨rfl, X.out⟩
theorem long04_any (a : AskD) (r : RepD) (s : AskS) (t : RepS) (w : World) (ha : AskRd w a s) (hr : RepRd w r t) :
    Calls Try.prog 14 #[askV a s, repV r t] w (RetQ w (decide (70000 < s.n1 ∨ 70000 < s.n2 ∨ 70000 < s.n3) || longR r)) := by
  have HL := Lib.hid (fun W => longAsk_any a s W)
  have HR := Lib.hid (fun W (hX : Ext w W) => longReply_any r t W (hr.ext hX))
  generalize decide (70000 < s.n1 ∨ 70000 < s.n2 ∨ 70000 < s.n3) = P at *
  generalize longR r = Q at *
  clear ha hr
  obtain ⟨code, addr, count, on, set, parts⟩ := a
  obtain ⟨A1, n1, c1, A2, n2, c2, A3, n3, c3⟩ := s
  obtain ⟨exc, ron, rset, files⟩ := r
  obtain ⟨B1, m1, k1, B2, m2, k2, B3, m3, k3⟩ := t
  simp only [askV, repV] at HL HR ⊢
  go_enter Try.func14, Try.ntmps14
  go_wp2_with fail
  refine (HL.out _).mono ?_
  rintro e w1 ⟨rfl, hx⟩
  have Z := Lib.hid (show Ext w w1 from ((Ext.alloc _ _).trans (Ext.alloc _ _)).trans hx)
  have BA := Lib.hid (show w1.heap[w.heap.size]? = some (.cells #[.int .i64 code, .int .i64 addr, .int .i64 count, .slice A1 n1 c1, .slice A2 n2 c2, .slice A3 n3 c3] 26 (0, 0)) from hx.block ((Ext.alloc _ _).block (heap_at _ _ _ (by simp))))
  have BR := Lib.hid (show w1.heap[w.heap.size + 1]? = some (.cells #[.int .i64 exc, .slice B1 m1 k1, .slice B2 m2 k2, .slice B3 m3 k3] 29 (0, 0)) from hx.block (heap_at _ _ _ (by simp)))
  have X := Lib.hid Z.out
  clear hx Z
  obtain ⟨d0, d1, d2, d3, d4, d5⟩ := cells6 BA.out
  obtain ⟨g0, g1, g2, g3⟩ := cells4 BR.out
  cases P with
  | true =>
    go_wp2_with fail
    go_ret
    exact ⟨rfl, X.out⟩
  | false =>
    go_wp2_with fail
    refine (HR.out _ X.out).mono ?_
    rintro e w2 ⟨rfl, hx⟩
    have Z := Lib.hid (show Ext w1 w2 from hx)
    replace BA := Lib.hid (Z.out.block BA.out)
    replace BR := Lib.hid (Z.out.block BR.out)
    replace X := Lib.hid (X.out.trans Z.out)
    clear d0 d1 d2 d3 d4 d5 g0 g1 g2 g3
    clear hx Z
    obtain ⟨d0, d1, d2, d3, d4, d5⟩ := cells6 BA.out
    obtain ⟨g0, g1, g2, g3⟩ := cells4 BR.out
    go_wp2_with fail
    go_ret
    exact ⟨by simp, X.out⟩
end Go.Proofs.Ytpjmhckdeeonbaa

namespace Go.Proofs.Ytpjmhckdeeonbaa
set_option linter.unusedVariables false
set_option linter.unusedSimpArgs false
set_option maxRecDepth 100000
set_option maxHeartbeats 2000000
open Go Go.RowKit Go.Out

theorem same_reply (r : RepD) (s t : RepS) (W : World) (h1 : RepRd W r s) (h2 : RepRd W r t) : Calls Try.prog 24 #[repV r s, repV r t] W (RetQ W true) :=
  sameReply_eq r s t W h1 h2 (Nat.le_trans h1.cap1.1 h1.cap1.2) (Nat.le_trans h1.cap2.1 h1.cap2.2) (Nat.le_trans h1.cap3.1 h1.cap3.2)
theorem rep0_rd (w : World) : RepRd w rep0 repS0 := ⟨Rd.nil_ _, Rd.nil_ _, RdL.nil_ _ _ _, by unfold i64P rep0; simp, by simp [repS0], by simp [repS0], by simp [repS0]⟩
theorem forms_long (code addr count : Int) (A1 A2 A3 : Option Addr) (n1 c1 n2 c2 n3 c3 : Nat) (A : Option Addr) (N c : Nat) (w : World) (P : Bool) (HL : Hid (∀ W, Calls Try.prog 26 #[.agg #[.int .i64 code, .int .i64 addr, .int .i64 count, .slice A1 n1 c1, .slice A2 n2 c2, .slice A3 n3 c3]] W (RetQ W P))) (hN : P = true ∨ 70000 < N) :
    Calls Try.prog 7 #[.agg #[.int .i64 code, .int .i64 addr, .int .i64 count, .slice A1 n1 c1, .slice A2 n2 c2, .slice A3 n3 c3], .slice A N c] w (RetQ w true) := by
  cases P with
  | true =>
    go_enter Try.func7, Try.ntmps7
    go_wp2_with fail
    refine (HL.out _).mono ?_
    rintro e w1 ⟨rfl, hx⟩
    have Z := Lib.hid (show Ext w w1 from (Ext.alloc _ _).trans hx)
    have BA := Lib.hid (show w1.heap[w.heap.size]? = some (.cells #[.int .i64 code, .int .i64 addr, .int .i64 count, .slice A1 n1 c1, .slice A2 n2 c2, .slice A3 n3 c3] 26 (0, 0)) from hx.block (heap_at _ _ _ (by simp)))
    have X := Lib.hid Z.out
    clear hx Z
    obtain ⟨d0, d1, d2, d3, d4, d5⟩ := cells6 BA.out
    go_wp2_with fail
    refine (works04_any _).mono ?_
    rintro e w2 ⟨rfl, hx⟩
    have Z := Lib.hid (show Ext w1 w2 from hx)
    replace BA := Lib.hid (Z.out.block BA.out)
    replace X := Lib.hid (X.out.trans Z.out)
    clear d0 d1 d2 d3 d4 d5
    clear hx Z
    obtain ⟨d0, d1, d2, d3, d4, d5⟩ := cells6 BA.out
    go_wp2_with fail
    go_ret
    exact ⟨rfl, X.out⟩
  | false =>
    have hN : 70000 < N := by simpa using hN
    have hgt : (N : Int) > 70000 := by omega
    go_enter Try.func7, Try.ntmps7
    go_wp2_with fail
    refine (HL.out _).mono ?_
    rintro e w1 ⟨rfl, hx⟩
    have Z := Lib.hid (show Ext w w1 from (Ext.alloc _ _).trans hx)
    have BA := Lib.hid (show w1.heap[w.heap.size]? = some (.cells #[.int .i64 code, .int .i64 addr, .int .i64 count, .slice A1 n1 c1, .slice A2 n2 c2, .slice A3 n3 c3] 26 (0, 0)) from hx.block (heap_at _ _ _ (by simp)))
    have X := Lib.hid Z.out
    clear hx Z
    obtain ⟨d0, d1, d2, d3, d4, d5⟩ := cells6 BA.out
    go_wp2_with fail
    refine (works04_any _).mono ?_
    rintro e w2 ⟨rfl, hx⟩
    have Z := Lib.hid (show Ext w1 w2 from hx)
    replace BA := Lib.hid (Z.out.block BA.out)
    replace X := Lib.hid (X.out.trans Z.out)
    clear d0 d1 d2 d3 d4 d5
    clear hx Z
    obtain ⟨d0, d1, d2, d3, d4, d5⟩ := cells6 BA.out
    go_wp2_with fail
    go_ret
    exact ⟨rfl, X.out⟩
theorem lawReplyForms (a : AskD) (s : AskS) (b : List UInt8) (A : Option Addr) (N c : Nat) (w : World) (ha : AskRd w a s) (hb : Rd w A N (b.map cB)) (hnc : N ≤ c) (hm : c ≤ 9223372036854775807) (hbb : c * 1 ≤ 140737488351232) :
    Calls Try.prog 7 #[askV a s, .slice A N c] w (RetQ w true) := by
  have HL := Lib.hid (fun W => longAsk_any a s W)
  have HG := Lib.hid (fun W (hX : Ext w W) => replyGet_any a b s A N c W (ha.ext hX) (hb.ext hX) ⟨hnc, hm⟩ (by omega))
  have HPT := Lib.hid (fun W t (hX : Ext w W) (h : RepRd W (getR a b).1 t) => replyPut_any a (getR a b).1 s t W (ha.ext hX) h)
  have HCK := Lib.hid (fun W t (hX : Ext w W) (h : RepRd W (getR a b).1 t) => replyCheck_any a (getR a b).1 s t W (ha.ext hX) h)
  have HB := Lib.hid hb
  have f0 := @putR_getR a b; have f1 := @getR_err a b
  have HBL := Lib.hid hb.length
  generalize getR a b = R at *
  obtain ⟨r, E⟩ := R
  simp only at HG HPT HCK f0 f1
  generalize decide (70000 < s.n1 ∨ 70000 < s.n2 ∨ 70000 < s.n3) = P at HL
  clear ha hb
  obtain ⟨code, addr, count, on, set, parts⟩ := a
  obtain ⟨A1, n1, c1, A2, n2, c2, A3, n3, c3⟩ := s
  simp only [askV] at HL HG HPT HCK f0 ⊢
  by_cases hbig : P = true ∨ 70000 < N
  · exact forms_long code addr count A1 A2 A3 n1 c1 n2 c2 n3 c3 A N c w P HL hbig
  have hP : P = false := by cases P <;> simp_all
  have hN : ¬ 70000 < N := fun h => hbig (.inr h)
  subst hP
  have hgt : ¬ (N : Int) > 70000 := by omega
  clear hbig
  by_cases hE : E = 0
  · subst hE
    obtain ⟨e1, e2⟩ := f0 rfl
    rw [e1] at HCK
    rw [e2] at HPT
    simp only at HPT
    clear f0 f1 e1 e2
    go_enter Try.func7, Try.ntmps7
    go_wp2_with fail
    refine (HL.out _).mono ?_
    rintro e w1 ⟨rfl, hx⟩
    have Z := Lib.hid (show Ext w w1 from (Ext.alloc _ _).trans hx)
    have BA := Lib.hid (show w1.heap[w.heap.size]? = some (.cells #[.int .i64 code, .int .i64 addr, .int .i64 count, .slice A1 n1 c1, .slice A2 n2 c2, .slice A3 n3 c3] 26 (0, 0)) from hx.block (heap_at _ _ _ (by simp)))
    have X := Lib.hid Z.out
    clear hx Z
    obtain ⟨d0, d1, d2, d3, d4, d5⟩ := cells6 BA.out
    go_wp2_with fail
    refine (HG.out _ X.out).mono ?_
    rintro e w2 ⟨t, rfl, how, hx⟩
    have Z := Lib.hid (show Ext w1 w2 from hx)
    replace BA := Lib.hid (Z.out.block BA.out)
    replace X := Lib.hid (X.out.trans Z.out)
    have HW := Lib.hid how.rd
    clear how
    obtain ⟨B1, m1, k1, B2, m2, k2, B3, m3, k3⟩ := t
    obtain ⟨exc, ron, rset, files⟩ := r
    simp only [repV] at HPT HCK HW ⊢
    clear d0 d1 d2 d3 d4 d5
    clear hx Z
    obtain ⟨d0, d1, d2, d3, d4, d5⟩ := cells6 BA.out
    have da0 := fun o : Obj => (cells6 ((Ext.alloc _ o).block BA.out)).1
    have da1 := fun o : Obj => (cells6 ((Ext.alloc _ o).block BA.out)).2.1
    have da2 := fun o : Obj => (cells6 ((Ext.alloc _ o).block BA.out)).2.2.1
    have da3 := fun o : Obj => (cells6 ((Ext.alloc _ o).block BA.out)).2.2.2.1
    have da4 := fun o : Obj => (cells6 ((Ext.alloc _ o).block BA.out)).2.2.2.2.1
    have da5 := fun o : Obj => (cells6 ((Ext.alloc _ o).block BA.out)).2.2.2.2.2
    go_wp2_with fail
    refine (HPT.out _ ⟨B1, m1, k1, B2, m2, k2, B3, m3, k3⟩ (X.out.trans (Ext.alloc _ _)) (HW.out.ext (Ext.alloc _ _))).mono ?_
    rintro e w3 ⟨A5, n5, c5, rfl, ho5, hx⟩
    have Z := Lib.hid (show Ext w2 w3 from (Ext.alloc _ _).trans hx)
    replace BA := Lib.hid (Z.out.block BA.out)
    have BR := Lib.hid (show w3.heap[w2.heap.size]? = some (.cells #[.int .i64 exc, .slice B1 m1 k1, .slice B2 m2 k2, .slice B3 m3 k3] 29 (0, 0)) from hx.block (heap_at _ _ _ (by simp)))
    replace X := Lib.hid (X.out.trans Z.out)
    replace HW := Lib.hid (HW.out.ext Z.out)
    obtain rfl : N = n5 := by have h1 := ho5.len; have h2 := HBL.out; simp at h1; omega
    have HO := Lib.hid ho5.rd
    clear ho5
    clear d0 d1 d2 d3 d4 d5 da0 da1 da2 da3 da4 da5
    clear hx Z
    obtain ⟨d0, d1, d2, d3, d4, d5⟩ := cells6 BA.out
    obtain ⟨g0, g1, g2, g3⟩ := cells4 BR.out
    go_wp2_with fail
    refine (HCK.out _ ⟨B1, m1, k1, B2, m2, k2, B3, m3, k3⟩ X.out HW.out).mono ?_
    rintro e w4 ⟨rfl, hx⟩
    have Z := Lib.hid (show Ext w3 w4 from hx)
    replace BA := Lib.hid (Z.out.block BA.out)
    replace BR := Lib.hid (Z.out.block BR.out)
    replace X := Lib.hid (X.out.trans Z.out)
    replace HW := Lib.hid (HW.out.ext Z.out)
    replace HO := Lib.hid (HO.out.ext Z.out)
    clear d0 d1 d2 d3 d4 d5 g0 g1 g2 g3
    clear hx Z
    obtain ⟨d0, d1, d2, d3, d4, d5⟩ := cells6 BA.out
    obtain ⟨g0, g1, g2, g3⟩ := cells4 BR.out
    go_wp2_with fail
    refine (same_any b b _ _ _ _ _ _ _ HO.out (HB.out.ext X.out) (by unfold maxLen; omega)).mono ?_
    rintro e w5 ⟨rfl, hx⟩
    have Z := Lib.hid (show Ext w4 w5 from (Ext.of hx))
    replace BA := Lib.hid (Z.out.block BA.out)
    replace BR := Lib.hid (Z.out.block BR.out)
    replace X := Lib.hid (X.out.trans Z.out)
    replace HW := Lib.hid (HW.out.ext Z.out)
    replace HO := Lib.hid (HO.out.ext Z.out)
    rw [decide_eq_true rfl]
    clear d0 d1 d2 d3 d4 d5 g0 g1 g2 g3
    clear hx Z
    obtain ⟨d0, d1, d2, d3, d4, d5⟩ := cells6 BA.out
    obtain ⟨g0, g1, g2, g3⟩ := cells4 BR.out
    go_wp2_with fail
    refine (works04_any _).mono ?_
    rintro e w6 ⟨rfl, hx⟩
    have Z := Lib.hid (show Ext w5 w6 from hx)
    replace BA := Lib.hid (Z.out.block BA.out)
    replace BR := Lib.hid (Z.out.block BR.out)
    replace X := Lib.hid (X.out.trans Z.out)
    replace HW := Lib.hid (HW.out.ext Z.out)
    replace HO := Lib.hid (HO.out.ext Z.out)
    clear d0 d1 d2 d3 d4 d5 g0 g1 g2 g3
    clear hx Z
    obtain ⟨d0, d1, d2, d3, d4, d5⟩ := cells6 BA.out
    obtain ⟨g0, g1, g2, g3⟩ := cells4 BR.out
    go_wp2_with fail
    go_ret
    exact ⟨rfl, X.out⟩
  · have hE0 : (E != 0) = true := by simpa using hE
    obtain rfl := f1 hE
    clear f0 f1 HPT HCK
    have HS := Lib.hid (fun (s : RepS) (W : World) (h1 : RepRd W rep0 s) => same_reply rep0 s repS0 W h1 (rep0_rd W))
    simp only [repV, rep0, repS0] at HS HG
    go_enter Try.func7, Try.ntmps7
    go_wp2_with fail
    refine (HL.out _).mono ?_
    rintro e w1 ⟨rfl, hx⟩
    have Z := Lib.hid (show Ext w w1 from (Ext.alloc _ _).trans hx)
    have BA := Lib.hid (show w1.heap[w.heap.size]? = some (.cells #[.int .i64 code, .int .i64 addr, .int .i64 count, .slice A1 n1 c1, .slice A2 n2 c2, .slice A3 n3 c3] 26 (0, 0)) from hx.block (heap_at _ _ _ (by simp)))
    have X := Lib.hid Z.out
    clear hx Z
    obtain ⟨d0, d1, d2, d3, d4, d5⟩ := cells6 BA.out
    go_wp2_with fail
    refine (HG.out _ X.out).mono ?_
    rintro e w2 ⟨t, rfl, how, hx⟩
    have Z := Lib.hid (show Ext w1 w2 from hx)
    replace BA := Lib.hid (Z.out.block BA.out)
    replace X := Lib.hid (X.out.trans Z.out)
    have HW := Lib.hid how.rd
    clear how
    obtain ⟨B1, m1, k1, B2, m2, k2, B3, m3, k3⟩ := t
    simp only [repV, rep0]
    clear d0 d1 d2 d3 d4 d5
    clear hx Z
    obtain ⟨d0, d1, d2, d3, d4, d5⟩ := cells6 BA.out
    go_wp2_with fail
    refine (HS.out ⟨B1, m1, k1, B2, m2, k2, B3, m3, k3⟩ _ (HW.out.ext (Ext.alloc _ _))).mono ?_
    rintro e w3 ⟨rfl, hx⟩
    have Z := Lib.hid (show Ext w2 w3 from (Ext.alloc _ _).trans hx)
    replace BA := Lib.hid (Z.out.block BA.out)
    have BR := Lib.hid (show w3.heap[w2.heap.size]? = some (.cells #[.int .i64 0, .slice B1 m1 k1, .slice B2 m2 k2, .slice B3 m3 k3] 29 (0, 0)) from hx.block (heap_at _ _ _ (by simp)))
    replace X := Lib.hid (X.out.trans Z.out)
    replace HW := Lib.hid (HW.out.ext Z.out)
    clear d0 d1 d2 d3 d4 d5
    clear hx Z
    obtain ⟨d0, d1, d2, d3, d4, d5⟩ := cells6 BA.out
    obtain ⟨g0, g1, g2, g3⟩ := cells4 BR.out
    go_wp2_with fail
    refine (works04_any _).mono ?_
    rintro e w4 ⟨rfl, hx⟩
    have Z := Lib.hid (show Ext w3 w4 from hx)
    replace BA := Lib.hid (Z.out.block BA.out)
    replace BR := Lib.hid (Z.out.block BR.out)
    replace X := Lib.hid (X.out.trans Z.out)
    replace HW := Lib.hid (HW.out.ext Z.out)
    clear d0 d1 d2 d3 d4 d5 g0 g1 g2 g3
    clear hx Z
    obtain ⟨d0, d1, d2, d3, d4, d5⟩ := cells6 BA.out
    obtain ⟨g0, g1, g2, g3⟩ := cells4 BR.out
    go_wp2_with fail
    go_ret
    exact ⟨rfl, X.out⟩
end Go.Proofs.Ytpjmhckdeeonbaa
