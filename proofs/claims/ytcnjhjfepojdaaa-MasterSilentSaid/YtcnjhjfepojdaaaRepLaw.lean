/- What is put for an answer and what is read of bytes, and the plain law of chapter 04. -/
import Derived.Test.YtcnjhjfepojdaaaRep
import Derived.Test.YtcnjhjfepojdaaaAskPure2
namespace Go.Out
open Go Go.RowKit
set_option linter.unusedVariables false

def fileB (f : List UInt16) : List UInt8 := UInt8.ofNat (1 + 2 * f.length) :: 6 :: wb f
def filesB (l : List (List UInt16)) : List UInt8 := l.flatMap fileB
def bodyR (a : AskD) (r : RepD) : List UInt8 := if a.code = 1 ∨ a.code = 2 then bitsF r.on else if a.code = 3 ∨ a.code = 4 then wb r.set else filesB r.files
def plainC (c : Int) : Prop := c = 1 ∨ c = 2 ∨ c = 3 ∨ c = 4 ∨ c = 20
instance (c : Int) : Decidable (plainC c) := by unfold plainC; infer_instance
def putR (a : AskD) (r : RepD) : List UInt8 × Int :=
  if checkR a r ≠ 0 then ([], checkR a r) else if r.exc ≠ 0 then ([UInt8.ofNat (a.code + 128).toNat, UInt8.ofNat r.exc.toNat], 0)
  else if plainC a.code then (UInt8.ofNat a.code.toNat :: UInt8.ofNat (bodyR a r).length :: bodyR a r, 0) else ((putA a).1.take 5, 0)
def lenR (a : AskD) : Nat := if a.code = 1 ∨ a.code = 2 then 2 + need a.count.toNat else if a.code = 3 ∨ a.code = 4 then 2 + 2 * a.count.toNat else if a.code = 20 then 2 + (sumP a.parts).toNat else 5
def filesOf : List PartD → List UInt8 → Option (List (List UInt16))
  | [], _ => some []
  | p :: ps, h :: g :: r => if (h.toNat : Int) = 1 + 2 * p.len ∧ g = 6 then (filesOf ps (r.drop (2 * p.len.toNat))).map (bw (r.take (2 * p.len.toNat)) :: ·) else none
  | _, _ => none
def readR (a : AskD) (b : List UInt8) : Option RepD :=
  if ¬ plainC a.code then (if (putA a).1.take 5 = b then some rep0 else none)
  else if ((b.getD 1 0).toNat : Int) ≠ (b.length : Int) - 2 then none
  else if a.code = 1 ∨ a.code = 2 then (if (unbitsF (b.drop 2) a.count).2 = 0 then some ⟨0, (unbitsF (b.drop 2) a.count).1, [], []⟩ else none)
  else if a.code = 3 ∨ a.code = 4 then some ⟨0, [], bw (b.drop 2), []⟩
  else (filesOf a.parts (b.drop 2)).map fun l => ⟨0, [], [], l⟩
def exR (b : List UInt8) : RepD × Int :=
  if b.length < 2 then (rep0, 1) else if 2 < b.length then (rep0, 2) else if b.getD 1 0 = 0 ∨ 127 < (b.getD 1 0).toNat then (rep0, 3) else (⟨((b.getD 1 0).toNat : Nat), [], [], []⟩, 0)
def getR (a : AskD) (b : List UInt8) : RepD × Int :=
  if checkF a ≠ 0 then (rep0, checkF a) else if b.length = 0 then (rep0, 1) else if (b0 b : Int) = a.code + 128 then exR b
  else if (b0 b : Int) ≠ a.code then (rep0, 20) else if b.length < lenR a then (rep0, 1) else if lenR a < b.length then (rep0, 2)
  else match readR a b with
    | some r => (r, 0)
    | none => (rep0, 4)

theorem need_le {n : Nat} (h : n ≤ 2000) : need n ≤ 250 := by unfold need; omega
theorem rep_cases {a : AskD} {r : RepD} (h : checkR a r = 0) : checkF a = 0 ∧
    ((∃ e : Nat, 1 ≤ e ∧ e ≤ 127 ∧ r = ⟨(e : Nat), [], [], []⟩) ∨
    ((a.code = 1 ∨ a.code = 2) ∧ (∃ l : List Bool, (l.length : Int) = a.count ∧ 1 ≤ l.length ∧ l.length ≤ 2000 ∧ r = ⟨0, l, [], []⟩)) ∨
    ((a.code = 3 ∨ a.code = 4) ∧ (∃ l : List UInt16, (l.length : Int) = a.count ∧ 1 ≤ l.length ∧ l.length ≤ 125 ∧ r = ⟨0, [], l, []⟩)) ∨
    (a.code = 20 ∧ (∃ l, sizedB l a.parts = true ∧ partsF a.parts = 0 ∧ r = ⟨0, [], [], l⟩)) ∨
    ((a.code = 5 ∨ a.code = 6 ∨ a.code = 15 ∨ a.code = 16) ∧ r = rep0)) := by
  unfold checkR at h
  by_cases hK : checkF a = 0
  · refine ⟨hK, ?_⟩
    rw [if_neg (by simpa using hK)] at h
    obtain ⟨exc, on, set, files⟩ := r
    simp only at h
    by_cases hE : exc = 0
    · subst hE
      rw [if_neg (by simp)] at h
      split at h
      · simp at h
      · rename_i hf
        split at h
        · simp at h
        · rename_i hc
          simp only [Bool.not_eq_true] at hf
          simp only [Bool.not_eq_false] at hc
          have hp := checkF_parts a hK
          obtain ⟨h1, h2, h3, h4, h5, h6, h7, h8⟩ := hp
          unfold foreignB at hf
          unfold countedB at hc
          simp only at hc
          have ln0 : ∀ {α : Type} {l : List α}, l.length = 0 → l = [] := fun h => List.length_eq_zero_iff.1 h
          by_cases c1 : a.code = 1 ∨ a.code = 2
          · rw [if_pos c1] at hf hc
            simp only [Bool.or_eq_false_iff, decide_eq_false_iff_not, decide_eq_true_eq] at hf hc
            obtain rfl := ln0 (l := set) (by omega)
            obtain rfl := ln0 (l := files) (by omega)
            have hm : manyF a = a.count := by unfold manyF; rw [if_pos (by unfold isCnt; omega)]
            have hmo : mostF a.code = 2000 := by unfold mostF; rw [if_pos c1]
            exact .inr (.inl ⟨c1, on, hc, by omega, by omega, rfl⟩)
          · rw [if_neg c1] at hf hc
            by_cases c2 : a.code = 3 ∨ a.code = 4
            · rw [if_pos c2] at hf hc
              simp only [Bool.or_eq_false_iff, decide_eq_false_iff_not, decide_eq_true_eq] at hf hc
              obtain rfl := ln0 (l := on) (by omega)
              obtain rfl := ln0 (l := files) (by omega)
              have hm : manyF a = a.count := by unfold manyF; rw [if_pos (by unfold isCnt; omega)]
              have hmo : mostF a.code = 125 := by unfold mostF; rw [if_neg c1, if_pos c2]
              exact .inr (.inr (.inl ⟨c2, set, hc, by omega, by omega, rfl⟩))
            · rw [if_neg c2] at hf hc
              by_cases c3 : a.code = 20
              · rw [if_pos c3] at hf
                simp only [Bool.or_eq_false_iff, decide_eq_false_iff_not] at hf
                obtain rfl := ln0 (l := on) (by omega)
                obtain rfl := ln0 (l := set) (by omega)
                exact .inr (.inr (.inr (.inl ⟨c3, files, hc, h8, rfl⟩)))
              · rw [if_neg c3] at hf
                simp only [Bool.or_eq_false_iff, decide_eq_false_iff_not] at hf
                obtain rfl := ln0 (l := on) (by omega)
                obtain rfl := ln0 (l := set) (by omega)
                obtain rfl := ln0 (l := files) (by omega)
                have := codeP_cases h1
                exact .inr (.inr (.inr (.inr ⟨by omega, rfl⟩)))
    · rw [if_pos hE] at h
      split at h
      · simp at h
      · rename_i h1
        split at h
        · simp at h
        · rename_i h2
          have ln0 : ∀ {α : Type} {l : List α}, l.length = 0 → l = [] := fun h => List.length_eq_zero_iff.1 h
          obtain rfl := ln0 (l := on) (by omega)
          obtain rfl := ln0 (l := set) (by omega)
          obtain rfl := ln0 (l := files) (by omega)
          obtain ⟨e, rfl⟩ := Int.eq_ofNat_of_zero_le (show 0 ≤ exc by omega)
          exact .inl ⟨e, by omega, by omega, rfl⟩
  · rw [if_pos hK] at h
    exact absurd h hK

theorem fileB_length (f : List UInt16) : (fileB f).length = 2 + 2 * f.length := by simp [fileB, wb_length]; omega
theorem filesB_cons (f : List UInt16) (l : List (List UInt16)) : filesB (f :: l) = fileB f ++ filesB l := rfl
theorem sizedB_cons {f : List UInt16} {fs : List (List UInt16)} {p : PartD} {ps : List PartD} : sizedB (f :: fs) (p :: ps) = true ↔ (f.length : Int) = p.len ∧ sizedB fs ps = true := by
  simp [sizedB]
theorem filesB_length : ∀ {fs : List (List UInt16)} {ps : List PartD}, sizedB fs ps = true → ((filesB fs).length : Int) = sumP ps
  | [], [], _ => rfl
  | [], _ :: _, h => by simp [sizedB] at h
  | _ :: _, [], h => by simp [sizedB] at h
  | f :: fs, p :: ps, h => by
    obtain ⟨h1, h2⟩ := sizedB_cons.1 h
    have ih := filesB_length h2
    rw [filesB_cons, List.length_append, fileB_length]
    simp only [sumP]
    omega
theorem filesOf_files : ∀ {fs : List (List UInt16)} {ps : List PartD}, sizedB fs ps = true → sumP ps ≤ 245 → ps.any (fun p => decide (badP p)) = false → filesOf ps (filesB fs) = some fs
  | [], [], _, _, _ => rfl
  | [], _ :: _, h, _, _ => by simp [sizedB] at h
  | _ :: _, [], h, _, _ => by simp [sizedB] at h
  | f :: fs, p :: ps, h, hs, hb => by
    obtain ⟨h1, h2⟩ := sizedB_cons.1 h
    simp only [List.any_cons, Bool.or_eq_false_iff, decide_eq_false_iff_not] at hb
    have hn := sumP_nonneg hb.2
    simp only [sumP] at hs
    have hb1 := hb.1
    unfold badP at hb1
    have ih := filesOf_files h2 (by omega) hb.2
    have e1 : p.len.toNat = f.length := by omega
    have e2 : (UInt8.ofNat (1 + 2 * f.length)).toNat = 1 + 2 * f.length := toNat_ofNat8 (by omega)
    rw [filesB_cons]
    show filesOf (p :: ps) (UInt8.ofNat (1 + 2 * f.length) :: 6 :: (wb f ++ filesB fs)) = _
    unfold filesOf
    rw [if_pos ⟨by rw [e2]; omega, rfl⟩, e1, List.drop_append_of_le_length (by rw [wb_length]; exact Nat.le_refl _), List.drop_of_length_le (by rw [wb_length]; exact Nat.le_refl _), List.nil_append, ih, List.take_append_of_le_length (by rw [wb_length]; exact Nat.le_refl _), List.take_of_length_le (by rw [wb_length]; exact Nat.le_refl _), bw_wb]
    rfl
theorem filesOf_some : ∀ {ps : List PartD} {b : List UInt8} {l : List (List UInt16)}, filesOf ps b = some l → ps.any (fun p => decide (badP p)) = false → (b.length : Int) = sumP ps → filesB l = b ∧ sizedB l ps = true
  | [], b, l, h, _, hl => by
    unfold filesOf at h
    injection h with h
    subst h
    simp only [sumP] at hl
    have : b = [] := List.length_eq_zero_iff.1 (by omega)
    subst this
    exact ⟨rfl, rfl⟩
  | p :: ps, [], l, h, _, _ => by simp [filesOf] at h
  | p :: ps, [x], l, h, _, _ => by simp [filesOf] at h
  | p :: ps, x :: y :: r, l, h, hb, hl => by
    unfold filesOf at h
    simp only [List.any_cons, Bool.or_eq_false_iff, decide_eq_false_iff_not] at hb
    have hb1 := hb.1
    unfold badP at hb1
    simp only [sumP, List.length_cons] at hl
    have hn := sumP_nonneg hb.2
    split at h
    · rename_i hx
      obtain ⟨h1, rfl⟩ := hx
      cases hq : filesOf ps (r.drop (2 * p.len.toNat)) with
      | none => rw [hq] at h; simp at h
      | some l' =>
        rw [hq] at h
        simp only [Option.map_some, Option.some.injEq] at h
        subst h
        obtain ⟨i1, i2⟩ := filesOf_some hq hb.2 (by rw [List.length_drop]; omega)
        have ht : (r.take (2 * p.len.toNat)).length = 2 * p.len.toNat := by rw [List.length_take]; omega
        have hbl : (bw (r.take (2 * p.len.toNat))).length = p.len.toNat := by rw [bw_length, ht]; omega
        refine ⟨?_, ?_⟩
        · rw [filesB_cons]
          unfold fileB
          rw [hbl, wb_bw _ (by rw [ht]; omega), i1]
          show _ :: 6 :: (r.take (2 * p.len.toNat) ++ r.drop (2 * p.len.toNat)) = _
          rw [List.take_append_drop, u8_eq_of (x := x) (by omega)]
        · rw [sizedB_cons]
          exact ⟨by rw [hbl]; omega, i2⟩
    · simp at h

theorem bodyR1 {a : AskD} {r : RepD} (h : a.code = 1 ∨ a.code = 2) : bodyR a r = bitsF r.on := by unfold bodyR; rw [if_pos h]
theorem bodyR3 {a : AskD} {r : RepD} (h : a.code = 3 ∨ a.code = 4) : bodyR a r = wb r.set := by unfold bodyR; rw [if_neg (by omega), if_pos h]
theorem bodyR20 {a : AskD} {r : RepD} (h : a.code = 20) : bodyR a r = filesB r.files := by unfold bodyR; rw [if_neg (by omega), if_neg (by omega)]
theorem lenR1 {a : AskD} (h : a.code = 1 ∨ a.code = 2) : lenR a = 2 + need a.count.toNat := by unfold lenR; rw [if_pos h]
theorem lenR3 {a : AskD} (h : a.code = 3 ∨ a.code = 4) : lenR a = 2 + 2 * a.count.toNat := by unfold lenR; rw [if_neg (by omega), if_pos h]
theorem lenR20 {a : AskD} (h : a.code = 20) : lenR a = 2 + (sumP a.parts).toNat := by unfold lenR; rw [if_neg (by omega), if_neg (by omega), if_pos h]
theorem lenR5 {a : AskD} (h : ¬ plainC a.code) : lenR a = 5 := by unfold plainC at h; unfold lenR; rw [if_neg (by omega), if_neg (by omega), if_neg (by omega)]
theorem putR_plain {a : AskD} {r : RepD} (h : checkR a r = 0) (he : r.exc = 0) (hp : plainC a.code) : putR a r = (UInt8.ofNat a.code.toNat :: UInt8.ofNat (bodyR a r).length :: bodyR a r, 0) := by
  unfold putR; rw [if_neg (by simpa using h), if_neg (by simpa using he), if_pos hp]
theorem putR_echo {a : AskD} {r : RepD} (h : checkR a r = 0) (he : r.exc = 0) (hp : ¬ plainC a.code) : putR a r = ((putA a).1.take 5, 0) := by
  unfold putR; rw [if_neg (by simpa using h), if_neg (by simpa using he), if_neg hp]
theorem readR_echo {a : AskD} {b : List UInt8} (hp : ¬ plainC a.code) : readR a b = if (putA a).1.take 5 = b then some rep0 else none := by unfold readR; rw [if_pos hp]
theorem readR_bad {a : AskD} {b : List UInt8} (hp : plainC a.code) (h : ((b.getD 1 0).toNat : Int) ≠ (b.length : Int) - 2) : readR a b = none := by unfold readR; rw [if_neg (not_not_intro hp), if_pos h]
theorem readR1 {a : AskD} {b : List UInt8} (hc : a.code = 1 ∨ a.code = 2) (h : ((b.getD 1 0).toNat : Int) = (b.length : Int) - 2) : readR a b = if (unbitsF (b.drop 2) a.count).2 = 0 then some ⟨0, (unbitsF (b.drop 2) a.count).1, [], []⟩ else none := by
  unfold readR; rw [if_neg (not_not_intro (by unfold plainC; omega)), if_neg (not_not_intro h), if_pos hc]
theorem readR3 {a : AskD} {b : List UInt8} (hc : a.code = 3 ∨ a.code = 4) (h : ((b.getD 1 0).toNat : Int) = (b.length : Int) - 2) : readR a b = some ⟨0, [], bw (b.drop 2), []⟩ := by
  unfold readR; rw [if_neg (not_not_intro (by unfold plainC; omega)), if_neg (not_not_intro h), if_neg (by omega), if_pos hc]
theorem readR20 {a : AskD} {b : List UInt8} (hc : a.code = 20) (h : ((b.getD 1 0).toNat : Int) = (b.length : Int) - 2) : readR a b = (filesOf a.parts (b.drop 2)).map fun l => ⟨0, [], [], l⟩ := by
  unfold readR; rw [if_neg (not_not_intro (by unfold plainC; omega)), if_neg (not_not_intro h), if_neg (by omega), if_neg (by omega)]
theorem plainC_cases {c : Int} (h : plainC c) : (c = 1 ∨ c = 2) ∨ (c = 3 ∨ c = 4) ∨ c = 20 := by unfold plainC at h; omega
/-- What is put for an answer that is no exception, of a reading request. -/
theorem body_length {a : AskD} {r : RepD} (h : checkR a r = 0) (he : r.exc = 0) (hp : plainC a.code) : (bodyR a r).length + 2 = lenR a ∧ (bodyR a r).length ≤ 250 := by
  obtain ⟨hK, h⟩ := rep_cases h
  rcases h with ⟨e, h1, h2, rfl⟩ | ⟨hc, l, h1, h2, h3, rfl⟩ | ⟨hc, l, h1, h2, h3, rfl⟩ | ⟨hc, l, h1, h2, rfl⟩ | ⟨hc, rfl⟩
  · simp only at he; omega
  · rw [bodyR1 hc, lenR1 hc, bitsF_length]
    have : a.count.toNat = l.length := by omega
    rw [this]
    have := need_le h3
    simp only
    omega
  · rw [bodyR3 hc, lenR3 hc, wb_length]
    simp only
    omega
  · rw [bodyR20 hc, lenR20 hc]
    have := filesB_length h1
    obtain ⟨h3, h4⟩ := partsF_zero h2
    simp only
    omega
  · unfold plainC at hp; omega
theorem code_lt {a : AskD} (h : checkF a = 0) : 1 ≤ a.code ∧ a.code ≤ 20 := by have := codeP_cases (checkF_parts a h).1; omega
theorem b0_ask {a : AskD} (h : checkF a = 0) : b0 ((putA a).1.take 5) = a.code.toNat ∧ ((putA a).1.take 5).length = 5 := by
  have h1 := code_lt h
  have h2 := (getA_put h).2.1
  rw [putA_ok h] at h2 ⊢
  refine ⟨?_, ?_⟩
  · show (UInt8.ofNat a.code.toNat).toNat = _
    exact toNat_ofNat8 (by omega)
  · rw [List.length_take]; omega
theorem putR_shape {a : AskD} {r : RepD} (h : checkR a r = 0) (he : r.exc = 0) : (putR a r).2 = 0 ∧ (putR a r).1.length = lenR a ∧ (b0 (putR a r).1 : Int) = a.code ∧ lenR a ≤ 253 ∧ 2 ≤ lenR a := by
  have hK := (rep_cases h).1
  have hc := code_lt hK
  unfold putR
  rw [if_neg (by simpa using h), if_neg (by simpa using he)]
  by_cases hp : plainC a.code
  · rw [if_pos hp]
    obtain ⟨h1, h2⟩ := body_length h he hp
    refine ⟨rfl, by simp only [List.length_cons]; omega, ?_, by omega, by omega⟩
    show ((UInt8.ofNat a.code.toNat).toNat : Int) = _
    rw [toNat_ofNat8 (by omega)]; omega
  · rw [if_neg hp]
    obtain ⟨h1, h2⟩ := b0_ask hK
    have hl : lenR a = 5 := lenR5 hp
    exact ⟨rfl, by rw [hl]; exact h2, by simp only [h1]; omega, by omega, by omega⟩
theorem readR_putR {a : AskD} {r : RepD} (h : checkR a r = 0) (he : r.exc = 0) : readR a (putR a r).1 = some r := by
  obtain ⟨hK, hr⟩ := rep_cases h
  by_cases hp : plainC a.code
  · obtain ⟨h1, h2⟩ := body_length h he hp
    rw [putR_plain h he hp]
    have hb : ((((UInt8.ofNat a.code.toNat :: UInt8.ofNat (bodyR a r).length :: bodyR a r) : List UInt8).getD 1 0).toNat : Int) = (((UInt8.ofNat a.code.toNat :: UInt8.ofNat (bodyR a r).length :: bodyR a r) : List UInt8).length : Int) - 2 := by
      show ((UInt8.ofNat (bodyR a r).length).toNat : Int) = _
      rw [toNat_ofNat8 (by omega)]
      simp only [List.length_cons]; omega
    clear h1 h2
    rcases hr with ⟨e, h1, h2, rfl⟩ | ⟨hc, l, h1, h2, h3, rfl⟩ | ⟨hc, l, h1, h2, h3, rfl⟩ | ⟨hc, l, h1, h2, rfl⟩ | ⟨hc, rfl⟩
    · simp only at he; omega
    · rw [readR1 hc hb]
      show (if (unbitsF (bodyR a _) a.count).2 = 0 then some (⟨0, (unbitsF (bodyR a _) a.count).1, [], []⟩ : RepD) else none) = _
      rw [bodyR1 hc, ← h1, unbits_bits]
      rfl
    · rw [readR3 hc hb]
      show some (⟨0, [], bw (bodyR a _), []⟩ : RepD) = _
      rw [bodyR3 hc, bw_wb]
    · rw [readR20 hc hb]
      show (filesOf a.parts (bodyR a _)).map (fun l => (⟨0, [], [], l⟩ : RepD)) = _
      obtain ⟨h3, h4⟩ := partsF_zero h2
      rw [bodyR20 hc, filesOf_files h1 h4 h3]
      rfl
    · unfold plainC at hp; omega
  · rw [putR_echo h he hp, readR_echo hp, if_pos rfl]
    rcases hr with ⟨e, h1, h2, rfl⟩ | ⟨hc, l, h1, h2, h3, rfl⟩ | ⟨hc, l, h1, h2, h3, rfl⟩ | ⟨hc, l, h1, h2, rfl⟩ | ⟨hc, rfl⟩
    · simp only at he; omega
    · unfold plainC at hp; omega
    · unfold plainC at hp; omega
    · unfold plainC at hp; omega
    · rfl
/-- An exception's two bytes. -/
theorem getR_ex {a : AskD} {x y : UInt8} {m : List UInt8} (hK : checkF a = 0) (hx : (x.toNat : Int) = a.code + 128) : getR a (x :: m) = exR (x :: m) := by
  unfold getR
  rw [if_neg (by simpa using hK), if_neg (by simp), if_pos (by exact hx)]
theorem putR_ex {a : AskD} {r : RepD} {e : Nat} (h : checkR a r = 0) (h1 : 1 ≤ e) (h2 : r.exc = (e : Nat)) : putR a r = ([UInt8.ofNat (a.code + 128).toNat, UInt8.ofNat e], 0) := by
  unfold putR
  rw [if_neg (by simpa using h), if_pos (by omega), h2]; rfl
/-- What was put is read. -/
theorem getR_putR {a : AskD} {r : RepD} (h : checkR a r = 0) : getR a (putR a r).1 = (r, 0) ∧ (putR a r).2 = 0 ∧ 2 ≤ (putR a r).1.length ∧ (putR a r).1.length ≤ 253 := by
  obtain ⟨hK, hr⟩ := rep_cases h
  have hc := code_lt hK
  by_cases he : r.exc = 0
  · obtain ⟨q1, q2, q3, q4, q5⟩ := putR_shape h he
    refine ⟨?_, q1, by omega, by omega⟩
    unfold getR
    rw [if_neg (by simpa using hK), if_neg (by omega), if_neg (by omega), if_neg (by omega), if_neg (by omega), if_neg (by omega), readR_putR h he]
  · have hr' : ∃ e : Nat, 1 ≤ e ∧ e ≤ 127 ∧ r = ⟨(e : Nat), [], [], []⟩ := by
      rcases hr with hr | ⟨_, l, _, _, _, rfl⟩ | ⟨_, l, _, _, _, rfl⟩ | ⟨_, l, _, _, rfl⟩ | ⟨_, rfl⟩
      · exact hr
      all_goals exact absurd rfl he
    obtain ⟨e, h1, h2, rfl⟩ := hr'
    rw [putR_ex h h1 rfl]
    refine ⟨?_, rfl, by simp, by simp⟩
    have hx : ((UInt8.ofNat (a.code + 128).toNat).toNat : Int) = a.code + 128 := by rw [toNat_ofNat8 (by omega)]; omega
    have hy : (UInt8.ofNat e).toNat = e := toNat_ofNat8 (by omega)
    rw [getR_ex (y := 0) hK hx]
    unfold exR
    rw [if_neg (by simp), if_neg (by simp)]
    show (if UInt8.ofNat e = 0 ∨ 127 < (UInt8.ofNat e).toNat then _ else _) = _
    have hnz : ¬ (UInt8.ofNat e = 0 ∨ 127 < (UInt8.ofNat e).toNat) := by
      rintro (h | h)
      · have := congrArg UInt8.toNat h
        rw [hy] at this
        simp at this
        omega
      · omega
    rw [if_neg hnz]
    show ((⟨(((UInt8.ofNat e).toNat : Nat) : Int), [], [], []⟩ : RepD), (0 : Int)) = _
    rw [hy]
theorem putR_no {a : AskD} {r : RepD} (h : checkR a r ≠ 0) : putR a r = ([], checkR a r) := by unfold putR; rw [if_pos h]
theorem b0_take {b : List UInt8} {k : Nat} (h : 1 ≤ k) : b0 (b.take k) = b0 b := by unfold b0; rw [getD_take8 _ (by omega)]
theorem b0_app {b m : List UInt8} (h : 1 ≤ b.length) : b0 (b ++ m) = b0 b := by unfold b0; rw [getD_app8 _ _ (by omega)]
/-- A shorter beginning is too short; more bytes are too long. -/
theorem getR_take {a : AskD} {r : RepD} (h : checkR a r = 0) {k : Nat} (hk : k < (putR a r).1.length) : getR a ((putR a r).1.take k) = (rep0, 1) := by
  obtain ⟨hK, hr⟩ := rep_cases h
  have hc := code_lt hK
  rcases Nat.eq_zero_or_pos k with rfl | h0
  · unfold getR; rw [if_neg (by simpa using hK), if_pos (by simp)]
  · by_cases he : r.exc = 0
    · obtain ⟨q1, q2, q3, q4, q5⟩ := putR_shape h he
      have hl : ((putR a r).1.take k).length = k := by rw [List.length_take]; omega
      unfold getR
      rw [if_neg (by simpa using hK), if_neg (by omega), b0_take h0, if_neg (by omega), if_neg (by omega), if_pos (by omega)]
    · obtain ⟨e, h1, h2, rfl⟩ : ∃ e : Nat, 1 ≤ e ∧ e ≤ 127 ∧ r = ⟨(e : Nat), [], [], []⟩ := by
        rcases hr with hr | ⟨_, l, _, _, _, rfl⟩ | ⟨_, l, _, _, _, rfl⟩ | ⟨_, l, _, _, rfl⟩ | ⟨_, rfl⟩
        · exact hr
        all_goals exact absurd rfl he
      rw [putR_ex h h1 rfl] at hk ⊢
      simp only [List.length_cons, List.length_nil] at hk
      obtain rfl : k = 1 := by omega
      have hx : ((UInt8.ofNat (a.code + 128).toNat).toNat : Int) = a.code + 128 := by rw [toNat_ofNat8 (by omega)]; omega
      show getR a (UInt8.ofNat (a.code + 128).toNat :: []) = _
      rw [getR_ex (y := 0) hK hx]
      unfold exR
      rw [if_pos (by simp)]
theorem getR_more {a : AskD} {r : RepD} (h : checkR a r = 0) {m : List UInt8} (hm : m ≠ []) : getR a ((putR a r).1 ++ m) = (rep0, 2) := by
  obtain ⟨hK, hr⟩ := rep_cases h
  have hc := code_lt hK
  have hml : 1 ≤ m.length := by cases m with | nil => exact absurd rfl hm | cons _ _ => simp
  by_cases he : r.exc = 0
  · obtain ⟨q1, q2, q3, q4, q5⟩ := putR_shape h he
    have hl : ((putR a r).1 ++ m).length = lenR a + m.length := by rw [List.length_append]; omega
    unfold getR
    rw [if_neg (by simpa using hK), if_neg (by omega), b0_app (by omega), if_neg (by omega), if_neg (by omega), if_neg (by omega), if_pos (by omega)]
  · obtain ⟨e, h1, h2, rfl⟩ : ∃ e : Nat, 1 ≤ e ∧ e ≤ 127 ∧ r = ⟨(e : Nat), [], [], []⟩ := by
      rcases hr with hr | ⟨_, l, _, _, _, rfl⟩ | ⟨_, l, _, _, _, rfl⟩ | ⟨_, l, _, _, rfl⟩ | ⟨_, rfl⟩
      · exact hr
      all_goals exact absurd rfl he
    rw [putR_ex h h1 rfl]
    have hx : ((UInt8.ofNat (a.code + 128).toNat).toNat : Int) = a.code + 128 := by rw [toNat_ofNat8 (by omega)]; omega
    show getR a (UInt8.ofNat (a.code + 128).toNat :: (UInt8.ofNat e :: m)) = _
    rw [getR_ex (y := 0) hK hx]
    unfold exR
    rw [if_neg (by simp), if_pos (by simp; omega)]
theorem getR_err {a : AskD} {b : List UInt8} (h : (getR a b).2 ≠ 0) : (getR a b).1 = rep0 := by
  unfold getR exR at h ⊢
  repeat' (split at h <;> rename_i hh <;> (first | rw [if_pos hh] | rw [if_neg hh] | skip))
  all_goals first | rfl | (simp_all; done) | skip
end Go.Out
