/- Frames: what is framed is opened as it was; a stream in pieces. Plain laws; no program in sight. -/
import Derived.Test.YtemiahjdacckgaaStreamPure
import Derived.Test.YtemiahjdacckgaaSeen
namespace Go.Out
open Go Go.RowKit
set_option linter.unusedVariables false

theorem szF_zero {m : Nat} : szF m = 0 ↔ 1 ≤ m ∧ m ≤ 253 := by
  unfold szF
  split
  · simp; omega
  · split
    · simp; omega
    · simp; omega
/-- What is framed on a line is opened as it was. -/
theorem openRtu_rtu {u : UInt8} {b : List UInt8} (h : (rtuF u b).2 = 0) : openRtuF (rtuF u b).1 = (u, b, 0) ∧ (rtuF u b).1.length = 3 + b.length ∧ (rtuF u b).1 = sealF 2 (more16 65535) (u :: b) ∧ 1 ≤ u.toNat ∧ u.toNat ≤ 247 ∧ 1 ≤ b.length ∧ b.length ≤ 253 := by
  by_cases hu : u.toNat < 1 ∨ 247 < u.toNat
  · rw [rtuF_unit hu] at h; simp at h
  · by_cases hs : szF b.length = 0
    · rw [rtuF_ok hu hs]
      have hl : (sealF 2 (more16 65535) (u :: b)).length = 3 + b.length := by simp [sealF, le_length]; omega
      have hb := szF_zero.1 hs
      refine ⟨?_, hl, rfl, by omega, by omega, hb.1, hb.2⟩
      simp only
      unfold openRtuF
      rw [if_neg (by omega), if_neg (by omega), open_seal]
      unfold lineF
      rw [if_neg (by simp)]
      exact if_neg hu
    · rw [rtuF_size hu hs] at h; exact absurd h hs
theorem rtu_fits {u : UInt8} {b : List UInt8} : (rtuF u b).2 = 0 ↔ (1 ≤ u.toNat ∧ u.toNat ≤ 247) ∧ 1 ≤ b.length ∧ b.length ≤ 253 := by
  constructor
  · intro h; have := openRtu_rtu h; omega
  · intro h
    rw [rtuF_ok (by omega) (szF_zero.2 h.2)]
theorem openRtu_bad {s : List UInt8} (h1 : 4 ≤ s.length) (h2 : s.length ≤ 256) (h : openF 2 (more16 65535) s = ([], 5)) : openRtuF s = (0, [], 5) := by
  unfold openRtuF
  rw [if_neg (by omega), if_neg (by omega), h]; rfl
theorem put_fits {a : TcpD} : (putTF a).2 = 0 ↔ 1 ≤ a.pdu.length ∧ a.pdu.length ≤ 253 := by
  unfold putTF
  split
  · rename_i h
    simp only
    exact ⟨fun h2 => absurd h2 h, fun h2 => szF_zero.2 h2⟩
  · rename_i h
    simp only [true_iff]
    exact szF_zero.1 (Classical.not_not.1 h)
theorem headF_length (id n : Nat) (u : UInt8) : (headF id n u).length = 7 := rfl
/-- What is framed on a stream is opened as it was, whatever stands behind it. -/
theorem get_put {a : TcpD} (hid : a.id < 65536) (h : (putTF a).2 = 0) (more : List UInt8) : getTF ((putTF a).1 ++ more) = (a, 7 + a.pdu.length, 0) ∧ (putTF a).1.length = 7 + a.pdu.length := by
  have hp := put_fits.1 h
  have e : putTF a = (headF a.id (1 + a.pdu.length) a.unit ++ a.pdu, 0) := by
    unfold putTF; rw [if_neg (by rw [szF_zero.2 hp]; simp)]
  rw [e]
  refine ⟨?_, by simp [headF_length]⟩
  simp only
  have e4 : at2 (headF a.id (1 + a.pdu.length) a.unit ++ a.pdu ++ more) 4 = 1 + a.pdu.length := by
    show (UInt8.ofNat ((1 + a.pdu.length) / 256)).toNat * 256 + (UInt8.ofNat (1 + a.pdu.length)).toNat = _
    exact two_join _ (by omega)
  have e0 : at2 (headF a.id (1 + a.pdu.length) a.unit ++ a.pdu ++ more) 0 = a.id := two_join _ hid
  have hl : (headF a.id (1 + a.pdu.length) a.unit ++ a.pdu ++ more).length = 7 + a.pdu.length + more.length := by simp [headF_length]; omega
  unfold getTF
  rw [if_neg (by omega), e4, if_neg (by rintro (h | h | h | h); exact h rfl; exact h rfl; omega; omega), if_neg (by omega), e0]
  have hd : ((headF a.id (1 + a.pdu.length) a.unit ++ a.pdu ++ more).drop 7).take (1 + a.pdu.length - 1) = a.pdu := by
    rw [List.append_assoc, List.drop_append_of_le_length (by rw [headF_length]; omega), show (headF a.id (1 + a.pdu.length) a.unit).drop 7 = [] from rfl, List.nil_append, Nat.add_sub_cancel_left, List.take_append_of_le_length (by omega), List.take_of_length_le (by omega)]
  rw [hd]
  show ((⟨a.id, a.unit, a.pdu⟩ : TcpD), 6 + (1 + a.pdu.length), (0 : Int)) = _
  rw [show 6 + (1 + a.pdu.length) = 7 + a.pdu.length from by omega]
theorem getD_takeN {α : Type} (l : List α) (k i : Nat) (z : α) (h : i < k) : (l.take k).getD i z = l.getD i z := by
  rw [List.getD_eq_getElem?_getD, List.getD_eq_getElem?_getD, List.getElem?_take, if_pos h]
theorem at2_take (b : List UInt8) (k i : Nat) (h : i + 1 < k) : at2 (b.take k) i = at2 b i := by
  unfold at2; rw [getD_takeN _ _ _ _ (by omega), getD_takeN _ _ _ _ (by omega)]
/-- The first frame of a stream's beginning. -/
theorem get_take (b : List UInt8) (k : Nat) (hk : k ≤ b.length) :
    (getTF (b.take k)).2.2 = 1 ∨ ((getTF (b.take k)).2.2 = 4 ∧ (getTF b).2.2 = 4) ∨ ((getTF (b.take k)).2.2 = 0 ∧ getTF (b.take k) = getTF b ∧ (getTF b).2.1 ≤ k) := by
  have hl : (b.take k).length = k := by simp [hk]
  rcases Nat.lt_or_ge k 7 with h7 | h7
  · left; unfold getTF; rw [if_pos (by omega)]
  · have e4 := at2_take b k 4 (by omega)
    have e2 := getD_takeN b k 2 0 (by omega)
    have e3 := getD_takeN b k 3 0 (by omega)
    by_cases hf : (b.getD 2 0).toNat ≠ 0 ∨ (b.getD 3 0).toNat ≠ 0 ∨ at2 b 4 < 2 ∨ 254 < at2 b 4
    · right; left
      unfold getTF
      rw [if_neg (by omega), e2, e3, e4, if_pos hf, if_neg (by omega), if_pos hf]; simp
    · rcases Nat.lt_or_ge k (6 + at2 b 4) with h | h
      · left
        unfold getTF
        rw [if_neg (by omega), e2, e3, e4, if_neg hf, if_pos (by omega)]
      · right; right
        have e0 := at2_take b k 0 (by omega)
        have e6 := getD_takeN b k 6 0 (by omega)
        have ed : ((b.take k).drop 7).take (at2 b 4 - 1) = (b.drop 7).take (at2 b 4 - 1) := by
          rw [List.drop_take, List.take_take, Nat.min_eq_left (by omega)]
        have e : getTF (b.take k) = getTF b := by
          unfold getTF
          rw [if_neg (by omega), e2, e3, e4, if_neg hf, if_neg (by omega), e0, e6, ed, if_neg (by omega), if_neg hf, if_neg (by omega)]
        have e' : getTF b = (⟨at2 b 0, b.getD 6 0, (b.drop 7).take (at2 b 4 - 1)⟩, 6 + at2 b 4, 0) := by
          unfold getTF
          rw [if_neg (by omega), if_neg hf, if_neg (by omega)]
        exact ⟨by rw [e, e'], e, by rw [e']; exact h⟩
/-- A stream in two pieces. -/
theorem split_pieces : ∀ (n : Nat) (b : List UInt8), b.length ≤ n → ∀ k, k ≤ b.length →
    (splitF (b.take k)).2.1 ≤ k ∧ (splitF (b.take k)).2.1 ≤ (splitF b).2.1 ∧
    (((splitF (b.take k)).2.2 ≠ 0 ∧ splitF (b.take k) = splitF b) ∨
     ((splitF (b.take k)).2.2 = 0 ∧ splitF b = restF (splitF (b.take k)).1 (splitF (b.take k)).2.1 (splitF (b.drop (splitF (b.take k)).2.1)))) := by
  intro n
  induction n with
  | zero =>
    intro b hb k hk
    have hs : (getTF (b.take k)).2.2 = 1 := by unfold getTF; rw [if_pos (by simp; omega)]
    rw [splitF_short hs]
    exact ⟨Nat.zero_le _, Nat.zero_le _, .inr ⟨rfl, by simp [restF]⟩⟩
  | succ n ih =>
    intro b hb k hk
    rcases get_take b k hk with h | ⟨h, h4⟩ | ⟨h, he, hn⟩
    · rw [splitF_short h]
      exact ⟨Nat.zero_le _, Nat.zero_le _, .inr ⟨rfl, by simp [restF]⟩⟩
    · rw [splitF_bad (by omega) (by omega), splitF_bad (by omega) (by omega), h, h4]
      exact ⟨Nat.zero_le _, Nat.zero_le _, .inl ⟨by simp, rfl⟩⟩
    · have hb0 : (getTF b).2.2 = 0 := by rw [← he]; exact h
      have hk8 := getTF_ok hb0
      have ed : (b.take k).drop (getTF b).2.1 = (b.drop (getTF b).2.1).take (k - (getTF b).2.1) := by rw [List.drop_take]
      have hi := ih (b.drop (getTF b).2.1) (by simp; omega) (k - (getTF b).2.1) (by simp; omega)
      rw [splitF_ok h, splitF_ok hb0, he, ed]
      generalize splitF ((b.drop (getTF b).2.1).take (k - (getTF b).2.1)) = s at *
      generalize hS : splitF (b.drop (getTF b).2.1) = S at *
      obtain ⟨h1, h2, h3⟩ := hi
      refine ⟨by simp only; omega, by simp only; omega, ?_⟩
      rcases h3 with ⟨h3, h4⟩ | ⟨h3, h4⟩
      · exact .inl ⟨h3, by rw [h4]⟩
      · refine .inr ⟨h3, ?_⟩
        rw [List.drop_drop] at h4
        simp only
        rw [h4]
        simp [restF, Nat.add_assoc]
theorem take7 (b : List UInt8) (h : 7 ≤ b.length) : b.take 7 = [b.getD 0 0, b.getD 1 0, b.getD 2 0, b.getD 3 0, b.getD 4 0, b.getD 5 0, b.getD 6 0] := by
  match b, h with
  | x0 :: x1 :: x2 :: x3 :: x4 :: x5 :: x6 :: r, _ => rfl
/-- What is split is laid anew as just the bytes that went by. -/
theorem split_back : ∀ (n : Nat) (b : List UInt8), b.length ≤ n → (∀ x ∈ (splitF b).1, (putTF x).2 = 0 ∧ x.id < 65536) ∧ ((splitF b).1.flatMap fun x => (putTF x).1) = b.take (splitF b).2.1 := by
  intro n
  induction n with
  | zero =>
    intro b hb
    rw [splitF_short (by unfold getTF; rw [if_pos (by omega)])]; simp
  | succ n ih =>
    intro b hb
    by_cases hs : (getTF b).2.2 = 1
    · rw [splitF_short hs]; simp
    · by_cases h0 : (getTF b).2.2 = 0
      · have hk := getTF_ok h0
        rw [splitF_ok h0]
        have hi := ih (b.drop (getTF b).2.1) (by simp; omega)
        have e : getTF b = (⟨at2 b 0, b.getD 6 0, (b.drop 7).take (at2 b 4 - 1)⟩, 6 + at2 b 4, 0) ∧ (b.getD 2 0).toNat = 0 ∧ (b.getD 3 0).toNat = 0 ∧ 2 ≤ at2 b 4 := by
          have h1 := h0
          unfold getTF at h1 ⊢
          split at h1
          · simp at h1
          · rename_i a1
            split at h1
            · simp at h1
            · rename_i a2
              split at h1
              · simp at h1
              · rename_i a3
                rw [if_neg a1, if_neg a2, if_neg a3]
                exact ⟨rfl, by omega, by omega, by omega⟩
        obtain ⟨e, z2, z3, hn2⟩ := e
        have hlen : ((b.drop 7).take (at2 b 4 - 1)).length = at2 b 4 - 1 := by simp; omega
        have hput : putTF (getTF b).1 = (b.take (6 + at2 b 4), 0) := by
          rw [e]
          unfold putTF
          simp only
          rw [hlen, if_neg (by rw [szF_zero.2 (by omega)]; simp), show 1 + (at2 b 4 - 1) = at2 b 4 from by omega]
          have e0 : [UInt8.ofNat (at2 b 0 / 256), UInt8.ofNat (at2 b 0)] = [b.getD 0 0, b.getD 1 0] := two_split _ _
          have e4 : [UInt8.ofNat (at2 b 4 / 256), UInt8.ofNat (at2 b 4)] = [b.getD 4 0, b.getD 5 0] := two_split _ _
          have y2 : b.getD 2 0 = 0 := UInt8.toNat.inj z2
          have y3 : b.getD 3 0 = 0 := UInt8.toNat.inj z3
          simp only [List.cons.injEq, and_true] at e0 e4
          have eh : headF (at2 b 0) (at2 b 4) (b.getD 6 0) = b.take 7 := by
            unfold headF
            rw [e0.1, e0.2, e4.1, e4.2, take7 b (by omega), y2, y3]
          rw [eh]
          have := List.take_append_drop 7 (b.take (6 + at2 b 4))
          rw [List.take_take, Nat.min_eq_left (by omega), List.drop_take, show 6 + at2 b 4 - 7 = at2 b 4 - 1 from by omega] at this
          rw [this]
        refine ⟨?_, ?_⟩
        · intro x hx
          rcases List.mem_cons.1 hx with rfl | hx
          · exact ⟨by rw [hput], by rw [e]; exact at2_lt _ _⟩
          · exact hi.1 x hx
        · rw [List.flatMap_cons, hi.2, hput, hk.2.2.1]
          simp only
          exact List.take_add.symm
      · rw [splitF_bad hs h0]; simp
end Go.Out
