/- Frames on a stream: plain definitions and laws; no program in sight. -/
import Derived.Test.YtemiahjdacckgaaFramePure
import Derived.Test.YtemiahjdacckgaaAt
namespace Go.Out
open Go Go.RowKit
set_option linter.unusedVariables false

/-- A frame on a stream: its number, its unit, its PDU. -/
structure TcpD where
  id : Nat
  unit : UInt8
  pdu : List UInt8
def tcp0 : TcpD := ⟨0, 0, []⟩

def headF (id n : Nat) (u : UInt8) : List UInt8 := [UInt8.ofNat (id / 256), UInt8.ofNat id, 0, 0, UInt8.ofNat (n / 256), UInt8.ofNat n, u]
def putTF (a : TcpD) : List UInt8 × Int :=
  if szF a.pdu.length ≠ 0 then ([], szF a.pdu.length) else (headF a.id (1 + a.pdu.length) a.unit ++ a.pdu, 0)
def getTF (b : List UInt8) : TcpD × Nat × Int :=
  if b.length < 7 then (tcp0, 0, 1)
  else if (b.getD 2 0).toNat ≠ 0 ∨ (b.getD 3 0).toNat ≠ 0 ∨ at2 b 4 < 2 ∨ 254 < at2 b 4 then (tcp0, 0, 4)
  else if b.length < 6 + at2 b 4 then (tcp0, 0, 1)
  else (⟨at2 b 0, b.getD 6 0, (b.drop 7).take (at2 b 4 - 1)⟩, 6 + at2 b 4, 0)
/-- All whole frames that bytes begin with; how many bytes they have; what is wrong behind them. (With fuel.) -/
def splitN : Nat → List UInt8 → List TcpD × Nat × Int
  | 0, _ => ([], 0, 0)
  | f + 1, b =>
    if (getTF b).2.2 = 1 then ([], 0, 0) else if (getTF b).2.2 ≠ 0 then ([], 0, (getTF b).2.2)
    else ((getTF b).1 :: (splitN f (b.drop (getTF b).2.1)).1, (getTF b).2.1 + (splitN f (b.drop (getTF b).2.1)).2.1, (splitN f (b.drop (getTF b).2.1)).2.2)
def splitF (b : List UInt8) : List TcpD × Nat × Int := splitN (b.length + 1) b

theorem getTF_ok {b : List UInt8} (h : (getTF b).2.2 = 0) : 8 ≤ (getTF b).2.1 ∧ (getTF b).2.1 ≤ b.length ∧ (getTF b).2.1 = 6 + at2 b 4 ∧ at2 b 4 ≤ 254 ∧ 7 ≤ b.length := by
  unfold getTF at h ⊢
  split at h
  · simp at h
  · rename_i h1
    rw [if_neg h1]
    split at h
    · simp at h
    · rename_i h2
      rw [if_neg h2]
      split at h
      · simp at h
      · rename_i h3
        rw [if_neg h3]
        exact ⟨by simp only; omega, by simp only; omega, rfl, by omega, by omega⟩
theorem getTF_err (b : List UInt8) : (getTF b).2.2 = 0 ∨ ((getTF b).1 = tcp0 ∧ (getTF b).2.1 = 0 ∧ ((getTF b).2.2 = 1 ∨ (getTF b).2.2 = 4)) := by
  unfold getTF
  split
  · simp
  · split
    · simp
    · split
      · simp
      · simp
theorem splitN_short {f : Nat} {b : List UInt8} (h : (getTF b).2.2 = 1) : splitN (f + 1) b = ([], 0, 0) := if_pos h
theorem splitN_bad {f : Nat} {b : List UInt8} (h : ¬ (getTF b).2.2 = 1) (h2 : ¬ (getTF b).2.2 = 0) : splitN (f + 1) b = ([], 0, (getTF b).2.2) := by
  show (if _ then _ else _) = _
  rw [if_neg h, if_pos h2]
theorem splitN_ok {f : Nat} {b : List UInt8} (h2 : (getTF b).2.2 = 0) : splitN (f + 1) b = ((getTF b).1 :: (splitN f (b.drop (getTF b).2.1)).1, (getTF b).2.1 + (splitN f (b.drop (getTF b).2.1)).2.1, (splitN f (b.drop (getTF b).2.1)).2.2) := by
  show (if _ then _ else _) = _
  rw [if_neg (by omega), if_neg (by simp [h2])]
/-- Enough fuel is as good as more. -/
theorem splitN_fuel : ∀ (f : Nat) (b : List UInt8), b.length < f → splitN f b = splitF b := by
  suffices h : ∀ (n f g : Nat) (b : List UInt8), b.length ≤ n → b.length < f → b.length < g → splitN f b = splitN g b from
    fun f b hb => h b.length f (b.length + 1) b (Nat.le_refl _) hb (by omega)
  intro n
  induction n with
  | zero =>
    intro f g b h1 h2 h3
    obtain ⟨f, rfl⟩ : ∃ k, f = k + 1 := ⟨f - 1, by omega⟩
    obtain ⟨g, rfl⟩ : ∃ k, g = k + 1 := ⟨g - 1, by omega⟩
    have hs : (getTF b).2.2 = 1 := by unfold getTF; rw [if_pos (by omega)]
    rw [splitN_short hs, splitN_short hs]
  | succ n ih =>
    intro f g b h1 h2 h3
    obtain ⟨f, rfl⟩ : ∃ k, f = k + 1 := ⟨f - 1, by omega⟩
    obtain ⟨g, rfl⟩ : ∃ k, g = k + 1 := ⟨g - 1, by omega⟩
    by_cases hs : (getTF b).2.2 = 1
    · rw [splitN_short hs, splitN_short hs]
    · by_cases h0 : (getTF b).2.2 = 0
      · have hk := getTF_ok h0
        rw [splitN_ok h0, splitN_ok h0, ih f g (b.drop (getTF b).2.1) (by simp; omega) (by simp; omega) (by simp; omega)]
      · rw [splitN_bad hs h0, splitN_bad hs h0]
theorem splitF_short {b : List UInt8} (h : (getTF b).2.2 = 1) : splitF b = ([], 0, 0) := splitN_short h
theorem splitF_bad {b : List UInt8} (h : ¬ (getTF b).2.2 = 1) (h2 : ¬ (getTF b).2.2 = 0) : splitF b = ([], 0, (getTF b).2.2) := splitN_bad h h2
theorem splitF_ok {b : List UInt8} (h2 : (getTF b).2.2 = 0) : splitF b = ((getTF b).1 :: (splitF (b.drop (getTF b).2.1)).1, (getTF b).2.1 + (splitF (b.drop (getTF b).2.1)).2.1, (splitF (b.drop (getTF b).2.1)).2.2) := by
  have hk := getTF_ok h2
  rw [show splitF b = splitN (b.length + 1) b from rfl, splitN_ok h2, splitN_fuel b.length _ (by simp; omega)]
theorem splitF_le : ∀ (n : Nat) (b : List UInt8), b.length ≤ n → (splitF b).2.1 ≤ b.length ∧ 8 * (splitF b).1.length ≤ (splitF b).2.1 ∧ ((splitF b).2.2 = 0 ∨ (splitF b).2.2 = 4) := by
  intro n
  induction n with
  | zero =>
    intro b h
    rw [splitF_short (by unfold getTF; rw [if_pos (by omega)])]; simp
  | succ n ih =>
    intro b h
    by_cases hs : (getTF b).2.2 = 1
    · rw [splitF_short hs]; simp
    · by_cases h0 : (getTF b).2.2 = 0
      · have hk := getTF_ok h0
        rw [splitF_ok h0]
        have := ih (b.drop (getTF b).2.1) (by simp; omega)
        simp only [List.length_drop, List.length_cons] at this ⊢
        omega
      · rw [splitF_bad hs h0]
        rcases getTF_err b with h | ⟨_, _, h | h⟩
        · exact absurd h h0
        · exact absurd h hs
        · simp [h]
/-- What the loop has done: from `at_` on, with the frames l. -/
def restF (l : List TcpD) (at_ : Nat) (r : List TcpD × Nat × Int) : List TcpD × Nat × Int := (l ++ r.1, at_ + r.2.1, r.2.2)
end Go.Out
