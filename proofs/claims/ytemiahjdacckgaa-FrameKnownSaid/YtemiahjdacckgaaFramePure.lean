/- Frames on a line: plain laws; no program in sight. -/
import Derived.Test.YtemiahjdacckgaaSealPure
import Derived.Test.YtemiahjdacckgaaBase
namespace Go.Out
open Go Go.RowKit
set_option linter.unusedVariables false

/-- What is wrong with a PDU of so many bytes. -/
def szF (m : Nat) : Int := if m = 0 then 1 else if 253 < m then 2 else 0
def rtuF (u : UInt8) (b : List UInt8) : List UInt8 × Int :=
  if u.toNat < 1 ∨ 247 < u.toNat then ([], 24) else if szF b.length ≠ 0 then ([], szF b.length) else (sealF 2 (more16 65535) (u :: b), 0)
def lineF (o : List UInt8 × Int) : UInt8 × List UInt8 × Int :=
  if o.2 ≠ 0 then (0, [], o.2) else match o.1 with
    | [] => (0, [], 0)
    | x :: l => if x.toNat < 1 ∨ 247 < x.toNat then (0, [], 24) else (x, l, 0)
def openRtuF (b : List UInt8) : UInt8 × List UInt8 × Int :=
  if b.length < 4 then (0, [], 1) else if 256 < b.length then (0, [], 2) else lineF (openF 2 (more16 65535) b)
theorem openF_ok {k : Nat} {s : List UInt8 → Nat} {b : List UInt8} (h : (openF k s b).2 = 0) : (openF k s b).1 = b.take (b.length - k) := by
  unfold openF at h ⊢
  split at h
  · simp at h
  · split at h
    · simp [*]
    · simp at h
theorem rtuF_unit {u : UInt8} {b : List UInt8} (h : u.toNat < 1 ∨ 247 < u.toNat) : rtuF u b = ([], 24) := if_pos h
theorem rtuF_size {u : UInt8} {b : List UInt8} (h : ¬ (u.toNat < 1 ∨ 247 < u.toNat)) (hs : szF b.length ≠ 0) : rtuF u b = ([], szF b.length) := by unfold rtuF; rw [if_neg h, if_pos hs]
theorem rtuF_ok {u : UInt8} {b : List UInt8} (h : ¬ (u.toNat < 1 ∨ 247 < u.toNat)) (hs : szF b.length = 0) : rtuF u b = (sealF 2 (more16 65535) (u :: b), 0) := by unfold rtuF; rw [if_neg h, if_neg (by simp [hs])]
/-- All but the first of the call's own items. -/
theorem Own.tail {w : World} {base : Nat} {e : TypeId} {p : Value → Prop} {A : Option Addr} {n c : Nat} {xs : List Value} (h : Own w base e p A n c xs) (hn : 1 ≤ n) :
    Own w base e p (A.map (·.add 1)) (n - 1) (c - 1) (xs.drop 1) := by
  obtain ⟨h1, h2, h3, h4⟩ := h
  refine ⟨by simp [h1], by omega, by omega, ?_⟩
  rcases h4 with ⟨h5, h6⟩ | ⟨g, off, cur, h5, h6, h7, h8, h9, h10⟩
  · omega
  · refine .inr ⟨g, off + 1, cur, by subst h5; rfl, h6, h7, by omega, ?_, h10⟩
    rw [← h9, List.drop_take, List.drop_drop]
end Go.Out
