/- Rows of the call's own that grow, and what lies beside them: plain lemmas; no program in sight. -/
import Derived.Test.YtjmddiffeffgnaaList
namespace Go.Out
open Go Go.RowKit
set_option linter.unusedVariables false

/-- The end of a slice, from item k on. -/
theorem Rd.from {w : World} {A : Option Addr} {n c k : Nat} {xs : List Value} (h : Rd w A n xs) (hk : k ≤ n) (hc : n ≤ c) : Rd w (if c = k then A else Option.map (fun x => x.add k) A) (n - k) (xs.drop k) := by
  by_cases e : c = k
  · rw [if_pos e]
    have : n = k := by omega
    subst this
    rw [Nat.sub_self, List.drop_of_length_le (by rw [h.1]; exact Nat.le_refl _)]
    exact Rd.empty_ _ _
  · rw [if_neg e]
    have := h.cut (k := k) (m := n - k) (by omega)
    rwa [List.take_of_length_le (by simp [h.1])] at this
theorem Rd.from8 {w : World} {A : Option Addr} {n c k : Nat} {l : List UInt8} (h : Rd w A n (l.map cB)) (hk : k ≤ n) (hc : n ≤ c) : Rd w (if c = k then A else Option.map (fun x => x.add k) A) (n - k) ((l.drop k).map cB) := by
  rw [List.map_drop]; exact h.from hk hc
theorem ownsRow_ty {w : World} {base size n : Nat} {t : TypeId} {v : Value} {xs : List Value} (h : w.ownsRow base t size v n xs) {g : Nat} (hg : v.ownBlock = some g) : TyAt w g t := by
  rcases h.2 with ⟨rfl, _⟩ | ⟨g', cap, cur, rfl, _, hh, _⟩
  · cases hg
  · cases hg; exact TyAt.of hh
theorem Own.ty {w : World} {base : Nat} {e : TypeId} {p : Value → Prop} {A : Option Addr} {n c : Nat} {xs : List Value} (h : Own w base e p A n c xs) {g : Nat} (hg : blk A = some g) : TyAt w g e := by
  rcases h.2.2.2 with ⟨rfl, _⟩ | ⟨g', off, cur, rfl, _, hh, _⟩
  · cases hg
  · cases hg; exact TyAt.of hh
theorem TyAt.inj {w : World} {g : Nat} {t e : TypeId} (h : TyAt w g t) (h' : TyAt w g e) : t = e := by
  obtain ⟨cs, fr, h⟩ := h
  obtain ⟨cs', fr', h'⟩ := h'
  rw [h] at h'
  injection h' with h'
  injection h'
/-- A row of another type grows. -/
theorem Own.grown_ty {w w' : World} {base base' size m : Nat} {e t : TypeId} {p : Value → Prop} {A : Option Addr} {n c : Nat} {xs ys : List Value} {v : Value} (h : Own w base e p A n c xs) (hr : w.ownsRow base' t size v m ys) (ht : t ≠ e) (hg : w.grownBy w' v.ownBlock) : Own w' base e p A n c xs :=
  h.grown hg fun g hg' e' => ht ((ownsRow_ty hr e'.symm).inj (h.ty hg'))
theorem ownsRow_slice {w : World} {base size n : Nat} {t : TypeId} {v : Value} {xs : List Value} (h : w.ownsRow base t size v n xs) : ∃ A c, v = .slice A n c ∧ n ≤ c ∧ c ≤ 9223372036854775807 ∧ ∀ g, v.ownBlock = some g → base ≤ g ∧ g < w.heap.size := by
  refine (?_ : (∃ A c, v = .slice A n c ∧ n ≤ c ∧ c ≤ 9223372036854775807) → _) ?_
  · rintro ⟨A, c, h1, h2, h3⟩; exact ⟨A, c, h1, h2, h3, h.lt⟩
  · rcases h.2 with ⟨rfl, rfl⟩ | ⟨g', cap, cur, rfl, _, hh, h1, h2, _⟩
    · exact ⟨none, 0, rfl, Nat.le_refl _, by omega⟩
    · exact ⟨_, cap, rfl, h1, by unfold maxLen at h2; exact h2⟩
end Go.Out
