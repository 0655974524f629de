/- Lists whose items have several cells: plain lemmas; no program in sight. -/
import Derived.Test.YtjmddiffeffgnaaExt
namespace Go.Out
open Go Go.RowKit
set_option linter.unusedVariables false

/-- What the cells of one item read as: so many cells; growth of the world turns nothing. -/
structure Kind (α : Type) where
  k : Nat
  R : World → List Value → α → Prop
  ext : ∀ {w w' : World} {cs : List Value} {x : α}, R w cs x → Ext w w' → R w' cs x

section
variable {α : Type} {K : Kind α} {w w' : World} {A : Option Addr} {n : Nat} {l : List α}

/-- A slice value's items read as l. -/
def RdL (K : Kind α) (w : World) (A : Option Addr) (n : Nat) (l : List α) : Prop :=
  l.length = n ∧ (0 < n → ∃ b off, A = some ⟨b, off, none⟩ ∧ b < w.heap.size ∧ ∀ i x, l[i]? = some x → ∃ cs, cs.length = K.k ∧ (∀ j u, cs[j]? = some u → w.cell? ⟨b, off + (i * K.k + j), none⟩ = some u) ∧ K.R w cs x)
theorem RdL.nil_ (K : Kind α) (w : World) (A : Option Addr) : RdL K w A 0 [] := ⟨rfl, fun h => absurd h (by omega)⟩
theorem RdL.length (h : RdL K w A n l) : l.length = n := h.1
theorem RdL.ext (h : RdL K w A n l) (hx : Ext w w') : RdL K w' A n l :=
  ⟨h.1, fun hn => by
    obtain ⟨b, off, e, hb, hc⟩ := h.2 hn
    refine ⟨b, off, e, Nat.lt_of_lt_of_le hb hx.size, fun i x hi => ?_⟩
    obtain ⟨cs, h1, h2, h3⟩ := hc i x hi
    exact ⟨cs, h1, fun j u hu => hx.cell hb (h2 j u hu), K.ext h3 hx⟩⟩
theorem RdL.at_ (h : RdL K w A n l) {i : Nat} (hi : i < n) :
    ∃ b off, A = some ⟨b, off, none⟩ ∧ b < w.heap.size ∧ ∃ hl : i < l.length, ∃ cs, cs.length = K.k ∧ (∀ j u, cs[j]? = some u → w.cell? ⟨b, off + (i * K.k + j), none⟩ = some u) ∧ K.R w cs l[i] := by
  obtain ⟨b, off, e, hb, hc⟩ := h.2 (by omega)
  have hl : i < l.length := by have := h.1; omega
  exact ⟨b, off, e, hb, hl, hc i l[i] (List.getElem?_eq_getElem hl)⟩

/-- The cells xs are the items l, one behind the other. -/
def Items (K : Kind α) (w : World) (xs : List Value) (l : List α) : Prop := xs.length = l.length * K.k ∧ ∀ i x, l[i]? = some x → K.R w ((xs.drop (i * K.k)).take K.k) x
theorem Items.nil_ (K : Kind α) (w : World) : Items K w [] [] := ⟨by simp, by simp⟩
theorem Items.mono {xs : List Value} (h : Items K w xs l) (hm : ∀ cs x, K.R w cs x → K.R w' cs x) : Items K w' xs l := ⟨h.1, fun i x hi => hm _ _ (h.2 i x hi)⟩
theorem Items.ext {xs : List Value} (h : Items K w xs l) (hx : Ext w w') : Items K w' xs l := h.mono fun _ _ hr => K.ext hr hx
theorem Items.snoc {xs news : List Value} {x : α} (h : Items K w xs l) (hr : K.R w news x) (hn : news.length = K.k) : Items K w (xs ++ news) (l ++ [x]) := by
  refine ⟨by simp [h.1, hn, Nat.succ_mul], fun i y hi => ?_⟩
  rcases Nat.lt_or_ge i l.length with hlt | hge
  · rw [List.getElem?_append_left hlt] at hi
    have := h.2 i y hi
    have h1 : i * K.k + K.k ≤ xs.length := by rw [h.1]; have := Nat.mul_le_mul_right K.k (show i + 1 ≤ l.length by omega); rw [Nat.succ_mul] at this; exact this
    rwa [List.drop_append_of_le_length (by omega), List.take_append_of_le_length (by simp; omega)]
  · rw [List.getElem?_append_right hge] at hi
    have hi0 : i = l.length := by
      rcases Nat.eq_zero_or_pos (i - l.length) with h0 | h0
      · omega
      · rw [List.getElem?_eq_none (by simp; omega)] at hi; cases hi
    subst hi0
    simp only [Nat.sub_self, List.getElem?_cons_zero, Option.some.injEq] at hi
    subst hi
    rw [← h.1, List.drop_left, List.take_of_length_le (by omega)]
    exact hr
theorem Items.append {xs ys : List Value} {l' : List α} (h : Items K w xs l) (h' : Items K w ys l') : Items K w (xs ++ ys) (l ++ l') := by
  refine ⟨by simp [h.1, h'.1, Nat.add_mul], fun i y hi => ?_⟩
  rcases Nat.lt_or_ge i l.length with hlt | hge
  · rw [List.getElem?_append_left hlt] at hi
    have := h.2 i y hi
    have h1 : i * K.k + K.k ≤ xs.length := by rw [h.1]; have := Nat.mul_le_mul_right K.k (show i + 1 ≤ l.length by omega); rw [Nat.succ_mul] at this; exact this
    rwa [List.drop_append_of_le_length (by omega), List.take_append_of_le_length (by simp; omega)]
  · rw [List.getElem?_append_right hge] at hi
    have := h'.2 _ _ hi
    have e : i * K.k = xs.length + (i - l.length) * K.k := by
      rw [h.1, ← Nat.add_mul]; congr 1; omega
    rw [e, ← List.drop_drop, List.drop_left]
    exact this
theorem Items.one {news : List Value} {x : α} (hr : K.R w news x) (hn : news.length = K.k) : Items K w news [x] := by
  have := (Items.nil_ K w).snoc hr hn
  simpa using this

/-- A slice of the call's own, its items read. -/
def OwL (K : Kind α) (w : World) (base : Nat) (e : TypeId) (v : Value) (l : List α) : Prop := ∃ xs, w.ownsRow base e K.k v l.length xs ∧ Items K w xs l
theorem OwL.nil_ (K : Kind α) (w : World) (base : Nat) (e : TypeId) : OwL K w base e (.slice none 0 0) [] := ⟨[], World.ownsRow_nil _ _ _ _, Items.nil_ _ _⟩
theorem OwL.form {base : Nat} {e : TypeId} {v : Value} (h : OwL K w base e v l) : ∃ A c, v = .slice A l.length c ∧ l.length ≤ c ∧ c ≤ 9223372036854775807 ∧ RdL K w A l.length l ∧ (∀ g, blk A = some g → base ≤ g ∧ g < w.heap.size) := by
  obtain ⟨xs, ⟨h1, h2⟩, h3⟩ := h
  rcases h2 with ⟨rfl, h0⟩ | ⟨g, cap, cur, rfl, hb, hg, hc, hm, hs, ht⟩
  · rw [h0]
    have : l = [] := List.eq_nil_of_length_eq_zero h0
    subst this
    exact ⟨none, 0, rfl, Nat.le_refl _, by omega, RdL.nil_ _ _ _, by simp [blk]⟩
  · refine ⟨_, cap, rfl, hc, by unfold maxLen at hm; exact hm, ⟨rfl, fun hn => ⟨g, 0, rfl, lt_of_heap hg, fun i x hi => ⟨_, ?_, ?_, h3.2 i x hi⟩⟩⟩, fun g' hg' => by simp [blk] at hg'; subst hg'; exact ⟨hb, lt_of_heap hg⟩⟩
    · have hlt := (List.getElem?_eq_some_iff.1 hi).1
      have := Nat.mul_le_mul_right K.k (show i + 1 ≤ l.length by omega)
      rw [Nat.succ_mul] at this
      simp; omega
    · intro j u hu
      rw [List.getElem?_take] at hu
      split at hu
      · rw [List.getElem?_drop] at hu
        rw [cell_of_row _ _ _ _ _ _ hg, Nat.zero_add, ← Array.getElem?_toList]
        rw [← ht, List.getElem?_take] at hu
        split at hu
        · exact hu
        · cases hu
      · cases hu
theorem ownsRow_ext {base size k : Nat} {e : TypeId} {v : Value} {xs : List Value} (h : w.ownsRow base e size v k xs) (hx : Ext w w') : w'.ownsRow base e size v k xs :=
  h.kept (only_of_below hx.below none) (by cases v.ownBlock <;> simp)
theorem OwL.ext {base : Nat} {e : TypeId} {v : Value} (h : OwL K w base e v l) (hx : Ext w w') : OwL K w' base e v l := by
  obtain ⟨xs, h1, h2⟩ := h
  exact ⟨xs, ownsRow_ext h1 hx, h2.ext hx⟩
theorem OwL.mono {base base' : Nat} {e : TypeId} {v : Value} (h : OwL K w base e v l) (hb : base' ≤ base) : OwL K w base' e v l := by
  obtain ⟨xs, ⟨h1, h2⟩, h3⟩ := h
  refine ⟨xs, ⟨h1, ?_⟩, h3⟩
  rcases h2 with h2 | ⟨g, cap, cur, hv, hg, r⟩
  · exact .inl h2
  · exact .inr ⟨g, cap, cur, hv, by omega, r⟩
end
end Go.Out
