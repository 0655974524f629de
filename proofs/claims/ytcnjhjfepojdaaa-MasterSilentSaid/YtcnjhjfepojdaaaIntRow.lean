/- A world that has grown out of another: plain lemmas; no program in sight. -/
import Derived.Test.YtcnjhjfepojdaaaBitBack
namespace Go.Out
open Go Go.RowKit
set_option linter.unusedVariables false

/-- Nothing that was there has turned. -/
def Ext (w w' : World) : Prop := Below w.heap.size w w'
section
variable {w w1 w2 w3 : World}
theorem Ext.refl (w : World) : Ext w w := Below.refl _ _
theorem Ext.of (h : Below w.heap.size w w1) : Ext w w1 := h
theorem Ext.below (h : Ext w w1) : Below w.heap.size w w1 := h
theorem Ext.size (h : Ext w w1) : w.heap.size ≤ w1.heap.size := Below.size h
theorem Ext.trans (h : Ext w w1) (h2 : Ext w1 w2) : Ext w w2 := Below.trans h (Below.mono h2 h.size)
theorem Ext.alloc (w : World) (o : Obj) : Ext w (w.alloc o) := (Below.refl _ _).alloc (Nat.le_refl _) _
theorem Ext.draws (w : World) (n : Nat) : Ext w (w.drewN n) := below_drewN (Below.refl _ _) n
theorem Ext.draw (w : World) : Ext w w.drew := (Below.refl _ _).drew
theorem Ext.set' (h : Ext w w1) {p : Addr} (hp : w.heap.size ≤ p.block) (u : Value) : Ext w (w1.setCell p u) := Below.setCell h hp u
theorem Ext.drewN' (h : Ext w w1) (n : Nat) : Ext w (w1.drewN n) := below_drewN h n
theorem Ext.drew' (h : Ext w w1) : Ext w w1.drew := Below.drew h
theorem Ext.alloc' (h : Ext w w1) (o : Obj) : Ext w (w1.alloc o) := h.trans (Ext.alloc _ _)
theorem Ext.grown' (h : Ext w w1) {row : Option Nat} (hg : w1.grownBy w2 row) (hr : ∀ k, row = some k → w.heap.size ≤ k) : Ext w w2 := Below.grown h hg h.size hr
theorem Ext.cell (h : Ext w w1) {b off : Nat} {v : Value} (hb : b < w.heap.size) (hc : w.cell? ⟨b, off, none⟩ = some v) : w1.cell? ⟨b, off, none⟩ = some v :=
  (Below.cell h (p := ⟨b, off, none⟩) hb).trans hc
theorem Ext.block (h : Ext w w1) {g : Nat} {o : Obj} (hg : w.heap[g]? = some o) : w1.heap[g]? = some o := (Below.block h g (lt_of_heap hg)).trans hg
theorem Rd.ext {A : Option Addr} {n : Nat} {xs : List Value} (h : Rd w A n xs) (hx : Ext w w1) : Rd w1 A n xs := Rd.below h hx
theorem Own.ext {base : Nat} {e : TypeId} {p : Value → Prop} {A : Option Addr} {n c : Nat} {xs : List Value} (h : Own w base e p A n c xs) (hx : Ext w w1) : Own w1 base e p A n c xs := Own.below h hx
/-- A call's own row, written on: what lies elsewhere stays. -/
theorem Own.ext_grown {base base' : Nat} {e e' : TypeId} {p p' : Value → Prop} {A A' : Option Addr} {n c n' c' : Nat} {xs xs' : List Value} (h : Own w base e p A n c xs) (h' : Own w base' e' p' A' n' c' xs') (hs : Sep A A') (hg : w.grownBy w1 (blk A')) : Own w1 base e p A n c xs :=
  h.grown hg fun g hg' e => hs g hg' e.symm
end
theorem Own.set_below {w : World} {base : Nat} {e : TypeId} {p : Value → Prop} {A : Option Addr} {n c : Nat} {xs : List Value} (h : Own w base e p A n c xs) {q : Addr} (hq : q.block < base) (u : Value) : Own (w.setCell q u) base e p A n c xs :=
  h.kept fun g hg => Below.heap_setCell w q u g (by have := (h.lt g hg).1; omega)
/-- A block of cells of a type lies there. -/
def TyAt (w : World) (g : Nat) (t : TypeId) : Prop := ∃ cs fr, w.heap[g]? = some (.cells cs t fr)
theorem TyAt.of {w : World} {g : Nat} {t : TypeId} {cs : Array Value} {fr : Nat × Nat} (h : w.heap[g]? = some (.cells cs t fr)) : TyAt w g t := ⟨cs, fr, h⟩
theorem TyAt.set {w : World} {g : Nat} {t : TypeId} (h : TyAt w g t) (q : Addr) (u : Value) : TyAt (w.setCell q u) g t := by
  obtain ⟨cs, fr, h⟩ := h
  by_cases e : g = q.block
  · subst e
    simp only [TyAt, World.setCell, Array.getElem?_modify, if_true, h, Option.map_some]
    exact ⟨_, _, rfl⟩
  · exact ⟨cs, fr, (Below.heap_setCell w q u g e).trans h⟩
/-- A cell of a block of another type is written. -/
theorem Own.set_ty {w : World} {base : Nat} {e t : TypeId} {p : Value → Prop} {A : Option Addr} {n c : Nat} {xs : List Value} (h : Own w base e p A n c xs) {q : Addr} (hq : TyAt w q.block t) (ht : t ≠ e) (u : Value) : Own (w.setCell q u) base e p A n c xs :=
  h.kept fun g hg => Below.heap_setCell w q u g (by
    rintro rfl
    obtain ⟨cs, fr, hq⟩ := hq
    rcases h.2.2.2 with ⟨rfl, _⟩ | ⟨g', off, cur, rfl, _, hh, _⟩
    · simp [blk] at hg
    · simp [blk] at hg; subst hg
      rw [hh] at hq
      injection hq with hq
      injection hq with _ hq _
      exact ht hq.symm)
/-- A row that the call has just laid, wherever. -/
theorem Rd.lit (w : World) (xs : List Value) (t : TypeId) (fr : Nat × Nat) (n g : Nat) (hn : xs.length = n) (hg : g = w.heap.size) : Rd (w.alloc (.cells xs.toArray t fr)) (some ⟨g, 0, none⟩) n xs := by
  subst hg
  exact ⟨hn, fun _ => ⟨_, 0, rfl, by simp, fun j u hu => by
    rw [cell_of_row _ _ _ _ _ _ (heap_alloc_new w _), Nat.zero_add]; simpa using hu⟩⟩
/-- All cells of a list of bytes that is there, by their places. -/
theorem Rd.u8all {w : World} {A : Option Addr} {n : Nat} {l : List UInt8} (h : Rd w A n (l.map cB)) (hn : 0 < n) :
    ∃ b off, A = some ⟨b, off, none⟩ ∧ b < w.heap.size ∧ ∀ j, j < n → w.cell? ⟨b, off + j, none⟩ = some (.int .u8 ((l.getD j 0).toNat : Int)) := by
  obtain ⟨b, off, e, hb, hc⟩ := h.2 hn
  have hl := h.length
  refine ⟨b, off, e, hb, fun j hj => hc j _ ?_⟩
  rw [List.getElem?_map, List.getElem?_eq_getElem (by omega), List.getD_eq_getElem?_getD, List.getElem?_eq_getElem (by omega)]
  rfl
theorem Rd.ext_u8all {w w1 : World} {A : Option Addr} {n : Nat} {l : List UInt8} (h : Rd w A n (l.map cB)) (hx : Ext w w1) (hn : 0 < n) :
    ∃ b off, A = some ⟨b, off, none⟩ ∧ b < w.heap.size ∧ ∀ j, j < n → w1.cell? ⟨b, off + j, none⟩ = some (.int .u8 ((l.getD j 0).toNat : Int)) := by
  obtain ⟨b, off, e, hb, hc⟩ := h.u8all hn
  exact ⟨b, off, e, hb, fun j hj => hx.cell hb (hc j hj)⟩
end Go.Out

namespace Go.Out
open Go Go.RowKit
set_option linter.unusedVariables false

/-- What the cells of one item read as: so many cells; growth of the world turns nothing. -/
structure Kind (α : Type) where
  k : Nat
  R : World → List Value → α → Prop
  ext : ∀ {w w' : World} {cs : List Value} {x : α}, R w cs x → Ext w w' → R w' cs x

section
variable {α : Type} {K : Kind α} {w w' : World} {A : Option Addr} {n : Nat} {l : List α}

/-- A slice value's items read as l. -/
def RdL (K : Kind α) (w : World) (A : Option Addr) (n : Nat) (l : List α) : Prop :=
  l.length = n ∧ (0 < n → ∃ b off, A = some ⟨b, off, none⟩ ∧ b < w.heap.size ∧ ∀ i x, l[i]? = some x → ∃ cs, cs.length = K.k ∧ (∀ j u, cs[j]? = some u → w.cell? ⟨b, off + (i * K.k + j), none⟩ = some u) ∧ K.R w cs x)
theorem RdL.nil_ (K : Kind α) (w : World) (A : Option Addr) : RdL K w A 0 [] := ⟨rfl, fun h => absurd h (by omega)⟩
theorem RdL.length (h : RdL K w A n l) : l.length = n := h.1
theorem RdL.ext (h : RdL K w A n l) (hx : Ext w w') : RdL K w' A n l :=
  ⟨h.1, fun hn => by
    obtain ⟨b, off, e, hb, hc⟩ := h.2 hn
    refine ⟨b, off, e, Nat.lt_of_lt_of_le hb hx.size, fun i x hi => ?_⟩
    obtain ⟨cs, h1, h2, h3⟩ := hc i x hi
    exact ⟨cs, h1, fun j u hu => hx.cell hb (h2 j u hu), K.ext h3 hx⟩⟩
theorem RdL.at_ (h : RdL K w A n l) {i : Nat} (hi : i < n) :
    ∃ b off, A = some ⟨b, off, none⟩ ∧ b < w.heap.size ∧ ∃ hl : i < l.length, ∃ cs, cs.length = K.k ∧ (∀ j u, cs[j]? = some u → w.cell? ⟨b, off + (i * K.k + j), none⟩ = some u) ∧ K.R w cs l[i] := by
  obtain ⟨b, off, e, hb, hc⟩ := h.2 (by omega)
  have hl : i < l.length := by have := h.1; omega
  exact ⟨b, off, e, hb, hl, hc i l[i] (List.getElem?_eq_getElem hl)⟩

/-- The cells xs are the items l, one behind the other. -/
def Items (K : Kind α) (w : World) (xs : List Value) (l : List α) : Prop := xs.length = l.length * K.k ∧ ∀ i x, l[i]? = some x → K.R w ((xs.drop (i * K.k)).take K.k) x
theorem Items.nil_ (K : Kind α) (w : World) : Items K w [] [] := ⟨by simp, by simp⟩
theorem Items.mono {xs : List Value} (h : Items K w xs l) (hm : ∀ cs x, K.R w cs x → K.R w' cs x) : Items K w' xs l := ⟨h.1, fun i x hi => hm _ _ (h.2 i x hi)⟩
theorem Items.ext {xs : List Value} (h : Items K w xs l) (hx : Ext w w') : Items K w' xs l := h.mono fun _ _ hr => K.ext hr hx
theorem Items.snoc {xs news : List Value} {x : α} (h : Items K w xs l) (hr : K.R w news x) (hn : news.length = K.k) : Items K w (xs ++ news) (l ++ [x]) := by
  refine ⟨by simp [h.1, hn, Nat.succ_mul], fun i y hi => ?_⟩
  rcases Nat.lt_or_ge i l.length with hlt | hge
  · rw [List.getElem?_append_left hlt] at hi
    have := h.2 i y hi
    have h1 : i * K.k + K.k ≤ xs.length := by rw [h.1]; have := Nat.mul_le_mul_right K.k (show i + 1 ≤ l.length by omega); rw [Nat.succ_mul] at this; exact this
    rwa [List.drop_append_of_le_length (by omega), List.take_append_of_le_length (by simp; omega)]
  · rw [List.getElem?_append_right hge] at hi
    have hi0 : i = l.length := by
      rcases Nat.eq_zero_or_pos (i - l.length) with h0 | h0
      · omega
      · rw [List.getElem?_eq_none (by simp; omega)] at hi; cases hi
    subst hi0
    simp only [Nat.sub_self, List.getElem?_cons_zero, Option.some.injEq] at hi
    subst hi
    rw [← h.1, List.drop_left, List.take_of_length_le (by omega)]
    exact hr
theorem Items.append {xs ys : List Value} {l' : List α} (h : Items K w xs l) (h' : Items K w ys l') : Items K w (xs ++ ys) (l ++ l') := by
  refine ⟨by simp [h.1, h'.1, Nat.add_mul], fun i y hi => ?_⟩
  rcases Nat.lt_or_ge i l.length with hlt | hge
  · rw [List.getElem?_append_left hlt] at hi
    have := h.2 i y hi
    have h1 : i * K.k + K.k ≤ xs.length := by rw [h.1]; have := Nat.mul_le_mul_right K.k (show i + 1 ≤ l.length by omega); rw [Nat.succ_mul] at this; exact this
    rwa [List.drop_append_of_le_length (by omega), List.take_append_of_le_length (by simp; omega)]
  · rw [List.getElem?_append_right hge] at hi
    have := h'.2 _ _ hi
    have e : i * K.k = xs.length + (i - l.length) * K.k := by
      rw [h.1, ← Nat.add_mul]; congr 1; omega
    rw [e, ← List.drop_drop, List.drop_left]
    exact this
theorem Items.one {news : List Value} {x : α} (hr : K.R w news x) (hn : news.length = K.k) : Items K w news [x] := by
  have := (Items.nil_ K w).snoc hr hn
  simpa using this

/-- A slice of the call's own, its items read. -/
def OwL (K : Kind α) (w : World) (base : Nat) (e : TypeId) (v : Value) (l : List α) : Prop := ∃ xs, w.ownsRow base e K.k v l.length xs ∧ Items K w xs l
theorem OwL.nil_ (K : Kind α) (w : World) (base : Nat) (e : TypeId) : OwL K w base e (.slice none 0 0) [] := ⟨[], World.ownsRow_nil _ _ _ _, Items.nil_ _ _⟩
theorem OwL.form {base : Nat} {e : TypeId} {v : Value} (h : OwL K w base e v l) : ∃ A c, v = .slice A l.length c ∧ l.length ≤ c ∧ c ≤ 9223372036854775807 ∧ RdL K w A l.length l ∧ (∀ g, blk A = some g → base ≤ g ∧ g < w.heap.size) := by
  obtain ⟨xs, ⟨h1, h2⟩, h3⟩ := h
  rcases h2 with ⟨rfl, h0⟩ | ⟨g, cap, cur, rfl, hb, hg, hc, hm, hs, ht⟩
  · rw [h0]
    have : l = [] := List.eq_nil_of_length_eq_zero h0
    subst this
    exact ⟨none, 0, rfl, Nat.le_refl _, by omega, RdL.nil_ _ _ _, by simp [blk]⟩
  · refine ⟨_, cap, rfl, hc, by unfold maxLen at hm; exact hm, ⟨rfl, fun hn => ⟨g, 0, rfl, lt_of_heap hg, fun i x hi => ⟨_, ?_, ?_, h3.2 i x hi⟩⟩⟩, fun g' hg' => by simp [blk] at hg'; subst hg'; exact ⟨hb, lt_of_heap hg⟩⟩
    · have hlt := (List.getElem?_eq_some_iff.1 hi).1
      have := Nat.mul_le_mul_right K.k (show i + 1 ≤ l.length by omega)
      rw [Nat.succ_mul] at this
      simp; omega
    · intro j u hu
      rw [List.getElem?_take] at hu
      split at hu
      · rw [List.getElem?_drop] at hu
        rw [cell_of_row _ _ _ _ _ _ hg, Nat.zero_add, ← Array.getElem?_toList]
        rw [← ht, List.getElem?_take] at hu
        split at hu
        · exact hu
        · cases hu
      · cases hu
theorem ownsRow_ext {base size k : Nat} {e : TypeId} {v : Value} {xs : List Value} (h : w.ownsRow base e size v k xs) (hx : Ext w w') : w'.ownsRow base e size v k xs :=
  h.kept (only_of_below hx.below none) (by cases v.ownBlock <;> simp)
theorem OwL.ext {base : Nat} {e : TypeId} {v : Value} (h : OwL K w base e v l) (hx : Ext w w') : OwL K w' base e v l := by
  obtain ⟨xs, h1, h2⟩ := h
  exact ⟨xs, ownsRow_ext h1 hx, h2.ext hx⟩
theorem OwL.mono {base base' : Nat} {e : TypeId} {v : Value} (h : OwL K w base e v l) (hb : base' ≤ base) : OwL K w base' e v l := by
  obtain ⟨xs, ⟨h1, h2⟩, h3⟩ := h
  refine ⟨xs, ⟨h1, ?_⟩, h3⟩
  rcases h2 with h2 | ⟨g, cap, cur, hv, hg, r⟩
  · exact .inl h2
  · exact .inr ⟨g, cap, cur, hv, by omega, r⟩
end
end Go.Out

namespace Go.Out
open Go Go.RowKit
set_option linter.unusedVariables false

/-- The end of a slice, from item k on. -/
theorem Rd.from {w : World} {A : Option Addr} {n c k : Nat} {xs : List Value} (h : Rd w A n xs) (hk : k ≤ n) (hc : n ≤ c) : Rd w (if c = k then A else Option.map (fun x => x.add k) A) (n - k) (xs.drop k) := by
  by_cases e : c = k
  · rw [if_pos e]
    have : n = k := by omega
    subst this
    rw [Nat.sub_self, List.drop_of_length_le (by rw [h.1]; exact Nat.le_refl _)]
    exact Rd.empty_ _ _
  · rw [if_neg e]
    have := h.cut (k := k) (m := n - k) (by omega)
    rwa [List.take_of_length_le (by simp [h.1])] at this
theorem Rd.from8 {w : World} {A : Option Addr} {n c k : Nat} {l : List UInt8} (h : Rd w A n (l.map cB)) (hk : k ≤ n) (hc : n ≤ c) : Rd w (if c = k then A else Option.map (fun x => x.add k) A) (n - k) ((l.drop k).map cB) := by
  rw [List.map_drop]; exact h.from hk hc
theorem ownsRow_ty {w : World} {base size n : Nat} {t : TypeId} {v : Value} {xs : List Value} (h : w.ownsRow base t size v n xs) {g : Nat} (hg : v.ownBlock = some g) : TyAt w g t := by
  rcases h.2 with ⟨rfl, _⟩ | ⟨g', cap, cur, rfl, _, hh, _⟩
  · cases hg
  · cases hg; exact TyAt.of hh
theorem Own.ty {w : World} {base : Nat} {e : TypeId} {p : Value → Prop} {A : Option Addr} {n c : Nat} {xs : List Value} (h : Own w base e p A n c xs) {g : Nat} (hg : blk A = some g) : TyAt w g e := by
  rcases h.2.2.2 with ⟨rfl, _⟩ | ⟨g', off, cur, rfl, _, hh, _⟩
  · cases hg
  · cases hg; exact TyAt.of hh
theorem TyAt.inj {w : World} {g : Nat} {t e : TypeId} (h : TyAt w g t) (h' : TyAt w g e) : t = e := by
  obtain ⟨cs, fr, h⟩ := h
  obtain ⟨cs', fr', h'⟩ := h'
  rw [h] at h'
  injection h' with h'
  injection h'
/-- A row of another type grows. -/
theorem Own.grown_ty {w w' : World} {base base' size m : Nat} {e t : TypeId} {p : Value → Prop} {A : Option Addr} {n c : Nat} {xs ys : List Value} {v : Value} (h : Own w base e p A n c xs) (hr : w.ownsRow base' t size v m ys) (ht : t ≠ e) (hg : w.grownBy w' v.ownBlock) : Own w' base e p A n c xs :=
  h.grown hg fun g hg' e' => ht ((ownsRow_ty hr e'.symm).inj (h.ty hg'))
theorem ownsRow_slice {w : World} {base size n : Nat} {t : TypeId} {v : Value} {xs : List Value} (h : w.ownsRow base t size v n xs) : ∃ A c, v = .slice A n c ∧ n ≤ c ∧ c ≤ 9223372036854775807 ∧ ∀ g, v.ownBlock = some g → base ≤ g ∧ g < w.heap.size := by
  refine (?_ : (∃ A c, v = .slice A n c ∧ n ≤ c ∧ c ≤ 9223372036854775807) → _) ?_
  · rintro ⟨A, c, h1, h2, h3⟩; exact ⟨A, c, h1, h2, h3, h.lt⟩
  · rcases h.2 with ⟨rfl, rfl⟩ | ⟨g', cap, cur, rfl, _, hh, h1, h2, _⟩
    · exact ⟨none, 0, rfl, Nat.le_refl _, by omega⟩
    · exact ⟨_, cap, rfl, h1, by unfold maxLen at h2; exact h2⟩
end Go.Out

namespace Go.Out
open Go Go.RowKit
set_option linter.unusedVariables false

def IsI64 (u : Value) : Prop := ∃ n : Int, u = .int .i64 n
/-- All cells of the slice's block are numbers. -/
def IntRow (w : World) (v : Value) : Prop := ∀ g, v.ownBlock = some g → ∃ cur e, w.heap[g]? = some (.cells cur e (0, 0)) ∧ ∀ u ∈ cur.toList, IsI64 u
theorem IntRow.nil_ (w : World) : IntRow w (.slice none 0 0) := fun g h => by simp [Value.ownBlock] at h
theorem IntRow.kept {w w' : World} {v : Value} (h : IntRow w v) (hk : ∀ g, v.ownBlock = some g → w'.heap[g]? = w.heap[g]?) : IntRow w' v := fun g hg => by
  obtain ⟨cur, e, h1, h2⟩ := h g hg
  exact ⟨cur, e, (hk g hg).trans h1, h2⟩
theorem IntRow.ext {w w' : World} {v : Value} (h : IntRow w v) (hx : Ext w w') : IntRow w' v := fun g hg => by
  obtain ⟨cur, e, h1, h2⟩ := h g hg
  exact ⟨cur, e, hx.block h1, h2⟩
theorem zeroCells_ints {z : Value} (hz : ∀ u ∈ z.cells, IsI64 u) (hs : 0 < z.cells.size) (k : Nat) : ∀ u ∈ (Builtin.zeroCells z.cells k).toList, IsI64 u := by
  intro u hu
  simp only [Builtin.zeroCells, Array.toList_map, List.mem_map] at hu
  obtain ⟨i, -, rfl⟩ := hu
  have hlt : i % z.cells.size < z.cells.size := Nat.mod_lt _ hs
  rw [getElem!_pos z.cells _ hlt]
  exact hz _ (Array.getElem_mem hlt)

/-- Behind an append the row's cells are numbers, as they were. -/
theorem run_append_ints {P : Program} {w : World} (base : Nat) (t ty e : TypeId) (i : TypeInfo) (z : Value) (size bytes : Nat) (ht : P.underlying t = some (.slice e)) (hi : P.info? e = some i) (hz : i.zero = some z)
    (hsize : i.size = size) (hby : i.bytes = bytes) (hzs : z.cells.size = size) (hsz : 0 < size) (hzi : ∀ u ∈ z.cells, IsI64 u)
    (v : Value) (n : Nat) (xs : List Value) (hown : w.ownsRow base e size v n xs) (hint : IntRow w v)
    (a : Addr) (m c : Nat) (news : List Value) (hl : news.length = m * size) (hnews : ∀ j u, news[j]? = some u → w.cell? (a.add j) = some u) (h1 : ∀ u ∈ news, u.oneCell' = true) (hni : ∀ u ∈ news, IsI64 u)
    (h63 : n + m ≤ maxLen) (hbytes : (n + m) * bytes ≤ 140737488355328) (hm0 : 0 < m) {v' : Value} {w' : World}
    (hrun : (Builtin.append_ #[t, t] ty #[v, .slice (some a) m c]).run P w = .ok v' w') : IntRow w' v' := by
  subst hsize
  subst hby
  have hxi : ∀ u ∈ xs, IsI64 u := by
    rcases hown.2 with ⟨rfl, rfl⟩ | ⟨g, cap, cur, rfl, hbg, hg, hnc, hcm, hcs, htake⟩
    · have hx : xs = [] := List.eq_nil_of_length_eq_zero (by simpa using hown.1)
      subst hx; simp
    · obtain ⟨cur', e', hg', hp⟩ := hint g rfl
      rw [hg] at hg'
      injection hg' with hg'
      injection hg' with h1 h2 h3
      subst h1
      intro u hu
      rw [← htake] at hu
      exact hp u (List.mem_of_mem_take hu)
  have hsmall : n + m ≤ 9223372036854775807 := by simp only [maxLen] at h63; omega
  rcases hown.2 with ⟨rfl, rfl⟩ | ⟨g, cap, cur, rfl, hbg, hg, hnc, hcm, hcs, htake⟩
  · have hr := run_append_nil (P := P) w t ty e i z ht hi hz a m c news hl hnews hm0 (by omega) (by have hb := hbytes; simp only [Nat.zero_add] at hb; omega)
    rw [hr] at hrun
    injection hrun with e1 e2
    subst e1; subst e2
    intro g hg
    simp only [Value.ownBlock, Option.some.injEq] at hg
    subst hg
    refine ⟨_, _, heap_alloc_new w.drew _, fun u hu => ?_⟩
    simp only [Array.toList_append, List.mem_append] at hu
    rcases hu with hu | hu
    · exact hni u hu
    · exact zeroCells_ints hzi (by omega) _ u hu
  · by_cases hroom : n + m ≤ cap
    · have hfit : n * i.size + news.length ≤ cur.size := by rw [hl, hcs, ← Nat.add_mul]; exact Nat.mul_le_mul_right _ hroom
      have hr := run_append_room (P := P) w t ty e i ht hi g n cap cur hg a m c news hl hnews h1 hroom hfit
      rw [hr] at hrun
      injection hrun with e1 e2
      subst e1; subst e2
      obtain ⟨cur', e', hg', hp⟩ := hint g rfl
      rw [hg] at hg'
      injection hg' with hg'
      injection hg' with q1 q2 q3
      subst q1
      intro g' hg'
      simp only [Value.ownBlock, Option.some.injEq] at hg'
      subst hg'
      refine ⟨_, _, setRow_heap w g cur _ e _ hg, fun u hu => ?_⟩
      simp only [List.mem_append] at hu
      rcases hu with (hu | hu) | hu
      · exact hp u (List.mem_of_mem_take hu)
      · exact hni u hu
      · exact hp u (List.mem_of_mem_drop hu)
    · have holds : ∀ j u, xs[j]? = some u → w.cell? ((⟨g, 0, none⟩ : Addr).add j) = some u := hown.cells (g := g) rfl
      have hr := run_append_grow (P := P) w t ty e i z ht hi hz ⟨g, 0, none⟩ n cap xs hown.1 holds a m c news hl hnews (by omega) (by omega) (growslice_fits (by omega) hbytes)
      rw [hr] at hrun
      injection hrun with e1 e2
      subst e1; subst e2
      intro g' hg'
      simp only [Value.ownBlock, Option.some.injEq] at hg'
      subst hg'
      refine ⟨_, _, heap_alloc_new w.drew _, fun u hu => ?_⟩
      simp only [Array.toList_append, List.mem_append] at hu
      rcases hu with (hu | hu) | hu
      · exact hxi u (by simpa using hu)
      · exact hni u (by simpa using hu)
      · exact zeroCells_ints hzi (by omega) _ u hu
/-- An append to a row of the call's own whose cells are numbers. -/
theorem wp_append_ints {P : Program} {w : World} {o : Oper} {a : Act} {K : Act → World → Prop} {Q : Exit → Act → World → Prop} (s x : Operand) (t : TypeId)
    (ho : o.op = .call { callee := .builtin .append, args := #[s, x], argTypes := #[t, t] })
    (base : Nat) (e : TypeId) (i : TypeInfo) (z : Value) (size bytes : Nat) (ht : P.underlying t = some (.slice e)) (hi : P.info? e = some i) (hz : i.zero = some z)
    (hsize : i.size = size) (hby : i.bytes = bytes) (hzs : z.cells.size = size) (hsz : 0 < size) (hzi : ∀ u ∈ z.cells, IsI64 u)
    (v : Value) (n : Nat) (xs : List Value) (hs : a.eval s = v) (hown : w.ownsRow base e size v n xs) (hint : IntRow w v)
    (ad : Addr) (m c : Nat) (news : List Value) (hx : a.eval x = .slice (some ad) m c) (hl : news.length = m * size) (hnews : ∀ j u, news[j]? = some u → w.cell? (ad.add j) = some u) (h1 : ∀ u ∈ news, u.oneCell' = true) (hni : ∀ u ∈ news, IsI64 u)
    (h63 : n + m ≤ maxLen) (hbytes : (n + m) * bytes ≤ 140737488355328) (hbase : base ≤ w.heap.size) (hm0 : 0 < m)
    (h : ∀ v' w', w'.ownsRow base e size v' (n + m) (xs ++ news) → IntRow w' v' → w.grownBy w' v.ownBlock → K (a.put o.dst v') w') : o.wp P a w K Q := by
  obtain ⟨v', w', hr, h2, h3, h4⟩ := run_append_own (P := P) w base t o.type e i z size bytes ht hi hz hsize hby hzs hsz v n xs hown ad m c news hl hnews h1 h63 hbytes hbase
  have h5 := run_append_ints base t o.type e i z size bytes ht hi hz hsize hby hzs hsz hzi v n xs hown hint ad m c news hl hnews h1 hni h63 hbytes hm0 hr
  unfold Oper.wp execOp
  simp only [ho, resolve, invoke, builtin, Sem.run_bind, Sem.run_pure, Result.andThen_ok, List.map_toArray, List.map_cons, List.map_nil, hs, hx, hr]
  exact h v' w' h2 h5 h3
end Go.Out
