/- A world that has grown out of another: plain lemmas; no program in sight. -/
import Derived.Test.YtjmddiffeffgnaaWordPure
import Derived.Test.YtjmddiffeffgnaaBitPure
namespace Go.Out
open Go Go.RowKit
set_option linter.unusedVariables false

/-- Nothing that was there has turned. -/
def Ext (w w' : World) : Prop := Below w.heap.size w w'
section
variable {w w1 w2 w3 : World}
theorem Ext.refl (w : World) : Ext w w := Below.refl _ _
theorem Ext.of (h : Below w.heap.size w w1) : Ext w w1 := h
theorem Ext.below (h : Ext w w1) : Below w.heap.size w w1 := h
theorem Ext.size (h : Ext w w1) : w.heap.size ≤ w1.heap.size := Below.size h
theorem Ext.trans (h : Ext w w1) (h2 : Ext w1 w2) : Ext w w2 := Below.trans h (Below.mono h2 h.size)
theorem Ext.alloc (w : World) (o : Obj) : Ext w (w.alloc o) := (Below.refl _ _).alloc (Nat.le_refl _) _
theorem Ext.draws (w : World) (n : Nat) : Ext w (w.drewN n) := below_drewN (Below.refl _ _) n
theorem Ext.draw (w : World) : Ext w w.drew := (Below.refl _ _).drew
theorem Ext.set' (h : Ext w w1) {p : Addr} (hp : w.heap.size ≤ p.block) (u : Value) : Ext w (w1.setCell p u) := Below.setCell h hp u
theorem Ext.drewN' (h : Ext w w1) (n : Nat) : Ext w (w1.drewN n) := below_drewN h n
theorem Ext.drew' (h : Ext w w1) : Ext w w1.drew := Below.drew h
theorem Ext.alloc' (h : Ext w w1) (o : Obj) : Ext w (w1.alloc o) := h.trans (Ext.alloc _ _)
theorem Ext.grown' (h : Ext w w1) {row : Option Nat} (hg : w1.grownBy w2 row) (hr : ∀ k, row = some k → w.heap.size ≤ k) : Ext w w2 := Below.grown h hg h.size hr
theorem Ext.cell (h : Ext w w1) {b off : Nat} {v : Value} (hb : b < w.heap.size) (hc : w.cell? ⟨b, off, none⟩ = some v) : w1.cell? ⟨b, off, none⟩ = some v :=
  (Below.cell h (p := ⟨b, off, none⟩) hb).trans hc
theorem Ext.block (h : Ext w w1) {g : Nat} {o : Obj} (hg : w.heap[g]? = some o) : w1.heap[g]? = some o := (Below.block h g (lt_of_heap hg)).trans hg
theorem Rd.ext {A : Option Addr} {n : Nat} {xs : List Value} (h : Rd w A n xs) (hx : Ext w w1) : Rd w1 A n xs := Rd.below h hx
theorem Own.ext {base : Nat} {e : TypeId} {p : Value → Prop} {A : Option Addr} {n c : Nat} {xs : List Value} (h : Own w base e p A n c xs) (hx : Ext w w1) : Own w1 base e p A n c xs := Own.below h hx
/-- A call's own row, written on: what lies elsewhere stays. -/
theorem Own.ext_grown {base base' : Nat} {e e' : TypeId} {p p' : Value → Prop} {A A' : Option Addr} {n c n' c' : Nat} {xs xs' : List Value} (h : Own w base e p A n c xs) (h' : Own w base' e' p' A' n' c' xs') (hs : Sep A A') (hg : w.grownBy w1 (blk A')) : Own w1 base e p A n c xs :=
  h.grown hg fun g hg' e => hs g hg' e.symm
end
theorem Own.set_below {w : World} {base : Nat} {e : TypeId} {p : Value → Prop} {A : Option Addr} {n c : Nat} {xs : List Value} (h : Own w base e p A n c xs) {q : Addr} (hq : q.block < base) (u : Value) : Own (w.setCell q u) base e p A n c xs :=
  h.kept fun g hg => Below.heap_setCell w q u g (by have := (h.lt g hg).1; omega)
/-- A block of cells of a type lies there. -/
def TyAt (w : World) (g : Nat) (t : TypeId) : Prop := ∃ cs fr, w.heap[g]? = some (.cells cs t fr)
theorem TyAt.of {w : World} {g : Nat} {t : TypeId} {cs : Array Value} {fr : Nat × Nat} (h : w.heap[g]? = some (.cells cs t fr)) : TyAt w g t := ⟨cs, fr, h⟩
theorem TyAt.set {w : World} {g : Nat} {t : TypeId} (h : TyAt w g t) (q : Addr) (u : Value) : TyAt (w.setCell q u) g t := by
  obtain ⟨cs, fr, h⟩ := h
  by_cases e : g = q.block
  · subst e
    simp only [TyAt, World.setCell, Array.getElem?_modify, if_true, h, Option.map_some]
    exact ⟨_, _, rfl⟩
  · exact ⟨cs, fr, (Below.heap_setCell w q u g e).trans h⟩
/-- A cell of a block of another type is written. -/
theorem Own.set_ty {w : World} {base : Nat} {e t : TypeId} {p : Value → Prop} {A : Option Addr} {n c : Nat} {xs : List Value} (h : Own w base e p A n c xs) {q : Addr} (hq : TyAt w q.block t) (ht : t ≠ e) (u : Value) : Own (w.setCell q u) base e p A n c xs :=
  h.kept fun g hg => Below.heap_setCell w q u g (by
    rintro rfl
    obtain ⟨cs, fr, hq⟩ := hq
    rcases h.2.2.2 with ⟨rfl, _⟩ | ⟨g', off, cur, rfl, _, hh, _⟩
    · simp [blk] at hg
    · simp [blk] at hg; subst hg
      rw [hh] at hq
      injection hq with hq
      injection hq with _ hq _
      exact ht hq.symm)
/-- A row that the call has just laid, wherever. -/
theorem Rd.lit (w : World) (xs : List Value) (t : TypeId) (fr : Nat × Nat) (n g : Nat) (hn : xs.length = n) (hg : g = w.heap.size) : Rd (w.alloc (.cells xs.toArray t fr)) (some ⟨g, 0, none⟩) n xs := by
  subst hg
  exact ⟨hn, fun _ => ⟨_, 0, rfl, by simp, fun j u hu => by
    rw [cell_of_row _ _ _ _ _ _ (heap_alloc_new w _), Nat.zero_add]; simpa using hu⟩⟩
/-- All cells of a list of bytes that is there, by their places. -/
theorem Rd.u8all {w : World} {A : Option Addr} {n : Nat} {l : List UInt8} (h : Rd w A n (l.map cB)) (hn : 0 < n) :
    ∃ b off, A = some ⟨b, off, none⟩ ∧ b < w.heap.size ∧ ∀ j, j < n → w.cell? ⟨b, off + j, none⟩ = some (.int .u8 ((l.getD j 0).toNat : Int)) := by
  obtain ⟨b, off, e, hb, hc⟩ := h.2 hn
  have hl := h.length
  refine ⟨b, off, e, hb, fun j hj => hc j _ ?_⟩
  rw [List.getElem?_map, List.getElem?_eq_getElem (by omega), List.getD_eq_getElem?_getD, List.getElem?_eq_getElem (by omega)]
  rfl
theorem Rd.ext_u8all {w w1 : World} {A : Option Addr} {n : Nat} {l : List UInt8} (h : Rd w A n (l.map cB)) (hx : Ext w w1) (hn : 0 < n) :
    ∃ b off, A = some ⟨b, off, none⟩ ∧ b < w.heap.size ∧ ∀ j, j < n → w1.cell? ⟨b, off + j, none⟩ = some (.int .u8 ((l.getD j 0).toNat : Int)) := by
  obtain ⟨b, off, e, hb, hc⟩ := h.u8all hn
  exact ⟨b, off, e, hb, fun j hj => hx.cell hb (hc j hj)⟩
end Go.Out
