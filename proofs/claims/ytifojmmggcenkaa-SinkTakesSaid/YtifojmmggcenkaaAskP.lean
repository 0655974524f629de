/- Contracts of the requests: a request as a PDU: reads, one coil, one register. -/
import Derived.Test.YtifojmmggcenkaaAskX
import Derived.Test.YtifojmmggcenkaaAsk6
namespace Go.Proofs.Ytifojmmggcenkaa
set_option linter.unusedVariables false
set_option linter.unusedSimpArgs false
set_option maxRecDepth 100000
set_option maxHeartbeats 2000000
open Go Go.RowKit Go.Out

/-- A call that hands back bytes of its own and an error's number. -/
def RetU (w : World) (xs : List UInt8) (err : Int) (e : Ending) (w' : World) : Prop :=
  ∃ A n c, e = .returned (.tuple #[.slice A n c, .int .i64 err]) ∧ Own w' w.heap.size 5 IsU8 A n c (xs.map cB) ∧ Ext w w'
theorem RetU.of {w w' : World} {xs xs' : List UInt8} {A : Option Addr} {n c : Nat} (h : xs' = xs) (ho : Own w' w.heap.size 5 IsU8 A n c (xs'.map cB)) (hx : Ext w w') : RetU w xs 0 (.returned (.tuple #[.slice A n c, .int .i64 0])) w' := ⟨A, n, c, rfl, h ▸ ho, hx⟩
theorem Own.first (w : World) (base : Nat) (h : base ≤ w.heap.size) (x : UInt8) (v : Nat) (hv : x.toNat = v) : Own (w.alloc (.cells #[.int .u8 (v : Int)] 5)) base 5 IsU8 (some ⟨w.heap.size, 0, none⟩) 1 1 ([x].map cB) := by
  subst hv
  exact Own.bytes (l := [x]) h (heap_alloc_new w _) rfl rfl (by unfold maxLen; omega)
theorem heap_at (w : World) (o : Obj) (g : Nat) (h : g = w.heap.size) : (w.alloc o).heap[g]? = some o := by subst h; exact heap_alloc_new w o
theorem Grow.ne {w w' : World} {A A' : Option Addr} {g : Nat} (h : Grow w w' A A') (hlt : g < w.heap.size) (hne : blk A ≠ some g) : blk A' ≠ some g := by
  rcases h.2 with e | e
  · rw [e]; exact hne
  · intro h2
    have := e g h2
    omega
theorem Grow.own {w w' : World} {A A' B : Option Addr} {base n c : Nat} {t : TypeId} {p : Value → Prop} {xs : List Value} (h : Grow w w' A A') (ho : Own w base t p B n c xs) (hne : ∀ g, blk B = some g → blk A ≠ some g) : Own w' base t p B n c xs :=
  ho.grown h.1 fun g hg e => hne g hg e.symm
theorem Grow.ext {w w0 w' : World} {A A' : Option Addr} {n c : Nat} {t : TypeId} {p : Value → Prop} {xs : List Value} (h : Grow w w' A A') (hx : Ext w0 w) (ho : Own w w0.heap.size t p A n c xs) : Ext w0 w' :=
  hx.grown' h.1 fun k hk => (ho.lt k hk).1
theorem Grow.of_grown {w w' : World} {A A' : Option Addr} (hg : w.grownBy w' (blk A)) (hb : blk A' = blk A ∨ blk A' = some w.heap.size) : Grow w w' A A' :=
  ⟨hg, hb.imp id fun hb k hk => by rw [hb] at hk; injection hk with hk; omega⟩
end Go.Proofs.Ytifojmmggcenkaa
