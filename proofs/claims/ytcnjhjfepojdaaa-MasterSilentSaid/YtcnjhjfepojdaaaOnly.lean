/- What may have turned lies in a set of blocks: plain lemmas; no program in sight. (A part of XSink, alone.) -/
import Derived.Test.YtcnjhjfepojdaaaIntRow
namespace Go.Out
open Go Go.RowKit
set_option linter.unusedVariables false
/-- What may have turned lies in F. -/
structure Only (F : Nat → Prop) (w w' : World) : Prop where
  os : w'.os = w.os
  tape : w'.tape = w.tape
  output : w'.output = w.output
  size : w.heap.size ≤ w'.heap.size
  block : ∀ k, k < w.heap.size → ¬ F k → w'.heap[k]? = w.heap[k]?
section
variable {F G : Nat → Prop} {w w1 w2 a : World}
theorem Only.refl (F : Nat → Prop) (w : World) : Only F w w := ⟨rfl, rfl, rfl, Nat.le_refl _, fun _ _ _ => rfl⟩
theorem Only.trans (h : Only F w w1) (k : Only G w1 w2) (hG : ∀ g, g < w.heap.size → G g → F g) : Only F w w2 :=
  ⟨k.os.trans h.os, k.tape.trans h.tape, k.output.trans h.output, Nat.le_trans h.size k.size, fun g hg hf => (k.block g (Nat.lt_of_lt_of_le hg h.size) (fun q => hf (hG g hg q))).trans (h.block g hg hf)⟩
theorem Only.of_ext (h : Ext w w1) : Only F w w1 := ⟨h.os, h.tape, h.output, h.size, fun k hk _ => Below.block h k hk⟩
theorem Only.of_grown {row : Option Nat} (h : w.grownBy w1 row) (hr : ∀ g, row = some g → F g) : Only F w w1 :=
  ⟨h.os, h.tape, h.output, h.size, fun k hk hf => h.block k hk (fun e => hf (hr k e.symm))⟩
theorem Only.new (h : Only (fun k => F k ∨ w.heap.size ≤ k) w w1) : Only F w w1 := ⟨h.os, h.tape, h.output, h.size, fun k hk hf => h.block k hk (fun q => by rcases q with q | q; exact hf q; omega)⟩
theorem Only.of_set {p : Addr} (u : Value) (hp : F p.block) : Only F w (w.setCell p u) :=
  ⟨rfl, rfl, rfl, by simp [World.setCell], fun k _ hf => Below.heap_setCell w p u k (fun e => hf (e ▸ hp))⟩
theorem Only.ext (h : Only F w w1) (hx : Ext a w) (hF : ∀ k, F k → a.heap.size ≤ k) : Ext a w1 :=
  ⟨h.os.trans hx.os, h.tape.trans hx.tape, h.output.trans hx.output, Nat.le_trans hx.size h.size,
   fun k hk => (h.block k (Nat.lt_of_lt_of_le hk hx.size) (fun q => absurd (hF k q) (by omega))).trans (Below.block hx k hk)⟩
theorem Only.mono (h : Only F w w1) (hF : ∀ k, F k → G k) : Only G w w1 := ⟨h.os, h.tape, h.output, h.size, fun k hk hg => h.block k hk (fun q => hg (hF k q))⟩
end
theorem Own.only {w w' : World} {F : Nat → Prop} {base : Nat} {e : TypeId} {q : Value → Prop} {A : Option Addr} {n c : Nat} {xs : List Value} (h : Own w base e q A n c xs) (ho : Only F w w') (hF : ∀ g, blk A = some g → ¬ F g) : Own w' base e q A n c xs :=
  h.kept fun g hg => ho.block g (h.lt g hg).2 (hF g hg)
end Go.Out
