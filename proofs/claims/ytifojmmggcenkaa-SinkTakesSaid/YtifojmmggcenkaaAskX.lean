/- Contracts of the requests: numbers of two bytes; how many bytes a PDU has. -/
import Derived.Test.YtifojmmggcenkaaAsk9
namespace Go.Proofs.Ytifojmmggcenkaa
set_option linter.unusedVariables false
set_option linter.unusedSimpArgs false
set_option maxRecDepth 100000
set_option maxHeartbeats 2000000
open Go Go.RowKit Go.Out

/-- A call that hands back a number and leaves the world. -/
def RetN (w : World) (k : Int) (e : Ending) (w' : World) : Prop := e = .returned (.int .i64 k) ∧ w = w'
theorem RetN.of {w w' : World} {k k' : Int} (h : k = k') (hx : w = w') : RetN w k (.returned (.int .i64 k')) w' := ⟨by rw [h], hx⟩
/-- The reference says -1 where it can't be told yet. -/
def lenF (b : List UInt8) : Int := if sizeF b = 0 then -1 else sizeF b
end Go.Proofs.Ytifojmmggcenkaa

namespace Go.Proofs.Ytifojmmggcenkaa
set_option linter.unusedVariables false
set_option linter.unusedSimpArgs false
set_option maxRecDepth 100000
set_option maxHeartbeats 2000000
open Go Go.RowKit Go.Out

end Go.Proofs.Ytifojmmggcenkaa

namespace Go.Proofs.Ytifojmmggcenkaa
set_option linter.unusedVariables false
set_option linter.unusedSimpArgs false
set_option maxRecDepth 100000
set_option maxHeartbeats 2000000
open Go Go.RowKit Go.Out

/-- A row A of the call's own has become A' (the same block, or a new one); nothing else has turned. -/
def Grow (w w' : World) (A A' : Option Addr) : Prop := w.grownBy w' (blk A) ∧ (blk A' = blk A ∨ ∀ g, blk A' = some g → w.heap.size ≤ g)
theorem Grow.trans {w w1 w2 : World} {A A1 A2 : Option Addr} (h : Grow w w1 A A1) (h2 : Grow w1 w2 A1 A2) : Grow w w2 A A2 := by
  obtain ⟨g, r⟩ := h
  obtain ⟨g2, r2⟩ := h2
  refine ⟨⟨g2.os.trans g.os, g2.tape.trans g.tape, g2.output.trans g.output, Nat.le_trans g.size g2.size, fun k hk hne => ?_⟩, ?_⟩
  · refine (g2.block k (Nat.lt_of_lt_of_le hk g.size) fun e => ?_).trans (g.block k hk hne)
    rcases r with r | r
    · exact hne (e.trans r)
    · have := r k e.symm; omega
  · rcases r2 with r2 | r2
    · rcases r with r | r
      · exact .inl (r2.trans r)
      · exact .inr fun k hk => r k (r2 ▸ hk)
    · exact .inr fun k hk => Nat.le_trans g.size (r2 k hk)
theorem Grow.of_alloc {w w' : World} {o : Obj} {A A' : Option Addr} (hg : (w.alloc o).grownBy w' (blk A)) (hb : blk A' = blk A ∨ blk A' = some (w.alloc o).heap.size) : Grow w w' A A' := by
  have hx := Ext.alloc w o
  refine ⟨⟨hg.os.trans hx.below.os, hg.tape.trans hx.below.tape, hg.output.trans hx.below.output, Nat.le_trans hx.size hg.size, fun k hk hne => ?_⟩, ?_⟩
  · exact (hg.block k (Nat.lt_of_lt_of_le hk hx.size) hne).trans (hx.below.block k hk)
  · rcases hb with hb | hb
    · exact .inl hb
    · exact .inr fun k hk => by rw [hb] at hk; injection hk with hk; have := hx.size; omega
/-- What a call hands back that puts bytes behind a row of its caller's. -/
def RetP (w : World) (base : Nat) (A : Option Addr) (xs : List UInt8) (e : Ending) (w' : World) : Prop :=
  ∃ A' c', e = .returned (.slice A' xs.length c') ∧ Own w' base 5 IsU8 A' xs.length c' (xs.map cB) ∧ Grow w w' A A'

end Go.Proofs.Ytifojmmggcenkaa

namespace Go.Proofs.Ytifojmmggcenkaa
set_option linter.unusedVariables false
set_option linter.unusedSimpArgs false
set_option maxRecDepth 100000
set_option maxHeartbeats 2000000
open Go Go.RowKit Go.Out

theorem Grow.refl (w : World) (A : Option Addr) : Grow w w A A := ⟨⟨rfl, rfl, rfl, Nat.le_refl _, fun _ _ _ => rfl⟩, .inl rfl⟩
theorem two_lit (v : Nat) (hv : v < 65536) : (#[.int .u8 ((v : Int) / 256), .int .u8 ((v : Int) % 256)] : Array Value).toList = (two v).map cB ++ [] := by
  unfold two
  simp only [List.map_cons, List.map_nil, u8_ofNat, List.append_nil]
  have : ((v / 256 : Nat) : Int) % 256 = (v : Int) / 256 := by omega
  rw [this]
end Go.Proofs.Ytifojmmggcenkaa
