/- How a packet is opened that comes in. -/
import Derived.Test.YtifojmmggcenkaaSees
import Derived.Test.YtifojmmggcenkaaAskSees
import Derived.Test.YtifojmmggcenkaaPac3
namespace Go.Proofs.Ytifojmmggcenkaa
set_option linter.unusedVariables false
set_option linter.unusedSimpArgs false
set_option maxRecDepth 100000
open Go Go.RowKit Go.ChangeShapes Go.WideShapes Go.Deep Go.Out

section
variable {H : Type} {enc : TypeId × Value → H} {w : World}
theorem sees_pac {cs : Array Value} (h : Sees enc Try.prog w 32 cs.toList) :
    ∃ (p : PacD) (A : Option Addr) (n c : Nat), cs = #[.int .i64 p.kind, .int .i64 p.epoch, .int .i64 p.seq, .int .i64 p.id, .int .i64 p.code, .slice A n c] ∧ PacRd w p A n c ∧ c * 1 ≤ 140737488351232 := by
  obtain ⟨hl, hf⟩ := sees_struct Try.underlying32 h
  rw [show Try.prog.cellsOf 32 = 6 from by kernel_rfl] at hl
  obtain ⟨l⟩ := cs
  match l, hl with
  | [v0, v1, v2, v3, v4, v5], _ =>
    have h0 := hf 0 _ rfl; have h1 := hf 1 _ rfl; have h2 := hf 2 _ rfl; have h3 := hf 3 _ rfl; have h4 := hf 4 _ rfl; have h5 := hf 5 _ rfl
    obtain ⟨a0, rfl, wf0⟩ := sees_int Try.underlying3 h0
    obtain ⟨a1, rfl, wf1⟩ := sees_int Try.underlying3 h1
    obtain ⟨a2, rfl, wf2⟩ := sees_int Try.underlying3 h2
    obtain ⟨a3, rfl, wf3⟩ := sees_int Try.underlying3 h3
    obtain ⟨a4, rfl, wf4⟩ := sees_int Try.underlying3 h4
    obtain ⟨l1, A1, n1, c1, rfl, hr1, hc1, hm1, hb1⟩ := sees_u8s Try.underlying27 (by kernel_rfl) Try.underlying5 h5
    exact ⟨⟨a0, a1, a2, a3, a4, l1⟩, A1, n1, c1, rfl, ⟨hr1, i64P_of wf0, i64P_of wf1, i64P_of wf2, i64P_of wf3, i64P_of wf4, ⟨hc1, hm1⟩⟩, by rw [show (1 : Nat) = Try.prog.bytesOf 5 from by kernel_rfl]; exact hb1⟩
end
end Go.Proofs.Ytifojmmggcenkaa
