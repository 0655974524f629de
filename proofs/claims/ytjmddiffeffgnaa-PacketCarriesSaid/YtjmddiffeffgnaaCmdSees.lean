/- How a command is opened that comes in. -/
import Derived.Test.YtjmddiffeffgnaaSees
import Derived.Test.YtjmddiffeffgnaaAskSees
import Derived.Test.YtjmddiffeffgnaaPac7
namespace Go.Proofs.Ytjmddiffeffgnaa
set_option linter.unusedVariables false
set_option linter.unusedSimpArgs false
set_option maxRecDepth 100000
open Go Go.RowKit Go.ChangeShapes Go.WideShapes Go.Deep Go.Out

section
variable {H : Type} {enc : TypeId × Value → H} {w : World}
theorem sees_cmd {cs : Array Value} (h : Sees enc Try.prog w 28 cs.toList) :
    ∃ (id unit : Int) (a : AskD) (s : AskS), cs = #[.int .i64 id, .int .i64 unit, .int .i64 a.code, .int .i64 a.addr, .int .i64 a.count, .slice s.A1 s.n1 s.c1, .slice s.A2 s.n2 s.c2, .slice s.A3 s.n3 s.c3] ∧ AskRd w a s ∧ i64P id ∧ i64P unit := by
  obtain ⟨hl, hf⟩ := sees_struct Try.underlying28 h
  rw [show Try.prog.cellsOf 28 = 8 from by kernel_rfl] at hl
  obtain ⟨l⟩ := cs
  match l, hl with
  | [v0, v1, v2, v3, v4, v5, v6, v7], _ =>
    have h0 := hf 0 _ rfl; have h1 := hf 1 _ rfl; have h2 := hf 2 _ rfl
    obtain ⟨a0, rfl, wf0⟩ := sees_int Try.underlying3 h0
    obtain ⟨a1, rfl, wf1⟩ := sees_int Try.underlying3 h1
    obtain ⟨a, s, e, hr⟩ := sees_ask (cs := #[v2, v3, v4, v5, v6, v7]) h2
    injection e with e
    injection e with e2 e; injection e with e3 e; injection e with e4 e; injection e with e5 e; injection e with e6 e; injection e with e7 e
    subst e2; subst e3; subst e4; subst e5; subst e6; subst e7
    exact ⟨a0, a1, a, s, rfl, hr, i64P_of wf0, i64P_of wf1⟩
end
end Go.Proofs.Ytjmddiffeffgnaa
