/- Contract of ask.Put: for every request the PDU, or what is wrong with it. -/
import Derived.Test.YtcnjhjfepojdaaaAskP4
import Derived.Test.YtcnjhjfepojdaaaAskP5
namespace Go.Proofs.Ytcnjhjfepojdaaa
set_option linter.unusedVariables false
set_option linter.unusedSimpArgs false
open Go Go.RowKit Go.Out

theorem askPut_any (a : AskD) (s : AskS) (w : World) (hr : AskRd w a s) : Calls Try.prog 15 #[askV a s] w (RetU w (putA a).1 (putA a).2) := by
  by_cases h : checkF a = 0
  · rw [putA_ok h]
    rcases Go.Out.ask_cases h with ⟨c, A, n, h1, h4, hA, h1n, hn, rfl⟩ | ⟨A, x, hA, rfl⟩ | ⟨A, v, hA, rfl⟩ | ⟨A, l, hA, h1l, hl, rfl⟩ | ⟨A, l, hA, h1l, hl, rfl⟩ | ⟨l, h1l, hl, hp, rfl⟩
    · have e : bodyF ⟨c, A, n, [], [], []⟩ = two A ++ two n := by
        unfold bodyF
        rw [if_neg (by simp; omega), if_neg (by simp; omega), if_neg (by simp; omega), if_neg (by simp; omega), if_neg (by simp; omega)]
        simp
      rw [e]
      exact askCnt c A n s w hr h h1 h4 hA hn
    · exact askCoil A x s w hr h hA
    · exact askReg A v s w hr h hA
    · exact askCoils A _ l s w hr h hA rfl hl
    · exact askRegs A _ l s w hr h hA rfl hl
    · exact askFile l s w hr h hl hp
  · rw [putA_no h]
    exact askNo a s w hr h
end Go.Proofs.Ytcnjhjfepojdaaa
