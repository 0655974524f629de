/- Contracts of functions of the given program, and plain lemmas: what each call returns and what it leaves as it was; used by the claim's last text. -/
import Derived.Test.YtcnjhjfepojdaaaKitA
import Derived.Test.YtcnjhjfepojdaaaBitBack
namespace Go.Proofs.Ytcnjhjfepojdaaa
set_option linter.unusedVariables false
open Go Go.RowKit Go.Out

theorem copy_u8 {ops : Array Oper} {rest : List Oper} {o : Oper} {a : Act} {Q : Exit → Act → World → Prop} (w : World) (hgd : o.guard = none) (d s : Operand)
    (ho : o.op = .call { callee := .builtin .copy, args := #[d, s], argTypes := #[34, 34] })
    {g off dLen dCap sLen sCap : Nat} {A : Option Addr} {cur : Array Value} {cs : List UInt8} {t : TypeId} (hd : a.eval d = .slice (some ⟨g, off, none⟩) dLen dCap) (hs : a.eval s = .slice A sLen sCap)
    (hg : w.heap[g]? = some (.cells cur t (0, 0))) (hr : Rd w A sLen (cs.map cB)) (hle : sLen ≤ dLen) (hfit : off + sLen ≤ cur.size)
    (h : ∀ w', w'.heap[g]? = some (.cells (cur.toList.take off ++ cs.map cB ++ cur.toList.drop (off + sLen)).toArray t (0, 0)) → w.grownBy w' (some g) → wpList Try.prog ops Q rest (a.put o.dst (.int .i64 (sLen : Int))) w') :
    wpList Try.prog ops Q (o :: rest) a w :=
  wpList_copy_Rd w hgd d s _ _ ho 5 Try.underlying34 (by kernel_rfl) hd hs hg hr hle hfit (fun v hv => isU8_one (isU8_map v hv)) h

end Go.Proofs.Ytcnjhjfepojdaaa

namespace Go.Proofs.Ytcnjhjfepojdaaa
set_option linter.unusedVariables false
open Go Go.RowKit Go.Out

end Go.Proofs.Ytcnjhjfepojdaaa
