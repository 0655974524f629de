/- Contracts of pack.Bytes, pack.Words and of the document's: what each call returns; nothing that was there turns. -/
import Derived.Test.YtdflnmphiglmaaaPack2
import Derived.Test.YtdflnmphiglmaaaKitW
import Derived.Test.YtdflnmphiglmaaaBitBack
namespace Go.Proofs.Ytdflnmphiglmaaa
set_option linter.unusedVariables false
set_option maxRecDepth 100000
open Go Go.RowKit Go.Out

theorem step_u16 {ops : Array Oper} {o : Oper} {a : Act} {w : World} {K : Act → World → Prop} {Q : Exit → Act → World → Prop} {E : Prop} (hgd : o.guard = none) (s x : Operand)
    (ho : o.op = .call { callee := .builtin .append, args := #[s, x], argTypes := #[24, 24] })
    {base : Nat} {A : Option Addr} {n c : Nat} {xs : List Value} (hs : a.eval s = .slice A n c) (hown : Own w base 46 IsU16 A n c xs)
    {A' : Option Addr} {m c' : Nat} {news : List Value} (hx : a.eval x = .slice A' m c') (hr : Rd w A' m news) (hnp : ∀ u ∈ news, IsU16 u) (hsz : n + m ≤ 70368744177664) (hbase : base ≤ w.heap.size)
    (h : ∀ A1 c1 w1, Own w1 base 46 IsU16 A1 (n + m) c1 (xs ++ news) → w.grownBy w1 (blk A) → (blk A1 = blk A ∨ blk A1 = some w.heap.size) → K (a.put o.dst (.slice A1 (n + m) c1)) w1) :
    if Region.wanted o (yielded ops a.tmps) = true then Oper.wp Try.prog o a w K Q else E :=
  step_append_Own hgd s x _ ho IsU16 base _ (.int .u16 0) 2 Try.underlying24 info_u16 rfl ⟨0, rfl⟩ (fun _ => isU16_one) A n c xs hs hown A' m c' news hx hr hnp (by omega) (by omega) hbase h

/-- A call that hands back words of its own and an error's number. -/
def RetW (w : World) (t : TypeId) (l : List UInt16) (err : Int) (e : Ending) (w' : World) : Prop :=
  ∃ A n c, e = .returned (.tuple #[.slice A n c, .int .i64 err]) ∧ Own w' w.heap.size t IsU16 A n c (l.map cW) ∧ Below w.heap.size w w'

end Go.Proofs.Ytdflnmphiglmaaa
