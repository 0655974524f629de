/-
  No cell of these rows narrows 'for every input' (looked for: loops, veiled, ifaces, maps, wideKeys, modest, calm, conditions, laid).
  DERIVED. THE GIVEN ROWS OF THIS SEAT. 4 by the template 'for every input the law returns true; each argument reads behind the call as it read before'; 0 by the template 'total and deterministic' (their statements: YtifojmmggcenkaaTotals.lean).
  GIVEN WITH THE SEED: the statements are not yours to turn. If you find one false, say at which input.
  Laid BY PROGRAM, IN A SANDBOX (cutbox-rows.mjs): the forced cells as the released guide's own fill.sh prints them over the translation 8cffcbc6fef5d712… (all of the seat's roots in one cut). By AI agents, Wed Nov 11 2026. No macro, syntax, notation, axiom, sorry.
-/
import Derived.Test.YtifojmmggcenkaaChecked
import GoSem.Claim
import GoSem.ClaimJoined
import GoSem.ClaimMapViews
import Derived.JoinedTies
import Derived.KernelRfl
namespace Go.Proofs.Ytifojmmggcenkaa
/- THE CELL 'sum', in the pinned program and in every row, IS THE sha256 OF THE DUMP (.gsa) THAT YtifojmmggcenkaaProg.lean LOADS. Nothing in Lean hashes anything: it is a label: what it is worth is what the hold of that sum in a sandbox is worth. -/
noncomputable def Try.pinned : Pinned := { name := "ytifojmmggcenkaa", sum := "8cffcbc6fef5d712a61d10b96f918a4e00e64fa52de0935ab65453a03f18a687", checked := Try.checked }
namespace Rows
def none {H : Type} : Left H := { results := [], args := [] }

/-- 'outstationlaw23.SinkOrder': WHATEVER THE INPUT: true; the input reads as it did. -/
def sinkOrderSpec : ChangeSpec := { name := "sinkOrder", fn := fun _ => fun
  | [d1, d2] => { results := [.lit (.bool true)], args := [d1, d2] }
  | _ => none }
def sinkOrderRow : OpenClaim := { program := "ytifojmmggcenkaa", sum := "8cffcbc6fef5d712a61d10b96f918a4e00e64fa52de0935ab65453a03f18a687", func := "outstation/outstationlaw23.SinkOrder", spec := "sinkOrder", apart := false }
def SinkOrderSaid : Prop := sinkOrderRow.holds Try.pinned (OpenSpec.ofChange sinkOrderSpec)

/-- ITS FALSE NEIGHBOUR: 'it returns false'. Refute it at one input. -/
def sinkOrderWrong : ChangeSpec := { name := "sinkOrder", fn := fun _ => fun
  | [d1, d2] => { results := [.lit (.bool false)], args := [d1, d2] }
  | _ => none }
def SinkOrderWrongFalsely : Prop := sinkOrderRow.holds Try.pinned (OpenSpec.ofChange sinkOrderWrong)

/-- 'outstationlaw23.SinkTakes': WHATEVER THE INPUT: true; the input reads as it did. -/
def sinkTakesSpec : ChangeSpec := { name := "sinkTakes", fn := fun _ => fun
  | [d] => { results := [.lit (.bool true)], args := [d] }
  | _ => none }
def sinkTakesRow : OpenClaim := { program := "ytifojmmggcenkaa", sum := "8cffcbc6fef5d712a61d10b96f918a4e00e64fa52de0935ab65453a03f18a687", func := "outstation/outstationlaw23.SinkTakes", spec := "sinkTakes", apart := false }
def SinkTakesSaid : Prop := sinkTakesRow.holds Try.pinned (OpenSpec.ofChange sinkTakesSpec)

/-- ITS FALSE NEIGHBOUR: 'it returns false'. Refute it at one input. -/
def sinkTakesWrong : ChangeSpec := { name := "sinkTakes", fn := fun _ => fun
  | [d] => { results := [.lit (.bool false)], args := [d] }
  | _ => none }
def SinkTakesWrongFalsely : Prop := sinkTakesRow.holds Try.pinned (OpenSpec.ofChange sinkTakesWrong)

/-- 'outstationlaw23.SinkTwice': WHATEVER THE INPUT: true; the input reads as it did. -/
def sinkTwiceSpec : ChangeSpec := { name := "sinkTwice", fn := fun _ => fun
  | [d1, d2] => { results := [.lit (.bool true)], args := [d1, d2] }
  | _ => none }
def sinkTwiceRow : OpenClaim := { program := "ytifojmmggcenkaa", sum := "8cffcbc6fef5d712a61d10b96f918a4e00e64fa52de0935ab65453a03f18a687", func := "outstation/outstationlaw23.SinkTwice", spec := "sinkTwice", apart := false }
def SinkTwiceSaid : Prop := sinkTwiceRow.holds Try.pinned (OpenSpec.ofChange sinkTwiceSpec)

/-- ITS FALSE NEIGHBOUR: 'it returns false'. Refute it at one input. -/
def sinkTwiceWrong : ChangeSpec := { name := "sinkTwice", fn := fun _ => fun
  | [d1, d2] => { results := [.lit (.bool false)], args := [d1, d2] }
  | _ => none }
def SinkTwiceWrongFalsely : Prop := sinkTwiceRow.holds Try.pinned (OpenSpec.ofChange sinkTwiceWrong)

/-- 'outstationlaw23.SinkKnown': WHATEVER THE INPUT: true; the input reads as it did. -/
def sinkKnownSpec : ChangeSpec := { name := "sinkKnown", fn := fun _ => fun
  | [] => { results := [.lit (.bool true)], args := [] }
  | _ => none }
def sinkKnownRow : OpenClaim := { program := "ytifojmmggcenkaa", sum := "8cffcbc6fef5d712a61d10b96f918a4e00e64fa52de0935ab65453a03f18a687", func := "outstation/outstationlaw23.SinkKnown", spec := "sinkKnown", apart := false }
def SinkKnownSaid : Prop := sinkKnownRow.holds Try.pinned (OpenSpec.ofChange sinkKnownSpec)

/-- ITS FALSE NEIGHBOUR: 'it returns false'. Refute it at one input. -/
def sinkKnownWrong : ChangeSpec := { name := "sinkKnown", fn := fun _ => fun
  | [] => { results := [.lit (.bool false)], args := [] }
  | _ => none }
def SinkKnownWrongFalsely : Prop := sinkKnownRow.holds Try.pinned (OpenSpec.ofChange sinkKnownWrong)

/- THE SECOND FORM. 'bulk': how many values and letters a reading holds, each counted each time it is reached (what is shared counts as often as it is met; a slice's spare places count too). A statement '..UptoSaid' is the law's where the arguments, and the package variables that the reading takes, are together of bulk at most 1048576: NARROWER than '..Said'. Prove '..Said' where nothing that the law and all that it calls make is longer than what came in: it says more and counts as full. Else prove '..UptoSaid'. A law counts once. -/
mutual
def uptoBulk {H : Type} : DataW H → Nat
  | .lit (.string bytes) => bytes.length + 1
  | .lit _ => 1
  | .nil => 1
  | .ptr d => uptoBulk d + 1
  | .slice elems spare => uptoBulkAll elems + uptoBulkAll spare + 1
  | .agg parts => uptoBulkAll parts + 1
  | .iface _ d => uptoBulk d + 1
  | .map entries => uptoBulkEntries entries + 1
  | .held _ => 1
def uptoBulkAll {H : Type} : List (DataW H) → Nat
  | [] => 0
  | d :: r => uptoBulk d + uptoBulkAll r
def uptoBulkEntries {H : Type} : List (Lit × DataW H) → Nat
  | [] => 0
  | x :: r => uptoBulkEntry x + uptoBulkEntries r
def uptoBulkEntry {H : Type} : Lit × DataW H → Nat
  | (.string bytes, d) => bytes.length + uptoBulk d + 1
  | (_, d) => uptoBulk d + 1
 end
def uptoSmall : (H : Type) → List (DataW H) → Bool := fun _ ds => decide (uptoBulkAll ds ≤ 1048576)
def OpenSpec.upto (s : _root_.Go.ChangeSpec) : _root_.Go.OpenSpec := { _root_.Go.OpenSpec.ofChange s with cond := some uptoSmall }

/-- 'outstationlaw23.SinkOrder', WHERE WHAT IT READS IS OF BULK AT MOST 1048576: true; the input reads as it did. -/
def sinkOrderUptoRow : OpenClaim := { program := "ytifojmmggcenkaa", sum := "8cffcbc6fef5d712a61d10b96f918a4e00e64fa52de0935ab65453a03f18a687", func := "outstation/outstationlaw23.SinkOrder", spec := "sinkOrder", apart := false, narrowed := true }
def SinkOrderUptoSaid : Prop := sinkOrderUptoRow.holds Try.pinned (OpenSpec.upto sinkOrderSpec)

/-- 'outstationlaw23.SinkTakes', WHERE WHAT IT READS IS OF BULK AT MOST 1048576: true; the input reads as it did. -/
def sinkTakesUptoRow : OpenClaim := { program := "ytifojmmggcenkaa", sum := "8cffcbc6fef5d712a61d10b96f918a4e00e64fa52de0935ab65453a03f18a687", func := "outstation/outstationlaw23.SinkTakes", spec := "sinkTakes", apart := false, narrowed := true }
def SinkTakesUptoSaid : Prop := sinkTakesUptoRow.holds Try.pinned (OpenSpec.upto sinkTakesSpec)

/-- 'outstationlaw23.SinkTwice', WHERE WHAT IT READS IS OF BULK AT MOST 1048576: true; the input reads as it did. -/
def sinkTwiceUptoRow : OpenClaim := { program := "ytifojmmggcenkaa", sum := "8cffcbc6fef5d712a61d10b96f918a4e00e64fa52de0935ab65453a03f18a687", func := "outstation/outstationlaw23.SinkTwice", spec := "sinkTwice", apart := false, narrowed := true }
def SinkTwiceUptoSaid : Prop := sinkTwiceUptoRow.holds Try.pinned (OpenSpec.upto sinkTwiceSpec)

/-- 'outstationlaw23.SinkKnown', WHERE WHAT IT READS IS OF BULK AT MOST 1048576: true; the input reads as it did. -/
def sinkKnownUptoRow : OpenClaim := { program := "ytifojmmggcenkaa", sum := "8cffcbc6fef5d712a61d10b96f918a4e00e64fa52de0935ab65453a03f18a687", func := "outstation/outstationlaw23.SinkKnown", spec := "sinkKnown", apart := false, narrowed := true }
def SinkKnownUptoSaid : Prop := sinkKnownUptoRow.holds Try.pinned (OpenSpec.upto sinkKnownSpec)

end Rows
end Go.Proofs.Ytifojmmggcenkaa
