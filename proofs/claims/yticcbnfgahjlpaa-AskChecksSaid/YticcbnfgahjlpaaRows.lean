/-
  No cell of these rows narrows 'for every input' (looked for: loops, veiled, ifaces, maps, wideKeys, modest, calm, conditions, laid).
  DERIVED. THE GIVEN ROWS OF THIS SEAT. 8 by the template 'for every input the law returns true; each argument reads behind the call as it read before'; 0 by the template 'total and deterministic' (their statements: YticcbnfgahjlpaaTotals.lean).
  GIVEN WITH THE SEED: the statements are not yours to turn. If you find one false, say at which input.
  Laid BY PROGRAM, IN A SANDBOX (cutbox-rows.mjs): the forced cells as the released guide's own fill.sh prints them over the translation 68c6cee0551c5f51… (all of the seat's roots in one cut). By AI agents, Wed Nov 11 2026. No macro, syntax, notation, axiom, sorry.
-/
import Derived.Test.YticcbnfgahjlpaaChecked
import GoSem.Claim
import GoSem.ClaimJoined
import GoSem.ClaimMapViews
import Derived.JoinedTies
import Derived.KernelRfl
namespace Go.Proofs.Yticcbnfgahjlpaa
/- THE CELL 'sum', in the pinned program and in every row, IS THE sha256 OF THE DUMP (.gsa) THAT YticcbnfgahjlpaaProg.lean LOADS. Nothing in Lean hashes anything: it is a label: what it is worth is what the hold of that sum in a sandbox is worth. -/
noncomputable def Try.pinned : Pinned := { name := "yticcbnfgahjlpaa", sum := "68c6cee0551c5f51cc833938c3d91b0abdffe2abb7bc3db358cecb586ced9a85", checked := Try.checked }
namespace Rows
def none {H : Type} : Left H := { results := [], args := [] }

/-- 'outstationlaw03.AskReads': WHATEVER THE INPUT: true; the input reads as it did. -/
def askReadsSpec : ChangeSpec := { name := "askReads", fn := fun _ => fun
  | [d] => { results := [.lit (.bool true)], args := [d] }
  | _ => none }
def askReadsRow : OpenClaim := { program := "yticcbnfgahjlpaa", sum := "68c6cee0551c5f51cc833938c3d91b0abdffe2abb7bc3db358cecb586ced9a85", func := "outstation/outstationlaw03.AskReads", spec := "askReads", apart := false }
def AskReadsSaid : Prop := askReadsRow.holds Try.pinned (OpenSpec.ofChange askReadsSpec)

/-- ITS FALSE NEIGHBOUR: 'it returns false'. Refute it at one input. -/
def askReadsWrong : ChangeSpec := { name := "askReads", fn := fun _ => fun
  | [d] => { results := [.lit (.bool false)], args := [d] }
  | _ => none }
def AskReadsWrongFalsely : Prop := askReadsRow.holds Try.pinned (OpenSpec.ofChange askReadsWrong)

/-- 'outstationlaw03.AskBack': WHATEVER THE INPUT: true; the input reads as it did. -/
def askBackSpec : ChangeSpec := { name := "askBack", fn := fun _ => fun
  | [d] => { results := [.lit (.bool true)], args := [d] }
  | _ => none }
def askBackRow : OpenClaim := { program := "yticcbnfgahjlpaa", sum := "68c6cee0551c5f51cc833938c3d91b0abdffe2abb7bc3db358cecb586ced9a85", func := "outstation/outstationlaw03.AskBack", spec := "askBack", apart := false }
def AskBackSaid : Prop := askBackRow.holds Try.pinned (OpenSpec.ofChange askBackSpec)

/-- ITS FALSE NEIGHBOUR: 'it returns false'. Refute it at one input. -/
def askBackWrong : ChangeSpec := { name := "askBack", fn := fun _ => fun
  | [d] => { results := [.lit (.bool false)], args := [d] }
  | _ => none }
def AskBackWrongFalsely : Prop := askBackRow.holds Try.pinned (OpenSpec.ofChange askBackWrong)

/-- 'outstationlaw03.AskOnly': WHATEVER THE INPUT: true; the input reads as it did. -/
def askOnlySpec : ChangeSpec := { name := "askOnly", fn := fun _ => fun
  | [d] => { results := [.lit (.bool true)], args := [d] }
  | _ => none }
def askOnlyRow : OpenClaim := { program := "yticcbnfgahjlpaa", sum := "68c6cee0551c5f51cc833938c3d91b0abdffe2abb7bc3db358cecb586ced9a85", func := "outstation/outstationlaw03.AskOnly", spec := "askOnly", apart := false }
def AskOnlySaid : Prop := askOnlyRow.holds Try.pinned (OpenSpec.ofChange askOnlySpec)

/-- ITS FALSE NEIGHBOUR: 'it returns false'. Refute it at one input. -/
def askOnlyWrong : ChangeSpec := { name := "askOnly", fn := fun _ => fun
  | [d] => { results := [.lit (.bool false)], args := [d] }
  | _ => none }
def AskOnlyWrongFalsely : Prop := askOnlyRow.holds Try.pinned (OpenSpec.ofChange askOnlyWrong)

/-- 'outstationlaw03.AskEnds': WHATEVER THE INPUT: true; the input reads as it did. -/
def askEndsSpec : ChangeSpec := { name := "askEnds", fn := fun _ => fun
  | [d1, d2, d3] => { results := [.lit (.bool true)], args := [d1, d2, d3] }
  | _ => none }
def askEndsRow : OpenClaim := { program := "yticcbnfgahjlpaa", sum := "68c6cee0551c5f51cc833938c3d91b0abdffe2abb7bc3db358cecb586ced9a85", func := "outstation/outstationlaw03.AskEnds", spec := "askEnds", apart := false }
def AskEndsSaid : Prop := askEndsRow.holds Try.pinned (OpenSpec.ofChange askEndsSpec)

/-- ITS FALSE NEIGHBOUR: 'it returns false'. Refute it at one input. -/
def askEndsWrong : ChangeSpec := { name := "askEnds", fn := fun _ => fun
  | [d1, d2, d3] => { results := [.lit (.bool false)], args := [d1, d2, d3] }
  | _ => none }
def AskEndsWrongFalsely : Prop := askEndsRow.holds Try.pinned (OpenSpec.ofChange askEndsWrong)

/-- 'outstationlaw03.AskMoved': WHATEVER THE INPUT: true; the input reads as it did. -/
def askMovedSpec : ChangeSpec := { name := "askMoved", fn := fun _ => fun
  | [d1, d2] => { results := [.lit (.bool true)], args := [d1, d2] }
  | _ => none }
def askMovedRow : OpenClaim := { program := "yticcbnfgahjlpaa", sum := "68c6cee0551c5f51cc833938c3d91b0abdffe2abb7bc3db358cecb586ced9a85", func := "outstation/outstationlaw03.AskMoved", spec := "askMoved", apart := false }
def AskMovedSaid : Prop := askMovedRow.holds Try.pinned (OpenSpec.ofChange askMovedSpec)

/-- ITS FALSE NEIGHBOUR: 'it returns false'. Refute it at one input. -/
def askMovedWrong : ChangeSpec := { name := "askMoved", fn := fun _ => fun
  | [d1, d2] => { results := [.lit (.bool false)], args := [d1, d2] }
  | _ => none }
def AskMovedWrongFalsely : Prop := askMovedRow.holds Try.pinned (OpenSpec.ofChange askMovedWrong)

/-- 'outstationlaw03.AskKnown': WHATEVER THE INPUT: true; the input reads as it did. -/
def askKnownSpec : ChangeSpec := { name := "askKnown", fn := fun _ => fun
  | [] => { results := [.lit (.bool true)], args := [] }
  | _ => none }
def askKnownRow : OpenClaim := { program := "yticcbnfgahjlpaa", sum := "68c6cee0551c5f51cc833938c3d91b0abdffe2abb7bc3db358cecb586ced9a85", func := "outstation/outstationlaw03.AskKnown", spec := "askKnown", apart := false }
def AskKnownSaid : Prop := askKnownRow.holds Try.pinned (OpenSpec.ofChange askKnownSpec)

/-- ITS FALSE NEIGHBOUR: 'it returns false'. Refute it at one input. -/
def askKnownWrong : ChangeSpec := { name := "askKnown", fn := fun _ => fun
  | [] => { results := [.lit (.bool false)], args := [] }
  | _ => none }
def AskKnownWrongFalsely : Prop := askKnownRow.holds Try.pinned (OpenSpec.ofChange askKnownWrong)

/-- 'outstationlaw03.AskChecks': WHATEVER THE INPUT: true; the input reads as it did. -/
def askChecksSpec : ChangeSpec := { name := "askChecks", fn := fun _ => fun
  | [d] => { results := [.lit (.bool true)], args := [d] }
  | _ => none }
def askChecksRow : OpenClaim := { program := "yticcbnfgahjlpaa", sum := "68c6cee0551c5f51cc833938c3d91b0abdffe2abb7bc3db358cecb586ced9a85", func := "outstation/outstationlaw03.AskChecks", spec := "askChecks", apart := false }
def AskChecksSaid : Prop := askChecksRow.holds Try.pinned (OpenSpec.ofChange askChecksSpec)

/-- ITS FALSE NEIGHBOUR: 'it returns false'. Refute it at one input. -/
def askChecksWrong : ChangeSpec := { name := "askChecks", fn := fun _ => fun
  | [d] => { results := [.lit (.bool false)], args := [d] }
  | _ => none }
def AskChecksWrongFalsely : Prop := askChecksRow.holds Try.pinned (OpenSpec.ofChange askChecksWrong)

/-- 'outstationlaw02.PackKnown': WHATEVER THE INPUT: true; the input reads as it did. -/
def packKnownSpec : ChangeSpec := { name := "packKnown", fn := fun _ => fun
  | [] => { results := [.lit (.bool true)], args := [] }
  | _ => none }
def packKnownRow : OpenClaim := { program := "yticcbnfgahjlpaa", sum := "68c6cee0551c5f51cc833938c3d91b0abdffe2abb7bc3db358cecb586ced9a85", func := "outstation/outstationlaw02.PackKnown", spec := "packKnown", apart := false }
def PackKnownSaid : Prop := packKnownRow.holds Try.pinned (OpenSpec.ofChange packKnownSpec)

/-- ITS FALSE NEIGHBOUR: 'it returns false'. Refute it at one input. -/
def packKnownWrong : ChangeSpec := { name := "packKnown", fn := fun _ => fun
  | [] => { results := [.lit (.bool false)], args := [] }
  | _ => none }
def PackKnownWrongFalsely : Prop := packKnownRow.holds Try.pinned (OpenSpec.ofChange packKnownWrong)

/- THE SECOND FORM. 'bulk': how many values and letters a reading holds, each counted each time it is reached (what is shared counts as often as it is met; a slice's spare places count too). A statement '..UptoSaid' is the law's where the arguments, and the package variables that the reading takes, are together of bulk at most 1048576: NARROWER than '..Said'. Prove '..Said' where nothing that the law and all that it calls make is longer than what came in: it says more and counts as full. Else prove '..UptoSaid'. A law counts once. -/
mutual
def uptoBulk {H : Type} : DataW H → Nat
  | .lit (.string bytes) => bytes.length + 1
  | .lit _ => 1
  | .nil => 1
  | .ptr d => uptoBulk d + 1
  | .slice elems spare => uptoBulkAll elems + uptoBulkAll spare + 1
  | .agg parts => uptoBulkAll parts + 1
  | .iface _ d => uptoBulk d + 1
  | .map entries => uptoBulkEntries entries + 1
  | .held _ => 1
def uptoBulkAll {H : Type} : List (DataW H) → Nat
  | [] => 0
  | d :: r => uptoBulk d + uptoBulkAll r
def uptoBulkEntries {H : Type} : List (Lit × DataW H) → Nat
  | [] => 0
  | x :: r => uptoBulkEntry x + uptoBulkEntries r
def uptoBulkEntry {H : Type} : Lit × DataW H → Nat
  | (.string bytes, d) => bytes.length + uptoBulk d + 1
  | (_, d) => uptoBulk d + 1
 end
def uptoSmall : (H : Type) → List (DataW H) → Bool := fun _ ds => decide (uptoBulkAll ds ≤ 1048576)
def OpenSpec.upto (s : _root_.Go.ChangeSpec) : _root_.Go.OpenSpec := { _root_.Go.OpenSpec.ofChange s with cond := some uptoSmall }

/-- 'outstationlaw03.AskReads', WHERE WHAT IT READS IS OF BULK AT MOST 1048576: true; the input reads as it did. -/
def askReadsUptoRow : OpenClaim := { program := "yticcbnfgahjlpaa", sum := "68c6cee0551c5f51cc833938c3d91b0abdffe2abb7bc3db358cecb586ced9a85", func := "outstation/outstationlaw03.AskReads", spec := "askReads", apart := false, narrowed := true }
def AskReadsUptoSaid : Prop := askReadsUptoRow.holds Try.pinned (OpenSpec.upto askReadsSpec)

/-- 'outstationlaw03.AskBack', WHERE WHAT IT READS IS OF BULK AT MOST 1048576: true; the input reads as it did. -/
def askBackUptoRow : OpenClaim := { program := "yticcbnfgahjlpaa", sum := "68c6cee0551c5f51cc833938c3d91b0abdffe2abb7bc3db358cecb586ced9a85", func := "outstation/outstationlaw03.AskBack", spec := "askBack", apart := false, narrowed := true }
def AskBackUptoSaid : Prop := askBackUptoRow.holds Try.pinned (OpenSpec.upto askBackSpec)

/-- 'outstationlaw03.AskOnly', WHERE WHAT IT READS IS OF BULK AT MOST 1048576: true; the input reads as it did. -/
def askOnlyUptoRow : OpenClaim := { program := "yticcbnfgahjlpaa", sum := "68c6cee0551c5f51cc833938c3d91b0abdffe2abb7bc3db358cecb586ced9a85", func := "outstation/outstationlaw03.AskOnly", spec := "askOnly", apart := false, narrowed := true }
def AskOnlyUptoSaid : Prop := askOnlyUptoRow.holds Try.pinned (OpenSpec.upto askOnlySpec)

/-- 'outstationlaw03.AskEnds', WHERE WHAT IT READS IS OF BULK AT MOST 1048576: true; the input reads as it did. -/
def askEndsUptoRow : OpenClaim := { program := "yticcbnfgahjlpaa", sum := "68c6cee0551c5f51cc833938c3d91b0abdffe2abb7bc3db358cecb586ced9a85", func := "outstation/outstationlaw03.AskEnds", spec := "askEnds", apart := false, narrowed := true }
def AskEndsUptoSaid : Prop := askEndsUptoRow.holds Try.pinned (OpenSpec.upto askEndsSpec)

/-- 'outstationlaw03.AskMoved', WHERE WHAT IT READS IS OF BULK AT MOST 1048576: true; the input reads as it did. -/
def askMovedUptoRow : OpenClaim := { program := "yticcbnfgahjlpaa", sum := "68c6cee0551c5f51cc833938c3d91b0abdffe2abb7bc3db358cecb586ced9a85", func := "outstation/outstationlaw03.AskMoved", spec := "askMoved", apart := false, narrowed := true }
def AskMovedUptoSaid : Prop := askMovedUptoRow.holds Try.pinned (OpenSpec.upto askMovedSpec)

/-- 'outstationlaw03.AskKnown', WHERE WHAT IT READS IS OF BULK AT MOST 1048576: true; the input reads as it did. -/
def askKnownUptoRow : OpenClaim := { program := "yticcbnfgahjlpaa", sum := "68c6cee0551c5f51cc833938c3d91b0abdffe2abb7bc3db358cecb586ced9a85", func := "outstation/outstationlaw03.AskKnown", spec := "askKnown", apart := false, narrowed := true }
def AskKnownUptoSaid : Prop := askKnownUptoRow.holds Try.pinned (OpenSpec.upto askKnownSpec)

/-- 'outstationlaw03.AskChecks', WHERE WHAT IT READS IS OF BULK AT MOST 1048576: true; the input reads as it did. -/
def askChecksUptoRow : OpenClaim := { program := "yticcbnfgahjlpaa", sum := "68c6cee0551c5f51cc833938c3d91b0abdffe2abb7bc3db358cecb586ced9a85", func := "outstation/outstationlaw03.AskChecks", spec := "askChecks", apart := false, narrowed := true }
def AskChecksUptoSaid : Prop := askChecksUptoRow.holds Try.pinned (OpenSpec.upto askChecksSpec)

/-- 'outstationlaw02.PackKnown', WHERE WHAT IT READS IS OF BULK AT MOST 1048576: true; the input reads as it did. -/
def packKnownUptoRow : OpenClaim := { program := "yticcbnfgahjlpaa", sum := "68c6cee0551c5f51cc833938c3d91b0abdffe2abb7bc3db358cecb586ced9a85", func := "outstation/outstationlaw02.PackKnown", spec := "packKnown", apart := false, narrowed := true }
def PackKnownUptoSaid : Prop := packKnownUptoRow.holds Try.pinned (OpenSpec.upto packKnownSpec)

end Rows
end Go.Proofs.Yticcbnfgahjlpaa
