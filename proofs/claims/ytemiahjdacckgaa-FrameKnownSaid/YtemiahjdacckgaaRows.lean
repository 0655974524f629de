/-
  No cell of these rows narrows 'for every input' (looked for: loops, veiled, ifaces, maps, wideKeys, modest, calm, conditions, laid).
  DERIVED. THE GIVEN ROWS OF THIS SEAT. 12 by the template 'for every input the law returns true; each argument reads behind the call as it read before'; 0 by the template 'total and deterministic' (their statements: YtemiahjdacckgaaTotals.lean).
  GIVEN WITH THE SEED: the statements are not yours to turn. If you find one false, say at which input.
  Laid BY PROGRAM, IN A SANDBOX (cutbox-rows.mjs): the forced cells as the released guide's own fill.sh prints them over the translation 484de88c9dfc2e81… (all of the seat's roots in one cut). By AI agents, Wed Nov 11 2026. No macro, syntax, notation, axiom, sorry.
-/
import Derived.Test.YtemiahjdacckgaaChecked
import GoSem.Claim
import GoSem.ClaimJoined
import GoSem.ClaimMapViews
import Derived.JoinedTies
import Derived.KernelRfl
namespace Go.Proofs.Ytemiahjdacckgaa
/- THE CELL 'sum', in the pinned program and in every row, IS THE sha256 OF THE DUMP (.gsa) THAT YtemiahjdacckgaaProg.lean LOADS. Nothing in Lean hashes anything: it is a label: what it is worth is what the hold of that sum in a sandbox is worth. -/
noncomputable def Try.pinned : Pinned := { name := "ytemiahjdacckgaa", sum := "484de88c9dfc2e81a8019b61c0839204fc0e97d16883c7984aeb7974f4ec4e9e", checked := Try.checked }
namespace Rows
def none {H : Type} : Left H := { results := [], args := [] }

/-- 'outstationlaw01.SumsReckon': WHATEVER THE INPUT: true; the input reads as it did. -/
def sumsReckonSpec : ChangeSpec := { name := "sumsReckon", fn := fun _ => fun
  | [d1, d2, d3] => { results := [.lit (.bool true)], args := [d1, d2, d3] }
  | _ => none }
def sumsReckonRow : OpenClaim := { program := "ytemiahjdacckgaa", sum := "484de88c9dfc2e81a8019b61c0839204fc0e97d16883c7984aeb7974f4ec4e9e", func := "outstation/outstationlaw01.SumsReckon", spec := "sumsReckon", apart := false }
def SumsReckonSaid : Prop := sumsReckonRow.holds Try.pinned (OpenSpec.ofChange sumsReckonSpec)

/-- ITS FALSE NEIGHBOUR: 'it returns false'. Refute it at one input. -/
def sumsReckonWrong : ChangeSpec := { name := "sumsReckon", fn := fun _ => fun
  | [d1, d2, d3] => { results := [.lit (.bool false)], args := [d1, d2, d3] }
  | _ => none }
def SumsReckonWrongFalsely : Prop := sumsReckonRow.holds Try.pinned (OpenSpec.ofChange sumsReckonWrong)

/-- 'outstationlaw01.SumsPieces': WHATEVER THE INPUT: true; the input reads as it did. -/
def sumsPiecesSpec : ChangeSpec := { name := "sumsPieces", fn := fun _ => fun
  | [d1, d2] => { results := [.lit (.bool true)], args := [d1, d2] }
  | _ => none }
def sumsPiecesRow : OpenClaim := { program := "ytemiahjdacckgaa", sum := "484de88c9dfc2e81a8019b61c0839204fc0e97d16883c7984aeb7974f4ec4e9e", func := "outstation/outstationlaw01.SumsPieces", spec := "sumsPieces", apart := false }
def SumsPiecesSaid : Prop := sumsPiecesRow.holds Try.pinned (OpenSpec.ofChange sumsPiecesSpec)

/-- ITS FALSE NEIGHBOUR: 'it returns false'. Refute it at one input. -/
def sumsPiecesWrong : ChangeSpec := { name := "sumsPieces", fn := fun _ => fun
  | [d1, d2] => { results := [.lit (.bool false)], args := [d1, d2] }
  | _ => none }
def SumsPiecesWrongFalsely : Prop := sumsPiecesRow.holds Try.pinned (OpenSpec.ofChange sumsPiecesWrong)

/-- 'outstationlaw01.SumsLaid': WHATEVER THE INPUT: true; the input reads as it did. -/
def sumsLaidSpec : ChangeSpec := { name := "sumsLaid", fn := fun _ => fun
  | [d1, d2] => { results := [.lit (.bool true)], args := [d1, d2] }
  | _ => none }
def sumsLaidRow : OpenClaim := { program := "ytemiahjdacckgaa", sum := "484de88c9dfc2e81a8019b61c0839204fc0e97d16883c7984aeb7974f4ec4e9e", func := "outstation/outstationlaw01.SumsLaid", spec := "sumsLaid", apart := false }
def SumsLaidSaid : Prop := sumsLaidRow.holds Try.pinned (OpenSpec.ofChange sumsLaidSpec)

/-- ITS FALSE NEIGHBOUR: 'it returns false'. Refute it at one input. -/
def sumsLaidWrong : ChangeSpec := { name := "sumsLaid", fn := fun _ => fun
  | [d1, d2] => { results := [.lit (.bool false)], args := [d1, d2] }
  | _ => none }
def SumsLaidWrongFalsely : Prop := sumsLaidRow.holds Try.pinned (OpenSpec.ofChange sumsLaidWrong)

/-- 'outstationlaw05.FrameStreams': WHATEVER THE INPUT: true; the input reads as it did. -/
def frameStreamsSpec : ChangeSpec := { name := "frameStreams", fn := fun _ => fun
  | [d1, d2] => { results := [.lit (.bool true)], args := [d1, d2] }
  | _ => none }
def frameStreamsRow : OpenClaim := { program := "ytemiahjdacckgaa", sum := "484de88c9dfc2e81a8019b61c0839204fc0e97d16883c7984aeb7974f4ec4e9e", func := "outstation/outstationlaw05.FrameStreams", spec := "frameStreams", apart := false }
def FrameStreamsSaid : Prop := frameStreamsRow.holds Try.pinned (OpenSpec.ofChange frameStreamsSpec)

/-- ITS FALSE NEIGHBOUR: 'it returns false'. Refute it at one input. -/
def frameStreamsWrong : ChangeSpec := { name := "frameStreams", fn := fun _ => fun
  | [d1, d2] => { results := [.lit (.bool false)], args := [d1, d2] }
  | _ => none }
def FrameStreamsWrongFalsely : Prop := frameStreamsRow.holds Try.pinned (OpenSpec.ofChange frameStreamsWrong)

/-- 'outstationlaw01.SumsKnown': WHATEVER THE INPUT: true; the input reads as it did. -/
def sumsKnownSpec : ChangeSpec := { name := "sumsKnown", fn := fun _ => fun
  | [] => { results := [.lit (.bool true)], args := [] }
  | _ => none }
def sumsKnownRow : OpenClaim := { program := "ytemiahjdacckgaa", sum := "484de88c9dfc2e81a8019b61c0839204fc0e97d16883c7984aeb7974f4ec4e9e", func := "outstation/outstationlaw01.SumsKnown", spec := "sumsKnown", apart := false }
def SumsKnownSaid : Prop := sumsKnownRow.holds Try.pinned (OpenSpec.ofChange sumsKnownSpec)

/-- ITS FALSE NEIGHBOUR: 'it returns false'. Refute it at one input. -/
def sumsKnownWrong : ChangeSpec := { name := "sumsKnown", fn := fun _ => fun
  | [] => { results := [.lit (.bool false)], args := [] }
  | _ => none }
def SumsKnownWrongFalsely : Prop := sumsKnownRow.holds Try.pinned (OpenSpec.ofChange sumsKnownWrong)

/-- 'outstationlaw01.SumsSeal': WHATEVER THE INPUT: true; the input reads as it did. -/
def sumsSealSpec : ChangeSpec := { name := "sumsSeal", fn := fun _ => fun
  | [d] => { results := [.lit (.bool true)], args := [d] }
  | _ => none }
def sumsSealRow : OpenClaim := { program := "ytemiahjdacckgaa", sum := "484de88c9dfc2e81a8019b61c0839204fc0e97d16883c7984aeb7974f4ec4e9e", func := "outstation/outstationlaw01.SumsSeal", spec := "sumsSeal", apart := false }
def SumsSealSaid : Prop := sumsSealRow.holds Try.pinned (OpenSpec.ofChange sumsSealSpec)

/-- ITS FALSE NEIGHBOUR: 'it returns false'. Refute it at one input. -/
def sumsSealWrong : ChangeSpec := { name := "sumsSeal", fn := fun _ => fun
  | [d] => { results := [.lit (.bool false)], args := [d] }
  | _ => none }
def SumsSealWrongFalsely : Prop := sumsSealRow.holds Try.pinned (OpenSpec.ofChange sumsSealWrong)

/-- 'outstationlaw01.SumsSeen': WHATEVER THE INPUT: true; the input reads as it did. -/
def sumsSeenSpec : ChangeSpec := { name := "sumsSeen", fn := fun _ => fun
  | [d1, d2, d3] => { results := [.lit (.bool true)], args := [d1, d2, d3] }
  | _ => none }
def sumsSeenRow : OpenClaim := { program := "ytemiahjdacckgaa", sum := "484de88c9dfc2e81a8019b61c0839204fc0e97d16883c7984aeb7974f4ec4e9e", func := "outstation/outstationlaw01.SumsSeen", spec := "sumsSeen", apart := false }
def SumsSeenSaid : Prop := sumsSeenRow.holds Try.pinned (OpenSpec.ofChange sumsSeenSpec)

/-- ITS FALSE NEIGHBOUR: 'it returns false'. Refute it at one input. -/
def sumsSeenWrong : ChangeSpec := { name := "sumsSeen", fn := fun _ => fun
  | [d1, d2, d3] => { results := [.lit (.bool false)], args := [d1, d2, d3] }
  | _ => none }
def SumsSeenWrongFalsely : Prop := sumsSeenRow.holds Try.pinned (OpenSpec.ofChange sumsSeenWrong)

/-- 'outstationlaw05.FrameLines': WHATEVER THE INPUT: true; the input reads as it did. -/
def frameLinesSpec : ChangeSpec := { name := "frameLines", fn := fun _ => fun
  | [d1, d2] => { results := [.lit (.bool true)], args := [d1, d2] }
  | _ => none }
def frameLinesRow : OpenClaim := { program := "ytemiahjdacckgaa", sum := "484de88c9dfc2e81a8019b61c0839204fc0e97d16883c7984aeb7974f4ec4e9e", func := "outstation/outstationlaw05.FrameLines", spec := "frameLines", apart := false }
def FrameLinesSaid : Prop := frameLinesRow.holds Try.pinned (OpenSpec.ofChange frameLinesSpec)

/-- ITS FALSE NEIGHBOUR: 'it returns false'. Refute it at one input. -/
def frameLinesWrong : ChangeSpec := { name := "frameLines", fn := fun _ => fun
  | [d1, d2] => { results := [.lit (.bool false)], args := [d1, d2] }
  | _ => none }
def FrameLinesWrongFalsely : Prop := frameLinesRow.holds Try.pinned (OpenSpec.ofChange frameLinesWrong)

/-- 'outstationlaw05.FrameTurned': WHATEVER THE INPUT: true; the input reads as it did. -/
def frameTurnedSpec : ChangeSpec := { name := "frameTurned", fn := fun _ => fun
  | [d] => { results := [.lit (.bool true)], args := [d] }
  | _ => none }
def frameTurnedRow : OpenClaim := { program := "ytemiahjdacckgaa", sum := "484de88c9dfc2e81a8019b61c0839204fc0e97d16883c7984aeb7974f4ec4e9e", func := "outstation/outstationlaw05.FrameTurned", spec := "frameTurned", apart := false }
def FrameTurnedSaid : Prop := frameTurnedRow.holds Try.pinned (OpenSpec.ofChange frameTurnedSpec)

/-- ITS FALSE NEIGHBOUR: 'it returns false'. Refute it at one input. -/
def frameTurnedWrong : ChangeSpec := { name := "frameTurned", fn := fun _ => fun
  | [d] => { results := [.lit (.bool false)], args := [d] }
  | _ => none }
def FrameTurnedWrongFalsely : Prop := frameTurnedRow.holds Try.pinned (OpenSpec.ofChange frameTurnedWrong)

/-- 'outstationlaw05.FrameBack': WHATEVER THE INPUT: true; the input reads as it did. -/
def frameBackSpec : ChangeSpec := { name := "frameBack", fn := fun _ => fun
  | [d1, d2] => { results := [.lit (.bool true)], args := [d1, d2] }
  | _ => none }
def frameBackRow : OpenClaim := { program := "ytemiahjdacckgaa", sum := "484de88c9dfc2e81a8019b61c0839204fc0e97d16883c7984aeb7974f4ec4e9e", func := "outstation/outstationlaw05.FrameBack", spec := "frameBack", apart := false }
def FrameBackSaid : Prop := frameBackRow.holds Try.pinned (OpenSpec.ofChange frameBackSpec)

/-- ITS FALSE NEIGHBOUR: 'it returns false'. Refute it at one input. -/
def frameBackWrong : ChangeSpec := { name := "frameBack", fn := fun _ => fun
  | [d1, d2] => { results := [.lit (.bool false)], args := [d1, d2] }
  | _ => none }
def FrameBackWrongFalsely : Prop := frameBackRow.holds Try.pinned (OpenSpec.ofChange frameBackWrong)

/-- 'outstationlaw05.FramePieces': WHATEVER THE INPUT: true; the input reads as it did. -/
def framePiecesSpec : ChangeSpec := { name := "framePieces", fn := fun _ => fun
  | [d1, d2] => { results := [.lit (.bool true)], args := [d1, d2] }
  | _ => none }
def framePiecesRow : OpenClaim := { program := "ytemiahjdacckgaa", sum := "484de88c9dfc2e81a8019b61c0839204fc0e97d16883c7984aeb7974f4ec4e9e", func := "outstation/outstationlaw05.FramePieces", spec := "framePieces", apart := false }
def FramePiecesSaid : Prop := framePiecesRow.holds Try.pinned (OpenSpec.ofChange framePiecesSpec)

/-- ITS FALSE NEIGHBOUR: 'it returns false'. Refute it at one input. -/
def framePiecesWrong : ChangeSpec := { name := "framePieces", fn := fun _ => fun
  | [d1, d2] => { results := [.lit (.bool false)], args := [d1, d2] }
  | _ => none }
def FramePiecesWrongFalsely : Prop := framePiecesRow.holds Try.pinned (OpenSpec.ofChange framePiecesWrong)

/-- 'outstationlaw05.FrameKnown': WHATEVER THE INPUT: true; the input reads as it did. -/
def frameKnownSpec : ChangeSpec := { name := "frameKnown", fn := fun _ => fun
  | [] => { results := [.lit (.bool true)], args := [] }
  | _ => none }
def frameKnownRow : OpenClaim := { program := "ytemiahjdacckgaa", sum := "484de88c9dfc2e81a8019b61c0839204fc0e97d16883c7984aeb7974f4ec4e9e", func := "outstation/outstationlaw05.FrameKnown", spec := "frameKnown", apart := false }
def FrameKnownSaid : Prop := frameKnownRow.holds Try.pinned (OpenSpec.ofChange frameKnownSpec)

/-- ITS FALSE NEIGHBOUR: 'it returns false'. Refute it at one input. -/
def frameKnownWrong : ChangeSpec := { name := "frameKnown", fn := fun _ => fun
  | [] => { results := [.lit (.bool false)], args := [] }
  | _ => none }
def FrameKnownWrongFalsely : Prop := frameKnownRow.holds Try.pinned (OpenSpec.ofChange frameKnownWrong)

/- THE SECOND FORM. 'bulk': how many values and letters a reading holds, each counted each time it is reached (what is shared counts as often as it is met; a slice's spare places count too). A statement '..UptoSaid' is the law's where the arguments, and the package variables that the reading takes, are together of bulk at most 1048576: NARROWER than '..Said'. Prove '..Said' where nothing that the law and all that it calls make is longer than what came in: it says more and counts as full. Else prove '..UptoSaid'. A law counts once. -/
mutual
def uptoBulk {H : Type} : DataW H → Nat
  | .lit (.string bytes) => bytes.length + 1
  | .lit _ => 1
  | .nil => 1
  | .ptr d => uptoBulk d + 1
  | .slice elems spare => uptoBulkAll elems + uptoBulkAll spare + 1
  | .agg parts => uptoBulkAll parts + 1
  | .iface _ d => uptoBulk d + 1
  | .map entries => uptoBulkEntries entries + 1
  | .held _ => 1
def uptoBulkAll {H : Type} : List (DataW H) → Nat
  | [] => 0
  | d :: r => uptoBulk d + uptoBulkAll r
def uptoBulkEntries {H : Type} : List (Lit × DataW H) → Nat
  | [] => 0
  | x :: r => uptoBulkEntry x + uptoBulkEntries r
def uptoBulkEntry {H : Type} : Lit × DataW H → Nat
  | (.string bytes, d) => bytes.length + uptoBulk d + 1
  | (_, d) => uptoBulk d + 1
 end
def uptoSmall : (H : Type) → List (DataW H) → Bool := fun _ ds => decide (uptoBulkAll ds ≤ 1048576)
def OpenSpec.upto (s : _root_.Go.ChangeSpec) : _root_.Go.OpenSpec := { _root_.Go.OpenSpec.ofChange s with cond := some uptoSmall }

/-- 'outstationlaw01.SumsReckon', WHERE WHAT IT READS IS OF BULK AT MOST 1048576: true; the input reads as it did. -/
def sumsReckonUptoRow : OpenClaim := { program := "ytemiahjdacckgaa", sum := "484de88c9dfc2e81a8019b61c0839204fc0e97d16883c7984aeb7974f4ec4e9e", func := "outstation/outstationlaw01.SumsReckon", spec := "sumsReckon", apart := false, narrowed := true }
def SumsReckonUptoSaid : Prop := sumsReckonUptoRow.holds Try.pinned (OpenSpec.upto sumsReckonSpec)

/-- 'outstationlaw01.SumsPieces', WHERE WHAT IT READS IS OF BULK AT MOST 1048576: true; the input reads as it did. -/
def sumsPiecesUptoRow : OpenClaim := { program := "ytemiahjdacckgaa", sum := "484de88c9dfc2e81a8019b61c0839204fc0e97d16883c7984aeb7974f4ec4e9e", func := "outstation/outstationlaw01.SumsPieces", spec := "sumsPieces", apart := false, narrowed := true }
def SumsPiecesUptoSaid : Prop := sumsPiecesUptoRow.holds Try.pinned (OpenSpec.upto sumsPiecesSpec)

/-- 'outstationlaw01.SumsLaid', WHERE WHAT IT READS IS OF BULK AT MOST 1048576: true; the input reads as it did. -/
def sumsLaidUptoRow : OpenClaim := { program := "ytemiahjdacckgaa", sum := "484de88c9dfc2e81a8019b61c0839204fc0e97d16883c7984aeb7974f4ec4e9e", func := "outstation/outstationlaw01.SumsLaid", spec := "sumsLaid", apart := false, narrowed := true }
def SumsLaidUptoSaid : Prop := sumsLaidUptoRow.holds Try.pinned (OpenSpec.upto sumsLaidSpec)

/-- 'outstationlaw05.FrameStreams', WHERE WHAT IT READS IS OF BULK AT MOST 1048576: true; the input reads as it did. -/
def frameStreamsUptoRow : OpenClaim := { program := "ytemiahjdacckgaa", sum := "484de88c9dfc2e81a8019b61c0839204fc0e97d16883c7984aeb7974f4ec4e9e", func := "outstation/outstationlaw05.FrameStreams", spec := "frameStreams", apart := false, narrowed := true }
def FrameStreamsUptoSaid : Prop := frameStreamsUptoRow.holds Try.pinned (OpenSpec.upto frameStreamsSpec)

/-- 'outstationlaw01.SumsKnown', WHERE WHAT IT READS IS OF BULK AT MOST 1048576: true; the input reads as it did. -/
def sumsKnownUptoRow : OpenClaim := { program := "ytemiahjdacckgaa", sum := "484de88c9dfc2e81a8019b61c0839204fc0e97d16883c7984aeb7974f4ec4e9e", func := "outstation/outstationlaw01.SumsKnown", spec := "sumsKnown", apart := false, narrowed := true }
def SumsKnownUptoSaid : Prop := sumsKnownUptoRow.holds Try.pinned (OpenSpec.upto sumsKnownSpec)

/-- 'outstationlaw01.SumsSeal', WHERE WHAT IT READS IS OF BULK AT MOST 1048576: true; the input reads as it did. -/
def sumsSealUptoRow : OpenClaim := { program := "ytemiahjdacckgaa", sum := "484de88c9dfc2e81a8019b61c0839204fc0e97d16883c7984aeb7974f4ec4e9e", func := "outstation/outstationlaw01.SumsSeal", spec := "sumsSeal", apart := false, narrowed := true }
def SumsSealUptoSaid : Prop := sumsSealUptoRow.holds Try.pinned (OpenSpec.upto sumsSealSpec)

/-- 'outstationlaw01.SumsSeen', WHERE WHAT IT READS IS OF BULK AT MOST 1048576: true; the input reads as it did. -/
def sumsSeenUptoRow : OpenClaim := { program := "ytemiahjdacckgaa", sum := "484de88c9dfc2e81a8019b61c0839204fc0e97d16883c7984aeb7974f4ec4e9e", func := "outstation/outstationlaw01.SumsSeen", spec := "sumsSeen", apart := false, narrowed := true }
def SumsSeenUptoSaid : Prop := sumsSeenUptoRow.holds Try.pinned (OpenSpec.upto sumsSeenSpec)

/-- 'outstationlaw05.FrameLines', WHERE WHAT IT READS IS OF BULK AT MOST 1048576: true; the input reads as it did. -/
def frameLinesUptoRow : OpenClaim := { program := "ytemiahjdacckgaa", sum := "484de88c9dfc2e81a8019b61c0839204fc0e97d16883c7984aeb7974f4ec4e9e", func := "outstation/outstationlaw05.FrameLines", spec := "frameLines", apart := false, narrowed := true }
def FrameLinesUptoSaid : Prop := frameLinesUptoRow.holds Try.pinned (OpenSpec.upto frameLinesSpec)

/-- 'outstationlaw05.FrameTurned', WHERE WHAT IT READS IS OF BULK AT MOST 1048576: true; the input reads as it did. -/
def frameTurnedUptoRow : OpenClaim := { program := "ytemiahjdacckgaa", sum := "484de88c9dfc2e81a8019b61c0839204fc0e97d16883c7984aeb7974f4ec4e9e", func := "outstation/outstationlaw05.FrameTurned", spec := "frameTurned", apart := false, narrowed := true }
def FrameTurnedUptoSaid : Prop := frameTurnedUptoRow.holds Try.pinned (OpenSpec.upto frameTurnedSpec)

/-- 'outstationlaw05.FrameBack', WHERE WHAT IT READS IS OF BULK AT MOST 1048576: true; the input reads as it did. -/
def frameBackUptoRow : OpenClaim := { program := "ytemiahjdacckgaa", sum := "484de88c9dfc2e81a8019b61c0839204fc0e97d16883c7984aeb7974f4ec4e9e", func := "outstation/outstationlaw05.FrameBack", spec := "frameBack", apart := false, narrowed := true }
def FrameBackUptoSaid : Prop := frameBackUptoRow.holds Try.pinned (OpenSpec.upto frameBackSpec)

/-- 'outstationlaw05.FramePieces', WHERE WHAT IT READS IS OF BULK AT MOST 1048576: true; the input reads as it did. -/
def framePiecesUptoRow : OpenClaim := { program := "ytemiahjdacckgaa", sum := "484de88c9dfc2e81a8019b61c0839204fc0e97d16883c7984aeb7974f4ec4e9e", func := "outstation/outstationlaw05.FramePieces", spec := "framePieces", apart := false, narrowed := true }
def FramePiecesUptoSaid : Prop := framePiecesUptoRow.holds Try.pinned (OpenSpec.upto framePiecesSpec)

/-- 'outstationlaw05.FrameKnown', WHERE WHAT IT READS IS OF BULK AT MOST 1048576: true; the input reads as it did. -/
def frameKnownUptoRow : OpenClaim := { program := "ytemiahjdacckgaa", sum := "484de88c9dfc2e81a8019b61c0839204fc0e97d16883c7984aeb7974f4ec4e9e", func := "outstation/outstationlaw05.FrameKnown", spec := "frameKnown", apart := false, narrowed := true }
def FrameKnownUptoSaid : Prop := frameKnownUptoRow.holds Try.pinned (OpenSpec.upto frameKnownSpec)

end Rows
end Go.Proofs.Ytemiahjdacckgaa
