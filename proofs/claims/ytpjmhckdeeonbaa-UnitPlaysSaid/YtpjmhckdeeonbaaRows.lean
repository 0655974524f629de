/-
  No cell of these rows narrows 'for every input' (looked for: loops, veiled, ifaces, maps, wideKeys, modest, calm, conditions, laid).
  DERIVED. THE GIVEN ROWS OF THIS SEAT. 11 by the template 'for every input the law returns true; each argument reads behind the call as it read before'; 0 by the template 'total and deterministic' (their statements: YtpjmhckdeeonbaaTotals.lean).
  GIVEN WITH THE SEED: the statements are not yours to turn. If you find one false, say at which input.
  Laid BY PROGRAM, IN A SANDBOX (cutbox-rows.mjs): the forced cells as the released guide's own fill.sh prints them over the translation ab7728bad302d6f4… (all of the seat's roots in one cut). By AI agents, Wed Nov 11 2026. No macro, syntax, notation, axiom, sorry.
-/
import Derived.Test.YtpjmhckdeeonbaaChecked
import GoSem.Claim
import GoSem.ClaimJoined
import GoSem.ClaimMapViews
import Derived.JoinedTies
import Derived.KernelRfl
namespace Go.Proofs.Ytpjmhckdeeonbaa
/- THE CELL 'sum', in the pinned program and in every row, IS THE sha256 OF THE DUMP (.gsa) THAT YtpjmhckdeeonbaaProg.lean LOADS. Nothing in Lean hashes anything: it is a label: what it is worth is what the hold of that sum in a sandbox is worth. -/
noncomputable def Try.pinned : Pinned := { name := "ytpjmhckdeeonbaa", sum := "ab7728bad302d6f441a5eb7d68f3c3db3d2cc57013aca397f301a57d2981672e", checked := Try.checked }
namespace Rows
def none {H : Type} : Left H := { results := [], args := [] }

/-- 'outstationlaw04.ReplyChecks': WHATEVER THE INPUT: true; the input reads as it did. -/
def replyChecksSpec : ChangeSpec := { name := "replyChecks", fn := fun _ => fun
  | [d1, d2] => { results := [.lit (.bool true)], args := [d1, d2] }
  | _ => none }
def replyChecksRow : OpenClaim := { program := "ytpjmhckdeeonbaa", sum := "ab7728bad302d6f441a5eb7d68f3c3db3d2cc57013aca397f301a57d2981672e", func := "outstation/outstationlaw04.ReplyChecks", spec := "replyChecks", unfollowed := true, recurses := true, apart := false }
def ReplyChecksSaid : Prop := replyChecksRow.holds Try.pinned (OpenSpec.ofChange replyChecksSpec)

/-- ITS FALSE NEIGHBOUR: 'it returns false'. Refute it at one input. -/
def replyChecksWrong : ChangeSpec := { name := "replyChecks", fn := fun _ => fun
  | [d1, d2] => { results := [.lit (.bool false)], args := [d1, d2] }
  | _ => none }
def ReplyChecksWrongFalsely : Prop := replyChecksRow.holds Try.pinned (OpenSpec.ofChange replyChecksWrong)

/-- 'outstationlaw04.ReplyPuts': WHATEVER THE INPUT: true; the input reads as it did. -/
def replyPutsSpec : ChangeSpec := { name := "replyPuts", fn := fun _ => fun
  | [d1, d2] => { results := [.lit (.bool true)], args := [d1, d2] }
  | _ => none }
def replyPutsRow : OpenClaim := { program := "ytpjmhckdeeonbaa", sum := "ab7728bad302d6f441a5eb7d68f3c3db3d2cc57013aca397f301a57d2981672e", func := "outstation/outstationlaw04.ReplyPuts", spec := "replyPuts", unfollowed := true, recurses := true, apart := false }
def ReplyPutsSaid : Prop := replyPutsRow.holds Try.pinned (OpenSpec.ofChange replyPutsSpec)

/-- ITS FALSE NEIGHBOUR: 'it returns false'. Refute it at one input. -/
def replyPutsWrong : ChangeSpec := { name := "replyPuts", fn := fun _ => fun
  | [d1, d2] => { results := [.lit (.bool false)], args := [d1, d2] }
  | _ => none }
def ReplyPutsWrongFalsely : Prop := replyPutsRow.holds Try.pinned (OpenSpec.ofChange replyPutsWrong)

/-- 'outstationlaw04.ReplyGets': WHATEVER THE INPUT: true; the input reads as it did. -/
def replyGetsSpec : ChangeSpec := { name := "replyGets", fn := fun _ => fun
  | [d1, d2] => { results := [.lit (.bool true)], args := [d1, d2] }
  | _ => none }
def replyGetsRow : OpenClaim := { program := "ytpjmhckdeeonbaa", sum := "ab7728bad302d6f441a5eb7d68f3c3db3d2cc57013aca397f301a57d2981672e", func := "outstation/outstationlaw04.ReplyGets", spec := "replyGets", unfollowed := true, recurses := true, apart := false }
def ReplyGetsSaid : Prop := replyGetsRow.holds Try.pinned (OpenSpec.ofChange replyGetsSpec)

/-- ITS FALSE NEIGHBOUR: 'it returns false'. Refute it at one input. -/
def replyGetsWrong : ChangeSpec := { name := "replyGets", fn := fun _ => fun
  | [d1, d2] => { results := [.lit (.bool false)], args := [d1, d2] }
  | _ => none }
def ReplyGetsWrongFalsely : Prop := replyGetsRow.holds Try.pinned (OpenSpec.ofChange replyGetsWrong)

/-- 'outstationlaw04.ReplyBack': WHATEVER THE INPUT: true; the input reads as it did. -/
def replyBackSpec : ChangeSpec := { name := "replyBack", fn := fun _ => fun
  | [d1, d2, d3, d4] => { results := [.lit (.bool true)], args := [d1, d2, d3, d4] }
  | _ => none }
def replyBackRow : OpenClaim := { program := "ytpjmhckdeeonbaa", sum := "ab7728bad302d6f441a5eb7d68f3c3db3d2cc57013aca397f301a57d2981672e", func := "outstation/outstationlaw04.ReplyBack", spec := "replyBack", unfollowed := true, recurses := true, apart := false }
def ReplyBackSaid : Prop := replyBackRow.holds Try.pinned (OpenSpec.ofChange replyBackSpec)

/-- ITS FALSE NEIGHBOUR: 'it returns false'. Refute it at one input. -/
def replyBackWrong : ChangeSpec := { name := "replyBack", fn := fun _ => fun
  | [d1, d2, d3, d4] => { results := [.lit (.bool false)], args := [d1, d2, d3, d4] }
  | _ => none }
def ReplyBackWrongFalsely : Prop := replyBackRow.holds Try.pinned (OpenSpec.ofChange replyBackWrong)

/-- 'outstationlaw04.ReplyForms': WHATEVER THE INPUT: true; the input reads as it did. -/
def replyFormsSpec : ChangeSpec := { name := "replyForms", fn := fun _ => fun
  | [d1, d2] => { results := [.lit (.bool true)], args := [d1, d2] }
  | _ => none }
def replyFormsRow : OpenClaim := { program := "ytpjmhckdeeonbaa", sum := "ab7728bad302d6f441a5eb7d68f3c3db3d2cc57013aca397f301a57d2981672e", func := "outstation/outstationlaw04.ReplyForms", spec := "replyForms", unfollowed := true, recurses := true, apart := false }
def ReplyFormsSaid : Prop := replyFormsRow.holds Try.pinned (OpenSpec.ofChange replyFormsSpec)

/-- ITS FALSE NEIGHBOUR: 'it returns false'. Refute it at one input. -/
def replyFormsWrong : ChangeSpec := { name := "replyForms", fn := fun _ => fun
  | [d1, d2] => { results := [.lit (.bool false)], args := [d1, d2] }
  | _ => none }
def ReplyFormsWrongFalsely : Prop := replyFormsRow.holds Try.pinned (OpenSpec.ofChange replyFormsWrong)

/-- 'outstationlaw04.ReplyExceptions': WHATEVER THE INPUT: true; the input reads as it did. -/
def replyExceptionsSpec : ChangeSpec := { name := "replyExceptions", fn := fun _ => fun
  | [d1, d2] => { results := [.lit (.bool true)], args := [d1, d2] }
  | _ => none }
def replyExceptionsRow : OpenClaim := { program := "ytpjmhckdeeonbaa", sum := "ab7728bad302d6f441a5eb7d68f3c3db3d2cc57013aca397f301a57d2981672e", func := "outstation/outstationlaw04.ReplyExceptions", spec := "replyExceptions", unfollowed := true, recurses := true, apart := false }
def ReplyExceptionsSaid : Prop := replyExceptionsRow.holds Try.pinned (OpenSpec.ofChange replyExceptionsSpec)

/-- ITS FALSE NEIGHBOUR: 'it returns false'. Refute it at one input. -/
def replyExceptionsWrong : ChangeSpec := { name := "replyExceptions", fn := fun _ => fun
  | [d1, d2] => { results := [.lit (.bool false)], args := [d1, d2] }
  | _ => none }
def ReplyExceptionsWrongFalsely : Prop := replyExceptionsRow.holds Try.pinned (OpenSpec.ofChange replyExceptionsWrong)

/-- 'outstationlaw04.ReplyKnown': WHATEVER THE INPUT: true; the input reads as it did. -/
def replyKnownSpec : ChangeSpec := { name := "replyKnown", fn := fun _ => fun
  | [] => { results := [.lit (.bool true)], args := [] }
  | _ => none }
def replyKnownRow : OpenClaim := { program := "ytpjmhckdeeonbaa", sum := "ab7728bad302d6f441a5eb7d68f3c3db3d2cc57013aca397f301a57d2981672e", func := "outstation/outstationlaw04.ReplyKnown", spec := "replyKnown", unfollowed := true, recurses := true, apart := false }
def ReplyKnownSaid : Prop := replyKnownRow.holds Try.pinned (OpenSpec.ofChange replyKnownSpec)

/-- ITS FALSE NEIGHBOUR: 'it returns false'. Refute it at one input. -/
def replyKnownWrong : ChangeSpec := { name := "replyKnown", fn := fun _ => fun
  | [] => { results := [.lit (.bool false)], args := [] }
  | _ => none }
def ReplyKnownWrongFalsely : Prop := replyKnownRow.holds Try.pinned (OpenSpec.ofChange replyKnownWrong)

/-- 'outstationlaw19.UnitSilent': WHATEVER THE INPUT: true; the input reads as it did. -/
def unitSilentSpec : ChangeSpec := { name := "unitSilent", fn := fun _ => fun
  | [d1, d2, d3] => { results := [.lit (.bool true)], args := [d1, d2, d3] }
  | _ => none }
def unitSilentRow : OpenClaim := { program := "ytpjmhckdeeonbaa", sum := "ab7728bad302d6f441a5eb7d68f3c3db3d2cc57013aca397f301a57d2981672e", func := "outstation/outstationlaw19.UnitSilent", spec := "unitSilent", apart := false }
def UnitSilentSaid : Prop := unitSilentRow.holds Try.pinned (OpenSpec.ofChange unitSilentSpec)

/-- ITS FALSE NEIGHBOUR: 'it returns false'. Refute it at one input. -/
def unitSilentWrong : ChangeSpec := { name := "unitSilent", fn := fun _ => fun
  | [d1, d2, d3] => { results := [.lit (.bool false)], args := [d1, d2, d3] }
  | _ => none }
def UnitSilentWrongFalsely : Prop := unitSilentRow.holds Try.pinned (OpenSpec.ofChange unitSilentWrong)

/-- 'outstationlaw19.UnitPlays': WHATEVER THE INPUT: true; the input reads as it did. -/
def unitPlaysSpec : ChangeSpec := { name := "unitPlays", fn := fun _ => fun
  | [d1, d2, d3] => { results := [.lit (.bool true)], args := [d1, d2, d3] }
  | _ => none }
def unitPlaysRow : OpenClaim := { program := "ytpjmhckdeeonbaa", sum := "ab7728bad302d6f441a5eb7d68f3c3db3d2cc57013aca397f301a57d2981672e", func := "outstation/outstationlaw19.UnitPlays", spec := "unitPlays", apart := false }
def UnitPlaysSaid : Prop := unitPlaysRow.holds Try.pinned (OpenSpec.ofChange unitPlaysSpec)

/-- ITS FALSE NEIGHBOUR: 'it returns false'. Refute it at one input. -/
def unitPlaysWrong : ChangeSpec := { name := "unitPlays", fn := fun _ => fun
  | [d1, d2, d3] => { results := [.lit (.bool false)], args := [d1, d2, d3] }
  | _ => none }
def UnitPlaysWrongFalsely : Prop := unitPlaysRow.holds Try.pinned (OpenSpec.ofChange unitPlaysWrong)

/-- 'outstationlaw19.UnitKnown': WHATEVER THE INPUT: true; the input reads as it did. -/
def unitKnownSpec : ChangeSpec := { name := "unitKnown", fn := fun _ => fun
  | [] => { results := [.lit (.bool true)], args := [] }
  | _ => none }
def unitKnownRow : OpenClaim := { program := "ytpjmhckdeeonbaa", sum := "ab7728bad302d6f441a5eb7d68f3c3db3d2cc57013aca397f301a57d2981672e", func := "outstation/outstationlaw19.UnitKnown", spec := "unitKnown", apart := false }
def UnitKnownSaid : Prop := unitKnownRow.holds Try.pinned (OpenSpec.ofChange unitKnownSpec)

/-- ITS FALSE NEIGHBOUR: 'it returns false'. Refute it at one input. -/
def unitKnownWrong : ChangeSpec := { name := "unitKnown", fn := fun _ => fun
  | [] => { results := [.lit (.bool false)], args := [] }
  | _ => none }
def UnitKnownWrongFalsely : Prop := unitKnownRow.holds Try.pinned (OpenSpec.ofChange unitKnownWrong)

/-- 'outstationlaw19.UnitOver': WHATEVER THE INPUT: true; the input reads as it did. -/
def unitOverSpec : ChangeSpec := { name := "unitOver", fn := fun _ => fun
  | [d1, d2, d3] => { results := [.lit (.bool true)], args := [d1, d2, d3] }
  | _ => none }
def unitOverRow : OpenClaim := { program := "ytpjmhckdeeonbaa", sum := "ab7728bad302d6f441a5eb7d68f3c3db3d2cc57013aca397f301a57d2981672e", func := "outstation/outstationlaw19.UnitOver", spec := "unitOver", unfollowed := true, recurses := true, apart := false }
def UnitOverSaid : Prop := unitOverRow.holds Try.pinned (OpenSpec.ofChange unitOverSpec)

/-- ITS FALSE NEIGHBOUR: 'it returns false'. Refute it at one input. -/
def unitOverWrong : ChangeSpec := { name := "unitOver", fn := fun _ => fun
  | [d1, d2, d3] => { results := [.lit (.bool false)], args := [d1, d2, d3] }
  | _ => none }
def UnitOverWrongFalsely : Prop := unitOverRow.holds Try.pinned (OpenSpec.ofChange unitOverWrong)

/- THE SECOND FORM. 'bulk': how many values and letters a reading holds, each counted each time it is reached (what is shared counts as often as it is met; a slice's spare places count too). A statement '..UptoSaid' is the law's where the arguments, and the package variables that the reading takes, are together of bulk at most 1048576: NARROWER than '..Said'. Prove '..Said' where nothing that the law and all that it calls make is longer than what came in: it says more and counts as full. Else prove '..UptoSaid'. A law counts once. -/
mutual
def uptoBulk {H : Type} : DataW H → Nat
  | .lit (.string bytes) => bytes.length + 1
  | .lit _ => 1
  | .nil => 1
  | .ptr d => uptoBulk d + 1
  | .slice elems spare => uptoBulkAll elems + uptoBulkAll spare + 1
  | .agg parts => uptoBulkAll parts + 1
  | .iface _ d => uptoBulk d + 1
  | .map entries => uptoBulkEntries entries + 1
  | .held _ => 1
def uptoBulkAll {H : Type} : List (DataW H) → Nat
  | [] => 0
  | d :: r => uptoBulk d + uptoBulkAll r
def uptoBulkEntries {H : Type} : List (Lit × DataW H) → Nat
  | [] => 0
  | x :: r => uptoBulkEntry x + uptoBulkEntries r
def uptoBulkEntry {H : Type} : Lit × DataW H → Nat
  | (.string bytes, d) => bytes.length + uptoBulk d + 1
  | (_, d) => uptoBulk d + 1
 end
def uptoSmall : (H : Type) → List (DataW H) → Bool := fun _ ds => decide (uptoBulkAll ds ≤ 1048576)
def OpenSpec.upto (s : _root_.Go.ChangeSpec) : _root_.Go.OpenSpec := { _root_.Go.OpenSpec.ofChange s with cond := some uptoSmall }

/-- 'outstationlaw04.ReplyChecks', WHERE WHAT IT READS IS OF BULK AT MOST 1048576: true; the input reads as it did. -/
def replyChecksUptoRow : OpenClaim := { program := "ytpjmhckdeeonbaa", sum := "ab7728bad302d6f441a5eb7d68f3c3db3d2cc57013aca397f301a57d2981672e", func := "outstation/outstationlaw04.ReplyChecks", spec := "replyChecks", unfollowed := true, recurses := true, apart := false, narrowed := true }
def ReplyChecksUptoSaid : Prop := replyChecksUptoRow.holds Try.pinned (OpenSpec.upto replyChecksSpec)

/-- 'outstationlaw04.ReplyPuts', WHERE WHAT IT READS IS OF BULK AT MOST 1048576: true; the input reads as it did. -/
def replyPutsUptoRow : OpenClaim := { program := "ytpjmhckdeeonbaa", sum := "ab7728bad302d6f441a5eb7d68f3c3db3d2cc57013aca397f301a57d2981672e", func := "outstation/outstationlaw04.ReplyPuts", spec := "replyPuts", unfollowed := true, recurses := true, apart := false, narrowed := true }
def ReplyPutsUptoSaid : Prop := replyPutsUptoRow.holds Try.pinned (OpenSpec.upto replyPutsSpec)

/-- 'outstationlaw04.ReplyGets', WHERE WHAT IT READS IS OF BULK AT MOST 1048576: true; the input reads as it did. -/
def replyGetsUptoRow : OpenClaim := { program := "ytpjmhckdeeonbaa", sum := "ab7728bad302d6f441a5eb7d68f3c3db3d2cc57013aca397f301a57d2981672e", func := "outstation/outstationlaw04.ReplyGets", spec := "replyGets", unfollowed := true, recurses := true, apart := false, narrowed := true }
def ReplyGetsUptoSaid : Prop := replyGetsUptoRow.holds Try.pinned (OpenSpec.upto replyGetsSpec)

/-- 'outstationlaw04.ReplyBack', WHERE WHAT IT READS IS OF BULK AT MOST 1048576: true; the input reads as it did. -/
def replyBackUptoRow : OpenClaim := { program := "ytpjmhckdeeonbaa", sum := "ab7728bad302d6f441a5eb7d68f3c3db3d2cc57013aca397f301a57d2981672e", func := "outstation/outstationlaw04.ReplyBack", spec := "replyBack", unfollowed := true, recurses := true, apart := false, narrowed := true }
def ReplyBackUptoSaid : Prop := replyBackUptoRow.holds Try.pinned (OpenSpec.upto replyBackSpec)

/-- 'outstationlaw04.ReplyForms', WHERE WHAT IT READS IS OF BULK AT MOST 1048576: true; the input reads as it did. -/
def replyFormsUptoRow : OpenClaim := { program := "ytpjmhckdeeonbaa", sum := "ab7728bad302d6f441a5eb7d68f3c3db3d2cc57013aca397f301a57d2981672e", func := "outstation/outstationlaw04.ReplyForms", spec := "replyForms", unfollowed := true, recurses := true, apart := false, narrowed := true }
def ReplyFormsUptoSaid : Prop := replyFormsUptoRow.holds Try.pinned (OpenSpec.upto replyFormsSpec)

/-- 'outstationlaw04.ReplyExceptions', WHERE WHAT IT READS IS OF BULK AT MOST 1048576: true; the input reads as it did. -/
def replyExceptionsUptoRow : OpenClaim := { program := "ytpjmhckdeeonbaa", sum := "ab7728bad302d6f441a5eb7d68f3c3db3d2cc57013aca397f301a57d2981672e", func := "outstation/outstationlaw04.ReplyExceptions", spec := "replyExceptions", unfollowed := true, recurses := true, apart := false, narrowed := true }
def ReplyExceptionsUptoSaid : Prop := replyExceptionsUptoRow.holds Try.pinned (OpenSpec.upto replyExceptionsSpec)

/-- 'outstationlaw04.ReplyKnown', WHERE WHAT IT READS IS OF BULK AT MOST 1048576: true; the input reads as it did. -/
def replyKnownUptoRow : OpenClaim := { program := "ytpjmhckdeeonbaa", sum := "ab7728bad302d6f441a5eb7d68f3c3db3d2cc57013aca397f301a57d2981672e", func := "outstation/outstationlaw04.ReplyKnown", spec := "replyKnown", unfollowed := true, recurses := true, apart := false, narrowed := true }
def ReplyKnownUptoSaid : Prop := replyKnownUptoRow.holds Try.pinned (OpenSpec.upto replyKnownSpec)

/-- 'outstationlaw19.UnitSilent', WHERE WHAT IT READS IS OF BULK AT MOST 1048576: true; the input reads as it did. -/
def unitSilentUptoRow : OpenClaim := { program := "ytpjmhckdeeonbaa", sum := "ab7728bad302d6f441a5eb7d68f3c3db3d2cc57013aca397f301a57d2981672e", func := "outstation/outstationlaw19.UnitSilent", spec := "unitSilent", apart := false, narrowed := true }
def UnitSilentUptoSaid : Prop := unitSilentUptoRow.holds Try.pinned (OpenSpec.upto unitSilentSpec)

/-- 'outstationlaw19.UnitPlays', WHERE WHAT IT READS IS OF BULK AT MOST 1048576: true; the input reads as it did. -/
def unitPlaysUptoRow : OpenClaim := { program := "ytpjmhckdeeonbaa", sum := "ab7728bad302d6f441a5eb7d68f3c3db3d2cc57013aca397f301a57d2981672e", func := "outstation/outstationlaw19.UnitPlays", spec := "unitPlays", apart := false, narrowed := true }
def UnitPlaysUptoSaid : Prop := unitPlaysUptoRow.holds Try.pinned (OpenSpec.upto unitPlaysSpec)

/-- 'outstationlaw19.UnitKnown', WHERE WHAT IT READS IS OF BULK AT MOST 1048576: true; the input reads as it did. -/
def unitKnownUptoRow : OpenClaim := { program := "ytpjmhckdeeonbaa", sum := "ab7728bad302d6f441a5eb7d68f3c3db3d2cc57013aca397f301a57d2981672e", func := "outstation/outstationlaw19.UnitKnown", spec := "unitKnown", apart := false, narrowed := true }
def UnitKnownUptoSaid : Prop := unitKnownUptoRow.holds Try.pinned (OpenSpec.upto unitKnownSpec)

/-- 'outstationlaw19.UnitOver', WHERE WHAT IT READS IS OF BULK AT MOST 1048576: true; the input reads as it did. -/
def unitOverUptoRow : OpenClaim := { program := "ytpjmhckdeeonbaa", sum := "ab7728bad302d6f441a5eb7d68f3c3db3d2cc57013aca397f301a57d2981672e", func := "outstation/outstationlaw19.UnitOver", spec := "unitOver", unfollowed := true, recurses := true, apart := false, narrowed := true }
def UnitOverUptoSaid : Prop := unitOverUptoRow.holds Try.pinned (OpenSpec.upto unitOverSpec)

end Rows
end Go.Proofs.Ytpjmhckdeeonbaa
