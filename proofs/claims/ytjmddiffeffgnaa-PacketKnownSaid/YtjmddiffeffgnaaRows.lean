/-
  No cell of these rows narrows 'for every input' (looked for: loops, veiled, ifaces, maps, wideKeys, modest, calm, conditions, laid).
  DERIVED. THE GIVEN ROWS OF THIS SEAT. 12 by the template 'for every input the law returns true; each argument reads behind the call as it read before'; 0 by the template 'total and deterministic' (their statements: YtjmddiffeffgnaaTotals.lean).
  GIVEN WITH THE SEED: the statements are not yours to turn. If you find one false, say at which input.
  Laid BY PROGRAM, IN A SANDBOX (cutbox-rows.mjs): the forced cells as the released guide's own fill.sh prints them over the translation 34d847485e3efcc3… (all of the seat's roots in one cut). By AI agents, Wed Nov 11 2026. No macro, syntax, notation, axiom, sorry.
-/
import Derived.Test.YtjmddiffeffgnaaChecked
import GoSem.Claim
import GoSem.ClaimJoined
import GoSem.ClaimMapViews
import Derived.JoinedTies
import Derived.KernelRfl
namespace Go.Proofs.Ytjmddiffeffgnaa
/- THE CELL 'sum', in the pinned program and in every row, IS THE sha256 OF THE DUMP (.gsa) THAT YtjmddiffeffgnaaProg.lean LOADS. Nothing in Lean hashes anything: it is a label: what it is worth is what the hold of that sum in a sandbox is worth. -/
noncomputable def Try.pinned : Pinned := { name := "ytjmddiffeffgnaa", sum := "34d847485e3efcc3bba167beacc9758b9c414043768722c840f9c5b8879c0e6a", checked := Try.checked }
namespace Rows
def none {H : Type} : Left H := { results := [], args := [] }

/-- 'outstationlaw21.PacketCommands': WHATEVER THE INPUT: true; the input reads as it did. -/
def packetCommandsSpec : ChangeSpec := { name := "packetCommands", fn := fun _ => fun
  | [d] => { results := [.lit (.bool true)], args := [d] }
  | _ => none }
def packetCommandsRow : OpenClaim := { program := "ytjmddiffeffgnaa", sum := "34d847485e3efcc3bba167beacc9758b9c414043768722c840f9c5b8879c0e6a", func := "outstation/outstationlaw21.PacketCommands", spec := "packetCommands", apart := false }
def PacketCommandsSaid : Prop := packetCommandsRow.holds Try.pinned (OpenSpec.ofChange packetCommandsSpec)

/-- ITS FALSE NEIGHBOUR: 'it returns false'. Refute it at one input. -/
def packetCommandsWrong : ChangeSpec := { name := "packetCommands", fn := fun _ => fun
  | [d] => { results := [.lit (.bool false)], args := [d] }
  | _ => none }
def PacketCommandsWrongFalsely : Prop := packetCommandsRow.holds Try.pinned (OpenSpec.ofChange packetCommandsWrong)

/-- 'outstationlaw21.PacketPuts': WHATEVER THE INPUT: true; the input reads as it did. -/
def packetPutsSpec : ChangeSpec := { name := "packetPuts", fn := fun _ => fun
  | [d] => { results := [.lit (.bool true)], args := [d] }
  | _ => none }
def packetPutsRow : OpenClaim := { program := "ytjmddiffeffgnaa", sum := "34d847485e3efcc3bba167beacc9758b9c414043768722c840f9c5b8879c0e6a", func := "outstation/outstationlaw21.PacketPuts", spec := "packetPuts", apart := false }
def PacketPutsSaid : Prop := packetPutsRow.holds Try.pinned (OpenSpec.ofChange packetPutsSpec)

/-- ITS FALSE NEIGHBOUR: 'it returns false'. Refute it at one input. -/
def packetPutsWrong : ChangeSpec := { name := "packetPuts", fn := fun _ => fun
  | [d] => { results := [.lit (.bool false)], args := [d] }
  | _ => none }
def PacketPutsWrongFalsely : Prop := packetPutsRow.holds Try.pinned (OpenSpec.ofChange packetPutsWrong)

/-- 'outstationlaw21.PacketCarries': WHATEVER THE INPUT: true; the input reads as it did. -/
def packetCarriesSpec : ChangeSpec := { name := "packetCarries", fn := fun _ => fun
  | [d] => { results := [.lit (.bool true)], args := [d] }
  | _ => none }
def packetCarriesRow : OpenClaim := { program := "ytjmddiffeffgnaa", sum := "34d847485e3efcc3bba167beacc9758b9c414043768722c840f9c5b8879c0e6a", func := "outstation/outstationlaw21.PacketCarries", spec := "packetCarries", apart := false }
def PacketCarriesSaid : Prop := packetCarriesRow.holds Try.pinned (OpenSpec.ofChange packetCarriesSpec)

/-- ITS FALSE NEIGHBOUR: 'it returns false'. Refute it at one input. -/
def packetCarriesWrong : ChangeSpec := { name := "packetCarries", fn := fun _ => fun
  | [d] => { results := [.lit (.bool false)], args := [d] }
  | _ => none }
def PacketCarriesWrongFalsely : Prop := packetCarriesRow.holds Try.pinned (OpenSpec.ofChange packetCarriesWrong)

/-- 'outstationlaw21.PacketKnown': WHATEVER THE INPUT: true; the input reads as it did. -/
def packetKnownSpec : ChangeSpec := { name := "packetKnown", fn := fun _ => fun
  | [] => { results := [.lit (.bool true)], args := [] }
  | _ => none }
def packetKnownRow : OpenClaim := { program := "ytjmddiffeffgnaa", sum := "34d847485e3efcc3bba167beacc9758b9c414043768722c840f9c5b8879c0e6a", func := "outstation/outstationlaw21.PacketKnown", spec := "packetKnown", apart := false }
def PacketKnownSaid : Prop := packetKnownRow.holds Try.pinned (OpenSpec.ofChange packetKnownSpec)

/-- ITS FALSE NEIGHBOUR: 'it returns false'. Refute it at one input. -/
def packetKnownWrong : ChangeSpec := { name := "packetKnown", fn := fun _ => fun
  | [] => { results := [.lit (.bool false)], args := [] }
  | _ => none }
def PacketKnownWrongFalsely : Prop := packetKnownRow.holds Try.pinned (OpenSpec.ofChange packetKnownWrong)

/-- 'outstationlaw03.AskReads': WHATEVER THE INPUT: true; the input reads as it did. -/
def askReadsSpec : ChangeSpec := { name := "askReads", fn := fun _ => fun
  | [d] => { results := [.lit (.bool true)], args := [d] }
  | _ => none }
def askReadsRow : OpenClaim := { program := "ytjmddiffeffgnaa", sum := "34d847485e3efcc3bba167beacc9758b9c414043768722c840f9c5b8879c0e6a", func := "outstation/outstationlaw03.AskReads", spec := "askReads", apart := false }
def AskReadsSaid : Prop := askReadsRow.holds Try.pinned (OpenSpec.ofChange askReadsSpec)

/-- ITS FALSE NEIGHBOUR: 'it returns false'. Refute it at one input. -/
def askReadsWrong : ChangeSpec := { name := "askReads", fn := fun _ => fun
  | [d] => { results := [.lit (.bool false)], args := [d] }
  | _ => none }
def AskReadsWrongFalsely : Prop := askReadsRow.holds Try.pinned (OpenSpec.ofChange askReadsWrong)

/-- 'outstationlaw03.AskKnown': WHATEVER THE INPUT: true; the input reads as it did. -/
def askKnownSpec : ChangeSpec := { name := "askKnown", fn := fun _ => fun
  | [] => { results := [.lit (.bool true)], args := [] }
  | _ => none }
def askKnownRow : OpenClaim := { program := "ytjmddiffeffgnaa", sum := "34d847485e3efcc3bba167beacc9758b9c414043768722c840f9c5b8879c0e6a", func := "outstation/outstationlaw03.AskKnown", spec := "askKnown", apart := false }
def AskKnownSaid : Prop := askKnownRow.holds Try.pinned (OpenSpec.ofChange askKnownSpec)

/-- ITS FALSE NEIGHBOUR: 'it returns false'. Refute it at one input. -/
def askKnownWrong : ChangeSpec := { name := "askKnown", fn := fun _ => fun
  | [] => { results := [.lit (.bool false)], args := [] }
  | _ => none }
def AskKnownWrongFalsely : Prop := askKnownRow.holds Try.pinned (OpenSpec.ofChange askKnownWrong)

/-- 'outstationlaw02.PackKnown': WHATEVER THE INPUT: true; the input reads as it did. -/
def packKnownSpec : ChangeSpec := { name := "packKnown", fn := fun _ => fun
  | [] => { results := [.lit (.bool true)], args := [] }
  | _ => none }
def packKnownRow : OpenClaim := { program := "ytjmddiffeffgnaa", sum := "34d847485e3efcc3bba167beacc9758b9c414043768722c840f9c5b8879c0e6a", func := "outstation/outstationlaw02.PackKnown", spec := "packKnown", apart := false }
def PackKnownSaid : Prop := packKnownRow.holds Try.pinned (OpenSpec.ofChange packKnownSpec)

/-- ITS FALSE NEIGHBOUR: 'it returns false'. Refute it at one input. -/
def packKnownWrong : ChangeSpec := { name := "packKnown", fn := fun _ => fun
  | [] => { results := [.lit (.bool false)], args := [] }
  | _ => none }
def PackKnownWrongFalsely : Prop := packKnownRow.holds Try.pinned (OpenSpec.ofChange packKnownWrong)

/-- 'outstationlaw23.SinkOrder': WHATEVER THE INPUT: true; the input reads as it did. -/
def sinkOrderSpec : ChangeSpec := { name := "sinkOrder", fn := fun _ => fun
  | [d1, d2] => { results := [.lit (.bool true)], args := [d1, d2] }
  | _ => none }
def sinkOrderRow : OpenClaim := { program := "ytjmddiffeffgnaa", sum := "34d847485e3efcc3bba167beacc9758b9c414043768722c840f9c5b8879c0e6a", func := "outstation/outstationlaw23.SinkOrder", spec := "sinkOrder", apart := false }
def SinkOrderSaid : Prop := sinkOrderRow.holds Try.pinned (OpenSpec.ofChange sinkOrderSpec)

/-- ITS FALSE NEIGHBOUR: 'it returns false'. Refute it at one input. -/
def sinkOrderWrong : ChangeSpec := { name := "sinkOrder", fn := fun _ => fun
  | [d1, d2] => { results := [.lit (.bool false)], args := [d1, d2] }
  | _ => none }
def SinkOrderWrongFalsely : Prop := sinkOrderRow.holds Try.pinned (OpenSpec.ofChange sinkOrderWrong)

/-- 'outstationlaw23.SinkTakes': WHATEVER THE INPUT: true; the input reads as it did. -/
def sinkTakesSpec : ChangeSpec := { name := "sinkTakes", fn := fun _ => fun
  | [d] => { results := [.lit (.bool true)], args := [d] }
  | _ => none }
def sinkTakesRow : OpenClaim := { program := "ytjmddiffeffgnaa", sum := "34d847485e3efcc3bba167beacc9758b9c414043768722c840f9c5b8879c0e6a", func := "outstation/outstationlaw23.SinkTakes", spec := "sinkTakes", apart := false }
def SinkTakesSaid : Prop := sinkTakesRow.holds Try.pinned (OpenSpec.ofChange sinkTakesSpec)

/-- ITS FALSE NEIGHBOUR: 'it returns false'. Refute it at one input. -/
def sinkTakesWrong : ChangeSpec := { name := "sinkTakes", fn := fun _ => fun
  | [d] => { results := [.lit (.bool false)], args := [d] }
  | _ => none }
def SinkTakesWrongFalsely : Prop := sinkTakesRow.holds Try.pinned (OpenSpec.ofChange sinkTakesWrong)

/-- 'outstationlaw23.SinkTwice': WHATEVER THE INPUT: true; the input reads as it did. -/
def sinkTwiceSpec : ChangeSpec := { name := "sinkTwice", fn := fun _ => fun
  | [d1, d2] => { results := [.lit (.bool true)], args := [d1, d2] }
  | _ => none }
def sinkTwiceRow : OpenClaim := { program := "ytjmddiffeffgnaa", sum := "34d847485e3efcc3bba167beacc9758b9c414043768722c840f9c5b8879c0e6a", func := "outstation/outstationlaw23.SinkTwice", spec := "sinkTwice", apart := false }
def SinkTwiceSaid : Prop := sinkTwiceRow.holds Try.pinned (OpenSpec.ofChange sinkTwiceSpec)

/-- ITS FALSE NEIGHBOUR: 'it returns false'. Refute it at one input. -/
def sinkTwiceWrong : ChangeSpec := { name := "sinkTwice", fn := fun _ => fun
  | [d1, d2] => { results := [.lit (.bool false)], args := [d1, d2] }
  | _ => none }
def SinkTwiceWrongFalsely : Prop := sinkTwiceRow.holds Try.pinned (OpenSpec.ofChange sinkTwiceWrong)

/-- 'outstationlaw23.SinkKnown': WHATEVER THE INPUT: true; the input reads as it did. -/
def sinkKnownSpec : ChangeSpec := { name := "sinkKnown", fn := fun _ => fun
  | [] => { results := [.lit (.bool true)], args := [] }
  | _ => none }
def sinkKnownRow : OpenClaim := { program := "ytjmddiffeffgnaa", sum := "34d847485e3efcc3bba167beacc9758b9c414043768722c840f9c5b8879c0e6a", func := "outstation/outstationlaw23.SinkKnown", spec := "sinkKnown", apart := false }
def SinkKnownSaid : Prop := sinkKnownRow.holds Try.pinned (OpenSpec.ofChange sinkKnownSpec)

/-- ITS FALSE NEIGHBOUR: 'it returns false'. Refute it at one input. -/
def sinkKnownWrong : ChangeSpec := { name := "sinkKnown", fn := fun _ => fun
  | [] => { results := [.lit (.bool false)], args := [] }
  | _ => none }
def SinkKnownWrongFalsely : Prop := sinkKnownRow.holds Try.pinned (OpenSpec.ofChange sinkKnownWrong)

/-- 'outstationlaw19.UnitTwice': WHATEVER THE INPUT: true; the input reads as it did. -/
def unitTwiceSpec : ChangeSpec := { name := "unitTwice", fn := fun _ => fun
  | [d1, d2, d3] => { results := [.lit (.bool true)], args := [d1, d2, d3] }
  | _ => none }
def unitTwiceRow : OpenClaim := { program := "ytjmddiffeffgnaa", sum := "34d847485e3efcc3bba167beacc9758b9c414043768722c840f9c5b8879c0e6a", func := "outstation/outstationlaw19.UnitTwice", spec := "unitTwice", apart := false }
def UnitTwiceSaid : Prop := unitTwiceRow.holds Try.pinned (OpenSpec.ofChange unitTwiceSpec)

/-- ITS FALSE NEIGHBOUR: 'it returns false'. Refute it at one input. -/
def unitTwiceWrong : ChangeSpec := { name := "unitTwice", fn := fun _ => fun
  | [d1, d2, d3] => { results := [.lit (.bool false)], args := [d1, d2, d3] }
  | _ => none }
def UnitTwiceWrongFalsely : Prop := unitTwiceRow.holds Try.pinned (OpenSpec.ofChange unitTwiceWrong)

/- THE SECOND FORM. 'bulk': how many values and letters a reading holds, each counted each time it is reached (what is shared counts as often as it is met; a slice's spare places count too). A statement '..UptoSaid' is the law's where the arguments, and the package variables that the reading takes, are together of bulk at most 1048576: NARROWER than '..Said'. Prove '..Said' where nothing that the law and all that it calls make is longer than what came in: it says more and counts as full. Else prove '..UptoSaid'. A law counts once. -/
mutual
def uptoBulk {H : Type} : DataW H → Nat
  | .lit (.string bytes) => bytes.length + 1
  | .lit _ => 1
  | .nil => 1
  | .ptr d => uptoBulk d + 1
  | .slice elems spare => uptoBulkAll elems + uptoBulkAll spare + 1
  | .agg parts => uptoBulkAll parts + 1
  | .iface _ d => uptoBulk d + 1
  | .map entries => uptoBulkEntries entries + 1
  | .held _ => 1
def uptoBulkAll {H : Type} : List (DataW H) → Nat
  | [] => 0
  | d :: r => uptoBulk d + uptoBulkAll r
def uptoBulkEntries {H : Type} : List (Lit × DataW H) → Nat
  | [] => 0
  | x :: r => uptoBulkEntry x + uptoBulkEntries r
def uptoBulkEntry {H : Type} : Lit × DataW H → Nat
  | (.string bytes, d) => bytes.length + uptoBulk d + 1
  | (_, d) => uptoBulk d + 1
 end
def uptoSmall : (H : Type) → List (DataW H) → Bool := fun _ ds => decide (uptoBulkAll ds ≤ 1048576)
def OpenSpec.upto (s : _root_.Go.ChangeSpec) : _root_.Go.OpenSpec := { _root_.Go.OpenSpec.ofChange s with cond := some uptoSmall }

/-- 'outstationlaw21.PacketCommands', WHERE WHAT IT READS IS OF BULK AT MOST 1048576: true; the input reads as it did. -/
def packetCommandsUptoRow : OpenClaim := { program := "ytjmddiffeffgnaa", sum := "34d847485e3efcc3bba167beacc9758b9c414043768722c840f9c5b8879c0e6a", func := "outstation/outstationlaw21.PacketCommands", spec := "packetCommands", apart := false, narrowed := true }
def PacketCommandsUptoSaid : Prop := packetCommandsUptoRow.holds Try.pinned (OpenSpec.upto packetCommandsSpec)

/-- 'outstationlaw21.PacketPuts', WHERE WHAT IT READS IS OF BULK AT MOST 1048576: true; the input reads as it did. -/
def packetPutsUptoRow : OpenClaim := { program := "ytjmddiffeffgnaa", sum := "34d847485e3efcc3bba167beacc9758b9c414043768722c840f9c5b8879c0e6a", func := "outstation/outstationlaw21.PacketPuts", spec := "packetPuts", apart := false, narrowed := true }
def PacketPutsUptoSaid : Prop := packetPutsUptoRow.holds Try.pinned (OpenSpec.upto packetPutsSpec)

/-- 'outstationlaw21.PacketCarries', WHERE WHAT IT READS IS OF BULK AT MOST 1048576: true; the input reads as it did. -/
def packetCarriesUptoRow : OpenClaim := { program := "ytjmddiffeffgnaa", sum := "34d847485e3efcc3bba167beacc9758b9c414043768722c840f9c5b8879c0e6a", func := "outstation/outstationlaw21.PacketCarries", spec := "packetCarries", apart := false, narrowed := true }
def PacketCarriesUptoSaid : Prop := packetCarriesUptoRow.holds Try.pinned (OpenSpec.upto packetCarriesSpec)

/-- 'outstationlaw21.PacketKnown', WHERE WHAT IT READS IS OF BULK AT MOST 1048576: true; the input reads as it did. -/
def packetKnownUptoRow : OpenClaim := { program := "ytjmddiffeffgnaa", sum := "34d847485e3efcc3bba167beacc9758b9c414043768722c840f9c5b8879c0e6a", func := "outstation/outstationlaw21.PacketKnown", spec := "packetKnown", apart := false, narrowed := true }
def PacketKnownUptoSaid : Prop := packetKnownUptoRow.holds Try.pinned (OpenSpec.upto packetKnownSpec)

/-- 'outstationlaw03.AskReads', WHERE WHAT IT READS IS OF BULK AT MOST 1048576: true; the input reads as it did. -/
def askReadsUptoRow : OpenClaim := { program := "ytjmddiffeffgnaa", sum := "34d847485e3efcc3bba167beacc9758b9c414043768722c840f9c5b8879c0e6a", func := "outstation/outstationlaw03.AskReads", spec := "askReads", apart := false, narrowed := true }
def AskReadsUptoSaid : Prop := askReadsUptoRow.holds Try.pinned (OpenSpec.upto askReadsSpec)

/-- 'outstationlaw03.AskKnown', WHERE WHAT IT READS IS OF BULK AT MOST 1048576: true; the input reads as it did. -/
def askKnownUptoRow : OpenClaim := { program := "ytjmddiffeffgnaa", sum := "34d847485e3efcc3bba167beacc9758b9c414043768722c840f9c5b8879c0e6a", func := "outstation/outstationlaw03.AskKnown", spec := "askKnown", apart := false, narrowed := true }
def AskKnownUptoSaid : Prop := askKnownUptoRow.holds Try.pinned (OpenSpec.upto askKnownSpec)

/-- 'outstationlaw02.PackKnown', WHERE WHAT IT READS IS OF BULK AT MOST 1048576: true; the input reads as it did. -/
def packKnownUptoRow : OpenClaim := { program := "ytjmddiffeffgnaa", sum := "34d847485e3efcc3bba167beacc9758b9c414043768722c840f9c5b8879c0e6a", func := "outstation/outstationlaw02.PackKnown", spec := "packKnown", apart := false, narrowed := true }
def PackKnownUptoSaid : Prop := packKnownUptoRow.holds Try.pinned (OpenSpec.upto packKnownSpec)

/-- 'outstationlaw23.SinkOrder', WHERE WHAT IT READS IS OF BULK AT MOST 1048576: true; the input reads as it did. -/
def sinkOrderUptoRow : OpenClaim := { program := "ytjmddiffeffgnaa", sum := "34d847485e3efcc3bba167beacc9758b9c414043768722c840f9c5b8879c0e6a", func := "outstation/outstationlaw23.SinkOrder", spec := "sinkOrder", apart := false, narrowed := true }
def SinkOrderUptoSaid : Prop := sinkOrderUptoRow.holds Try.pinned (OpenSpec.upto sinkOrderSpec)

/-- 'outstationlaw23.SinkTakes', WHERE WHAT IT READS IS OF BULK AT MOST 1048576: true; the input reads as it did. -/
def sinkTakesUptoRow : OpenClaim := { program := "ytjmddiffeffgnaa", sum := "34d847485e3efcc3bba167beacc9758b9c414043768722c840f9c5b8879c0e6a", func := "outstation/outstationlaw23.SinkTakes", spec := "sinkTakes", apart := false, narrowed := true }
def SinkTakesUptoSaid : Prop := sinkTakesUptoRow.holds Try.pinned (OpenSpec.upto sinkTakesSpec)

/-- 'outstationlaw23.SinkTwice', WHERE WHAT IT READS IS OF BULK AT MOST 1048576: true; the input reads as it did. -/
def sinkTwiceUptoRow : OpenClaim := { program := "ytjmddiffeffgnaa", sum := "34d847485e3efcc3bba167beacc9758b9c414043768722c840f9c5b8879c0e6a", func := "outstation/outstationlaw23.SinkTwice", spec := "sinkTwice", apart := false, narrowed := true }
def SinkTwiceUptoSaid : Prop := sinkTwiceUptoRow.holds Try.pinned (OpenSpec.upto sinkTwiceSpec)

/-- 'outstationlaw23.SinkKnown', WHERE WHAT IT READS IS OF BULK AT MOST 1048576: true; the input reads as it did. -/
def sinkKnownUptoRow : OpenClaim := { program := "ytjmddiffeffgnaa", sum := "34d847485e3efcc3bba167beacc9758b9c414043768722c840f9c5b8879c0e6a", func := "outstation/outstationlaw23.SinkKnown", spec := "sinkKnown", apart := false, narrowed := true }
def SinkKnownUptoSaid : Prop := sinkKnownUptoRow.holds Try.pinned (OpenSpec.upto sinkKnownSpec)

/-- 'outstationlaw19.UnitTwice', WHERE WHAT IT READS IS OF BULK AT MOST 1048576: true; the input reads as it did. -/
def unitTwiceUptoRow : OpenClaim := { program := "ytjmddiffeffgnaa", sum := "34d847485e3efcc3bba167beacc9758b9c414043768722c840f9c5b8879c0e6a", func := "outstation/outstationlaw19.UnitTwice", spec := "unitTwice", apart := false, narrowed := true }
def UnitTwiceUptoSaid : Prop := unitTwiceUptoRow.holds Try.pinned (OpenSpec.upto unitTwiceSpec)

end Rows
end Go.Proofs.Ytjmddiffeffgnaa
