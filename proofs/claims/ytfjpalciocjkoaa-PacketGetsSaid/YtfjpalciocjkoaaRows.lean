/-
  No cell of these rows narrows 'for every input' (looked for: loops, veiled, ifaces, maps, wideKeys, modest, calm, conditions, laid).
  DERIVED. THE GIVEN ROWS OF THIS SEAT. 8 by the template 'for every input the law returns true; each argument reads behind the call as it read before'; 0 by the template 'total and deterministic' (their statements: YtfjpalciocjkoaaTotals.lean).
  GIVEN WITH THE SEED: the statements are not yours to turn. If you find one false, say at which input.
  Laid BY PROGRAM, IN A SANDBOX (cutbox-rows.mjs): the forced cells as the released guide's own fill.sh prints them over the translation 2a2f91bda2be1976… (all of the seat's roots in one cut). By AI agents, Wed Nov 11 2026. No macro, syntax, notation, axiom, sorry.
-/
import Derived.Test.YtfjpalciocjkoaaChecked
import GoSem.Claim
import GoSem.ClaimJoined
import GoSem.ClaimMapViews
import Derived.JoinedTies
import Derived.KernelRfl
namespace Go.Proofs.Ytfjpalciocjkoaa
/- THE CELL 'sum', in the pinned program and in every row, IS THE sha256 OF THE DUMP (.gsa) THAT YtfjpalciocjkoaaProg.lean LOADS. Nothing in Lean hashes anything: it is a label: what it is worth is what the hold of that sum in a sandbox is worth. -/
noncomputable def Try.pinned : Pinned := { name := "ytfjpalciocjkoaa", sum := "2a2f91bda2be197697b195525a33ff53965a910cf70aea50a0cc6c5ace848407", checked := Try.checked }
namespace Rows
def none {H : Type} : Left H := { results := [], args := [] }

/-- 'outstationlaw21.PacketGets': WHATEVER THE INPUT: true; the input reads as it did. -/
def packetGetsSpec : ChangeSpec := { name := "packetGets", fn := fun _ => fun
  | [d] => { results := [.lit (.bool true)], args := [d] }
  | _ => none }
def packetGetsRow : OpenClaim := { program := "ytfjpalciocjkoaa", sum := "2a2f91bda2be197697b195525a33ff53965a910cf70aea50a0cc6c5ace848407", func := "outstation/outstationlaw21.PacketGets", spec := "packetGets", apart := false }
def PacketGetsSaid : Prop := packetGetsRow.holds Try.pinned (OpenSpec.ofChange packetGetsSpec)

/-- ITS FALSE NEIGHBOUR: 'it returns false'. Refute it at one input. -/
def packetGetsWrong : ChangeSpec := { name := "packetGets", fn := fun _ => fun
  | [d] => { results := [.lit (.bool false)], args := [d] }
  | _ => none }
def PacketGetsWrongFalsely : Prop := packetGetsRow.holds Try.pinned (OpenSpec.ofChange packetGetsWrong)

/-- 'outstationlaw21.PacketCommands': WHATEVER THE INPUT: true; the input reads as it did. -/
def packetCommandsSpec : ChangeSpec := { name := "packetCommands", fn := fun _ => fun
  | [d] => { results := [.lit (.bool true)], args := [d] }
  | _ => none }
def packetCommandsRow : OpenClaim := { program := "ytfjpalciocjkoaa", sum := "2a2f91bda2be197697b195525a33ff53965a910cf70aea50a0cc6c5ace848407", func := "outstation/outstationlaw21.PacketCommands", spec := "packetCommands", apart := false }
def PacketCommandsSaid : Prop := packetCommandsRow.holds Try.pinned (OpenSpec.ofChange packetCommandsSpec)

/-- ITS FALSE NEIGHBOUR: 'it returns false'. Refute it at one input. -/
def packetCommandsWrong : ChangeSpec := { name := "packetCommands", fn := fun _ => fun
  | [d] => { results := [.lit (.bool false)], args := [d] }
  | _ => none }
def PacketCommandsWrongFalsely : Prop := packetCommandsRow.holds Try.pinned (OpenSpec.ofChange packetCommandsWrong)

/-- 'outstationlaw21.PacketBack': WHATEVER THE INPUT: true; the input reads as it did. -/
def packetBackSpec : ChangeSpec := { name := "packetBack", fn := fun _ => fun
  | [d] => { results := [.lit (.bool true)], args := [d] }
  | _ => none }
def packetBackRow : OpenClaim := { program := "ytfjpalciocjkoaa", sum := "2a2f91bda2be197697b195525a33ff53965a910cf70aea50a0cc6c5ace848407", func := "outstation/outstationlaw21.PacketBack", spec := "packetBack", apart := false }
def PacketBackSaid : Prop := packetBackRow.holds Try.pinned (OpenSpec.ofChange packetBackSpec)

/-- ITS FALSE NEIGHBOUR: 'it returns false'. Refute it at one input. -/
def packetBackWrong : ChangeSpec := { name := "packetBack", fn := fun _ => fun
  | [d] => { results := [.lit (.bool false)], args := [d] }
  | _ => none }
def PacketBackWrongFalsely : Prop := packetBackRow.holds Try.pinned (OpenSpec.ofChange packetBackWrong)

/-- 'outstationlaw21.PacketOnly': WHATEVER THE INPUT: true; the input reads as it did. -/
def packetOnlySpec : ChangeSpec := { name := "packetOnly", fn := fun _ => fun
  | [d] => { results := [.lit (.bool true)], args := [d] }
  | _ => none }
def packetOnlyRow : OpenClaim := { program := "ytfjpalciocjkoaa", sum := "2a2f91bda2be197697b195525a33ff53965a910cf70aea50a0cc6c5ace848407", func := "outstation/outstationlaw21.PacketOnly", spec := "packetOnly", apart := false }
def PacketOnlySaid : Prop := packetOnlyRow.holds Try.pinned (OpenSpec.ofChange packetOnlySpec)

/-- ITS FALSE NEIGHBOUR: 'it returns false'. Refute it at one input. -/
def packetOnlyWrong : ChangeSpec := { name := "packetOnly", fn := fun _ => fun
  | [d] => { results := [.lit (.bool false)], args := [d] }
  | _ => none }
def PacketOnlyWrongFalsely : Prop := packetOnlyRow.holds Try.pinned (OpenSpec.ofChange packetOnlyWrong)

/-- 'outstationlaw21.PacketTurned': WHATEVER THE INPUT: true; the input reads as it did. -/
def packetTurnedSpec : ChangeSpec := { name := "packetTurned", fn := fun _ => fun
  | [d1, d2, d3] => { results := [.lit (.bool true)], args := [d1, d2, d3] }
  | _ => none }
def packetTurnedRow : OpenClaim := { program := "ytfjpalciocjkoaa", sum := "2a2f91bda2be197697b195525a33ff53965a910cf70aea50a0cc6c5ace848407", func := "outstation/outstationlaw21.PacketTurned", spec := "packetTurned", apart := false }
def PacketTurnedSaid : Prop := packetTurnedRow.holds Try.pinned (OpenSpec.ofChange packetTurnedSpec)

/-- ITS FALSE NEIGHBOUR: 'it returns false'. Refute it at one input. -/
def packetTurnedWrong : ChangeSpec := { name := "packetTurned", fn := fun _ => fun
  | [d1, d2, d3] => { results := [.lit (.bool false)], args := [d1, d2, d3] }
  | _ => none }
def PacketTurnedWrongFalsely : Prop := packetTurnedRow.holds Try.pinned (OpenSpec.ofChange packetTurnedWrong)

/-- 'outstationlaw21.PacketPuts': WHATEVER THE INPUT: true; the input reads as it did. -/
def packetPutsSpec : ChangeSpec := { name := "packetPuts", fn := fun _ => fun
  | [d] => { results := [.lit (.bool true)], args := [d] }
  | _ => none }
def packetPutsRow : OpenClaim := { program := "ytfjpalciocjkoaa", sum := "2a2f91bda2be197697b195525a33ff53965a910cf70aea50a0cc6c5ace848407", func := "outstation/outstationlaw21.PacketPuts", spec := "packetPuts", apart := false }
def PacketPutsSaid : Prop := packetPutsRow.holds Try.pinned (OpenSpec.ofChange packetPutsSpec)

/-- ITS FALSE NEIGHBOUR: 'it returns false'. Refute it at one input. -/
def packetPutsWrong : ChangeSpec := { name := "packetPuts", fn := fun _ => fun
  | [d] => { results := [.lit (.bool false)], args := [d] }
  | _ => none }
def PacketPutsWrongFalsely : Prop := packetPutsRow.holds Try.pinned (OpenSpec.ofChange packetPutsWrong)

/-- 'outstationlaw21.PacketCarries': WHATEVER THE INPUT: true; the input reads as it did. -/
def packetCarriesSpec : ChangeSpec := { name := "packetCarries", fn := fun _ => fun
  | [d] => { results := [.lit (.bool true)], args := [d] }
  | _ => none }
def packetCarriesRow : OpenClaim := { program := "ytfjpalciocjkoaa", sum := "2a2f91bda2be197697b195525a33ff53965a910cf70aea50a0cc6c5ace848407", func := "outstation/outstationlaw21.PacketCarries", spec := "packetCarries", apart := false }
def PacketCarriesSaid : Prop := packetCarriesRow.holds Try.pinned (OpenSpec.ofChange packetCarriesSpec)

/-- ITS FALSE NEIGHBOUR: 'it returns false'. Refute it at one input. -/
def packetCarriesWrong : ChangeSpec := { name := "packetCarries", fn := fun _ => fun
  | [d] => { results := [.lit (.bool false)], args := [d] }
  | _ => none }
def PacketCarriesWrongFalsely : Prop := packetCarriesRow.holds Try.pinned (OpenSpec.ofChange packetCarriesWrong)

/-- 'outstationlaw21.PacketKnown': WHATEVER THE INPUT: true; the input reads as it did. -/
def packetKnownSpec : ChangeSpec := { name := "packetKnown", fn := fun _ => fun
  | [] => { results := [.lit (.bool true)], args := [] }
  | _ => none }
def packetKnownRow : OpenClaim := { program := "ytfjpalciocjkoaa", sum := "2a2f91bda2be197697b195525a33ff53965a910cf70aea50a0cc6c5ace848407", func := "outstation/outstationlaw21.PacketKnown", spec := "packetKnown", apart := false }
def PacketKnownSaid : Prop := packetKnownRow.holds Try.pinned (OpenSpec.ofChange packetKnownSpec)

/-- ITS FALSE NEIGHBOUR: 'it returns false'. Refute it at one input. -/
def packetKnownWrong : ChangeSpec := { name := "packetKnown", fn := fun _ => fun
  | [] => { results := [.lit (.bool false)], args := [] }
  | _ => none }
def PacketKnownWrongFalsely : Prop := packetKnownRow.holds Try.pinned (OpenSpec.ofChange packetKnownWrong)

/- THE SECOND FORM. 'bulk': how many values and letters a reading holds, each counted each time it is reached (what is shared counts as often as it is met; a slice's spare places count too). A statement '..UptoSaid' is the law's where the arguments, and the package variables that the reading takes, are together of bulk at most 1048576: NARROWER than '..Said'. Prove '..Said' where nothing that the law and all that it calls make is longer than what came in: it says more and counts as full. Else prove '..UptoSaid'. A law counts once. -/
mutual
def uptoBulk {H : Type} : DataW H → Nat
  | .lit (.string bytes) => bytes.length + 1
  | .lit _ => 1
  | .nil => 1
  | .ptr d => uptoBulk d + 1
  | .slice elems spare => uptoBulkAll elems + uptoBulkAll spare + 1
  | .agg parts => uptoBulkAll parts + 1
  | .iface _ d => uptoBulk d + 1
  | .map entries => uptoBulkEntries entries + 1
  | .held _ => 1
def uptoBulkAll {H : Type} : List (DataW H) → Nat
  | [] => 0
  | d :: r => uptoBulk d + uptoBulkAll r
def uptoBulkEntries {H : Type} : List (Lit × DataW H) → Nat
  | [] => 0
  | x :: r => uptoBulkEntry x + uptoBulkEntries r
def uptoBulkEntry {H : Type} : Lit × DataW H → Nat
  | (.string bytes, d) => bytes.length + uptoBulk d + 1
  | (_, d) => uptoBulk d + 1
 end
def uptoSmall : (H : Type) → List (DataW H) → Bool := fun _ ds => decide (uptoBulkAll ds ≤ 1048576)
def OpenSpec.upto (s : _root_.Go.ChangeSpec) : _root_.Go.OpenSpec := { _root_.Go.OpenSpec.ofChange s with cond := some uptoSmall }

/-- 'outstationlaw21.PacketGets', WHERE WHAT IT READS IS OF BULK AT MOST 1048576: true; the input reads as it did. -/
def packetGetsUptoRow : OpenClaim := { program := "ytfjpalciocjkoaa", sum := "2a2f91bda2be197697b195525a33ff53965a910cf70aea50a0cc6c5ace848407", func := "outstation/outstationlaw21.PacketGets", spec := "packetGets", apart := false, narrowed := true }
def PacketGetsUptoSaid : Prop := packetGetsUptoRow.holds Try.pinned (OpenSpec.upto packetGetsSpec)

/-- 'outstationlaw21.PacketCommands', WHERE WHAT IT READS IS OF BULK AT MOST 1048576: true; the input reads as it did. -/
def packetCommandsUptoRow : OpenClaim := { program := "ytfjpalciocjkoaa", sum := "2a2f91bda2be197697b195525a33ff53965a910cf70aea50a0cc6c5ace848407", func := "outstation/outstationlaw21.PacketCommands", spec := "packetCommands", apart := false, narrowed := true }
def PacketCommandsUptoSaid : Prop := packetCommandsUptoRow.holds Try.pinned (OpenSpec.upto packetCommandsSpec)

/-- 'outstationlaw21.PacketBack', WHERE WHAT IT READS IS OF BULK AT MOST 1048576: true; the input reads as it did. -/
def packetBackUptoRow : OpenClaim := { program := "ytfjpalciocjkoaa", sum := "2a2f91bda2be197697b195525a33ff53965a910cf70aea50a0cc6c5ace848407", func := "outstation/outstationlaw21.PacketBack", spec := "packetBack", apart := false, narrowed := true }
def PacketBackUptoSaid : Prop := packetBackUptoRow.holds Try.pinned (OpenSpec.upto packetBackSpec)

/-- 'outstationlaw21.PacketOnly', WHERE WHAT IT READS IS OF BULK AT MOST 1048576: true; the input reads as it did. -/
def packetOnlyUptoRow : OpenClaim := { program := "ytfjpalciocjkoaa", sum := "2a2f91bda2be197697b195525a33ff53965a910cf70aea50a0cc6c5ace848407", func := "outstation/outstationlaw21.PacketOnly", spec := "packetOnly", apart := false, narrowed := true }
def PacketOnlyUptoSaid : Prop := packetOnlyUptoRow.holds Try.pinned (OpenSpec.upto packetOnlySpec)

/-- 'outstationlaw21.PacketTurned', WHERE WHAT IT READS IS OF BULK AT MOST 1048576: true; the input reads as it did. -/
def packetTurnedUptoRow : OpenClaim := { program := "ytfjpalciocjkoaa", sum := "2a2f91bda2be197697b195525a33ff53965a910cf70aea50a0cc6c5ace848407", func := "outstation/outstationlaw21.PacketTurned", spec := "packetTurned", apart := false, narrowed := true }
def PacketTurnedUptoSaid : Prop := packetTurnedUptoRow.holds Try.pinned (OpenSpec.upto packetTurnedSpec)

/-- 'outstationlaw21.PacketPuts', WHERE WHAT IT READS IS OF BULK AT MOST 1048576: true; the input reads as it did. -/
def packetPutsUptoRow : OpenClaim := { program := "ytfjpalciocjkoaa", sum := "2a2f91bda2be197697b195525a33ff53965a910cf70aea50a0cc6c5ace848407", func := "outstation/outstationlaw21.PacketPuts", spec := "packetPuts", apart := false, narrowed := true }
def PacketPutsUptoSaid : Prop := packetPutsUptoRow.holds Try.pinned (OpenSpec.upto packetPutsSpec)

/-- 'outstationlaw21.PacketCarries', WHERE WHAT IT READS IS OF BULK AT MOST 1048576: true; the input reads as it did. -/
def packetCarriesUptoRow : OpenClaim := { program := "ytfjpalciocjkoaa", sum := "2a2f91bda2be197697b195525a33ff53965a910cf70aea50a0cc6c5ace848407", func := "outstation/outstationlaw21.PacketCarries", spec := "packetCarries", apart := false, narrowed := true }
def PacketCarriesUptoSaid : Prop := packetCarriesUptoRow.holds Try.pinned (OpenSpec.upto packetCarriesSpec)

/-- 'outstationlaw21.PacketKnown', WHERE WHAT IT READS IS OF BULK AT MOST 1048576: true; the input reads as it did. -/
def packetKnownUptoRow : OpenClaim := { program := "ytfjpalciocjkoaa", sum := "2a2f91bda2be197697b195525a33ff53965a910cf70aea50a0cc6c5ace848407", func := "outstation/outstationlaw21.PacketKnown", spec := "packetKnown", apart := false, narrowed := true }
def PacketKnownUptoSaid : Prop := packetKnownUptoRow.holds Try.pinned (OpenSpec.upto packetKnownSpec)

end Rows
end Go.Proofs.Ytfjpalciocjkoaa
