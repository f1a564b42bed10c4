/-
  No cell of these rows narrows 'for every input' (looked for: loops, veiled, ifaces, maps, wideKeys, modest, calm, conditions, laid).
  DERIVED. THE GIVEN ROWS OF THIS SEAT. 3 by the template 'for every input the law returns true; each argument reads behind the call as it read before'; 0 by the template 'total and deterministic' (their statements: YtdibepkfgemddaaTotals.lean).
  GIVEN WITH THE SEED: the statements are not yours to turn. If you find one false, say at which input.
  Laid BY PROGRAM, IN A SANDBOX (cutbox-rows.mjs): the forced cells as the released guide's own fill.sh prints them over the translation f7cb528e8c613aef… (all of the seat's roots in one cut). By AI agents, Wed Nov 11 2026. No macro, syntax, notation, axiom, sorry.
-/
import Derived.Test.YtdibepkfgemddaaChecked
import GoSem.Claim
import GoSem.ClaimJoined
import GoSem.ClaimMapViews
import Derived.JoinedTies
import Derived.KernelRfl
namespace Go.Proofs.Ytdibepkfgemddaa
/- THE CELL 'sum', in the pinned program and in every row, IS THE sha256 OF THE DUMP (.gsa) THAT YtdibepkfgemddaaProg.lean LOADS. Nothing in Lean hashes anything: it is a label: what it is worth is what the hold of that sum in a sandbox is worth. -/
noncomputable def Try.pinned : Pinned := { name := "ytdibepkfgemddaa", sum := "f7cb528e8c613aef7c8988c69e7eb6ba294cde875db2343a0b82800821de3b0d", checked := Try.checked }
namespace Rows
def none {H : Type} : Left H := { results := [], args := [] }

/-- 'braidworklaw15.SinkKnown': WHATEVER THE INPUT: true; the input reads as it did. -/
def sinkKnownSpec : ChangeSpec := { name := "sinkKnown", fn := fun _ => fun
  | [] => { results := [.lit (.bool true)], args := [] }
  | _ => none }
def sinkKnownRow : OpenClaim := { program := "ytdibepkfgemddaa", sum := "f7cb528e8c613aef7c8988c69e7eb6ba294cde875db2343a0b82800821de3b0d", func := "braidwork/braidworklaw15.SinkKnown", spec := "sinkKnown", inPlace := ["slices.overlaps[braidwork/api.Row]", "internal/bytealg.MakeNoZero"], unfollowed := true, recurses := true, apart := false }
def SinkKnownSaid : Prop := sinkKnownRow.holds Try.pinned (OpenSpec.ofChange sinkKnownSpec)

/-- ITS FALSE NEIGHBOUR: 'it returns false'. Refute it at one input. -/
def sinkKnownWrong : ChangeSpec := { name := "sinkKnown", fn := fun _ => fun
  | [] => { results := [.lit (.bool false)], args := [] }
  | _ => none }
def SinkKnownWrongFalsely : Prop := sinkKnownRow.holds Try.pinned (OpenSpec.ofChange sinkKnownWrong)

/-- 'braidworklaw14.RelayHops': WHATEVER THE INPUT: true; the input reads as it did. -/
def relayHopsSpec : ChangeSpec := { name := "relayHops", fn := fun _ => fun
  | [d1, d2, d3, d4, d5] => { results := [.lit (.bool true)], args := [d1, d2, d3, d4, d5] }
  | _ => none }
def relayHopsRow : OpenClaim := { program := "ytdibepkfgemddaa", sum := "f7cb528e8c613aef7c8988c69e7eb6ba294cde875db2343a0b82800821de3b0d", func := "braidwork/braidworklaw14.RelayHops", spec := "relayHops", inPlace := ["slices.overlaps[braidwork/api.Row]"], unfollowed := true, recurses := true, apart := false }
def RelayHopsSaid : Prop := relayHopsRow.holds Try.pinned (OpenSpec.ofChange relayHopsSpec)

/-- ITS FALSE NEIGHBOUR: 'it returns false'. Refute it at one input. -/
def relayHopsWrong : ChangeSpec := { name := "relayHops", fn := fun _ => fun
  | [d1, d2, d3, d4, d5] => { results := [.lit (.bool false)], args := [d1, d2, d3, d4, d5] }
  | _ => none }
def RelayHopsWrongFalsely : Prop := relayHopsRow.holds Try.pinned (OpenSpec.ofChange relayHopsWrong)

/-- 'braidworklaw14.RelayTrue': WHATEVER THE INPUT: true; the input reads as it did. -/
def relayTrueSpec : ChangeSpec := { name := "relayTrue", fn := fun _ => fun
  | [d1, d2, d3, d4] => { results := [.lit (.bool true)], args := [d1, d2, d3, d4] }
  | _ => none }
def relayTrueRow : OpenClaim := { program := "ytdibepkfgemddaa", sum := "f7cb528e8c613aef7c8988c69e7eb6ba294cde875db2343a0b82800821de3b0d", func := "braidwork/braidworklaw14.RelayTrue", spec := "relayTrue", inPlace := ["slices.overlaps[braidwork/api.Row]"], unfollowed := true, recurses := true, apart := false }
def RelayTrueSaid : Prop := relayTrueRow.holds Try.pinned (OpenSpec.ofChange relayTrueSpec)

/-- ITS FALSE NEIGHBOUR: 'it returns false'. Refute it at one input. -/
def relayTrueWrong : ChangeSpec := { name := "relayTrue", fn := fun _ => fun
  | [d1, d2, d3, d4] => { results := [.lit (.bool false)], args := [d1, d2, d3, d4] }
  | _ => none }
def RelayTrueWrongFalsely : Prop := relayTrueRow.holds Try.pinned (OpenSpec.ofChange relayTrueWrong)

/- THE SECOND FORM. 'bulk': how many values and letters a reading holds, each counted each time it is reached (what is shared counts as often as it is met; a slice's spare places count too). A statement '..UptoSaid' is the law's where the arguments, and the package variables that the reading takes, are together of bulk at most 1048576: NARROWER than '..Said'. Prove '..Said' where nothing that the law and all that it calls make is longer than what came in: it says more and counts as full. Else prove '..UptoSaid'. A law counts once. -/
mutual
def uptoBulk {H : Type} : DataW H → Nat
  | .lit (.string bytes) => bytes.length + 1
  | .lit _ => 1
  | .nil => 1
  | .ptr d => uptoBulk d + 1
  | .slice elems spare => uptoBulkAll elems + uptoBulkAll spare + 1
  | .agg parts => uptoBulkAll parts + 1
  | .iface _ d => uptoBulk d + 1
  | .map entries => uptoBulkEntries entries + 1
  | .held _ => 1
def uptoBulkAll {H : Type} : List (DataW H) → Nat
  | [] => 0
  | d :: r => uptoBulk d + uptoBulkAll r
def uptoBulkEntries {H : Type} : List (Lit × DataW H) → Nat
  | [] => 0
  | x :: r => uptoBulkEntry x + uptoBulkEntries r
def uptoBulkEntry {H : Type} : Lit × DataW H → Nat
  | (.string bytes, d) => bytes.length + uptoBulk d + 1
  | (_, d) => uptoBulk d + 1
 end
def uptoSmall : (H : Type) → List (DataW H) → Bool := fun _ ds => decide (uptoBulkAll ds ≤ 1048576)
def OpenSpec.upto (s : _root_.Go.ChangeSpec) : _root_.Go.OpenSpec := { _root_.Go.OpenSpec.ofChange s with cond := some uptoSmall }

/-- 'braidworklaw15.SinkKnown', WHERE WHAT IT READS IS OF BULK AT MOST 1048576: true; the input reads as it did. -/
def sinkKnownUptoRow : OpenClaim := { program := "ytdibepkfgemddaa", sum := "f7cb528e8c613aef7c8988c69e7eb6ba294cde875db2343a0b82800821de3b0d", func := "braidwork/braidworklaw15.SinkKnown", spec := "sinkKnown", inPlace := ["slices.overlaps[braidwork/api.Row]", "internal/bytealg.MakeNoZero"], unfollowed := true, recurses := true, apart := false, narrowed := true }
def SinkKnownUptoSaid : Prop := sinkKnownUptoRow.holds Try.pinned (OpenSpec.upto sinkKnownSpec)

/-- 'braidworklaw14.RelayHops', WHERE WHAT IT READS IS OF BULK AT MOST 1048576: true; the input reads as it did. -/
def relayHopsUptoRow : OpenClaim := { program := "ytdibepkfgemddaa", sum := "f7cb528e8c613aef7c8988c69e7eb6ba294cde875db2343a0b82800821de3b0d", func := "braidwork/braidworklaw14.RelayHops", spec := "relayHops", inPlace := ["slices.overlaps[braidwork/api.Row]"], unfollowed := true, recurses := true, apart := false, narrowed := true }
def RelayHopsUptoSaid : Prop := relayHopsUptoRow.holds Try.pinned (OpenSpec.upto relayHopsSpec)

/-- 'braidworklaw14.RelayTrue', WHERE WHAT IT READS IS OF BULK AT MOST 1048576: true; the input reads as it did. -/
def relayTrueUptoRow : OpenClaim := { program := "ytdibepkfgemddaa", sum := "f7cb528e8c613aef7c8988c69e7eb6ba294cde875db2343a0b82800821de3b0d", func := "braidwork/braidworklaw14.RelayTrue", spec := "relayTrue", inPlace := ["slices.overlaps[braidwork/api.Row]"], unfollowed := true, recurses := true, apart := false, narrowed := true }
def RelayTrueUptoSaid : Prop := relayTrueUptoRow.holds Try.pinned (OpenSpec.upto relayTrueSpec)

end Rows
end Go.Proofs.Ytdibepkfgemddaa
