/-
  No cell of these rows narrows 'for every input' (looked for: loops, veiled, ifaces, maps, wideKeys, modest, calm, conditions, laid).
  DERIVED. THE GIVEN ROWS OF THIS SEAT. 6 by the template 'for every input the law returns true; each argument reads behind the call as it read before'; 0 by the template 'total and deterministic' (their statements: YtdibepkfgemddaaGreatTotals.lean).
  GIVEN WITH THE SEED: the statements are not yours to turn. If you find one false, say at which input.
  Laid BY PROGRAM, IN A SANDBOX (cutbox-rows.mjs): the forced cells as the released guide's own fill.sh prints them over the translation 63f3e6e2fe3c32cd… (all of the seat's roots in one cut). By AI agents, Wed Nov 11 2026. No macro, syntax, notation, axiom, sorry.
-/
import Derived.Test.YtdibepkfgemddaaGreatChecked
import GoSem.Claim
import GoSem.ClaimJoined
import GoSem.ClaimMapViews
import Derived.JoinedTies
import Derived.KernelRfl
namespace Go.Proofs.YtdibepkfgemddaaGreat
/- THE CELL 'sum', in the pinned program and in every row, IS THE sha256 OF THE DUMP (.gsa) THAT YtdibepkfgemddaaGreatProg.lean LOADS. Nothing in Lean hashes anything: it is a label: what it is worth is what the hold of that sum in a sandbox is worth. -/
noncomputable def Tryz.pinned : Pinned := { name := "ytdibepkfgemddaagreat", sum := "63f3e6e2fe3c32cdad018a376244b71095fadfeb63a2c3c005207366366609e7", checked := Tryz.checked }
namespace Rows
def none {H : Type} : Left H := { results := [], args := [] }

/-- 'braidworklaw15.SinkPlays': WHATEVER THE INPUT: true; the input reads as it did. -/
def sinkPlaysSpec : ChangeSpec := { name := "sinkPlays", fn := fun _ => fun
  | [d1, d2] => { results := [.lit (.bool true)], args := [d1, d2] }
  | _ => none }
def sinkPlaysRow : OpenClaim := { program := "ytdibepkfgemddaagreat", sum := "63f3e6e2fe3c32cdad018a376244b71095fadfeb63a2c3c005207366366609e7", func := "braidwork/braidworklaw15.SinkPlays", spec := "sinkPlays", inPlace := ["slices.overlaps[braidwork/api.Row]", "internal/bytealg.MakeNoZero"], unfollowed := true, recurses := true, apart := false }
def SinkPlaysSaid : Prop := sinkPlaysRow.holds Tryz.pinned (OpenSpec.ofChange sinkPlaysSpec)

/-- ITS FALSE NEIGHBOUR: 'it returns false'. Refute it at one input. -/
def sinkPlaysWrong : ChangeSpec := { name := "sinkPlays", fn := fun _ => fun
  | [d1, d2] => { results := [.lit (.bool false)], args := [d1, d2] }
  | _ => none }
def SinkPlaysWrongFalsely : Prop := sinkPlaysRow.holds Tryz.pinned (OpenSpec.ofChange sinkPlaysWrong)

/-- 'braidworklaw15.SinkOrder': WHATEVER THE INPUT: true; the input reads as it did. -/
def sinkOrderSpec : ChangeSpec := { name := "sinkOrder", fn := fun _ => fun
  | [d] => { results := [.lit (.bool true)], args := [d] }
  | _ => none }
def sinkOrderRow : OpenClaim := { program := "ytdibepkfgemddaagreat", sum := "63f3e6e2fe3c32cdad018a376244b71095fadfeb63a2c3c005207366366609e7", func := "braidwork/braidworklaw15.SinkOrder", spec := "sinkOrder", inPlace := ["slices.overlaps[braidwork/api.Row]", "internal/bytealg.MakeNoZero"], unfollowed := true, recurses := true, apart := false }
def SinkOrderSaid : Prop := sinkOrderRow.holds Tryz.pinned (OpenSpec.ofChange sinkOrderSpec)

/-- ITS FALSE NEIGHBOUR: 'it returns false'. Refute it at one input. -/
def sinkOrderWrong : ChangeSpec := { name := "sinkOrder", fn := fun _ => fun
  | [d] => { results := [.lit (.bool false)], args := [d] }
  | _ => none }
def SinkOrderWrongFalsely : Prop := sinkOrderRow.holds Tryz.pinned (OpenSpec.ofChange sinkOrderWrong)

/-- 'braidworklaw24.FlowBase': WHATEVER THE INPUT: true; the input reads as it did. -/
def flowBaseSpec : ChangeSpec := { name := "flowBase", fn := fun _ => fun
  | [d1, d2] => { results := [.lit (.bool true)], args := [d1, d2] }
  | _ => none }
def flowBaseRow : OpenClaim := { program := "ytdibepkfgemddaagreat", sum := "63f3e6e2fe3c32cdad018a376244b71095fadfeb63a2c3c005207366366609e7", func := "braidwork/braidworklaw24.FlowBase", spec := "flowBase", inPlace := ["slices.overlaps[braidwork/api.Row]", "internal/bytealg.MakeNoZero"], unfollowed := true, recurses := true, apart := false }
def FlowBaseSaid : Prop := flowBaseRow.holds Tryz.pinned (OpenSpec.ofChange flowBaseSpec)

/-- ITS FALSE NEIGHBOUR: 'it returns false'. Refute it at one input. -/
def flowBaseWrong : ChangeSpec := { name := "flowBase", fn := fun _ => fun
  | [d1, d2] => { results := [.lit (.bool false)], args := [d1, d2] }
  | _ => none }
def FlowBaseWrongFalsely : Prop := flowBaseRow.holds Tryz.pinned (OpenSpec.ofChange flowBaseWrong)

/-- 'braidworklaw24.FlowTurns': WHATEVER THE INPUT: true; the input reads as it did. -/
def flowTurnsSpec : ChangeSpec := { name := "flowTurns", fn := fun _ => fun
  | [d1, d2, d3] => { results := [.lit (.bool true)], args := [d1, d2, d3] }
  | _ => none }
def flowTurnsRow : OpenClaim := { program := "ytdibepkfgemddaagreat", sum := "63f3e6e2fe3c32cdad018a376244b71095fadfeb63a2c3c005207366366609e7", func := "braidwork/braidworklaw24.FlowTurns", spec := "flowTurns", inPlace := ["slices.overlaps[braidwork/api.Row]", "internal/bytealg.MakeNoZero"], unfollowed := true, recurses := true, apart := false }
def FlowTurnsSaid : Prop := flowTurnsRow.holds Tryz.pinned (OpenSpec.ofChange flowTurnsSpec)

/-- ITS FALSE NEIGHBOUR: 'it returns false'. Refute it at one input. -/
def flowTurnsWrong : ChangeSpec := { name := "flowTurns", fn := fun _ => fun
  | [d1, d2, d3] => { results := [.lit (.bool false)], args := [d1, d2, d3] }
  | _ => none }
def FlowTurnsWrongFalsely : Prop := flowTurnsRow.holds Tryz.pinned (OpenSpec.ofChange flowTurnsWrong)

/-- 'braidworklaw24.FlowTrue': WHATEVER THE INPUT: true; the input reads as it did. -/
def flowTrueSpec : ChangeSpec := { name := "flowTrue", fn := fun _ => fun
  | [d] => { results := [.lit (.bool true)], args := [d] }
  | _ => none }
def flowTrueRow : OpenClaim := { program := "ytdibepkfgemddaagreat", sum := "63f3e6e2fe3c32cdad018a376244b71095fadfeb63a2c3c005207366366609e7", func := "braidwork/braidworklaw24.FlowTrue", spec := "flowTrue", inPlace := ["slices.overlaps[braidwork/api.Row]", "internal/bytealg.MakeNoZero"], unfollowed := true, recurses := true, apart := false }
def FlowTrueSaid : Prop := flowTrueRow.holds Tryz.pinned (OpenSpec.ofChange flowTrueSpec)

/-- ITS FALSE NEIGHBOUR: 'it returns false'. Refute it at one input. -/
def flowTrueWrong : ChangeSpec := { name := "flowTrue", fn := fun _ => fun
  | [d] => { results := [.lit (.bool false)], args := [d] }
  | _ => none }
def FlowTrueWrongFalsely : Prop := flowTrueRow.holds Tryz.pinned (OpenSpec.ofChange flowTrueWrong)

/-- 'braidworklaw24.FlowKnown': WHATEVER THE INPUT: true; the input reads as it did. -/
def flowKnownSpec : ChangeSpec := { name := "flowKnown", fn := fun _ => fun
  | [] => { results := [.lit (.bool true)], args := [] }
  | _ => none }
def flowKnownRow : OpenClaim := { program := "ytdibepkfgemddaagreat", sum := "63f3e6e2fe3c32cdad018a376244b71095fadfeb63a2c3c005207366366609e7", func := "braidwork/braidworklaw24.FlowKnown", spec := "flowKnown", inPlace := ["slices.overlaps[braidwork/api.Row]", "internal/bytealg.MakeNoZero"], unfollowed := true, recurses := true, apart := false }
def FlowKnownSaid : Prop := flowKnownRow.holds Tryz.pinned (OpenSpec.ofChange flowKnownSpec)

/-- ITS FALSE NEIGHBOUR: 'it returns false'. Refute it at one input. -/
def flowKnownWrong : ChangeSpec := { name := "flowKnown", fn := fun _ => fun
  | [] => { results := [.lit (.bool false)], args := [] }
  | _ => none }
def FlowKnownWrongFalsely : Prop := flowKnownRow.holds Tryz.pinned (OpenSpec.ofChange flowKnownWrong)

/- THE SECOND FORM. 'bulk': how many values and letters a reading holds, each counted each time it is reached (what is shared counts as often as it is met; a slice's spare places count too). A statement '..UptoSaid' is the law's where the arguments, and the package variables that the reading takes, are together of bulk at most 1048576: NARROWER than '..Said'. Prove '..Said' where nothing that the law and all that it calls make is longer than what came in: it says more and counts as full. Else prove '..UptoSaid'. A law counts once. -/
mutual
def uptoBulk {H : Type} : DataW H → Nat
  | .lit (.string bytes) => bytes.length + 1
  | .lit _ => 1
  | .nil => 1
  | .ptr d => uptoBulk d + 1
  | .slice elems spare => uptoBulkAll elems + uptoBulkAll spare + 1
  | .agg parts => uptoBulkAll parts + 1
  | .iface _ d => uptoBulk d + 1
  | .map entries => uptoBulkEntries entries + 1
  | .held _ => 1
def uptoBulkAll {H : Type} : List (DataW H) → Nat
  | [] => 0
  | d :: r => uptoBulk d + uptoBulkAll r
def uptoBulkEntries {H : Type} : List (Lit × DataW H) → Nat
  | [] => 0
  | x :: r => uptoBulkEntry x + uptoBulkEntries r
def uptoBulkEntry {H : Type} : Lit × DataW H → Nat
  | (.string bytes, d) => bytes.length + uptoBulk d + 1
  | (_, d) => uptoBulk d + 1
 end
def uptoSmall : (H : Type) → List (DataW H) → Bool := fun _ ds => decide (uptoBulkAll ds ≤ 1048576)
def OpenSpec.upto (s : _root_.Go.ChangeSpec) : _root_.Go.OpenSpec := { _root_.Go.OpenSpec.ofChange s with cond := some uptoSmall }

/-- 'braidworklaw15.SinkPlays', WHERE WHAT IT READS IS OF BULK AT MOST 1048576: true; the input reads as it did. -/
def sinkPlaysUptoRow : OpenClaim := { program := "ytdibepkfgemddaagreat", sum := "63f3e6e2fe3c32cdad018a376244b71095fadfeb63a2c3c005207366366609e7", func := "braidwork/braidworklaw15.SinkPlays", spec := "sinkPlays", inPlace := ["slices.overlaps[braidwork/api.Row]", "internal/bytealg.MakeNoZero"], unfollowed := true, recurses := true, apart := false, narrowed := true }
def SinkPlaysUptoSaid : Prop := sinkPlaysUptoRow.holds Tryz.pinned (OpenSpec.upto sinkPlaysSpec)

/-- 'braidworklaw15.SinkOrder', WHERE WHAT IT READS IS OF BULK AT MOST 1048576: true; the input reads as it did. -/
def sinkOrderUptoRow : OpenClaim := { program := "ytdibepkfgemddaagreat", sum := "63f3e6e2fe3c32cdad018a376244b71095fadfeb63a2c3c005207366366609e7", func := "braidwork/braidworklaw15.SinkOrder", spec := "sinkOrder", inPlace := ["slices.overlaps[braidwork/api.Row]", "internal/bytealg.MakeNoZero"], unfollowed := true, recurses := true, apart := false, narrowed := true }
def SinkOrderUptoSaid : Prop := sinkOrderUptoRow.holds Tryz.pinned (OpenSpec.upto sinkOrderSpec)

/-- 'braidworklaw24.FlowBase', WHERE WHAT IT READS IS OF BULK AT MOST 1048576: true; the input reads as it did. -/
def flowBaseUptoRow : OpenClaim := { program := "ytdibepkfgemddaagreat", sum := "63f3e6e2fe3c32cdad018a376244b71095fadfeb63a2c3c005207366366609e7", func := "braidwork/braidworklaw24.FlowBase", spec := "flowBase", inPlace := ["slices.overlaps[braidwork/api.Row]", "internal/bytealg.MakeNoZero"], unfollowed := true, recurses := true, apart := false, narrowed := true }
def FlowBaseUptoSaid : Prop := flowBaseUptoRow.holds Tryz.pinned (OpenSpec.upto flowBaseSpec)

/-- 'braidworklaw24.FlowTurns', WHERE WHAT IT READS IS OF BULK AT MOST 1048576: true; the input reads as it did. -/
def flowTurnsUptoRow : OpenClaim := { program := "ytdibepkfgemddaagreat", sum := "63f3e6e2fe3c32cdad018a376244b71095fadfeb63a2c3c005207366366609e7", func := "braidwork/braidworklaw24.FlowTurns", spec := "flowTurns", inPlace := ["slices.overlaps[braidwork/api.Row]", "internal/bytealg.MakeNoZero"], unfollowed := true, recurses := true, apart := false, narrowed := true }
def FlowTurnsUptoSaid : Prop := flowTurnsUptoRow.holds Tryz.pinned (OpenSpec.upto flowTurnsSpec)

/-- 'braidworklaw24.FlowTrue', WHERE WHAT IT READS IS OF BULK AT MOST 1048576: true; the input reads as it did. -/
def flowTrueUptoRow : OpenClaim := { program := "ytdibepkfgemddaagreat", sum := "63f3e6e2fe3c32cdad018a376244b71095fadfeb63a2c3c005207366366609e7", func := "braidwork/braidworklaw24.FlowTrue", spec := "flowTrue", inPlace := ["slices.overlaps[braidwork/api.Row]", "internal/bytealg.MakeNoZero"], unfollowed := true, recurses := true, apart := false, narrowed := true }
def FlowTrueUptoSaid : Prop := flowTrueUptoRow.holds Tryz.pinned (OpenSpec.upto flowTrueSpec)

/-- 'braidworklaw24.FlowKnown', WHERE WHAT IT READS IS OF BULK AT MOST 1048576: true; the input reads as it did. -/
def flowKnownUptoRow : OpenClaim := { program := "ytdibepkfgemddaagreat", sum := "63f3e6e2fe3c32cdad018a376244b71095fadfeb63a2c3c005207366366609e7", func := "braidwork/braidworklaw24.FlowKnown", spec := "flowKnown", inPlace := ["slices.overlaps[braidwork/api.Row]", "internal/bytealg.MakeNoZero"], unfollowed := true, recurses := true, apart := false, narrowed := true }
def FlowKnownUptoSaid : Prop := flowKnownUptoRow.holds Tryz.pinned (OpenSpec.upto flowKnownSpec)

end Rows
end Go.Proofs.YtdibepkfgemddaaGreat
