/-
  No cell of these rows narrows 'for every input' (looked for: loops, veiled, ifaces, maps, wideKeys, modest, calm, conditions, laid).
  DERIVED. THE GIVEN ROWS OF THIS SEAT. 11 by the template 'for every input the law returns true; each argument reads behind the call as it read before'; 0 by the template 'total and deterministic' (their statements: YtbgdgmilcojlbaaTotals.lean).
  GIVEN WITH THE SEED: the statements are not yours to turn. If you find one false, say at which input.
  Laid BY PROGRAM, IN A SANDBOX (cutbox-rows.mjs): the forced cells as the released guide's own fill.sh prints them over the translation f907683ce3349ac6… (all of the seat's roots in one cut). By AI agents, Wed Nov 11 2026. No macro, syntax, notation, axiom, sorry.
-/
import Derived.Test.YtbgdgmilcojlbaaChecked
import GoSem.Claim
import GoSem.ClaimJoined
import GoSem.ClaimMapViews
import Derived.JoinedTies
import Derived.KernelRfl
namespace Go.Proofs.Ytbgdgmilcojlbaa
/- THE CELL 'sum', in the pinned program and in every row, IS THE sha256 OF THE DUMP (.gsa) THAT YtbgdgmilcojlbaaProg.lean LOADS. Nothing in Lean hashes anything: it is a label: what it is worth is what the hold of that sum in a sandbox is worth. -/
noncomputable def Try.pinned : Pinned := { name := "ytbgdgmilcojlbaa", sum := "f907683ce3349ac6d4eefbd8d1bf09639e464fb5ebabefeaf53b5327dc65f8ce", checked := Try.checked }
namespace Rows
def none {H : Type} : Left H := { results := [], args := [] }

/-- 'braidworklaw07.BasisBack': WHATEVER THE INPUT: true; the input reads as it did. -/
def basisBackSpec : ChangeSpec := { name := "basisBack", fn := fun _ => fun
  | [d] => { results := [.lit (.bool true)], args := [d] }
  | _ => none }
def basisBackRow : OpenClaim := { program := "ytbgdgmilcojlbaa", sum := "f907683ce3349ac6d4eefbd8d1bf09639e464fb5ebabefeaf53b5327dc65f8ce", func := "braidwork/braidworklaw07.BasisBack", spec := "basisBack", inPlace := ["slices.overlaps[braidwork/api.Row]"], unfollowed := true, recurses := true, plainKeys := false, apart := false }
def BasisBackSaid : Prop := basisBackRow.holds Try.pinned (OpenSpec.ofChange basisBackSpec)

/-- ITS FALSE NEIGHBOUR: 'it returns false'. Refute it at one input. -/
def basisBackWrong : ChangeSpec := { name := "basisBack", fn := fun _ => fun
  | [d] => { results := [.lit (.bool false)], args := [d] }
  | _ => none }
def BasisBackWrongFalsely : Prop := basisBackRow.holds Try.pinned (OpenSpec.ofChange basisBackWrong)

/-- 'braidworklaw07.BasisOne': WHATEVER THE INPUT: true; the input reads as it did. -/
def basisOneSpec : ChangeSpec := { name := "basisOne", fn := fun _ => fun
  | [d1, d2] => { results := [.lit (.bool true)], args := [d1, d2] }
  | _ => none }
def basisOneRow : OpenClaim := { program := "ytbgdgmilcojlbaa", sum := "f907683ce3349ac6d4eefbd8d1bf09639e464fb5ebabefeaf53b5327dc65f8ce", func := "braidwork/braidworklaw07.BasisOne", spec := "basisOne", inPlace := ["slices.overlaps[braidwork/api.Row]"], unfollowed := true, recurses := true, plainKeys := false, apart := false }
def BasisOneSaid : Prop := basisOneRow.holds Try.pinned (OpenSpec.ofChange basisOneSpec)

/-- ITS FALSE NEIGHBOUR: 'it returns false'. Refute it at one input. -/
def basisOneWrong : ChangeSpec := { name := "basisOne", fn := fun _ => fun
  | [d1, d2] => { results := [.lit (.bool false)], args := [d1, d2] }
  | _ => none }
def BasisOneWrongFalsely : Prop := basisOneRow.holds Try.pinned (OpenSpec.ofChange basisOneWrong)

/-- 'braidworklaw07.BasisForm': WHATEVER THE INPUT: true; the input reads as it did. -/
def basisFormSpec : ChangeSpec := { name := "basisForm", fn := fun _ => fun
  | [d] => { results := [.lit (.bool true)], args := [d] }
  | _ => none }
def basisFormRow : OpenClaim := { program := "ytbgdgmilcojlbaa", sum := "f907683ce3349ac6d4eefbd8d1bf09639e464fb5ebabefeaf53b5327dc65f8ce", func := "braidwork/braidworklaw07.BasisForm", spec := "basisForm", inPlace := ["slices.overlaps[braidwork/api.Row]"], unfollowed := true, recurses := true, plainKeys := false, apart := false }
def BasisFormSaid : Prop := basisFormRow.holds Try.pinned (OpenSpec.ofChange basisFormSpec)

/-- ITS FALSE NEIGHBOUR: 'it returns false'. Refute it at one input. -/
def basisFormWrong : ChangeSpec := { name := "basisForm", fn := fun _ => fun
  | [d] => { results := [.lit (.bool false)], args := [d] }
  | _ => none }
def BasisFormWrongFalsely : Prop := basisFormRow.holds Try.pinned (OpenSpec.ofChange basisFormWrong)

/-- 'braidworklaw13.SourceLinear': WHATEVER THE INPUT: true; the input reads as it did. -/
def sourceLinearSpec : ChangeSpec := { name := "sourceLinear", fn := fun _ => fun
  | [d] => { results := [.lit (.bool true)], args := [d] }
  | _ => none }
def sourceLinearRow : OpenClaim := { program := "ytbgdgmilcojlbaa", sum := "f907683ce3349ac6d4eefbd8d1bf09639e464fb5ebabefeaf53b5327dc65f8ce", func := "braidwork/braidworklaw13.SourceLinear", spec := "sourceLinear", unfollowed := true, recurses := true, plainKeys := false, apart := false }
def SourceLinearSaid : Prop := sourceLinearRow.holds Try.pinned (OpenSpec.ofChange sourceLinearSpec)

/-- ITS FALSE NEIGHBOUR: 'it returns false'. Refute it at one input. -/
def sourceLinearWrong : ChangeSpec := { name := "sourceLinear", fn := fun _ => fun
  | [d] => { results := [.lit (.bool false)], args := [d] }
  | _ => none }
def SourceLinearWrongFalsely : Prop := sourceLinearRow.holds Try.pinned (OpenSpec.ofChange sourceLinearWrong)

/-- 'braidworklaw07.BasisPlays': WHATEVER THE INPUT: true; the input reads as it did. -/
def basisPlaysSpec : ChangeSpec := { name := "basisPlays", fn := fun _ => fun
  | [d1, d2, d3] => { results := [.lit (.bool true)], args := [d1, d2, d3] }
  | _ => none }
def basisPlaysRow : OpenClaim := { program := "ytbgdgmilcojlbaa", sum := "f907683ce3349ac6d4eefbd8d1bf09639e464fb5ebabefeaf53b5327dc65f8ce", func := "braidwork/braidworklaw07.BasisPlays", spec := "basisPlays", inPlace := ["slices.overlaps[braidwork/api.Row]"], unfollowed := true, recurses := true, plainKeys := false, apart := false }
def BasisPlaysSaid : Prop := basisPlaysRow.holds Try.pinned (OpenSpec.ofChange basisPlaysSpec)

/-- ITS FALSE NEIGHBOUR: 'it returns false'. Refute it at one input. -/
def basisPlaysWrong : ChangeSpec := { name := "basisPlays", fn := fun _ => fun
  | [d1, d2, d3] => { results := [.lit (.bool false)], args := [d1, d2, d3] }
  | _ => none }
def BasisPlaysWrongFalsely : Prop := basisPlaysRow.holds Try.pinned (OpenSpec.ofChange basisPlaysWrong)

/-- 'braidworklaw07.BasisKnown': WHATEVER THE INPUT: true; the input reads as it did. -/
def basisKnownSpec : ChangeSpec := { name := "basisKnown", fn := fun _ => fun
  | [] => { results := [.lit (.bool true)], args := [] }
  | _ => none }
def basisKnownRow : OpenClaim := { program := "ytbgdgmilcojlbaa", sum := "f907683ce3349ac6d4eefbd8d1bf09639e464fb5ebabefeaf53b5327dc65f8ce", func := "braidwork/braidworklaw07.BasisKnown", spec := "basisKnown", inPlace := ["slices.overlaps[braidwork/api.Row]"], unfollowed := true, recurses := true, plainKeys := false, apart := false }
def BasisKnownSaid : Prop := basisKnownRow.holds Try.pinned (OpenSpec.ofChange basisKnownSpec)

/-- ITS FALSE NEIGHBOUR: 'it returns false'. Refute it at one input. -/
def basisKnownWrong : ChangeSpec := { name := "basisKnown", fn := fun _ => fun
  | [] => { results := [.lit (.bool false)], args := [] }
  | _ => none }
def BasisKnownWrongFalsely : Prop := basisKnownRow.holds Try.pinned (OpenSpec.ofChange basisKnownWrong)

/-- 'braidworklaw13.SourceKnown': WHATEVER THE INPUT: true; the input reads as it did. -/
def sourceKnownSpec : ChangeSpec := { name := "sourceKnown", fn := fun _ => fun
  | [] => { results := [.lit (.bool true)], args := [] }
  | _ => none }
def sourceKnownRow : OpenClaim := { program := "ytbgdgmilcojlbaa", sum := "f907683ce3349ac6d4eefbd8d1bf09639e464fb5ebabefeaf53b5327dc65f8ce", func := "braidwork/braidworklaw13.SourceKnown", spec := "sourceKnown", unfollowed := true, recurses := true, plainKeys := false, apart := false }
def SourceKnownSaid : Prop := sourceKnownRow.holds Try.pinned (OpenSpec.ofChange sourceKnownSpec)

/-- ITS FALSE NEIGHBOUR: 'it returns false'. Refute it at one input. -/
def sourceKnownWrong : ChangeSpec := { name := "sourceKnown", fn := fun _ => fun
  | [] => { results := [.lit (.bool false)], args := [] }
  | _ => none }
def SourceKnownWrongFalsely : Prop := sourceKnownRow.holds Try.pinned (OpenSpec.ofChange sourceKnownWrong)

/-- 'braidworklaw13.SourcePlays': WHATEVER THE INPUT: true; the input reads as it did. -/
def sourcePlaysSpec : ChangeSpec := { name := "sourcePlays", fn := fun _ => fun
  | [d1, d2] => { results := [.lit (.bool true)], args := [d1, d2] }
  | _ => none }
def sourcePlaysRow : OpenClaim := { program := "ytbgdgmilcojlbaa", sum := "f907683ce3349ac6d4eefbd8d1bf09639e464fb5ebabefeaf53b5327dc65f8ce", func := "braidwork/braidworklaw13.SourcePlays", spec := "sourcePlays", unfollowed := true, recurses := true, plainKeys := false, apart := false }
def SourcePlaysSaid : Prop := sourcePlaysRow.holds Try.pinned (OpenSpec.ofChange sourcePlaysSpec)

/-- ITS FALSE NEIGHBOUR: 'it returns false'. Refute it at one input. -/
def sourcePlaysWrong : ChangeSpec := { name := "sourcePlays", fn := fun _ => fun
  | [d1, d2] => { results := [.lit (.bool false)], args := [d1, d2] }
  | _ => none }
def SourcePlaysWrongFalsely : Prop := sourcePlaysRow.holds Try.pinned (OpenSpec.ofChange sourcePlaysWrong)

/-- 'braidworklaw28.ModelRows': WHATEVER THE INPUT: true; the input reads as it did. -/
def modelRowsSpec : ChangeSpec := { name := "modelRows", fn := fun _ => fun
  | [d1, d2, d3, d4, d5] => { results := [.lit (.bool true)], args := [d1, d2, d3, d4, d5] }
  | _ => none }
def modelRowsRow : OpenClaim := { program := "ytbgdgmilcojlbaa", sum := "f907683ce3349ac6d4eefbd8d1bf09639e464fb5ebabefeaf53b5327dc65f8ce", func := "braidwork/braidworklaw28.ModelRows", spec := "modelRows", unfollowed := true, recurses := true, plainKeys := false, apart := false }
def ModelRowsSaid : Prop := modelRowsRow.holds Try.pinned (OpenSpec.ofChange modelRowsSpec)

/-- ITS FALSE NEIGHBOUR: 'it returns false'. Refute it at one input. -/
def modelRowsWrong : ChangeSpec := { name := "modelRows", fn := fun _ => fun
  | [d1, d2, d3, d4, d5] => { results := [.lit (.bool false)], args := [d1, d2, d3, d4, d5] }
  | _ => none }
def ModelRowsWrongFalsely : Prop := modelRowsRow.holds Try.pinned (OpenSpec.ofChange modelRowsWrong)

/-- 'braidworklaw07.BasisSpans': WHATEVER THE INPUT: true; the input reads as it did. -/
def basisSpansSpec : ChangeSpec := { name := "basisSpans", fn := fun _ => fun
  | [d1, d2] => { results := [.lit (.bool true)], args := [d1, d2] }
  | _ => none }
def basisSpansRow : OpenClaim := { program := "ytbgdgmilcojlbaa", sum := "f907683ce3349ac6d4eefbd8d1bf09639e464fb5ebabefeaf53b5327dc65f8ce", func := "braidwork/braidworklaw07.BasisSpans", spec := "basisSpans", inPlace := ["slices.overlaps[braidwork/api.Row]"], unfollowed := true, recurses := true, plainKeys := false, apart := false }
def BasisSpansSaid : Prop := basisSpansRow.holds Try.pinned (OpenSpec.ofChange basisSpansSpec)

/-- ITS FALSE NEIGHBOUR: 'it returns false'. Refute it at one input. -/
def basisSpansWrong : ChangeSpec := { name := "basisSpans", fn := fun _ => fun
  | [d1, d2] => { results := [.lit (.bool false)], args := [d1, d2] }
  | _ => none }
def BasisSpansWrongFalsely : Prop := basisSpansRow.holds Try.pinned (OpenSpec.ofChange basisSpansWrong)

/-- 'braidworklaw13.SourceKeeps': WHATEVER THE INPUT: true; the input reads as it did. -/
def sourceKeepsSpec : ChangeSpec := { name := "sourceKeeps", fn := fun _ => fun
  | [d1, d2, d3] => { results := [.lit (.bool true)], args := [d1, d2, d3] }
  | _ => none }
def sourceKeepsRow : OpenClaim := { program := "ytbgdgmilcojlbaa", sum := "f907683ce3349ac6d4eefbd8d1bf09639e464fb5ebabefeaf53b5327dc65f8ce", func := "braidwork/braidworklaw13.SourceKeeps", spec := "sourceKeeps", inPlace := ["internal/bytealg.MakeNoZero"], unfollowed := true, recurses := true, plainKeys := false, apart := false }
def SourceKeepsSaid : Prop := sourceKeepsRow.holds Try.pinned (OpenSpec.ofChange sourceKeepsSpec)

/-- ITS FALSE NEIGHBOUR: 'it returns false'. Refute it at one input. -/
def sourceKeepsWrong : ChangeSpec := { name := "sourceKeeps", fn := fun _ => fun
  | [d1, d2, d3] => { results := [.lit (.bool false)], args := [d1, d2, d3] }
  | _ => none }
def SourceKeepsWrongFalsely : Prop := sourceKeepsRow.holds Try.pinned (OpenSpec.ofChange sourceKeepsWrong)

/- THE SECOND FORM. 'bulk': how many values and letters a reading holds, each counted each time it is reached (what is shared counts as often as it is met; a slice's spare places count too). A statement '..UptoSaid' is the law's where the arguments, and the package variables that the reading takes, are together of bulk at most 1048576: NARROWER than '..Said'. Prove '..Said' where nothing that the law and all that it calls make is longer than what came in: it says more and counts as full. Else prove '..UptoSaid'. A law counts once. -/
mutual
def uptoBulk {H : Type} : DataW H → Nat
  | .lit (.string bytes) => bytes.length + 1
  | .lit _ => 1
  | .nil => 1
  | .ptr d => uptoBulk d + 1
  | .slice elems spare => uptoBulkAll elems + uptoBulkAll spare + 1
  | .agg parts => uptoBulkAll parts + 1
  | .iface _ d => uptoBulk d + 1
  | .map entries => uptoBulkEntries entries + 1
  | .held _ => 1
def uptoBulkAll {H : Type} : List (DataW H) → Nat
  | [] => 0
  | d :: r => uptoBulk d + uptoBulkAll r
def uptoBulkEntries {H : Type} : List (Lit × DataW H) → Nat
  | [] => 0
  | x :: r => uptoBulkEntry x + uptoBulkEntries r
def uptoBulkEntry {H : Type} : Lit × DataW H → Nat
  | (.string bytes, d) => bytes.length + uptoBulk d + 1
  | (_, d) => uptoBulk d + 1
 end
def uptoSmall : (H : Type) → List (DataW H) → Bool := fun _ ds => decide (uptoBulkAll ds ≤ 1048576)
def OpenSpec.upto (s : _root_.Go.ChangeSpec) : _root_.Go.OpenSpec := { _root_.Go.OpenSpec.ofChange s with cond := some uptoSmall }

/-- 'braidworklaw07.BasisBack', WHERE WHAT IT READS IS OF BULK AT MOST 1048576: true; the input reads as it did. -/
def basisBackUptoRow : OpenClaim := { program := "ytbgdgmilcojlbaa", sum := "f907683ce3349ac6d4eefbd8d1bf09639e464fb5ebabefeaf53b5327dc65f8ce", func := "braidwork/braidworklaw07.BasisBack", spec := "basisBack", inPlace := ["slices.overlaps[braidwork/api.Row]"], unfollowed := true, recurses := true, plainKeys := false, apart := false, narrowed := true }
def BasisBackUptoSaid : Prop := basisBackUptoRow.holds Try.pinned (OpenSpec.upto basisBackSpec)

/-- 'braidworklaw07.BasisOne', WHERE WHAT IT READS IS OF BULK AT MOST 1048576: true; the input reads as it did. -/
def basisOneUptoRow : OpenClaim := { program := "ytbgdgmilcojlbaa", sum := "f907683ce3349ac6d4eefbd8d1bf09639e464fb5ebabefeaf53b5327dc65f8ce", func := "braidwork/braidworklaw07.BasisOne", spec := "basisOne", inPlace := ["slices.overlaps[braidwork/api.Row]"], unfollowed := true, recurses := true, plainKeys := false, apart := false, narrowed := true }
def BasisOneUptoSaid : Prop := basisOneUptoRow.holds Try.pinned (OpenSpec.upto basisOneSpec)

/-- 'braidworklaw07.BasisForm', WHERE WHAT IT READS IS OF BULK AT MOST 1048576: true; the input reads as it did. -/
def basisFormUptoRow : OpenClaim := { program := "ytbgdgmilcojlbaa", sum := "f907683ce3349ac6d4eefbd8d1bf09639e464fb5ebabefeaf53b5327dc65f8ce", func := "braidwork/braidworklaw07.BasisForm", spec := "basisForm", inPlace := ["slices.overlaps[braidwork/api.Row]"], unfollowed := true, recurses := true, plainKeys := false, apart := false, narrowed := true }
def BasisFormUptoSaid : Prop := basisFormUptoRow.holds Try.pinned (OpenSpec.upto basisFormSpec)

/-- 'braidworklaw13.SourceLinear', WHERE WHAT IT READS IS OF BULK AT MOST 1048576: true; the input reads as it did. -/
def sourceLinearUptoRow : OpenClaim := { program := "ytbgdgmilcojlbaa", sum := "f907683ce3349ac6d4eefbd8d1bf09639e464fb5ebabefeaf53b5327dc65f8ce", func := "braidwork/braidworklaw13.SourceLinear", spec := "sourceLinear", unfollowed := true, recurses := true, plainKeys := false, apart := false, narrowed := true }
def SourceLinearUptoSaid : Prop := sourceLinearUptoRow.holds Try.pinned (OpenSpec.upto sourceLinearSpec)

/-- 'braidworklaw07.BasisPlays', WHERE WHAT IT READS IS OF BULK AT MOST 1048576: true; the input reads as it did. -/
def basisPlaysUptoRow : OpenClaim := { program := "ytbgdgmilcojlbaa", sum := "f907683ce3349ac6d4eefbd8d1bf09639e464fb5ebabefeaf53b5327dc65f8ce", func := "braidwork/braidworklaw07.BasisPlays", spec := "basisPlays", inPlace := ["slices.overlaps[braidwork/api.Row]"], unfollowed := true, recurses := true, plainKeys := false, apart := false, narrowed := true }
def BasisPlaysUptoSaid : Prop := basisPlaysUptoRow.holds Try.pinned (OpenSpec.upto basisPlaysSpec)

/-- 'braidworklaw07.BasisKnown', WHERE WHAT IT READS IS OF BULK AT MOST 1048576: true; the input reads as it did. -/
def basisKnownUptoRow : OpenClaim := { program := "ytbgdgmilcojlbaa", sum := "f907683ce3349ac6d4eefbd8d1bf09639e464fb5ebabefeaf53b5327dc65f8ce", func := "braidwork/braidworklaw07.BasisKnown", spec := "basisKnown", inPlace := ["slices.overlaps[braidwork/api.Row]"], unfollowed := true, recurses := true, plainKeys := false, apart := false, narrowed := true }
def BasisKnownUptoSaid : Prop := basisKnownUptoRow.holds Try.pinned (OpenSpec.upto basisKnownSpec)

/-- 'braidworklaw13.SourceKnown', WHERE WHAT IT READS IS OF BULK AT MOST 1048576: true; the input reads as it did. -/
def sourceKnownUptoRow : OpenClaim := { program := "ytbgdgmilcojlbaa", sum := "f907683ce3349ac6d4eefbd8d1bf09639e464fb5ebabefeaf53b5327dc65f8ce", func := "braidwork/braidworklaw13.SourceKnown", spec := "sourceKnown", unfollowed := true, recurses := true, plainKeys := false, apart := false, narrowed := true }
def SourceKnownUptoSaid : Prop := sourceKnownUptoRow.holds Try.pinned (OpenSpec.upto sourceKnownSpec)

/-- 'braidworklaw13.SourcePlays', WHERE WHAT IT READS IS OF BULK AT MOST 1048576: true; the input reads as it did. -/
def sourcePlaysUptoRow : OpenClaim := { program := "ytbgdgmilcojlbaa", sum := "f907683ce3349ac6d4eefbd8d1bf09639e464fb5ebabefeaf53b5327dc65f8ce", func := "braidwork/braidworklaw13.SourcePlays", spec := "sourcePlays", unfollowed := true, recurses := true, plainKeys := false, apart := false, narrowed := true }
def SourcePlaysUptoSaid : Prop := sourcePlaysUptoRow.holds Try.pinned (OpenSpec.upto sourcePlaysSpec)

/-- 'braidworklaw28.ModelRows', WHERE WHAT IT READS IS OF BULK AT MOST 1048576: true; the input reads as it did. -/
def modelRowsUptoRow : OpenClaim := { program := "ytbgdgmilcojlbaa", sum := "f907683ce3349ac6d4eefbd8d1bf09639e464fb5ebabefeaf53b5327dc65f8ce", func := "braidwork/braidworklaw28.ModelRows", spec := "modelRows", unfollowed := true, recurses := true, plainKeys := false, apart := false, narrowed := true }
def ModelRowsUptoSaid : Prop := modelRowsUptoRow.holds Try.pinned (OpenSpec.upto modelRowsSpec)

/-- 'braidworklaw07.BasisSpans', WHERE WHAT IT READS IS OF BULK AT MOST 1048576: true; the input reads as it did. -/
def basisSpansUptoRow : OpenClaim := { program := "ytbgdgmilcojlbaa", sum := "f907683ce3349ac6d4eefbd8d1bf09639e464fb5ebabefeaf53b5327dc65f8ce", func := "braidwork/braidworklaw07.BasisSpans", spec := "basisSpans", inPlace := ["slices.overlaps[braidwork/api.Row]"], unfollowed := true, recurses := true, plainKeys := false, apart := false, narrowed := true }
def BasisSpansUptoSaid : Prop := basisSpansUptoRow.holds Try.pinned (OpenSpec.upto basisSpansSpec)

/-- 'braidworklaw13.SourceKeeps', WHERE WHAT IT READS IS OF BULK AT MOST 1048576: true; the input reads as it did. -/
def sourceKeepsUptoRow : OpenClaim := { program := "ytbgdgmilcojlbaa", sum := "f907683ce3349ac6d4eefbd8d1bf09639e464fb5ebabefeaf53b5327dc65f8ce", func := "braidwork/braidworklaw13.SourceKeeps", spec := "sourceKeeps", inPlace := ["internal/bytealg.MakeNoZero"], unfollowed := true, recurses := true, plainKeys := false, apart := false, narrowed := true }
def SourceKeepsUptoSaid : Prop := sourceKeepsUptoRow.holds Try.pinned (OpenSpec.upto sourceKeepsSpec)

end Rows
end Go.Proofs.Ytbgdgmilcojlbaa
