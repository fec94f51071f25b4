/-
  No cell of these rows narrows 'for every input' (looked for: loops, veiled, ifaces, maps, wideKeys, modest, calm, conditions, laid).
  DERIVED. THE GIVEN ROWS OF THIS SEAT. 12 by the template 'for every input the law returns true; each argument reads behind the call as it read before'; 0 by the template 'total and deterministic' (their statements: YtcmhifpbpdbfhaaTotals.lean).
  GIVEN WITH THE SEED: the statements are not yours to turn. If you find one false, say at which input.
  Laid BY PROGRAM, IN A SANDBOX (cutbox-rows.mjs): the forced cells as the released guide's own fill.sh prints them over the translation 9c1b811c3cd07401… (all of the seat's roots in one cut). By AI agents, Wed Nov 11 2026. No macro, syntax, notation, axiom, sorry.
-/
import Derived.Test.YtcmhifpbpdbfhaaChecked
import GoSem.Claim
import GoSem.ClaimJoined
import GoSem.ClaimMapViews
import Derived.JoinedTies
import Derived.KernelRfl
namespace Go.Proofs.Ytcmhifpbpdbfhaa
/- THE CELL 'sum', in the pinned program and in every row, IS THE sha256 OF THE DUMP (.gsa) THAT YtcmhifpbpdbfhaaProg.lean LOADS. Nothing in Lean hashes anything: it is a label: what it is worth is what the hold of that sum in a sandbox is worth. -/
noncomputable def Try.pinned : Pinned := { name := "ytcmhifpbpdbfhaa", sum := "9c1b811c3cd07401ce5f4984f5fe2269f14b7928a1e91ab6d57b44c18007f540", checked := Try.checked }
namespace Rows
def none {H : Type} : Left H := { results := [], args := [] }

/-- 'laws.FnExactBound': WHATEVER THE INPUT: true; the input reads as it did. -/
def fnExactBoundSpec : ChangeSpec := { name := "fnExactBound", fn := fun _ => fun
  | [d1, d2] => { results := [.lit (.bool true)], args := [d1, d2] }
  | _ => none }
def fnExactBoundRow : OpenClaim := { program := "ytcmhifpbpdbfhaa", sum := "9c1b811c3cd07401ce5f4984f5fe2269f14b7928a1e91ab6d57b44c18007f540", func := "loop.example/g00710/laws.FnExactBound", spec := "fnExactBound", apart := false }
def FnExactBoundSaid : Prop := fnExactBoundRow.holds Try.pinned (OpenSpec.ofChange fnExactBoundSpec)

/-- ITS FALSE NEIGHBOUR: 'it returns false'. Refute it at one input. -/
def fnExactBoundWrong : ChangeSpec := { name := "fnExactBound", fn := fun _ => fun
  | [d1, d2] => { results := [.lit (.bool false)], args := [d1, d2] }
  | _ => none }
def FnExactBoundWrongFalsely : Prop := fnExactBoundRow.holds Try.pinned (OpenSpec.ofChange fnExactBoundWrong)

/-- 'laws.FnExactDiffer': WHATEVER THE INPUT: true; the input reads as it did. -/
def fnExactDifferSpec : ChangeSpec := { name := "fnExactDiffer", fn := fun _ => fun
  | [d1, d2] => { results := [.lit (.bool true)], args := [d1, d2] }
  | _ => none }
def fnExactDifferRow : OpenClaim := { program := "ytcmhifpbpdbfhaa", sum := "9c1b811c3cd07401ce5f4984f5fe2269f14b7928a1e91ab6d57b44c18007f540", func := "loop.example/g00710/laws.FnExactDiffer", spec := "fnExactDiffer", apart := false }
def FnExactDifferSaid : Prop := fnExactDifferRow.holds Try.pinned (OpenSpec.ofChange fnExactDifferSpec)

/-- ITS FALSE NEIGHBOUR: 'it returns false'. Refute it at one input. -/
def fnExactDifferWrong : ChangeSpec := { name := "fnExactDiffer", fn := fun _ => fun
  | [d1, d2] => { results := [.lit (.bool false)], args := [d1, d2] }
  | _ => none }
def FnExactDifferWrongFalsely : Prop := fnExactDifferRow.holds Try.pinned (OpenSpec.ofChange fnExactDifferWrong)

/-- 'laws.FnExactSplit': WHATEVER THE INPUT: true; the input reads as it did. -/
def fnExactSplitSpec : ChangeSpec := { name := "fnExactSplit", fn := fun _ => fun
  | [d] => { results := [.lit (.bool true)], args := [d] }
  | _ => none }
def fnExactSplitRow : OpenClaim := { program := "ytcmhifpbpdbfhaa", sum := "9c1b811c3cd07401ce5f4984f5fe2269f14b7928a1e91ab6d57b44c18007f540", func := "loop.example/g00710/laws.FnExactSplit", spec := "fnExactSplit", apart := false }
def FnExactSplitSaid : Prop := fnExactSplitRow.holds Try.pinned (OpenSpec.ofChange fnExactSplitSpec)

/-- ITS FALSE NEIGHBOUR: 'it returns false'. Refute it at one input. -/
def fnExactSplitWrong : ChangeSpec := { name := "fnExactSplit", fn := fun _ => fun
  | [d] => { results := [.lit (.bool false)], args := [d] }
  | _ => none }
def FnExactSplitWrongFalsely : Prop := fnExactSplitRow.holds Try.pinned (OpenSpec.ofChange fnExactSplitWrong)

/-- 'laws.FnExactConvExact': WHATEVER THE INPUT: true; the input reads as it did. -/
def fnExactConvExactSpec : ChangeSpec := { name := "fnExactConvExact", fn := fun _ => fun
  | [d1, d2] => { results := [.lit (.bool true)], args := [d1, d2] }
  | _ => none }
def fnExactConvExactRow : OpenClaim := { program := "ytcmhifpbpdbfhaa", sum := "9c1b811c3cd07401ce5f4984f5fe2269f14b7928a1e91ab6d57b44c18007f540", func := "loop.example/g00710/laws.FnExactConvExact", spec := "fnExactConvExact", apart := false }
def FnExactConvExactSaid : Prop := fnExactConvExactRow.holds Try.pinned (OpenSpec.ofChange fnExactConvExactSpec)

/-- ITS FALSE NEIGHBOUR: 'it returns false'. Refute it at one input. -/
def fnExactConvExactWrong : ChangeSpec := { name := "fnExactConvExact", fn := fun _ => fun
  | [d1, d2] => { results := [.lit (.bool false)], args := [d1, d2] }
  | _ => none }
def FnExactConvExactWrongFalsely : Prop := fnExactConvExactRow.holds Try.pinned (OpenSpec.ofChange fnExactConvExactWrong)

/-- 'laws.FnExactSeriesOk': WHATEVER THE INPUT: true; the input reads as it did. -/
def fnExactSeriesOkSpec : ChangeSpec := { name := "fnExactSeriesOk", fn := fun _ => fun
  | [d1, d2] => { results := [.lit (.bool true)], args := [d1, d2] }
  | _ => none }
def fnExactSeriesOkRow : OpenClaim := { program := "ytcmhifpbpdbfhaa", sum := "9c1b811c3cd07401ce5f4984f5fe2269f14b7928a1e91ab6d57b44c18007f540", func := "loop.example/g00710/laws.FnExactSeriesOk", spec := "fnExactSeriesOk", apart := false }
def FnExactSeriesOkSaid : Prop := fnExactSeriesOkRow.holds Try.pinned (OpenSpec.ofChange fnExactSeriesOkSpec)

/-- ITS FALSE NEIGHBOUR: 'it returns false'. Refute it at one input. -/
def fnExactSeriesOkWrong : ChangeSpec := { name := "fnExactSeriesOk", fn := fun _ => fun
  | [d1, d2] => { results := [.lit (.bool false)], args := [d1, d2] }
  | _ => none }
def FnExactSeriesOkWrongFalsely : Prop := fnExactSeriesOkRow.holds Try.pinned (OpenSpec.ofChange fnExactSeriesOkWrong)

/-- 'laws.FnExactPointsOk': WHATEVER THE INPUT: true; the input reads as it did. -/
def fnExactPointsOkSpec : ChangeSpec := { name := "fnExactPointsOk", fn := fun _ => fun
  | [d1, d2] => { results := [.lit (.bool true)], args := [d1, d2] }
  | _ => none }
def fnExactPointsOkRow : OpenClaim := { program := "ytcmhifpbpdbfhaa", sum := "9c1b811c3cd07401ce5f4984f5fe2269f14b7928a1e91ab6d57b44c18007f540", func := "loop.example/g00710/laws.FnExactPointsOk", spec := "fnExactPointsOk", apart := false }
def FnExactPointsOkSaid : Prop := fnExactPointsOkRow.holds Try.pinned (OpenSpec.ofChange fnExactPointsOkSpec)

/-- ITS FALSE NEIGHBOUR: 'it returns false'. Refute it at one input. -/
def fnExactPointsOkWrong : ChangeSpec := { name := "fnExactPointsOk", fn := fun _ => fun
  | [d1, d2] => { results := [.lit (.bool false)], args := [d1, d2] }
  | _ => none }
def FnExactPointsOkWrongFalsely : Prop := fnExactPointsOkRow.holds Try.pinned (OpenSpec.ofChange fnExactPointsOkWrong)

/-- 'laws.FnLogProduct': WHATEVER THE INPUT: true; the input reads as it did. -/
def fnLogProductSpec : ChangeSpec := { name := "fnLogProduct", fn := fun _ => fun
  | [d] => { results := [.lit (.bool true)], args := [d] }
  | _ => none }
def fnLogProductRow : OpenClaim := { program := "ytcmhifpbpdbfhaa", sum := "9c1b811c3cd07401ce5f4984f5fe2269f14b7928a1e91ab6d57b44c18007f540", func := "loop.example/g00710/laws.FnLogProduct", spec := "fnLogProduct", apart := false }
def FnLogProductSaid : Prop := fnLogProductRow.holds Try.pinned (OpenSpec.ofChange fnLogProductSpec)

/-- ITS FALSE NEIGHBOUR: 'it returns false'. Refute it at one input. -/
def fnLogProductWrong : ChangeSpec := { name := "fnLogProduct", fn := fun _ => fun
  | [d] => { results := [.lit (.bool false)], args := [d] }
  | _ => none }
def FnLogProductWrongFalsely : Prop := fnLogProductRow.holds Try.pinned (OpenSpec.ofChange fnLogProductWrong)

/-- 'laws.FnExactRingOne': WHATEVER THE INPUT: true; the input reads as it did. -/
def fnExactRingOneSpec : ChangeSpec := { name := "fnExactRingOne", fn := fun _ => fun
  | [d1, d2] => { results := [.lit (.bool true)], args := [d1, d2] }
  | _ => none }
def fnExactRingOneRow : OpenClaim := { program := "ytcmhifpbpdbfhaa", sum := "9c1b811c3cd07401ce5f4984f5fe2269f14b7928a1e91ab6d57b44c18007f540", func := "loop.example/g00710/laws.FnExactRingOne", spec := "fnExactRingOne", apart := false }
def FnExactRingOneSaid : Prop := fnExactRingOneRow.holds Try.pinned (OpenSpec.ofChange fnExactRingOneSpec)

/-- ITS FALSE NEIGHBOUR: 'it returns false'. Refute it at one input. -/
def fnExactRingOneWrong : ChangeSpec := { name := "fnExactRingOne", fn := fun _ => fun
  | [d1, d2] => { results := [.lit (.bool false)], args := [d1, d2] }
  | _ => none }
def FnExactRingOneWrongFalsely : Prop := fnExactRingOneRow.holds Try.pinned (OpenSpec.ofChange fnExactRingOneWrong)

/-- 'laws.FnExactJoined': WHATEVER THE INPUT: true; the input reads as it did. -/
def fnExactJoinedSpec : ChangeSpec := { name := "fnExactJoined", fn := fun _ => fun
  | [d1, d2] => { results := [.lit (.bool true)], args := [d1, d2] }
  | _ => none }
def fnExactJoinedRow : OpenClaim := { program := "ytcmhifpbpdbfhaa", sum := "9c1b811c3cd07401ce5f4984f5fe2269f14b7928a1e91ab6d57b44c18007f540", func := "loop.example/g00710/laws.FnExactJoined", spec := "fnExactJoined", apart := false }
def FnExactJoinedSaid : Prop := fnExactJoinedRow.holds Try.pinned (OpenSpec.ofChange fnExactJoinedSpec)

/-- ITS FALSE NEIGHBOUR: 'it returns false'. Refute it at one input. -/
def fnExactJoinedWrong : ChangeSpec := { name := "fnExactJoined", fn := fun _ => fun
  | [d1, d2] => { results := [.lit (.bool false)], args := [d1, d2] }
  | _ => none }
def FnExactJoinedWrongFalsely : Prop := fnExactJoinedRow.holds Try.pinned (OpenSpec.ofChange fnExactJoinedWrong)

/-- 'laws.FnExactSeriesDiff': WHATEVER THE INPUT: true; the input reads as it did. -/
def fnExactSeriesDiffSpec : ChangeSpec := { name := "fnExactSeriesDiff", fn := fun _ => fun
  | [d1, d2] => { results := [.lit (.bool true)], args := [d1, d2] }
  | _ => none }
def fnExactSeriesDiffRow : OpenClaim := { program := "ytcmhifpbpdbfhaa", sum := "9c1b811c3cd07401ce5f4984f5fe2269f14b7928a1e91ab6d57b44c18007f540", func := "loop.example/g00710/laws.FnExactSeriesDiff", spec := "fnExactSeriesDiff", apart := false }
def FnExactSeriesDiffSaid : Prop := fnExactSeriesDiffRow.holds Try.pinned (OpenSpec.ofChange fnExactSeriesDiffSpec)

/-- ITS FALSE NEIGHBOUR: 'it returns false'. Refute it at one input. -/
def fnExactSeriesDiffWrong : ChangeSpec := { name := "fnExactSeriesDiff", fn := fun _ => fun
  | [d1, d2] => { results := [.lit (.bool false)], args := [d1, d2] }
  | _ => none }
def FnExactSeriesDiffWrongFalsely : Prop := fnExactSeriesDiffRow.holds Try.pinned (OpenSpec.ofChange fnExactSeriesDiffWrong)

/-- 'laws.FnCentered': WHATEVER THE INPUT: true; the input reads as it did. -/
def fnCenteredSpec : ChangeSpec := { name := "fnCentered", fn := fun _ => fun
  | [d] => { results := [.lit (.bool true)], args := [d] }
  | _ => none }
def fnCenteredRow : OpenClaim := { program := "ytcmhifpbpdbfhaa", sum := "9c1b811c3cd07401ce5f4984f5fe2269f14b7928a1e91ab6d57b44c18007f540", func := "loop.example/g00710/laws.FnCentered", spec := "fnCentered", apart := false }
def FnCenteredSaid : Prop := fnCenteredRow.holds Try.pinned (OpenSpec.ofChange fnCenteredSpec)

/-- ITS FALSE NEIGHBOUR: 'it returns false'. Refute it at one input. -/
def fnCenteredWrong : ChangeSpec := { name := "fnCentered", fn := fun _ => fun
  | [d] => { results := [.lit (.bool false)], args := [d] }
  | _ => none }
def FnCenteredWrongFalsely : Prop := fnCenteredRow.holds Try.pinned (OpenSpec.ofChange fnCenteredWrong)

/-- 'laws.FnExactCentered': WHATEVER THE INPUT: true; the input reads as it did. -/
def fnExactCenteredSpec : ChangeSpec := { name := "fnExactCentered", fn := fun _ => fun
  | [d1, d2] => { results := [.lit (.bool true)], args := [d1, d2] }
  | _ => none }
def fnExactCenteredRow : OpenClaim := { program := "ytcmhifpbpdbfhaa", sum := "9c1b811c3cd07401ce5f4984f5fe2269f14b7928a1e91ab6d57b44c18007f540", func := "loop.example/g00710/laws.FnExactCentered", spec := "fnExactCentered", apart := false }
def FnExactCenteredSaid : Prop := fnExactCenteredRow.holds Try.pinned (OpenSpec.ofChange fnExactCenteredSpec)

/-- ITS FALSE NEIGHBOUR: 'it returns false'. Refute it at one input. -/
def fnExactCenteredWrong : ChangeSpec := { name := "fnExactCentered", fn := fun _ => fun
  | [d1, d2] => { results := [.lit (.bool false)], args := [d1, d2] }
  | _ => none }
def FnExactCenteredWrongFalsely : Prop := fnExactCenteredRow.holds Try.pinned (OpenSpec.ofChange fnExactCenteredWrong)

/- THE SECOND FORM. 'bulk': how many values and letters a reading holds, each counted each time it is reached (what is shared counts as often as it is met; a slice's spare places count too). A statement '..UptoSaid' is the law's where the arguments, and the package variables that the reading takes, are together of bulk at most 1048576: NARROWER than '..Said'. Prove '..Said' where nothing that the law and all that it calls make is longer than what came in: it says more and counts as full. Else prove '..UptoSaid'. A law counts once. -/
mutual
def uptoBulk {H : Type} : DataW H → Nat
  | .lit (.string bytes) => bytes.length + 1
  | .lit _ => 1
  | .nil => 1
  | .ptr d => uptoBulk d + 1
  | .slice elems spare => uptoBulkAll elems + uptoBulkAll spare + 1
  | .agg parts => uptoBulkAll parts + 1
  | .iface _ d => uptoBulk d + 1
  | .map entries => uptoBulkEntries entries + 1
  | .held _ => 1
def uptoBulkAll {H : Type} : List (DataW H) → Nat
  | [] => 0
  | d :: r => uptoBulk d + uptoBulkAll r
def uptoBulkEntries {H : Type} : List (Lit × DataW H) → Nat
  | [] => 0
  | x :: r => uptoBulkEntry x + uptoBulkEntries r
def uptoBulkEntry {H : Type} : Lit × DataW H → Nat
  | (.string bytes, d) => bytes.length + uptoBulk d + 1
  | (_, d) => uptoBulk d + 1
 end
def uptoSmall : (H : Type) → List (DataW H) → Bool := fun _ ds => decide (uptoBulkAll ds ≤ 1048576)
def OpenSpec.upto (s : _root_.Go.ChangeSpec) : _root_.Go.OpenSpec := { _root_.Go.OpenSpec.ofChange s with cond := some uptoSmall }

/-- 'laws.FnExactBound', WHERE WHAT IT READS IS OF BULK AT MOST 1048576: true; the input reads as it did. -/
def fnExactBoundUptoRow : OpenClaim := { program := "ytcmhifpbpdbfhaa", sum := "9c1b811c3cd07401ce5f4984f5fe2269f14b7928a1e91ab6d57b44c18007f540", func := "loop.example/g00710/laws.FnExactBound", spec := "fnExactBound", apart := false, narrowed := true }
def FnExactBoundUptoSaid : Prop := fnExactBoundUptoRow.holds Try.pinned (OpenSpec.upto fnExactBoundSpec)

/-- 'laws.FnExactDiffer', WHERE WHAT IT READS IS OF BULK AT MOST 1048576: true; the input reads as it did. -/
def fnExactDifferUptoRow : OpenClaim := { program := "ytcmhifpbpdbfhaa", sum := "9c1b811c3cd07401ce5f4984f5fe2269f14b7928a1e91ab6d57b44c18007f540", func := "loop.example/g00710/laws.FnExactDiffer", spec := "fnExactDiffer", apart := false, narrowed := true }
def FnExactDifferUptoSaid : Prop := fnExactDifferUptoRow.holds Try.pinned (OpenSpec.upto fnExactDifferSpec)

/-- 'laws.FnExactSplit', WHERE WHAT IT READS IS OF BULK AT MOST 1048576: true; the input reads as it did. -/
def fnExactSplitUptoRow : OpenClaim := { program := "ytcmhifpbpdbfhaa", sum := "9c1b811c3cd07401ce5f4984f5fe2269f14b7928a1e91ab6d57b44c18007f540", func := "loop.example/g00710/laws.FnExactSplit", spec := "fnExactSplit", apart := false, narrowed := true }
def FnExactSplitUptoSaid : Prop := fnExactSplitUptoRow.holds Try.pinned (OpenSpec.upto fnExactSplitSpec)

/-- 'laws.FnExactConvExact', WHERE WHAT IT READS IS OF BULK AT MOST 1048576: true; the input reads as it did. -/
def fnExactConvExactUptoRow : OpenClaim := { program := "ytcmhifpbpdbfhaa", sum := "9c1b811c3cd07401ce5f4984f5fe2269f14b7928a1e91ab6d57b44c18007f540", func := "loop.example/g00710/laws.FnExactConvExact", spec := "fnExactConvExact", apart := false, narrowed := true }
def FnExactConvExactUptoSaid : Prop := fnExactConvExactUptoRow.holds Try.pinned (OpenSpec.upto fnExactConvExactSpec)

/-- 'laws.FnExactSeriesOk', WHERE WHAT IT READS IS OF BULK AT MOST 1048576: true; the input reads as it did. -/
def fnExactSeriesOkUptoRow : OpenClaim := { program := "ytcmhifpbpdbfhaa", sum := "9c1b811c3cd07401ce5f4984f5fe2269f14b7928a1e91ab6d57b44c18007f540", func := "loop.example/g00710/laws.FnExactSeriesOk", spec := "fnExactSeriesOk", apart := false, narrowed := true }
def FnExactSeriesOkUptoSaid : Prop := fnExactSeriesOkUptoRow.holds Try.pinned (OpenSpec.upto fnExactSeriesOkSpec)

/-- 'laws.FnExactPointsOk', WHERE WHAT IT READS IS OF BULK AT MOST 1048576: true; the input reads as it did. -/
def fnExactPointsOkUptoRow : OpenClaim := { program := "ytcmhifpbpdbfhaa", sum := "9c1b811c3cd07401ce5f4984f5fe2269f14b7928a1e91ab6d57b44c18007f540", func := "loop.example/g00710/laws.FnExactPointsOk", spec := "fnExactPointsOk", apart := false, narrowed := true }
def FnExactPointsOkUptoSaid : Prop := fnExactPointsOkUptoRow.holds Try.pinned (OpenSpec.upto fnExactPointsOkSpec)

/-- 'laws.FnLogProduct', WHERE WHAT IT READS IS OF BULK AT MOST 1048576: true; the input reads as it did. -/
def fnLogProductUptoRow : OpenClaim := { program := "ytcmhifpbpdbfhaa", sum := "9c1b811c3cd07401ce5f4984f5fe2269f14b7928a1e91ab6d57b44c18007f540", func := "loop.example/g00710/laws.FnLogProduct", spec := "fnLogProduct", apart := false, narrowed := true }
def FnLogProductUptoSaid : Prop := fnLogProductUptoRow.holds Try.pinned (OpenSpec.upto fnLogProductSpec)

/-- 'laws.FnExactRingOne', WHERE WHAT IT READS IS OF BULK AT MOST 1048576: true; the input reads as it did. -/
def fnExactRingOneUptoRow : OpenClaim := { program := "ytcmhifpbpdbfhaa", sum := "9c1b811c3cd07401ce5f4984f5fe2269f14b7928a1e91ab6d57b44c18007f540", func := "loop.example/g00710/laws.FnExactRingOne", spec := "fnExactRingOne", apart := false, narrowed := true }
def FnExactRingOneUptoSaid : Prop := fnExactRingOneUptoRow.holds Try.pinned (OpenSpec.upto fnExactRingOneSpec)

/-- 'laws.FnExactJoined', WHERE WHAT IT READS IS OF BULK AT MOST 1048576: true; the input reads as it did. -/
def fnExactJoinedUptoRow : OpenClaim := { program := "ytcmhifpbpdbfhaa", sum := "9c1b811c3cd07401ce5f4984f5fe2269f14b7928a1e91ab6d57b44c18007f540", func := "loop.example/g00710/laws.FnExactJoined", spec := "fnExactJoined", apart := false, narrowed := true }
def FnExactJoinedUptoSaid : Prop := fnExactJoinedUptoRow.holds Try.pinned (OpenSpec.upto fnExactJoinedSpec)

/-- 'laws.FnExactSeriesDiff', WHERE WHAT IT READS IS OF BULK AT MOST 1048576: true; the input reads as it did. -/
def fnExactSeriesDiffUptoRow : OpenClaim := { program := "ytcmhifpbpdbfhaa", sum := "9c1b811c3cd07401ce5f4984f5fe2269f14b7928a1e91ab6d57b44c18007f540", func := "loop.example/g00710/laws.FnExactSeriesDiff", spec := "fnExactSeriesDiff", apart := false, narrowed := true }
def FnExactSeriesDiffUptoSaid : Prop := fnExactSeriesDiffUptoRow.holds Try.pinned (OpenSpec.upto fnExactSeriesDiffSpec)

/-- 'laws.FnCentered', WHERE WHAT IT READS IS OF BULK AT MOST 1048576: true; the input reads as it did. -/
def fnCenteredUptoRow : OpenClaim := { program := "ytcmhifpbpdbfhaa", sum := "9c1b811c3cd07401ce5f4984f5fe2269f14b7928a1e91ab6d57b44c18007f540", func := "loop.example/g00710/laws.FnCentered", spec := "fnCentered", apart := false, narrowed := true }
def FnCenteredUptoSaid : Prop := fnCenteredUptoRow.holds Try.pinned (OpenSpec.upto fnCenteredSpec)

/-- 'laws.FnExactCentered', WHERE WHAT IT READS IS OF BULK AT MOST 1048576: true; the input reads as it did. -/
def fnExactCenteredUptoRow : OpenClaim := { program := "ytcmhifpbpdbfhaa", sum := "9c1b811c3cd07401ce5f4984f5fe2269f14b7928a1e91ab6d57b44c18007f540", func := "loop.example/g00710/laws.FnExactCentered", spec := "fnExactCentered", apart := false, narrowed := true }
def FnExactCenteredUptoSaid : Prop := fnExactCenteredUptoRow.holds Try.pinned (OpenSpec.upto fnExactCenteredSpec)

end Rows
end Go.Proofs.Ytcmhifpbpdbfhaa
