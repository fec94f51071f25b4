/-
  No cell of these rows narrows 'for every input' (looked for: loops, veiled, ifaces, maps, wideKeys, modest, calm, conditions, laid).
  DERIVED. THE GIVEN ROWS OF THIS SEAT. 11 by the template 'for every input the law returns true; each argument reads behind the call as it read before'; 0 by the template 'total and deterministic' (their statements: YtcdhookenglhgaaTotals.lean).
  GIVEN WITH THE SEED: the statements are not yours to turn. If you find one false, say at which input.
  Laid BY PROGRAM, IN A SANDBOX (cutbox-rows.mjs): the forced cells as the released guide's own fill.sh prints them over the translation 22e60809d4200813… (all of the seat's roots in one cut). By AI agents, Wed Nov 11 2026. No macro, syntax, notation, axiom, sorry.
-/
import Derived.Test.YtcdhookenglhgaaChecked
import GoSem.Claim
import GoSem.ClaimJoined
import GoSem.ClaimMapViews
import Derived.JoinedTies
import Derived.KernelRfl
namespace Go.Proofs.Ytcdhookenglhgaa
/- THE CELL 'sum', in the pinned program and in every row, IS THE sha256 OF THE DUMP (.gsa) THAT YtcdhookenglhgaaProg.lean LOADS. Nothing in Lean hashes anything: it is a label: what it is worth is what the hold of that sum in a sandbox is worth. -/
noncomputable def Try.pinned : Pinned := { name := "ytcdhookenglhgaa", sum := "22e60809d42008133176a45e5fa2108d44d0125304f194af286e066093f07639", checked := Try.checked }
namespace Rows
def none {H : Type} : Left H := { results := [], args := [] }

/-- 'laws.FnSeriesPowers': WHATEVER THE INPUT: true; the input reads as it did. -/
def fnSeriesPowersSpec : ChangeSpec := { name := "fnSeriesPowers", fn := fun _ => fun
  | [d] => { results := [.lit (.bool true)], args := [d] }
  | _ => none }
def fnSeriesPowersRow : OpenClaim := { program := "ytcdhookenglhgaa", sum := "22e60809d42008133176a45e5fa2108d44d0125304f194af286e066093f07639", func := "loop.example/g00710/laws.FnSeriesPowers", spec := "fnSeriesPowers", apart := false }
def FnSeriesPowersSaid : Prop := fnSeriesPowersRow.holds Try.pinned (OpenSpec.ofChange fnSeriesPowersSpec)

/-- ITS FALSE NEIGHBOUR: 'it returns false'. Refute it at one input. -/
def fnSeriesPowersWrong : ChangeSpec := { name := "fnSeriesPowers", fn := fun _ => fun
  | [d] => { results := [.lit (.bool false)], args := [d] }
  | _ => none }
def FnSeriesPowersWrongFalsely : Prop := fnSeriesPowersRow.holds Try.pinned (OpenSpec.ofChange fnSeriesPowersWrong)

/-- 'laws.FnExactRejoin': WHATEVER THE INPUT: true; the input reads as it did. -/
def fnExactRejoinSpec : ChangeSpec := { name := "fnExactRejoin", fn := fun _ => fun
  | [d1, d2, d3] => { results := [.lit (.bool true)], args := [d1, d2, d3] }
  | _ => none }
def fnExactRejoinRow : OpenClaim := { program := "ytcdhookenglhgaa", sum := "22e60809d42008133176a45e5fa2108d44d0125304f194af286e066093f07639", func := "loop.example/g00710/laws.FnExactRejoin", spec := "fnExactRejoin", apart := false }
def FnExactRejoinSaid : Prop := fnExactRejoinRow.holds Try.pinned (OpenSpec.ofChange fnExactRejoinSpec)

/-- ITS FALSE NEIGHBOUR: 'it returns false'. Refute it at one input. -/
def fnExactRejoinWrong : ChangeSpec := { name := "fnExactRejoin", fn := fun _ => fun
  | [d1, d2, d3] => { results := [.lit (.bool false)], args := [d1, d2, d3] }
  | _ => none }
def FnExactRejoinWrongFalsely : Prop := fnExactRejoinRow.holds Try.pinned (OpenSpec.ofChange fnExactRejoinWrong)

/-- 'laws.FnExactStage': WHATEVER THE INPUT: true; the input reads as it did. -/
def fnExactStageSpec : ChangeSpec := { name := "fnExactStage", fn := fun _ => fun
  | [d1, d2, d3] => { results := [.lit (.bool true)], args := [d1, d2, d3] }
  | _ => none }
def fnExactStageRow : OpenClaim := { program := "ytcdhookenglhgaa", sum := "22e60809d42008133176a45e5fa2108d44d0125304f194af286e066093f07639", func := "loop.example/g00710/laws.FnExactStage", spec := "fnExactStage", apart := false }
def FnExactStageSaid : Prop := fnExactStageRow.holds Try.pinned (OpenSpec.ofChange fnExactStageSpec)

/-- ITS FALSE NEIGHBOUR: 'it returns false'. Refute it at one input. -/
def fnExactStageWrong : ChangeSpec := { name := "fnExactStage", fn := fun _ => fun
  | [d1, d2, d3] => { results := [.lit (.bool false)], args := [d1, d2, d3] }
  | _ => none }
def FnExactStageWrongFalsely : Prop := fnExactStageRow.holds Try.pinned (OpenSpec.ofChange fnExactStageWrong)

/-- 'laws.FnExactForward': WHATEVER THE INPUT: true; the input reads as it did. -/
def fnExactForwardSpec : ChangeSpec := { name := "fnExactForward", fn := fun _ => fun
  | [d1, d2] => { results := [.lit (.bool true)], args := [d1, d2] }
  | _ => none }
def fnExactForwardRow : OpenClaim := { program := "ytcdhookenglhgaa", sum := "22e60809d42008133176a45e5fa2108d44d0125304f194af286e066093f07639", func := "loop.example/g00710/laws.FnExactForward", spec := "fnExactForward", apart := false }
def FnExactForwardSaid : Prop := fnExactForwardRow.holds Try.pinned (OpenSpec.ofChange fnExactForwardSpec)

/-- ITS FALSE NEIGHBOUR: 'it returns false'. Refute it at one input. -/
def fnExactForwardWrong : ChangeSpec := { name := "fnExactForward", fn := fun _ => fun
  | [d1, d2] => { results := [.lit (.bool false)], args := [d1, d2] }
  | _ => none }
def FnExactForwardWrongFalsely : Prop := fnExactForwardRow.holds Try.pinned (OpenSpec.ofChange fnExactForwardWrong)

/-- 'laws.FnConvByFields': WHATEVER THE INPUT: true; the input reads as it did. -/
def fnConvByFieldsSpec : ChangeSpec := { name := "fnConvByFields", fn := fun _ => fun
  | [d] => { results := [.lit (.bool true)], args := [d] }
  | _ => none }
def fnConvByFieldsRow : OpenClaim := { program := "ytcdhookenglhgaa", sum := "22e60809d42008133176a45e5fa2108d44d0125304f194af286e066093f07639", func := "loop.example/g00710/laws.FnConvByFields", spec := "fnConvByFields", apart := false }
def FnConvByFieldsSaid : Prop := fnConvByFieldsRow.holds Try.pinned (OpenSpec.ofChange fnConvByFieldsSpec)

/-- ITS FALSE NEIGHBOUR: 'it returns false'. Refute it at one input. -/
def fnConvByFieldsWrong : ChangeSpec := { name := "fnConvByFields", fn := fun _ => fun
  | [d] => { results := [.lit (.bool false)], args := [d] }
  | _ => none }
def FnConvByFieldsWrongFalsely : Prop := fnConvByFieldsRow.holds Try.pinned (OpenSpec.ofChange fnConvByFieldsWrong)

/-- 'laws.FnExactSeriesLog': WHATEVER THE INPUT: true; the input reads as it did. -/
def fnExactSeriesLogSpec : ChangeSpec := { name := "fnExactSeriesLog", fn := fun _ => fun
  | [d1, d2] => { results := [.lit (.bool true)], args := [d1, d2] }
  | _ => none }
def fnExactSeriesLogRow : OpenClaim := { program := "ytcdhookenglhgaa", sum := "22e60809d42008133176a45e5fa2108d44d0125304f194af286e066093f07639", func := "loop.example/g00710/laws.FnExactSeriesLog", spec := "fnExactSeriesLog", apart := false }
def FnExactSeriesLogSaid : Prop := fnExactSeriesLogRow.holds Try.pinned (OpenSpec.ofChange fnExactSeriesLogSpec)

/-- ITS FALSE NEIGHBOUR: 'it returns false'. Refute it at one input. -/
def fnExactSeriesLogWrong : ChangeSpec := { name := "fnExactSeriesLog", fn := fun _ => fun
  | [d1, d2] => { results := [.lit (.bool false)], args := [d1, d2] }
  | _ => none }
def FnExactSeriesLogWrongFalsely : Prop := fnExactSeriesLogRow.holds Try.pinned (OpenSpec.ofChange fnExactSeriesLogWrong)

/-- 'laws.FnExactSeriesPow': WHATEVER THE INPUT: true; the input reads as it did. -/
def fnExactSeriesPowSpec : ChangeSpec := { name := "fnExactSeriesPow", fn := fun _ => fun
  | [d1, d2, d3] => { results := [.lit (.bool true)], args := [d1, d2, d3] }
  | _ => none }
def fnExactSeriesPowRow : OpenClaim := { program := "ytcdhookenglhgaa", sum := "22e60809d42008133176a45e5fa2108d44d0125304f194af286e066093f07639", func := "loop.example/g00710/laws.FnExactSeriesPow", spec := "fnExactSeriesPow", apart := false }
def FnExactSeriesPowSaid : Prop := fnExactSeriesPowRow.holds Try.pinned (OpenSpec.ofChange fnExactSeriesPowSpec)

/-- ITS FALSE NEIGHBOUR: 'it returns false'. Refute it at one input. -/
def fnExactSeriesPowWrong : ChangeSpec := { name := "fnExactSeriesPow", fn := fun _ => fun
  | [d1, d2, d3] => { results := [.lit (.bool false)], args := [d1, d2, d3] }
  | _ => none }
def FnExactSeriesPowWrongFalsely : Prop := fnExactSeriesPowRow.holds Try.pinned (OpenSpec.ofChange fnExactSeriesPowWrong)

/-- 'laws.FnForwardBack': WHATEVER THE INPUT: true; the input reads as it did. -/
def fnForwardBackSpec : ChangeSpec := { name := "fnForwardBack", fn := fun _ => fun
  | [d] => { results := [.lit (.bool true)], args := [d] }
  | _ => none }
def fnForwardBackRow : OpenClaim := { program := "ytcdhookenglhgaa", sum := "22e60809d42008133176a45e5fa2108d44d0125304f194af286e066093f07639", func := "loop.example/g00710/laws.FnForwardBack", spec := "fnForwardBack", apart := false }
def FnForwardBackSaid : Prop := fnForwardBackRow.holds Try.pinned (OpenSpec.ofChange fnForwardBackSpec)

/-- ITS FALSE NEIGHBOUR: 'it returns false'. Refute it at one input. -/
def fnForwardBackWrong : ChangeSpec := { name := "fnForwardBack", fn := fun _ => fun
  | [d] => { results := [.lit (.bool false)], args := [d] }
  | _ => none }
def FnForwardBackWrongFalsely : Prop := fnForwardBackRow.holds Try.pinned (OpenSpec.ofChange fnForwardBackWrong)

/-- 'laws.FnExactOddValues': WHATEVER THE INPUT: true; the input reads as it did. -/
def fnExactOddValuesSpec : ChangeSpec := { name := "fnExactOddValues", fn := fun _ => fun
  | [d1, d2] => { results := [.lit (.bool true)], args := [d1, d2] }
  | _ => none }
def fnExactOddValuesRow : OpenClaim := { program := "ytcdhookenglhgaa", sum := "22e60809d42008133176a45e5fa2108d44d0125304f194af286e066093f07639", func := "loop.example/g00710/laws.FnExactOddValues", spec := "fnExactOddValues", apart := false }
def FnExactOddValuesSaid : Prop := fnExactOddValuesRow.holds Try.pinned (OpenSpec.ofChange fnExactOddValuesSpec)

/-- ITS FALSE NEIGHBOUR: 'it returns false'. Refute it at one input. -/
def fnExactOddValuesWrong : ChangeSpec := { name := "fnExactOddValues", fn := fun _ => fun
  | [d1, d2] => { results := [.lit (.bool false)], args := [d1, d2] }
  | _ => none }
def FnExactOddValuesWrongFalsely : Prop := fnExactOddValuesRow.holds Try.pinned (OpenSpec.ofChange fnExactOddValuesWrong)

/-- 'laws.FnExactNorm': WHATEVER THE INPUT: true; the input reads as it did. -/
def fnExactNormSpec : ChangeSpec := { name := "fnExactNorm", fn := fun _ => fun
  | [d1, d2] => { results := [.lit (.bool true)], args := [d1, d2] }
  | _ => none }
def fnExactNormRow : OpenClaim := { program := "ytcdhookenglhgaa", sum := "22e60809d42008133176a45e5fa2108d44d0125304f194af286e066093f07639", func := "loop.example/g00710/laws.FnExactNorm", spec := "fnExactNorm", apart := false }
def FnExactNormSaid : Prop := fnExactNormRow.holds Try.pinned (OpenSpec.ofChange fnExactNormSpec)

/-- ITS FALSE NEIGHBOUR: 'it returns false'. Refute it at one input. -/
def fnExactNormWrong : ChangeSpec := { name := "fnExactNorm", fn := fun _ => fun
  | [d1, d2] => { results := [.lit (.bool false)], args := [d1, d2] }
  | _ => none }
def FnExactNormWrongFalsely : Prop := fnExactNormRow.holds Try.pinned (OpenSpec.ofChange fnExactNormWrong)

/-- 'laws.FnEnergy': WHATEVER THE INPUT: true; the input reads as it did. -/
def fnEnergySpec : ChangeSpec := { name := "fnEnergy", fn := fun _ => fun
  | [d] => { results := [.lit (.bool true)], args := [d] }
  | _ => none }
def fnEnergyRow : OpenClaim := { program := "ytcdhookenglhgaa", sum := "22e60809d42008133176a45e5fa2108d44d0125304f194af286e066093f07639", func := "loop.example/g00710/laws.FnEnergy", spec := "fnEnergy", apart := false }
def FnEnergySaid : Prop := fnEnergyRow.holds Try.pinned (OpenSpec.ofChange fnEnergySpec)

/-- ITS FALSE NEIGHBOUR: 'it returns false'. Refute it at one input. -/
def fnEnergyWrong : ChangeSpec := { name := "fnEnergy", fn := fun _ => fun
  | [d] => { results := [.lit (.bool false)], args := [d] }
  | _ => none }
def FnEnergyWrongFalsely : Prop := fnEnergyRow.holds Try.pinned (OpenSpec.ofChange fnEnergyWrong)

/- THE SECOND FORM. 'bulk': how many values and letters a reading holds, each counted each time it is reached (what is shared counts as often as it is met; a slice's spare places count too). A statement '..UptoSaid' is the law's where the arguments, and the package variables that the reading takes, are together of bulk at most 1048576: NARROWER than '..Said'. Prove '..Said' where nothing that the law and all that it calls make is longer than what came in: it says more and counts as full. Else prove '..UptoSaid'. A law counts once. -/
mutual
def uptoBulk {H : Type} : DataW H → Nat
  | .lit (.string bytes) => bytes.length + 1
  | .lit _ => 1
  | .nil => 1
  | .ptr d => uptoBulk d + 1
  | .slice elems spare => uptoBulkAll elems + uptoBulkAll spare + 1
  | .agg parts => uptoBulkAll parts + 1
  | .iface _ d => uptoBulk d + 1
  | .map entries => uptoBulkEntries entries + 1
  | .held _ => 1
def uptoBulkAll {H : Type} : List (DataW H) → Nat
  | [] => 0
  | d :: r => uptoBulk d + uptoBulkAll r
def uptoBulkEntries {H : Type} : List (Lit × DataW H) → Nat
  | [] => 0
  | x :: r => uptoBulkEntry x + uptoBulkEntries r
def uptoBulkEntry {H : Type} : Lit × DataW H → Nat
  | (.string bytes, d) => bytes.length + uptoBulk d + 1
  | (_, d) => uptoBulk d + 1
 end
def uptoSmall : (H : Type) → List (DataW H) → Bool := fun _ ds => decide (uptoBulkAll ds ≤ 1048576)
def OpenSpec.upto (s : _root_.Go.ChangeSpec) : _root_.Go.OpenSpec := { _root_.Go.OpenSpec.ofChange s with cond := some uptoSmall }

/-- 'laws.FnSeriesPowers', WHERE WHAT IT READS IS OF BULK AT MOST 1048576: true; the input reads as it did. -/
def fnSeriesPowersUptoRow : OpenClaim := { program := "ytcdhookenglhgaa", sum := "22e60809d42008133176a45e5fa2108d44d0125304f194af286e066093f07639", func := "loop.example/g00710/laws.FnSeriesPowers", spec := "fnSeriesPowers", apart := false, narrowed := true }
def FnSeriesPowersUptoSaid : Prop := fnSeriesPowersUptoRow.holds Try.pinned (OpenSpec.upto fnSeriesPowersSpec)

/-- 'laws.FnExactRejoin', WHERE WHAT IT READS IS OF BULK AT MOST 1048576: true; the input reads as it did. -/
def fnExactRejoinUptoRow : OpenClaim := { program := "ytcdhookenglhgaa", sum := "22e60809d42008133176a45e5fa2108d44d0125304f194af286e066093f07639", func := "loop.example/g00710/laws.FnExactRejoin", spec := "fnExactRejoin", apart := false, narrowed := true }
def FnExactRejoinUptoSaid : Prop := fnExactRejoinUptoRow.holds Try.pinned (OpenSpec.upto fnExactRejoinSpec)

/-- 'laws.FnExactStage', WHERE WHAT IT READS IS OF BULK AT MOST 1048576: true; the input reads as it did. -/
def fnExactStageUptoRow : OpenClaim := { program := "ytcdhookenglhgaa", sum := "22e60809d42008133176a45e5fa2108d44d0125304f194af286e066093f07639", func := "loop.example/g00710/laws.FnExactStage", spec := "fnExactStage", apart := false, narrowed := true }
def FnExactStageUptoSaid : Prop := fnExactStageUptoRow.holds Try.pinned (OpenSpec.upto fnExactStageSpec)

/-- 'laws.FnExactForward', WHERE WHAT IT READS IS OF BULK AT MOST 1048576: true; the input reads as it did. -/
def fnExactForwardUptoRow : OpenClaim := { program := "ytcdhookenglhgaa", sum := "22e60809d42008133176a45e5fa2108d44d0125304f194af286e066093f07639", func := "loop.example/g00710/laws.FnExactForward", spec := "fnExactForward", apart := false, narrowed := true }
def FnExactForwardUptoSaid : Prop := fnExactForwardUptoRow.holds Try.pinned (OpenSpec.upto fnExactForwardSpec)

/-- 'laws.FnConvByFields', WHERE WHAT IT READS IS OF BULK AT MOST 1048576: true; the input reads as it did. -/
def fnConvByFieldsUptoRow : OpenClaim := { program := "ytcdhookenglhgaa", sum := "22e60809d42008133176a45e5fa2108d44d0125304f194af286e066093f07639", func := "loop.example/g00710/laws.FnConvByFields", spec := "fnConvByFields", apart := false, narrowed := true }
def FnConvByFieldsUptoSaid : Prop := fnConvByFieldsUptoRow.holds Try.pinned (OpenSpec.upto fnConvByFieldsSpec)

/-- 'laws.FnExactSeriesLog', WHERE WHAT IT READS IS OF BULK AT MOST 1048576: true; the input reads as it did. -/
def fnExactSeriesLogUptoRow : OpenClaim := { program := "ytcdhookenglhgaa", sum := "22e60809d42008133176a45e5fa2108d44d0125304f194af286e066093f07639", func := "loop.example/g00710/laws.FnExactSeriesLog", spec := "fnExactSeriesLog", apart := false, narrowed := true }
def FnExactSeriesLogUptoSaid : Prop := fnExactSeriesLogUptoRow.holds Try.pinned (OpenSpec.upto fnExactSeriesLogSpec)

/-- 'laws.FnExactSeriesPow', WHERE WHAT IT READS IS OF BULK AT MOST 1048576: true; the input reads as it did. -/
def fnExactSeriesPowUptoRow : OpenClaim := { program := "ytcdhookenglhgaa", sum := "22e60809d42008133176a45e5fa2108d44d0125304f194af286e066093f07639", func := "loop.example/g00710/laws.FnExactSeriesPow", spec := "fnExactSeriesPow", apart := false, narrowed := true }
def FnExactSeriesPowUptoSaid : Prop := fnExactSeriesPowUptoRow.holds Try.pinned (OpenSpec.upto fnExactSeriesPowSpec)

/-- 'laws.FnForwardBack', WHERE WHAT IT READS IS OF BULK AT MOST 1048576: true; the input reads as it did. -/
def fnForwardBackUptoRow : OpenClaim := { program := "ytcdhookenglhgaa", sum := "22e60809d42008133176a45e5fa2108d44d0125304f194af286e066093f07639", func := "loop.example/g00710/laws.FnForwardBack", spec := "fnForwardBack", apart := false, narrowed := true }
def FnForwardBackUptoSaid : Prop := fnForwardBackUptoRow.holds Try.pinned (OpenSpec.upto fnForwardBackSpec)

/-- 'laws.FnExactOddValues', WHERE WHAT IT READS IS OF BULK AT MOST 1048576: true; the input reads as it did. -/
def fnExactOddValuesUptoRow : OpenClaim := { program := "ytcdhookenglhgaa", sum := "22e60809d42008133176a45e5fa2108d44d0125304f194af286e066093f07639", func := "loop.example/g00710/laws.FnExactOddValues", spec := "fnExactOddValues", apart := false, narrowed := true }
def FnExactOddValuesUptoSaid : Prop := fnExactOddValuesUptoRow.holds Try.pinned (OpenSpec.upto fnExactOddValuesSpec)

/-- 'laws.FnExactNorm', WHERE WHAT IT READS IS OF BULK AT MOST 1048576: true; the input reads as it did. -/
def fnExactNormUptoRow : OpenClaim := { program := "ytcdhookenglhgaa", sum := "22e60809d42008133176a45e5fa2108d44d0125304f194af286e066093f07639", func := "loop.example/g00710/laws.FnExactNorm", spec := "fnExactNorm", apart := false, narrowed := true }
def FnExactNormUptoSaid : Prop := fnExactNormUptoRow.holds Try.pinned (OpenSpec.upto fnExactNormSpec)

/-- 'laws.FnEnergy', WHERE WHAT IT READS IS OF BULK AT MOST 1048576: true; the input reads as it did. -/
def fnEnergyUptoRow : OpenClaim := { program := "ytcdhookenglhgaa", sum := "22e60809d42008133176a45e5fa2108d44d0125304f194af286e066093f07639", func := "loop.example/g00710/laws.FnEnergy", spec := "fnEnergy", apart := false, narrowed := true }
def FnEnergyUptoSaid : Prop := fnEnergyUptoRow.holds Try.pinned (OpenSpec.upto fnEnergySpec)

end Rows
end Go.Proofs.Ytcdhookenglhgaa
