/-
  No cell of these rows narrows 'for every input' (looked for: loops, veiled, ifaces, maps, wideKeys, modest, calm, conditions, laid).
  DERIVED. THE GIVEN ROWS OF THIS SEAT. 9 by the template 'for every input the law returns true; each argument reads behind the call as it read before'; 0 by the template 'total and deterministic' (their statements: YtemffnnndjpleaaTotals.lean).
  GIVEN WITH THE SEED: the statements are not yours to turn. If you find one false, say at which input.
  Laid BY PROGRAM, IN A SANDBOX (cutbox-rows.mjs): the forced cells as the released guide's own fill.sh prints them over the translation 790ab4f4f1b2a429… (all of the seat's roots in one cut). By AI agents, Wed Nov 11 2026. No macro, syntax, notation, axiom, sorry.
-/
import Derived.Test.YtemffnnndjpleaaChecked
import GoSem.Claim
import GoSem.ClaimJoined
import GoSem.ClaimMapViews
import Derived.JoinedTies
import Derived.KernelRfl
namespace Go.Proofs.Ytemffnnndjpleaa
/- THE CELL 'sum', in the pinned program and in every row, IS THE sha256 OF THE DUMP (.gsa) THAT YtemffnnndjpleaaProg.lean LOADS. Nothing in Lean hashes anything: it is a label: what it is worth is what the hold of that sum in a sandbox is worth. -/
noncomputable def Try.pinned : Pinned := { name := "ytemffnnndjpleaa", sum := "790ab4f4f1b2a4293e2c6771ee24a0e29854c67a6d9749c4a75c7d40c61b106a", checked := Try.checked }
namespace Rows
def none {H : Type} : Left H := { results := [], args := [] }

/-- 'laws.FnExactSeriesPow': WHATEVER THE INPUT: true; the input reads as it did. -/
def fnExactSeriesPowSpec : ChangeSpec := { name := "fnExactSeriesPow", fn := fun _ => fun
  | [d1, d2, d3] => { results := [.lit (.bool true)], args := [d1, d2, d3] }
  | _ => none }
def fnExactSeriesPowRow : OpenClaim := { program := "ytemffnnndjpleaa", sum := "790ab4f4f1b2a4293e2c6771ee24a0e29854c67a6d9749c4a75c7d40c61b106a", func := "loop.example/g00710/laws.FnExactSeriesPow", spec := "fnExactSeriesPow", apart := false }
def FnExactSeriesPowSaid : Prop := fnExactSeriesPowRow.holds Try.pinned (OpenSpec.ofChange fnExactSeriesPowSpec)

/-- ITS FALSE NEIGHBOUR: 'it returns false'. Refute it at one input. -/
def fnExactSeriesPowWrong : ChangeSpec := { name := "fnExactSeriesPow", fn := fun _ => fun
  | [d1, d2, d3] => { results := [.lit (.bool false)], args := [d1, d2, d3] }
  | _ => none }
def FnExactSeriesPowWrongFalsely : Prop := fnExactSeriesPowRow.holds Try.pinned (OpenSpec.ofChange fnExactSeriesPowWrong)

/-- 'laws.FnExactOddValues': WHATEVER THE INPUT: true; the input reads as it did. -/
def fnExactOddValuesSpec : ChangeSpec := { name := "fnExactOddValues", fn := fun _ => fun
  | [d1, d2] => { results := [.lit (.bool true)], args := [d1, d2] }
  | _ => none }
def fnExactOddValuesRow : OpenClaim := { program := "ytemffnnndjpleaa", sum := "790ab4f4f1b2a4293e2c6771ee24a0e29854c67a6d9749c4a75c7d40c61b106a", func := "loop.example/g00710/laws.FnExactOddValues", spec := "fnExactOddValues", apart := false }
def FnExactOddValuesSaid : Prop := fnExactOddValuesRow.holds Try.pinned (OpenSpec.ofChange fnExactOddValuesSpec)

/-- ITS FALSE NEIGHBOUR: 'it returns false'. Refute it at one input. -/
def fnExactOddValuesWrong : ChangeSpec := { name := "fnExactOddValues", fn := fun _ => fun
  | [d1, d2] => { results := [.lit (.bool false)], args := [d1, d2] }
  | _ => none }
def FnExactOddValuesWrongFalsely : Prop := fnExactOddValuesRow.holds Try.pinned (OpenSpec.ofChange fnExactOddValuesWrong)

/-- 'laws.FnExactNorm': WHATEVER THE INPUT: true; the input reads as it did. -/
def fnExactNormSpec : ChangeSpec := { name := "fnExactNorm", fn := fun _ => fun
  | [d1, d2] => { results := [.lit (.bool true)], args := [d1, d2] }
  | _ => none }
def fnExactNormRow : OpenClaim := { program := "ytemffnnndjpleaa", sum := "790ab4f4f1b2a4293e2c6771ee24a0e29854c67a6d9749c4a75c7d40c61b106a", func := "loop.example/g00710/laws.FnExactNorm", spec := "fnExactNorm", apart := false }
def FnExactNormSaid : Prop := fnExactNormRow.holds Try.pinned (OpenSpec.ofChange fnExactNormSpec)

/-- ITS FALSE NEIGHBOUR: 'it returns false'. Refute it at one input. -/
def fnExactNormWrong : ChangeSpec := { name := "fnExactNorm", fn := fun _ => fun
  | [d1, d2] => { results := [.lit (.bool false)], args := [d1, d2] }
  | _ => none }
def FnExactNormWrongFalsely : Prop := fnExactNormRow.holds Try.pinned (OpenSpec.ofChange fnExactNormWrong)

/-- 'laws.FnConvByFields': WHATEVER THE INPUT: true; the input reads as it did. -/
def fnConvByFieldsSpec : ChangeSpec := { name := "fnConvByFields", fn := fun _ => fun
  | [d] => { results := [.lit (.bool true)], args := [d] }
  | _ => none }
def fnConvByFieldsRow : OpenClaim := { program := "ytemffnnndjpleaa", sum := "790ab4f4f1b2a4293e2c6771ee24a0e29854c67a6d9749c4a75c7d40c61b106a", func := "loop.example/g00710/laws.FnConvByFields", spec := "fnConvByFields", apart := false }
def FnConvByFieldsSaid : Prop := fnConvByFieldsRow.holds Try.pinned (OpenSpec.ofChange fnConvByFieldsSpec)

/-- ITS FALSE NEIGHBOUR: 'it returns false'. Refute it at one input. -/
def fnConvByFieldsWrong : ChangeSpec := { name := "fnConvByFields", fn := fun _ => fun
  | [d] => { results := [.lit (.bool false)], args := [d] }
  | _ => none }
def FnConvByFieldsWrongFalsely : Prop := fnConvByFieldsRow.holds Try.pinned (OpenSpec.ofChange fnConvByFieldsWrong)

/-- 'laws.FnSeriesPowers': WHATEVER THE INPUT: true; the input reads as it did. -/
def fnSeriesPowersSpec : ChangeSpec := { name := "fnSeriesPowers", fn := fun _ => fun
  | [d] => { results := [.lit (.bool true)], args := [d] }
  | _ => none }
def fnSeriesPowersRow : OpenClaim := { program := "ytemffnnndjpleaa", sum := "790ab4f4f1b2a4293e2c6771ee24a0e29854c67a6d9749c4a75c7d40c61b106a", func := "loop.example/g00710/laws.FnSeriesPowers", spec := "fnSeriesPowers", apart := false }
def FnSeriesPowersSaid : Prop := fnSeriesPowersRow.holds Try.pinned (OpenSpec.ofChange fnSeriesPowersSpec)

/-- ITS FALSE NEIGHBOUR: 'it returns false'. Refute it at one input. -/
def fnSeriesPowersWrong : ChangeSpec := { name := "fnSeriesPowers", fn := fun _ => fun
  | [d] => { results := [.lit (.bool false)], args := [d] }
  | _ => none }
def FnSeriesPowersWrongFalsely : Prop := fnSeriesPowersRow.holds Try.pinned (OpenSpec.ofChange fnSeriesPowersWrong)

/-- 'laws.FnTwistedFold': WHATEVER THE INPUT: true; the input reads as it did. -/
def fnTwistedFoldSpec : ChangeSpec := { name := "fnTwistedFold", fn := fun _ => fun
  | [d] => { results := [.lit (.bool true)], args := [d] }
  | _ => none }
def fnTwistedFoldRow : OpenClaim := { program := "ytemffnnndjpleaa", sum := "790ab4f4f1b2a4293e2c6771ee24a0e29854c67a6d9749c4a75c7d40c61b106a", func := "loop.example/g00710/laws.FnTwistedFold", spec := "fnTwistedFold", apart := false }
def FnTwistedFoldSaid : Prop := fnTwistedFoldRow.holds Try.pinned (OpenSpec.ofChange fnTwistedFoldSpec)

/-- ITS FALSE NEIGHBOUR: 'it returns false'. Refute it at one input. -/
def fnTwistedFoldWrong : ChangeSpec := { name := "fnTwistedFold", fn := fun _ => fun
  | [d] => { results := [.lit (.bool false)], args := [d] }
  | _ => none }
def FnTwistedFoldWrongFalsely : Prop := fnTwistedFoldRow.holds Try.pinned (OpenSpec.ofChange fnTwistedFoldWrong)

/-- 'laws.FnLogProduct': WHATEVER THE INPUT: true; the input reads as it did. -/
def fnLogProductSpec : ChangeSpec := { name := "fnLogProduct", fn := fun _ => fun
  | [d] => { results := [.lit (.bool true)], args := [d] }
  | _ => none }
def fnLogProductRow : OpenClaim := { program := "ytemffnnndjpleaa", sum := "790ab4f4f1b2a4293e2c6771ee24a0e29854c67a6d9749c4a75c7d40c61b106a", func := "loop.example/g00710/laws.FnLogProduct", spec := "fnLogProduct", apart := false }
def FnLogProductSaid : Prop := fnLogProductRow.holds Try.pinned (OpenSpec.ofChange fnLogProductSpec)

/-- ITS FALSE NEIGHBOUR: 'it returns false'. Refute it at one input. -/
def fnLogProductWrong : ChangeSpec := { name := "fnLogProduct", fn := fun _ => fun
  | [d] => { results := [.lit (.bool false)], args := [d] }
  | _ => none }
def FnLogProductWrongFalsely : Prop := fnLogProductRow.holds Try.pinned (OpenSpec.ofChange fnLogProductWrong)

/-- 'laws.FnLogExp': WHATEVER THE INPUT: true; the input reads as it did. -/
def fnLogExpSpec : ChangeSpec := { name := "fnLogExp", fn := fun _ => fun
  | [d] => { results := [.lit (.bool true)], args := [d] }
  | _ => none }
def fnLogExpRow : OpenClaim := { program := "ytemffnnndjpleaa", sum := "790ab4f4f1b2a4293e2c6771ee24a0e29854c67a6d9749c4a75c7d40c61b106a", func := "loop.example/g00710/laws.FnLogExp", spec := "fnLogExp", apart := false }
def FnLogExpSaid : Prop := fnLogExpRow.holds Try.pinned (OpenSpec.ofChange fnLogExpSpec)

/-- ITS FALSE NEIGHBOUR: 'it returns false'. Refute it at one input. -/
def fnLogExpWrong : ChangeSpec := { name := "fnLogExp", fn := fun _ => fun
  | [d] => { results := [.lit (.bool false)], args := [d] }
  | _ => none }
def FnLogExpWrongFalsely : Prop := fnLogExpRow.holds Try.pinned (OpenSpec.ofChange fnLogExpWrong)

/-- 'laws.FnSeriesInto': WHATEVER THE INPUT: true; the input reads as it did. -/
def fnSeriesIntoSpec : ChangeSpec := { name := "fnSeriesInto", fn := fun _ => fun
  | [d] => { results := [.lit (.bool true)], args := [d] }
  | _ => none }
def fnSeriesIntoRow : OpenClaim := { program := "ytemffnnndjpleaa", sum := "790ab4f4f1b2a4293e2c6771ee24a0e29854c67a6d9749c4a75c7d40c61b106a", func := "loop.example/g00710/laws.FnSeriesInto", spec := "fnSeriesInto", apart := false }
def FnSeriesIntoSaid : Prop := fnSeriesIntoRow.holds Try.pinned (OpenSpec.ofChange fnSeriesIntoSpec)

/-- ITS FALSE NEIGHBOUR: 'it returns false'. Refute it at one input. -/
def fnSeriesIntoWrong : ChangeSpec := { name := "fnSeriesInto", fn := fun _ => fun
  | [d] => { results := [.lit (.bool false)], args := [d] }
  | _ => none }
def FnSeriesIntoWrongFalsely : Prop := fnSeriesIntoRow.holds Try.pinned (OpenSpec.ofChange fnSeriesIntoWrong)

/- THE SECOND FORM. 'bulk': how many values and letters a reading holds, each counted each time it is reached (what is shared counts as often as it is met; a slice's spare places count too). A statement '..UptoSaid' is the law's where the arguments, and the package variables that the reading takes, are together of bulk at most 1048576: NARROWER than '..Said'. Prove '..Said' where nothing that the law and all that it calls make is longer than what came in: it says more and counts as full. Else prove '..UptoSaid'. A law counts once. -/
mutual
def uptoBulk {H : Type} : DataW H → Nat
  | .lit (.string bytes) => bytes.length + 1
  | .lit _ => 1
  | .nil => 1
  | .ptr d => uptoBulk d + 1
  | .slice elems spare => uptoBulkAll elems + uptoBulkAll spare + 1
  | .agg parts => uptoBulkAll parts + 1
  | .iface _ d => uptoBulk d + 1
  | .map entries => uptoBulkEntries entries + 1
  | .held _ => 1
def uptoBulkAll {H : Type} : List (DataW H) → Nat
  | [] => 0
  | d :: r => uptoBulk d + uptoBulkAll r
def uptoBulkEntries {H : Type} : List (Lit × DataW H) → Nat
  | [] => 0
  | x :: r => uptoBulkEntry x + uptoBulkEntries r
def uptoBulkEntry {H : Type} : Lit × DataW H → Nat
  | (.string bytes, d) => bytes.length + uptoBulk d + 1
  | (_, d) => uptoBulk d + 1
 end
def uptoSmall : (H : Type) → List (DataW H) → Bool := fun _ ds => decide (uptoBulkAll ds ≤ 1048576)
def OpenSpec.upto (s : _root_.Go.ChangeSpec) : _root_.Go.OpenSpec := { _root_.Go.OpenSpec.ofChange s with cond := some uptoSmall }

/-- 'laws.FnExactSeriesPow', WHERE WHAT IT READS IS OF BULK AT MOST 1048576: true; the input reads as it did. -/
def fnExactSeriesPowUptoRow : OpenClaim := { program := "ytemffnnndjpleaa", sum := "790ab4f4f1b2a4293e2c6771ee24a0e29854c67a6d9749c4a75c7d40c61b106a", func := "loop.example/g00710/laws.FnExactSeriesPow", spec := "fnExactSeriesPow", apart := false, narrowed := true }
def FnExactSeriesPowUptoSaid : Prop := fnExactSeriesPowUptoRow.holds Try.pinned (OpenSpec.upto fnExactSeriesPowSpec)

/-- 'laws.FnExactOddValues', WHERE WHAT IT READS IS OF BULK AT MOST 1048576: true; the input reads as it did. -/
def fnExactOddValuesUptoRow : OpenClaim := { program := "ytemffnnndjpleaa", sum := "790ab4f4f1b2a4293e2c6771ee24a0e29854c67a6d9749c4a75c7d40c61b106a", func := "loop.example/g00710/laws.FnExactOddValues", spec := "fnExactOddValues", apart := false, narrowed := true }
def FnExactOddValuesUptoSaid : Prop := fnExactOddValuesUptoRow.holds Try.pinned (OpenSpec.upto fnExactOddValuesSpec)

/-- 'laws.FnExactNorm', WHERE WHAT IT READS IS OF BULK AT MOST 1048576: true; the input reads as it did. -/
def fnExactNormUptoRow : OpenClaim := { program := "ytemffnnndjpleaa", sum := "790ab4f4f1b2a4293e2c6771ee24a0e29854c67a6d9749c4a75c7d40c61b106a", func := "loop.example/g00710/laws.FnExactNorm", spec := "fnExactNorm", apart := false, narrowed := true }
def FnExactNormUptoSaid : Prop := fnExactNormUptoRow.holds Try.pinned (OpenSpec.upto fnExactNormSpec)

/-- 'laws.FnConvByFields', WHERE WHAT IT READS IS OF BULK AT MOST 1048576: true; the input reads as it did. -/
def fnConvByFieldsUptoRow : OpenClaim := { program := "ytemffnnndjpleaa", sum := "790ab4f4f1b2a4293e2c6771ee24a0e29854c67a6d9749c4a75c7d40c61b106a", func := "loop.example/g00710/laws.FnConvByFields", spec := "fnConvByFields", apart := false, narrowed := true }
def FnConvByFieldsUptoSaid : Prop := fnConvByFieldsUptoRow.holds Try.pinned (OpenSpec.upto fnConvByFieldsSpec)

/-- 'laws.FnSeriesPowers', WHERE WHAT IT READS IS OF BULK AT MOST 1048576: true; the input reads as it did. -/
def fnSeriesPowersUptoRow : OpenClaim := { program := "ytemffnnndjpleaa", sum := "790ab4f4f1b2a4293e2c6771ee24a0e29854c67a6d9749c4a75c7d40c61b106a", func := "loop.example/g00710/laws.FnSeriesPowers", spec := "fnSeriesPowers", apart := false, narrowed := true }
def FnSeriesPowersUptoSaid : Prop := fnSeriesPowersUptoRow.holds Try.pinned (OpenSpec.upto fnSeriesPowersSpec)

/-- 'laws.FnTwistedFold', WHERE WHAT IT READS IS OF BULK AT MOST 1048576: true; the input reads as it did. -/
def fnTwistedFoldUptoRow : OpenClaim := { program := "ytemffnnndjpleaa", sum := "790ab4f4f1b2a4293e2c6771ee24a0e29854c67a6d9749c4a75c7d40c61b106a", func := "loop.example/g00710/laws.FnTwistedFold", spec := "fnTwistedFold", apart := false, narrowed := true }
def FnTwistedFoldUptoSaid : Prop := fnTwistedFoldUptoRow.holds Try.pinned (OpenSpec.upto fnTwistedFoldSpec)

/-- 'laws.FnLogProduct', WHERE WHAT IT READS IS OF BULK AT MOST 1048576: true; the input reads as it did. -/
def fnLogProductUptoRow : OpenClaim := { program := "ytemffnnndjpleaa", sum := "790ab4f4f1b2a4293e2c6771ee24a0e29854c67a6d9749c4a75c7d40c61b106a", func := "loop.example/g00710/laws.FnLogProduct", spec := "fnLogProduct", apart := false, narrowed := true }
def FnLogProductUptoSaid : Prop := fnLogProductUptoRow.holds Try.pinned (OpenSpec.upto fnLogProductSpec)

/-- 'laws.FnLogExp', WHERE WHAT IT READS IS OF BULK AT MOST 1048576: true; the input reads as it did. -/
def fnLogExpUptoRow : OpenClaim := { program := "ytemffnnndjpleaa", sum := "790ab4f4f1b2a4293e2c6771ee24a0e29854c67a6d9749c4a75c7d40c61b106a", func := "loop.example/g00710/laws.FnLogExp", spec := "fnLogExp", apart := false, narrowed := true }
def FnLogExpUptoSaid : Prop := fnLogExpUptoRow.holds Try.pinned (OpenSpec.upto fnLogExpSpec)

/-- 'laws.FnSeriesInto', WHERE WHAT IT READS IS OF BULK AT MOST 1048576: true; the input reads as it did. -/
def fnSeriesIntoUptoRow : OpenClaim := { program := "ytemffnnndjpleaa", sum := "790ab4f4f1b2a4293e2c6771ee24a0e29854c67a6d9749c4a75c7d40c61b106a", func := "loop.example/g00710/laws.FnSeriesInto", spec := "fnSeriesInto", apart := false, narrowed := true }
def FnSeriesIntoUptoSaid : Prop := fnSeriesIntoUptoRow.holds Try.pinned (OpenSpec.upto fnSeriesIntoSpec)

end Rows
end Go.Proofs.Ytemffnnndjpleaa
