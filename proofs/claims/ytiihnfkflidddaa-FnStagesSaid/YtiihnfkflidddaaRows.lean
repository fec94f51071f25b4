/-
  No cell of these rows narrows 'for every input' (looked for: loops, veiled, ifaces, maps, wideKeys, modest, calm, conditions, laid).
  DERIVED. THE GIVEN ROWS OF THIS SEAT. 12 by the template 'for every input the law returns true; each argument reads behind the call as it read before'; 0 by the template 'total and deterministic' (their statements: YtiihnfkflidddaaTotals.lean).
  GIVEN WITH THE SEED: the statements are not yours to turn. If you find one false, say at which input.
  Laid BY PROGRAM, IN A SANDBOX (cutbox-rows.mjs): the forced cells as the released guide's own fill.sh prints them over the translation c3658e2f8baa623c… (all of the seat's roots in one cut). By AI agents, Wed Nov 11 2026. No macro, syntax, notation, axiom, sorry.
-/
import Derived.Test.YtiihnfkflidddaaChecked
import GoSem.Claim
import GoSem.ClaimJoined
import GoSem.ClaimMapViews
import Derived.JoinedTies
import Derived.KernelRfl
namespace Go.Proofs.Ytiihnfkflidddaa
/- THE CELL 'sum', in the pinned program and in every row, IS THE sha256 OF THE DUMP (.gsa) THAT YtiihnfkflidddaaProg.lean LOADS. Nothing in Lean hashes anything: it is a label: what it is worth is what the hold of that sum in a sandbox is worth. -/
noncomputable def Try.pinned : Pinned := { name := "ytiihnfkflidddaa", sum := "c3658e2f8baa623cdf0fbcfc4ef87f68bd519f96555964f8de978cfc0743bbf9", checked := Try.checked }
namespace Rows
def none {H : Type} : Left H := { results := [], args := [] }

/-- 'laws.FnStages': WHATEVER THE INPUT: true; the input reads as it did. -/
def fnStagesSpec : ChangeSpec := { name := "fnStages", fn := fun _ => fun
  | [d] => { results := [.lit (.bool true)], args := [d] }
  | _ => none }
def fnStagesRow : OpenClaim := { program := "ytiihnfkflidddaa", sum := "c3658e2f8baa623cdf0fbcfc4ef87f68bd519f96555964f8de978cfc0743bbf9", func := "loop.example/g00710/laws.FnStages", spec := "fnStages", apart := false }
def FnStagesSaid : Prop := fnStagesRow.holds Try.pinned (OpenSpec.ofChange fnStagesSpec)

/-- ITS FALSE NEIGHBOUR: 'it returns false'. Refute it at one input. -/
def fnStagesWrong : ChangeSpec := { name := "fnStages", fn := fun _ => fun
  | [d] => { results := [.lit (.bool false)], args := [d] }
  | _ => none }
def FnStagesWrongFalsely : Prop := fnStagesRow.holds Try.pinned (OpenSpec.ofChange fnStagesWrong)

/-- 'laws.FnExactSeriesMul': WHATEVER THE INPUT: true; the input reads as it did. -/
def fnExactSeriesMulSpec : ChangeSpec := { name := "fnExactSeriesMul", fn := fun _ => fun
  | [d1, d2, d3] => { results := [.lit (.bool true)], args := [d1, d2, d3] }
  | _ => none }
def fnExactSeriesMulRow : OpenClaim := { program := "ytiihnfkflidddaa", sum := "c3658e2f8baa623cdf0fbcfc4ef87f68bd519f96555964f8de978cfc0743bbf9", func := "loop.example/g00710/laws.FnExactSeriesMul", spec := "fnExactSeriesMul", apart := false }
def FnExactSeriesMulSaid : Prop := fnExactSeriesMulRow.holds Try.pinned (OpenSpec.ofChange fnExactSeriesMulSpec)

/-- ITS FALSE NEIGHBOUR: 'it returns false'. Refute it at one input. -/
def fnExactSeriesMulWrong : ChangeSpec := { name := "fnExactSeriesMul", fn := fun _ => fun
  | [d1, d2, d3] => { results := [.lit (.bool false)], args := [d1, d2, d3] }
  | _ => none }
def FnExactSeriesMulWrongFalsely : Prop := fnExactSeriesMulRow.holds Try.pinned (OpenSpec.ofChange fnExactSeriesMulWrong)

/-- 'laws.FnExactNewton': WHATEVER THE INPUT: true; the input reads as it did. -/
def fnExactNewtonSpec : ChangeSpec := { name := "fnExactNewton", fn := fun _ => fun
  | [d1, d2] => { results := [.lit (.bool true)], args := [d1, d2] }
  | _ => none }
def fnExactNewtonRow : OpenClaim := { program := "ytiihnfkflidddaa", sum := "c3658e2f8baa623cdf0fbcfc4ef87f68bd519f96555964f8de978cfc0743bbf9", func := "loop.example/g00710/laws.FnExactNewton", spec := "fnExactNewton", unfollowed := true, recurses := true, apart := false }
def FnExactNewtonSaid : Prop := fnExactNewtonRow.holds Try.pinned (OpenSpec.ofChange fnExactNewtonSpec)

/-- ITS FALSE NEIGHBOUR: 'it returns false'. Refute it at one input. -/
def fnExactNewtonWrong : ChangeSpec := { name := "fnExactNewton", fn := fun _ => fun
  | [d1, d2] => { results := [.lit (.bool false)], args := [d1, d2] }
  | _ => none }
def FnExactNewtonWrongFalsely : Prop := fnExactNewtonRow.holds Try.pinned (OpenSpec.ofChange fnExactNewtonWrong)

/-- 'laws.FnExactSeriesInto': WHATEVER THE INPUT: true; the input reads as it did. -/
def fnExactSeriesIntoSpec : ChangeSpec := { name := "fnExactSeriesInto", fn := fun _ => fun
  | [d1, d2, d3] => { results := [.lit (.bool true)], args := [d1, d2, d3] }
  | _ => none }
def fnExactSeriesIntoRow : OpenClaim := { program := "ytiihnfkflidddaa", sum := "c3658e2f8baa623cdf0fbcfc4ef87f68bd519f96555964f8de978cfc0743bbf9", func := "loop.example/g00710/laws.FnExactSeriesInto", spec := "fnExactSeriesInto", apart := false }
def FnExactSeriesIntoSaid : Prop := fnExactSeriesIntoRow.holds Try.pinned (OpenSpec.ofChange fnExactSeriesIntoSpec)

/-- ITS FALSE NEIGHBOUR: 'it returns false'. Refute it at one input. -/
def fnExactSeriesIntoWrong : ChangeSpec := { name := "fnExactSeriesInto", fn := fun _ => fun
  | [d1, d2, d3] => { results := [.lit (.bool false)], args := [d1, d2, d3] }
  | _ => none }
def FnExactSeriesIntoWrongFalsely : Prop := fnExactSeriesIntoRow.holds Try.pinned (OpenSpec.ofChange fnExactSeriesIntoWrong)

/-- 'laws.FnExactRescale': WHATEVER THE INPUT: true; the input reads as it did. -/
def fnExactRescaleSpec : ChangeSpec := { name := "fnExactRescale", fn := fun _ => fun
  | [d1, d2, d3] => { results := [.lit (.bool true)], args := [d1, d2, d3] }
  | _ => none }
def fnExactRescaleRow : OpenClaim := { program := "ytiihnfkflidddaa", sum := "c3658e2f8baa623cdf0fbcfc4ef87f68bd519f96555964f8de978cfc0743bbf9", func := "loop.example/g00710/laws.FnExactRescale", spec := "fnExactRescale", apart := false }
def FnExactRescaleSaid : Prop := fnExactRescaleRow.holds Try.pinned (OpenSpec.ofChange fnExactRescaleSpec)

/-- ITS FALSE NEIGHBOUR: 'it returns false'. Refute it at one input. -/
def fnExactRescaleWrong : ChangeSpec := { name := "fnExactRescale", fn := fun _ => fun
  | [d1, d2, d3] => { results := [.lit (.bool false)], args := [d1, d2, d3] }
  | _ => none }
def FnExactRescaleWrongFalsely : Prop := fnExactRescaleRow.holds Try.pinned (OpenSpec.ofChange fnExactRescaleWrong)

/-- 'laws.FnExactSeriesSum': WHATEVER THE INPUT: true; the input reads as it did. -/
def fnExactSeriesSumSpec : ChangeSpec := { name := "fnExactSeriesSum", fn := fun _ => fun
  | [d1, d2] => { results := [.lit (.bool true)], args := [d1, d2] }
  | _ => none }
def fnExactSeriesSumRow : OpenClaim := { program := "ytiihnfkflidddaa", sum := "c3658e2f8baa623cdf0fbcfc4ef87f68bd519f96555964f8de978cfc0743bbf9", func := "loop.example/g00710/laws.FnExactSeriesSum", spec := "fnExactSeriesSum", apart := false }
def FnExactSeriesSumSaid : Prop := fnExactSeriesSumRow.holds Try.pinned (OpenSpec.ofChange fnExactSeriesSumSpec)

/-- ITS FALSE NEIGHBOUR: 'it returns false'. Refute it at one input. -/
def fnExactSeriesSumWrong : ChangeSpec := { name := "fnExactSeriesSum", fn := fun _ => fun
  | [d1, d2] => { results := [.lit (.bool false)], args := [d1, d2] }
  | _ => none }
def FnExactSeriesSumWrongFalsely : Prop := fnExactSeriesSumRow.holds Try.pinned (OpenSpec.ofChange fnExactSeriesSumWrong)

/-- 'laws.FnExactTrace': WHATEVER THE INPUT: true; the input reads as it did. -/
def fnExactTraceSpec : ChangeSpec := { name := "fnExactTrace", fn := fun _ => fun
  | [d1, d2] => { results := [.lit (.bool true)], args := [d1, d2] }
  | _ => none }
def fnExactTraceRow : OpenClaim := { program := "ytiihnfkflidddaa", sum := "c3658e2f8baa623cdf0fbcfc4ef87f68bd519f96555964f8de978cfc0743bbf9", func := "loop.example/g00710/laws.FnExactTrace", spec := "fnExactTrace", apart := false }
def FnExactTraceSaid : Prop := fnExactTraceRow.holds Try.pinned (OpenSpec.ofChange fnExactTraceSpec)

/-- ITS FALSE NEIGHBOUR: 'it returns false'. Refute it at one input. -/
def fnExactTraceWrong : ChangeSpec := { name := "fnExactTrace", fn := fun _ => fun
  | [d1, d2] => { results := [.lit (.bool false)], args := [d1, d2] }
  | _ => none }
def FnExactTraceWrongFalsely : Prop := fnExactTraceRow.holds Try.pinned (OpenSpec.ofChange fnExactTraceWrong)

/-- 'laws.FnLogExp': WHATEVER THE INPUT: true; the input reads as it did. -/
def fnLogExpSpec : ChangeSpec := { name := "fnLogExp", fn := fun _ => fun
  | [d] => { results := [.lit (.bool true)], args := [d] }
  | _ => none }
def fnLogExpRow : OpenClaim := { program := "ytiihnfkflidddaa", sum := "c3658e2f8baa623cdf0fbcfc4ef87f68bd519f96555964f8de978cfc0743bbf9", func := "loop.example/g00710/laws.FnLogExp", spec := "fnLogExp", apart := false }
def FnLogExpSaid : Prop := fnLogExpRow.holds Try.pinned (OpenSpec.ofChange fnLogExpSpec)

/-- ITS FALSE NEIGHBOUR: 'it returns false'. Refute it at one input. -/
def fnLogExpWrong : ChangeSpec := { name := "fnLogExp", fn := fun _ => fun
  | [d] => { results := [.lit (.bool false)], args := [d] }
  | _ => none }
def FnLogExpWrongFalsely : Prop := fnLogExpRow.holds Try.pinned (OpenSpec.ofChange fnLogExpWrong)

/-- 'laws.FnExactAutomorph': WHATEVER THE INPUT: true; the input reads as it did. -/
def fnExactAutomorphSpec : ChangeSpec := { name := "fnExactAutomorph", fn := fun _ => fun
  | [d1, d2, d3] => { results := [.lit (.bool true)], args := [d1, d2, d3] }
  | _ => none }
def fnExactAutomorphRow : OpenClaim := { program := "ytiihnfkflidddaa", sum := "c3658e2f8baa623cdf0fbcfc4ef87f68bd519f96555964f8de978cfc0743bbf9", func := "loop.example/g00710/laws.FnExactAutomorph", spec := "fnExactAutomorph", apart := false }
def FnExactAutomorphSaid : Prop := fnExactAutomorphRow.holds Try.pinned (OpenSpec.ofChange fnExactAutomorphSpec)

/-- ITS FALSE NEIGHBOUR: 'it returns false'. Refute it at one input. -/
def fnExactAutomorphWrong : ChangeSpec := { name := "fnExactAutomorph", fn := fun _ => fun
  | [d1, d2, d3] => { results := [.lit (.bool false)], args := [d1, d2, d3] }
  | _ => none }
def FnExactAutomorphWrongFalsely : Prop := fnExactAutomorphRow.holds Try.pinned (OpenSpec.ofChange fnExactAutomorphWrong)

/-- 'laws.FnExactEvalMany': WHATEVER THE INPUT: true; the input reads as it did. -/
def fnExactEvalManySpec : ChangeSpec := { name := "fnExactEvalMany", fn := fun _ => fun
  | [d1, d2, d3] => { results := [.lit (.bool true)], args := [d1, d2, d3] }
  | _ => none }
def fnExactEvalManyRow : OpenClaim := { program := "ytiihnfkflidddaa", sum := "c3658e2f8baa623cdf0fbcfc4ef87f68bd519f96555964f8de978cfc0743bbf9", func := "loop.example/g00710/laws.FnExactEvalMany", spec := "fnExactEvalMany", apart := false }
def FnExactEvalManySaid : Prop := fnExactEvalManyRow.holds Try.pinned (OpenSpec.ofChange fnExactEvalManySpec)

/-- ITS FALSE NEIGHBOUR: 'it returns false'. Refute it at one input. -/
def fnExactEvalManyWrong : ChangeSpec := { name := "fnExactEvalMany", fn := fun _ => fun
  | [d1, d2, d3] => { results := [.lit (.bool false)], args := [d1, d2, d3] }
  | _ => none }
def FnExactEvalManyWrongFalsely : Prop := fnExactEvalManyRow.holds Try.pinned (OpenSpec.ofChange fnExactEvalManyWrong)

/-- 'laws.FnExactSeriesExp': WHATEVER THE INPUT: true; the input reads as it did. -/
def fnExactSeriesExpSpec : ChangeSpec := { name := "fnExactSeriesExp", fn := fun _ => fun
  | [d1, d2] => { results := [.lit (.bool true)], args := [d1, d2] }
  | _ => none }
def fnExactSeriesExpRow : OpenClaim := { program := "ytiihnfkflidddaa", sum := "c3658e2f8baa623cdf0fbcfc4ef87f68bd519f96555964f8de978cfc0743bbf9", func := "loop.example/g00710/laws.FnExactSeriesExp", spec := "fnExactSeriesExp", apart := false }
def FnExactSeriesExpSaid : Prop := fnExactSeriesExpRow.holds Try.pinned (OpenSpec.ofChange fnExactSeriesExpSpec)

/-- ITS FALSE NEIGHBOUR: 'it returns false'. Refute it at one input. -/
def fnExactSeriesExpWrong : ChangeSpec := { name := "fnExactSeriesExp", fn := fun _ => fun
  | [d1, d2] => { results := [.lit (.bool false)], args := [d1, d2] }
  | _ => none }
def FnExactSeriesExpWrongFalsely : Prop := fnExactSeriesExpRow.holds Try.pinned (OpenSpec.ofChange fnExactSeriesExpWrong)

/-- 'laws.FnExactConvPoly': WHATEVER THE INPUT: true; the input reads as it did. -/
def fnExactConvPolySpec : ChangeSpec := { name := "fnExactConvPoly", fn := fun _ => fun
  | [d1, d2, d3] => { results := [.lit (.bool true)], args := [d1, d2, d3] }
  | _ => none }
def fnExactConvPolyRow : OpenClaim := { program := "ytiihnfkflidddaa", sum := "c3658e2f8baa623cdf0fbcfc4ef87f68bd519f96555964f8de978cfc0743bbf9", func := "loop.example/g00710/laws.FnExactConvPoly", spec := "fnExactConvPoly", apart := false }
def FnExactConvPolySaid : Prop := fnExactConvPolyRow.holds Try.pinned (OpenSpec.ofChange fnExactConvPolySpec)

/-- ITS FALSE NEIGHBOUR: 'it returns false'. Refute it at one input. -/
def fnExactConvPolyWrong : ChangeSpec := { name := "fnExactConvPoly", fn := fun _ => fun
  | [d1, d2, d3] => { results := [.lit (.bool false)], args := [d1, d2, d3] }
  | _ => none }
def FnExactConvPolyWrongFalsely : Prop := fnExactConvPolyRow.holds Try.pinned (OpenSpec.ofChange fnExactConvPolyWrong)

/- THE SECOND FORM. 'bulk': how many values and letters a reading holds, each counted each time it is reached (what is shared counts as often as it is met; a slice's spare places count too). A statement '..UptoSaid' is the law's where the arguments, and the package variables that the reading takes, are together of bulk at most 1048576: NARROWER than '..Said'. Prove '..Said' where nothing that the law and all that it calls make is longer than what came in: it says more and counts as full. Else prove '..UptoSaid'. A law counts once. -/
mutual
def uptoBulk {H : Type} : DataW H → Nat
  | .lit (.string bytes) => bytes.length + 1
  | .lit _ => 1
  | .nil => 1
  | .ptr d => uptoBulk d + 1
  | .slice elems spare => uptoBulkAll elems + uptoBulkAll spare + 1
  | .agg parts => uptoBulkAll parts + 1
  | .iface _ d => uptoBulk d + 1
  | .map entries => uptoBulkEntries entries + 1
  | .held _ => 1
def uptoBulkAll {H : Type} : List (DataW H) → Nat
  | [] => 0
  | d :: r => uptoBulk d + uptoBulkAll r
def uptoBulkEntries {H : Type} : List (Lit × DataW H) → Nat
  | [] => 0
  | x :: r => uptoBulkEntry x + uptoBulkEntries r
def uptoBulkEntry {H : Type} : Lit × DataW H → Nat
  | (.string bytes, d) => bytes.length + uptoBulk d + 1
  | (_, d) => uptoBulk d + 1
 end
def uptoSmall : (H : Type) → List (DataW H) → Bool := fun _ ds => decide (uptoBulkAll ds ≤ 1048576)
def OpenSpec.upto (s : _root_.Go.ChangeSpec) : _root_.Go.OpenSpec := { _root_.Go.OpenSpec.ofChange s with cond := some uptoSmall }

/-- 'laws.FnStages', WHERE WHAT IT READS IS OF BULK AT MOST 1048576: true; the input reads as it did. -/
def fnStagesUptoRow : OpenClaim := { program := "ytiihnfkflidddaa", sum := "c3658e2f8baa623cdf0fbcfc4ef87f68bd519f96555964f8de978cfc0743bbf9", func := "loop.example/g00710/laws.FnStages", spec := "fnStages", apart := false, narrowed := true }
def FnStagesUptoSaid : Prop := fnStagesUptoRow.holds Try.pinned (OpenSpec.upto fnStagesSpec)

/-- 'laws.FnExactSeriesMul', WHERE WHAT IT READS IS OF BULK AT MOST 1048576: true; the input reads as it did. -/
def fnExactSeriesMulUptoRow : OpenClaim := { program := "ytiihnfkflidddaa", sum := "c3658e2f8baa623cdf0fbcfc4ef87f68bd519f96555964f8de978cfc0743bbf9", func := "loop.example/g00710/laws.FnExactSeriesMul", spec := "fnExactSeriesMul", apart := false, narrowed := true }
def FnExactSeriesMulUptoSaid : Prop := fnExactSeriesMulUptoRow.holds Try.pinned (OpenSpec.upto fnExactSeriesMulSpec)

/-- 'laws.FnExactNewton', WHERE WHAT IT READS IS OF BULK AT MOST 1048576: true; the input reads as it did. -/
def fnExactNewtonUptoRow : OpenClaim := { program := "ytiihnfkflidddaa", sum := "c3658e2f8baa623cdf0fbcfc4ef87f68bd519f96555964f8de978cfc0743bbf9", func := "loop.example/g00710/laws.FnExactNewton", spec := "fnExactNewton", unfollowed := true, recurses := true, apart := false, narrowed := true }
def FnExactNewtonUptoSaid : Prop := fnExactNewtonUptoRow.holds Try.pinned (OpenSpec.upto fnExactNewtonSpec)

/-- 'laws.FnExactSeriesInto', WHERE WHAT IT READS IS OF BULK AT MOST 1048576: true; the input reads as it did. -/
def fnExactSeriesIntoUptoRow : OpenClaim := { program := "ytiihnfkflidddaa", sum := "c3658e2f8baa623cdf0fbcfc4ef87f68bd519f96555964f8de978cfc0743bbf9", func := "loop.example/g00710/laws.FnExactSeriesInto", spec := "fnExactSeriesInto", apart := false, narrowed := true }
def FnExactSeriesIntoUptoSaid : Prop := fnExactSeriesIntoUptoRow.holds Try.pinned (OpenSpec.upto fnExactSeriesIntoSpec)

/-- 'laws.FnExactRescale', WHERE WHAT IT READS IS OF BULK AT MOST 1048576: true; the input reads as it did. -/
def fnExactRescaleUptoRow : OpenClaim := { program := "ytiihnfkflidddaa", sum := "c3658e2f8baa623cdf0fbcfc4ef87f68bd519f96555964f8de978cfc0743bbf9", func := "loop.example/g00710/laws.FnExactRescale", spec := "fnExactRescale", apart := false, narrowed := true }
def FnExactRescaleUptoSaid : Prop := fnExactRescaleUptoRow.holds Try.pinned (OpenSpec.upto fnExactRescaleSpec)

/-- 'laws.FnExactSeriesSum', WHERE WHAT IT READS IS OF BULK AT MOST 1048576: true; the input reads as it did. -/
def fnExactSeriesSumUptoRow : OpenClaim := { program := "ytiihnfkflidddaa", sum := "c3658e2f8baa623cdf0fbcfc4ef87f68bd519f96555964f8de978cfc0743bbf9", func := "loop.example/g00710/laws.FnExactSeriesSum", spec := "fnExactSeriesSum", apart := false, narrowed := true }
def FnExactSeriesSumUptoSaid : Prop := fnExactSeriesSumUptoRow.holds Try.pinned (OpenSpec.upto fnExactSeriesSumSpec)

/-- 'laws.FnExactTrace', WHERE WHAT IT READS IS OF BULK AT MOST 1048576: true; the input reads as it did. -/
def fnExactTraceUptoRow : OpenClaim := { program := "ytiihnfkflidddaa", sum := "c3658e2f8baa623cdf0fbcfc4ef87f68bd519f96555964f8de978cfc0743bbf9", func := "loop.example/g00710/laws.FnExactTrace", spec := "fnExactTrace", apart := false, narrowed := true }
def FnExactTraceUptoSaid : Prop := fnExactTraceUptoRow.holds Try.pinned (OpenSpec.upto fnExactTraceSpec)

/-- 'laws.FnLogExp', WHERE WHAT IT READS IS OF BULK AT MOST 1048576: true; the input reads as it did. -/
def fnLogExpUptoRow : OpenClaim := { program := "ytiihnfkflidddaa", sum := "c3658e2f8baa623cdf0fbcfc4ef87f68bd519f96555964f8de978cfc0743bbf9", func := "loop.example/g00710/laws.FnLogExp", spec := "fnLogExp", apart := false, narrowed := true }
def FnLogExpUptoSaid : Prop := fnLogExpUptoRow.holds Try.pinned (OpenSpec.upto fnLogExpSpec)

/-- 'laws.FnExactAutomorph', WHERE WHAT IT READS IS OF BULK AT MOST 1048576: true; the input reads as it did. -/
def fnExactAutomorphUptoRow : OpenClaim := { program := "ytiihnfkflidddaa", sum := "c3658e2f8baa623cdf0fbcfc4ef87f68bd519f96555964f8de978cfc0743bbf9", func := "loop.example/g00710/laws.FnExactAutomorph", spec := "fnExactAutomorph", apart := false, narrowed := true }
def FnExactAutomorphUptoSaid : Prop := fnExactAutomorphUptoRow.holds Try.pinned (OpenSpec.upto fnExactAutomorphSpec)

/-- 'laws.FnExactEvalMany', WHERE WHAT IT READS IS OF BULK AT MOST 1048576: true; the input reads as it did. -/
def fnExactEvalManyUptoRow : OpenClaim := { program := "ytiihnfkflidddaa", sum := "c3658e2f8baa623cdf0fbcfc4ef87f68bd519f96555964f8de978cfc0743bbf9", func := "loop.example/g00710/laws.FnExactEvalMany", spec := "fnExactEvalMany", apart := false, narrowed := true }
def FnExactEvalManyUptoSaid : Prop := fnExactEvalManyUptoRow.holds Try.pinned (OpenSpec.upto fnExactEvalManySpec)

/-- 'laws.FnExactSeriesExp', WHERE WHAT IT READS IS OF BULK AT MOST 1048576: true; the input reads as it did. -/
def fnExactSeriesExpUptoRow : OpenClaim := { program := "ytiihnfkflidddaa", sum := "c3658e2f8baa623cdf0fbcfc4ef87f68bd519f96555964f8de978cfc0743bbf9", func := "loop.example/g00710/laws.FnExactSeriesExp", spec := "fnExactSeriesExp", apart := false, narrowed := true }
def FnExactSeriesExpUptoSaid : Prop := fnExactSeriesExpUptoRow.holds Try.pinned (OpenSpec.upto fnExactSeriesExpSpec)

/-- 'laws.FnExactConvPoly', WHERE WHAT IT READS IS OF BULK AT MOST 1048576: true; the input reads as it did. -/
def fnExactConvPolyUptoRow : OpenClaim := { program := "ytiihnfkflidddaa", sum := "c3658e2f8baa623cdf0fbcfc4ef87f68bd519f96555964f8de978cfc0743bbf9", func := "loop.example/g00710/laws.FnExactConvPoly", spec := "fnExactConvPoly", apart := false, narrowed := true }
def FnExactConvPolyUptoSaid : Prop := fnExactConvPolyUptoRow.holds Try.pinned (OpenSpec.upto fnExactConvPolySpec)

end Rows
end Go.Proofs.Ytiihnfkflidddaa
