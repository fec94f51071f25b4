/-
  No cell of these rows narrows 'for every input' (looked for: loops, veiled, ifaces, maps, wideKeys, modest, calm, conditions, laid).
  DERIVED. THE GIVEN ROWS OF THIS SEAT. 12 by the template 'for every input the law returns true; each argument reads behind the call as it read before'; 0 by the template 'total and deterministic' (their statements: YthdmhmhcmokieaaTotals.lean).
  GIVEN WITH THE SEED: the statements are not yours to turn. If you find one false, say at which input.
  Laid BY PROGRAM, IN A SANDBOX (cutbox-rows.mjs): the forced cells as the released guide's own fill.sh prints them over the translation 78353e2001974d3a… (all of the seat's roots in one cut). By AI agents, Wed Nov 11 2026. No macro, syntax, notation, axiom, sorry.
-/
import Derived.Test.YthdmhmhcmokieaaChecked
import GoSem.Claim
import GoSem.ClaimJoined
import GoSem.ClaimMapViews
import Derived.JoinedTies
import Derived.KernelRfl
namespace Go.Proofs.Ythdmhmhcmokieaa
/- THE CELL 'sum', in the pinned program and in every row, IS THE sha256 OF THE DUMP (.gsa) THAT YthdmhmhcmokieaaProg.lean LOADS. Nothing in Lean hashes anything: it is a label: what it is worth is what the hold of that sum in a sandbox is worth. -/
noncomputable def Try.pinned : Pinned := { name := "ythdmhmhcmokieaa", sum := "78353e2001974d3aa21c68ec7062a8d420a59e9711072edd424ee8068752b629", checked := Try.checked }
namespace Rows
def none {H : Type} : Left H := { results := [], args := [] }

/-- 'laws.FnExactSeriesSqrt': WHATEVER THE INPUT: true; the input reads as it did. -/
def fnExactSeriesSqrtSpec : ChangeSpec := { name := "fnExactSeriesSqrt", fn := fun _ => fun
  | [d1, d2] => { results := [.lit (.bool true)], args := [d1, d2] }
  | _ => none }
def fnExactSeriesSqrtRow : OpenClaim := { program := "ythdmhmhcmokieaa", sum := "78353e2001974d3aa21c68ec7062a8d420a59e9711072edd424ee8068752b629", func := "loop.example/g00710/laws.FnExactSeriesSqrt", spec := "fnExactSeriesSqrt", apart := false }
def FnExactSeriesSqrtSaid : Prop := fnExactSeriesSqrtRow.holds Try.pinned (OpenSpec.ofChange fnExactSeriesSqrtSpec)

/-- ITS FALSE NEIGHBOUR: 'it returns false'. Refute it at one input. -/
def fnExactSeriesSqrtWrong : ChangeSpec := { name := "fnExactSeriesSqrt", fn := fun _ => fun
  | [d1, d2] => { results := [.lit (.bool false)], args := [d1, d2] }
  | _ => none }
def FnExactSeriesSqrtWrongFalsely : Prop := fnExactSeriesSqrtRow.holds Try.pinned (OpenSpec.ofChange fnExactSeriesSqrtWrong)

/-- 'laws.FnExactSeriesInv': WHATEVER THE INPUT: true; the input reads as it did. -/
def fnExactSeriesInvSpec : ChangeSpec := { name := "fnExactSeriesInv", fn := fun _ => fun
  | [d1, d2] => { results := [.lit (.bool true)], args := [d1, d2] }
  | _ => none }
def fnExactSeriesInvRow : OpenClaim := { program := "ythdmhmhcmokieaa", sum := "78353e2001974d3aa21c68ec7062a8d420a59e9711072edd424ee8068752b629", func := "loop.example/g00710/laws.FnExactSeriesInv", spec := "fnExactSeriesInv", apart := false }
def FnExactSeriesInvSaid : Prop := fnExactSeriesInvRow.holds Try.pinned (OpenSpec.ofChange fnExactSeriesInvSpec)

/-- ITS FALSE NEIGHBOUR: 'it returns false'. Refute it at one input. -/
def fnExactSeriesInvWrong : ChangeSpec := { name := "fnExactSeriesInv", fn := fun _ => fun
  | [d1, d2] => { results := [.lit (.bool false)], args := [d1, d2] }
  | _ => none }
def FnExactSeriesInvWrongFalsely : Prop := fnExactSeriesInvRow.holds Try.pinned (OpenSpec.ofChange fnExactSeriesInvWrong)

/-- 'laws.FnExactDigitParts': WHATEVER THE INPUT: true; the input reads as it did. -/
def fnExactDigitPartsSpec : ChangeSpec := { name := "fnExactDigitParts", fn := fun _ => fun
  | [d1, d2, d3, d4] => { results := [.lit (.bool true)], args := [d1, d2, d3, d4] }
  | _ => none }
def fnExactDigitPartsRow : OpenClaim := { program := "ythdmhmhcmokieaa", sum := "78353e2001974d3aa21c68ec7062a8d420a59e9711072edd424ee8068752b629", func := "loop.example/g00710/laws.FnExactDigitParts", spec := "fnExactDigitParts", apart := false }
def FnExactDigitPartsSaid : Prop := fnExactDigitPartsRow.holds Try.pinned (OpenSpec.ofChange fnExactDigitPartsSpec)

/-- ITS FALSE NEIGHBOUR: 'it returns false'. Refute it at one input. -/
def fnExactDigitPartsWrong : ChangeSpec := { name := "fnExactDigitParts", fn := fun _ => fun
  | [d1, d2, d3, d4] => { results := [.lit (.bool false)], args := [d1, d2, d3, d4] }
  | _ => none }
def FnExactDigitPartsWrongFalsely : Prop := fnExactDigitPartsRow.holds Try.pinned (OpenSpec.ofChange fnExactDigitPartsWrong)

/-- 'laws.FnExactVanish': WHATEVER THE INPUT: true; the input reads as it did. -/
def fnExactVanishSpec : ChangeSpec := { name := "fnExactVanish", fn := fun _ => fun
  | [d1, d2] => { results := [.lit (.bool true)], args := [d1, d2] }
  | _ => none }
def fnExactVanishRow : OpenClaim := { program := "ythdmhmhcmokieaa", sum := "78353e2001974d3aa21c68ec7062a8d420a59e9711072edd424ee8068752b629", func := "loop.example/g00710/laws.FnExactVanish", spec := "fnExactVanish", apart := false }
def FnExactVanishSaid : Prop := fnExactVanishRow.holds Try.pinned (OpenSpec.ofChange fnExactVanishSpec)

/-- ITS FALSE NEIGHBOUR: 'it returns false'. Refute it at one input. -/
def fnExactVanishWrong : ChangeSpec := { name := "fnExactVanish", fn := fun _ => fun
  | [d1, d2] => { results := [.lit (.bool false)], args := [d1, d2] }
  | _ => none }
def FnExactVanishWrongFalsely : Prop := fnExactVanishRow.holds Try.pinned (OpenSpec.ofChange fnExactVanishWrong)

/-- 'laws.FnExactRingPower': WHATEVER THE INPUT: true; the input reads as it did. -/
def fnExactRingPowerSpec : ChangeSpec := { name := "fnExactRingPower", fn := fun _ => fun
  | [d1, d2, d3] => { results := [.lit (.bool true)], args := [d1, d2, d3] }
  | _ => none }
def fnExactRingPowerRow : OpenClaim := { program := "ythdmhmhcmokieaa", sum := "78353e2001974d3aa21c68ec7062a8d420a59e9711072edd424ee8068752b629", func := "loop.example/g00710/laws.FnExactRingPower", spec := "fnExactRingPower", apart := false }
def FnExactRingPowerSaid : Prop := fnExactRingPowerRow.holds Try.pinned (OpenSpec.ofChange fnExactRingPowerSpec)

/-- ITS FALSE NEIGHBOUR: 'it returns false'. Refute it at one input. -/
def fnExactRingPowerWrong : ChangeSpec := { name := "fnExactRingPower", fn := fun _ => fun
  | [d1, d2, d3] => { results := [.lit (.bool false)], args := [d1, d2, d3] }
  | _ => none }
def FnExactRingPowerWrongFalsely : Prop := fnExactRingPowerRow.holds Try.pinned (OpenSpec.ofChange fnExactRingPowerWrong)

/-- 'laws.FnExactCyclic': WHATEVER THE INPUT: true; the input reads as it did. -/
def fnExactCyclicSpec : ChangeSpec := { name := "fnExactCyclic", fn := fun _ => fun
  | [d1, d2, d3] => { results := [.lit (.bool true)], args := [d1, d2, d3] }
  | _ => none }
def fnExactCyclicRow : OpenClaim := { program := "ythdmhmhcmokieaa", sum := "78353e2001974d3aa21c68ec7062a8d420a59e9711072edd424ee8068752b629", func := "loop.example/g00710/laws.FnExactCyclic", spec := "fnExactCyclic", apart := false }
def FnExactCyclicSaid : Prop := fnExactCyclicRow.holds Try.pinned (OpenSpec.ofChange fnExactCyclicSpec)

/-- ITS FALSE NEIGHBOUR: 'it returns false'. Refute it at one input. -/
def fnExactCyclicWrong : ChangeSpec := { name := "fnExactCyclic", fn := fun _ => fun
  | [d1, d2, d3] => { results := [.lit (.bool false)], args := [d1, d2, d3] }
  | _ => none }
def FnExactCyclicWrongFalsely : Prop := fnExactCyclicRow.holds Try.pinned (OpenSpec.ofChange fnExactCyclicWrong)

/-- 'laws.FnSeriesInto': WHATEVER THE INPUT: true; the input reads as it did. -/
def fnSeriesIntoSpec : ChangeSpec := { name := "fnSeriesInto", fn := fun _ => fun
  | [d] => { results := [.lit (.bool true)], args := [d] }
  | _ => none }
def fnSeriesIntoRow : OpenClaim := { program := "ythdmhmhcmokieaa", sum := "78353e2001974d3aa21c68ec7062a8d420a59e9711072edd424ee8068752b629", func := "loop.example/g00710/laws.FnSeriesInto", spec := "fnSeriesInto", apart := false }
def FnSeriesIntoSaid : Prop := fnSeriesIntoRow.holds Try.pinned (OpenSpec.ofChange fnSeriesIntoSpec)

/-- ITS FALSE NEIGHBOUR: 'it returns false'. Refute it at one input. -/
def fnSeriesIntoWrong : ChangeSpec := { name := "fnSeriesInto", fn := fun _ => fun
  | [d] => { results := [.lit (.bool false)], args := [d] }
  | _ => none }
def FnSeriesIntoWrongFalsely : Prop := fnSeriesIntoRow.holds Try.pinned (OpenSpec.ofChange fnSeriesIntoWrong)

/-- 'laws.FnExactEncodeWord': WHATEVER THE INPUT: true; the input reads as it did. -/
def fnExactEncodeWordSpec : ChangeSpec := { name := "fnExactEncodeWord", fn := fun _ => fun
  | [d1, d2, d3] => { results := [.lit (.bool true)], args := [d1, d2, d3] }
  | _ => none }
def fnExactEncodeWordRow : OpenClaim := { program := "ythdmhmhcmokieaa", sum := "78353e2001974d3aa21c68ec7062a8d420a59e9711072edd424ee8068752b629", func := "loop.example/g00710/laws.FnExactEncodeWord", spec := "fnExactEncodeWord", apart := false }
def FnExactEncodeWordSaid : Prop := fnExactEncodeWordRow.holds Try.pinned (OpenSpec.ofChange fnExactEncodeWordSpec)

/-- ITS FALSE NEIGHBOUR: 'it returns false'. Refute it at one input. -/
def fnExactEncodeWordWrong : ChangeSpec := { name := "fnExactEncodeWord", fn := fun _ => fun
  | [d1, d2, d3] => { results := [.lit (.bool false)], args := [d1, d2, d3] }
  | _ => none }
def FnExactEncodeWordWrongFalsely : Prop := fnExactEncodeWordRow.holds Try.pinned (OpenSpec.ofChange fnExactEncodeWordWrong)

/-- 'laws.FnNewton': WHATEVER THE INPUT: true; the input reads as it did. -/
def fnNewtonSpec : ChangeSpec := { name := "fnNewton", fn := fun _ => fun
  | [d] => { results := [.lit (.bool true)], args := [d] }
  | _ => none }
def fnNewtonRow : OpenClaim := { program := "ythdmhmhcmokieaa", sum := "78353e2001974d3aa21c68ec7062a8d420a59e9711072edd424ee8068752b629", func := "loop.example/g00710/laws.FnNewton", spec := "fnNewton", unfollowed := true, recurses := true, apart := false }
def FnNewtonSaid : Prop := fnNewtonRow.holds Try.pinned (OpenSpec.ofChange fnNewtonSpec)

/-- ITS FALSE NEIGHBOUR: 'it returns false'. Refute it at one input. -/
def fnNewtonWrong : ChangeSpec := { name := "fnNewton", fn := fun _ => fun
  | [d] => { results := [.lit (.bool false)], args := [d] }
  | _ => none }
def FnNewtonWrongFalsely : Prop := fnNewtonRow.holds Try.pinned (OpenSpec.ofChange fnNewtonWrong)

/-- 'laws.FnRescaled': WHATEVER THE INPUT: true; the input reads as it did. -/
def fnRescaledSpec : ChangeSpec := { name := "fnRescaled", fn := fun _ => fun
  | [d] => { results := [.lit (.bool true)], args := [d] }
  | _ => none }
def fnRescaledRow : OpenClaim := { program := "ythdmhmhcmokieaa", sum := "78353e2001974d3aa21c68ec7062a8d420a59e9711072edd424ee8068752b629", func := "loop.example/g00710/laws.FnRescaled", spec := "fnRescaled", apart := false }
def FnRescaledSaid : Prop := fnRescaledRow.holds Try.pinned (OpenSpec.ofChange fnRescaledSpec)

/-- ITS FALSE NEIGHBOUR: 'it returns false'. Refute it at one input. -/
def fnRescaledWrong : ChangeSpec := { name := "fnRescaled", fn := fun _ => fun
  | [d] => { results := [.lit (.bool false)], args := [d] }
  | _ => none }
def FnRescaledWrongFalsely : Prop := fnRescaledRow.holds Try.pinned (OpenSpec.ofChange fnRescaledWrong)

/-- 'laws.FnAutomorph': WHATEVER THE INPUT: true; the input reads as it did. -/
def fnAutomorphSpec : ChangeSpec := { name := "fnAutomorph", fn := fun _ => fun
  | [d] => { results := [.lit (.bool true)], args := [d] }
  | _ => none }
def fnAutomorphRow : OpenClaim := { program := "ythdmhmhcmokieaa", sum := "78353e2001974d3aa21c68ec7062a8d420a59e9711072edd424ee8068752b629", func := "loop.example/g00710/laws.FnAutomorph", spec := "fnAutomorph", apart := false }
def FnAutomorphSaid : Prop := fnAutomorphRow.holds Try.pinned (OpenSpec.ofChange fnAutomorphSpec)

/-- ITS FALSE NEIGHBOUR: 'it returns false'. Refute it at one input. -/
def fnAutomorphWrong : ChangeSpec := { name := "fnAutomorph", fn := fun _ => fun
  | [d] => { results := [.lit (.bool false)], args := [d] }
  | _ => none }
def FnAutomorphWrongFalsely : Prop := fnAutomorphRow.holds Try.pinned (OpenSpec.ofChange fnAutomorphWrong)

/-- 'laws.FnTrace': WHATEVER THE INPUT: true; the input reads as it did. -/
def fnTraceSpec : ChangeSpec := { name := "fnTrace", fn := fun _ => fun
  | [d] => { results := [.lit (.bool true)], args := [d] }
  | _ => none }
def fnTraceRow : OpenClaim := { program := "ythdmhmhcmokieaa", sum := "78353e2001974d3aa21c68ec7062a8d420a59e9711072edd424ee8068752b629", func := "loop.example/g00710/laws.FnTrace", spec := "fnTrace", apart := false }
def FnTraceSaid : Prop := fnTraceRow.holds Try.pinned (OpenSpec.ofChange fnTraceSpec)

/-- ITS FALSE NEIGHBOUR: 'it returns false'. Refute it at one input. -/
def fnTraceWrong : ChangeSpec := { name := "fnTrace", fn := fun _ => fun
  | [d] => { results := [.lit (.bool false)], args := [d] }
  | _ => none }
def FnTraceWrongFalsely : Prop := fnTraceRow.holds Try.pinned (OpenSpec.ofChange fnTraceWrong)

/- THE SECOND FORM. 'bulk': how many values and letters a reading holds, each counted each time it is reached (what is shared counts as often as it is met; a slice's spare places count too). A statement '..UptoSaid' is the law's where the arguments, and the package variables that the reading takes, are together of bulk at most 1048576: NARROWER than '..Said'. Prove '..Said' where nothing that the law and all that it calls make is longer than what came in: it says more and counts as full. Else prove '..UptoSaid'. A law counts once. -/
mutual
def uptoBulk {H : Type} : DataW H → Nat
  | .lit (.string bytes) => bytes.length + 1
  | .lit _ => 1
  | .nil => 1
  | .ptr d => uptoBulk d + 1
  | .slice elems spare => uptoBulkAll elems + uptoBulkAll spare + 1
  | .agg parts => uptoBulkAll parts + 1
  | .iface _ d => uptoBulk d + 1
  | .map entries => uptoBulkEntries entries + 1
  | .held _ => 1
def uptoBulkAll {H : Type} : List (DataW H) → Nat
  | [] => 0
  | d :: r => uptoBulk d + uptoBulkAll r
def uptoBulkEntries {H : Type} : List (Lit × DataW H) → Nat
  | [] => 0
  | x :: r => uptoBulkEntry x + uptoBulkEntries r
def uptoBulkEntry {H : Type} : Lit × DataW H → Nat
  | (.string bytes, d) => bytes.length + uptoBulk d + 1
  | (_, d) => uptoBulk d + 1
 end
def uptoSmall : (H : Type) → List (DataW H) → Bool := fun _ ds => decide (uptoBulkAll ds ≤ 1048576)
def OpenSpec.upto (s : _root_.Go.ChangeSpec) : _root_.Go.OpenSpec := { _root_.Go.OpenSpec.ofChange s with cond := some uptoSmall }

/-- 'laws.FnExactSeriesSqrt', WHERE WHAT IT READS IS OF BULK AT MOST 1048576: true; the input reads as it did. -/
def fnExactSeriesSqrtUptoRow : OpenClaim := { program := "ythdmhmhcmokieaa", sum := "78353e2001974d3aa21c68ec7062a8d420a59e9711072edd424ee8068752b629", func := "loop.example/g00710/laws.FnExactSeriesSqrt", spec := "fnExactSeriesSqrt", apart := false, narrowed := true }
def FnExactSeriesSqrtUptoSaid : Prop := fnExactSeriesSqrtUptoRow.holds Try.pinned (OpenSpec.upto fnExactSeriesSqrtSpec)

/-- 'laws.FnExactSeriesInv', WHERE WHAT IT READS IS OF BULK AT MOST 1048576: true; the input reads as it did. -/
def fnExactSeriesInvUptoRow : OpenClaim := { program := "ythdmhmhcmokieaa", sum := "78353e2001974d3aa21c68ec7062a8d420a59e9711072edd424ee8068752b629", func := "loop.example/g00710/laws.FnExactSeriesInv", spec := "fnExactSeriesInv", apart := false, narrowed := true }
def FnExactSeriesInvUptoSaid : Prop := fnExactSeriesInvUptoRow.holds Try.pinned (OpenSpec.upto fnExactSeriesInvSpec)

/-- 'laws.FnExactDigitParts', WHERE WHAT IT READS IS OF BULK AT MOST 1048576: true; the input reads as it did. -/
def fnExactDigitPartsUptoRow : OpenClaim := { program := "ythdmhmhcmokieaa", sum := "78353e2001974d3aa21c68ec7062a8d420a59e9711072edd424ee8068752b629", func := "loop.example/g00710/laws.FnExactDigitParts", spec := "fnExactDigitParts", apart := false, narrowed := true }
def FnExactDigitPartsUptoSaid : Prop := fnExactDigitPartsUptoRow.holds Try.pinned (OpenSpec.upto fnExactDigitPartsSpec)

/-- 'laws.FnExactVanish', WHERE WHAT IT READS IS OF BULK AT MOST 1048576: true; the input reads as it did. -/
def fnExactVanishUptoRow : OpenClaim := { program := "ythdmhmhcmokieaa", sum := "78353e2001974d3aa21c68ec7062a8d420a59e9711072edd424ee8068752b629", func := "loop.example/g00710/laws.FnExactVanish", spec := "fnExactVanish", apart := false, narrowed := true }
def FnExactVanishUptoSaid : Prop := fnExactVanishUptoRow.holds Try.pinned (OpenSpec.upto fnExactVanishSpec)

/-- 'laws.FnExactRingPower', WHERE WHAT IT READS IS OF BULK AT MOST 1048576: true; the input reads as it did. -/
def fnExactRingPowerUptoRow : OpenClaim := { program := "ythdmhmhcmokieaa", sum := "78353e2001974d3aa21c68ec7062a8d420a59e9711072edd424ee8068752b629", func := "loop.example/g00710/laws.FnExactRingPower", spec := "fnExactRingPower", apart := false, narrowed := true }
def FnExactRingPowerUptoSaid : Prop := fnExactRingPowerUptoRow.holds Try.pinned (OpenSpec.upto fnExactRingPowerSpec)

/-- 'laws.FnExactCyclic', WHERE WHAT IT READS IS OF BULK AT MOST 1048576: true; the input reads as it did. -/
def fnExactCyclicUptoRow : OpenClaim := { program := "ythdmhmhcmokieaa", sum := "78353e2001974d3aa21c68ec7062a8d420a59e9711072edd424ee8068752b629", func := "loop.example/g00710/laws.FnExactCyclic", spec := "fnExactCyclic", apart := false, narrowed := true }
def FnExactCyclicUptoSaid : Prop := fnExactCyclicUptoRow.holds Try.pinned (OpenSpec.upto fnExactCyclicSpec)

/-- 'laws.FnSeriesInto', WHERE WHAT IT READS IS OF BULK AT MOST 1048576: true; the input reads as it did. -/
def fnSeriesIntoUptoRow : OpenClaim := { program := "ythdmhmhcmokieaa", sum := "78353e2001974d3aa21c68ec7062a8d420a59e9711072edd424ee8068752b629", func := "loop.example/g00710/laws.FnSeriesInto", spec := "fnSeriesInto", apart := false, narrowed := true }
def FnSeriesIntoUptoSaid : Prop := fnSeriesIntoUptoRow.holds Try.pinned (OpenSpec.upto fnSeriesIntoSpec)

/-- 'laws.FnExactEncodeWord', WHERE WHAT IT READS IS OF BULK AT MOST 1048576: true; the input reads as it did. -/
def fnExactEncodeWordUptoRow : OpenClaim := { program := "ythdmhmhcmokieaa", sum := "78353e2001974d3aa21c68ec7062a8d420a59e9711072edd424ee8068752b629", func := "loop.example/g00710/laws.FnExactEncodeWord", spec := "fnExactEncodeWord", apart := false, narrowed := true }
def FnExactEncodeWordUptoSaid : Prop := fnExactEncodeWordUptoRow.holds Try.pinned (OpenSpec.upto fnExactEncodeWordSpec)

/-- 'laws.FnNewton', WHERE WHAT IT READS IS OF BULK AT MOST 1048576: true; the input reads as it did. -/
def fnNewtonUptoRow : OpenClaim := { program := "ythdmhmhcmokieaa", sum := "78353e2001974d3aa21c68ec7062a8d420a59e9711072edd424ee8068752b629", func := "loop.example/g00710/laws.FnNewton", spec := "fnNewton", unfollowed := true, recurses := true, apart := false, narrowed := true }
def FnNewtonUptoSaid : Prop := fnNewtonUptoRow.holds Try.pinned (OpenSpec.upto fnNewtonSpec)

/-- 'laws.FnRescaled', WHERE WHAT IT READS IS OF BULK AT MOST 1048576: true; the input reads as it did. -/
def fnRescaledUptoRow : OpenClaim := { program := "ythdmhmhcmokieaa", sum := "78353e2001974d3aa21c68ec7062a8d420a59e9711072edd424ee8068752b629", func := "loop.example/g00710/laws.FnRescaled", spec := "fnRescaled", apart := false, narrowed := true }
def FnRescaledUptoSaid : Prop := fnRescaledUptoRow.holds Try.pinned (OpenSpec.upto fnRescaledSpec)

/-- 'laws.FnAutomorph', WHERE WHAT IT READS IS OF BULK AT MOST 1048576: true; the input reads as it did. -/
def fnAutomorphUptoRow : OpenClaim := { program := "ythdmhmhcmokieaa", sum := "78353e2001974d3aa21c68ec7062a8d420a59e9711072edd424ee8068752b629", func := "loop.example/g00710/laws.FnAutomorph", spec := "fnAutomorph", apart := false, narrowed := true }
def FnAutomorphUptoSaid : Prop := fnAutomorphUptoRow.holds Try.pinned (OpenSpec.upto fnAutomorphSpec)

/-- 'laws.FnTrace', WHERE WHAT IT READS IS OF BULK AT MOST 1048576: true; the input reads as it did. -/
def fnTraceUptoRow : OpenClaim := { program := "ythdmhmhcmokieaa", sum := "78353e2001974d3aa21c68ec7062a8d420a59e9711072edd424ee8068752b629", func := "loop.example/g00710/laws.FnTrace", spec := "fnTrace", apart := false, narrowed := true }
def FnTraceUptoSaid : Prop := fnTraceUptoRow.holds Try.pinned (OpenSpec.upto fnTraceSpec)

end Rows
end Go.Proofs.Ythdmhmhcmokieaa
