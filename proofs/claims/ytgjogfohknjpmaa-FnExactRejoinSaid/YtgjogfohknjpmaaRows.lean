/-
  No cell of these rows narrows 'for every input' (looked for: loops, veiled, ifaces, maps, wideKeys, modest, calm, conditions, laid).
  DERIVED. THE GIVEN ROWS OF THIS SEAT. 9 by the template 'for every input the law returns true; each argument reads behind the call as it read before'; 0 by the template 'total and deterministic' (their statements: YtgjogfohknjpmaaTotals.lean).
  GIVEN WITH THE SEED: the statements are not yours to turn. If you find one false, say at which input.
  Laid BY PROGRAM, IN A SANDBOX (cutbox-rows.mjs): the forced cells as the released guide's own fill.sh prints them over the translation 4833f11ea4e3e70a… (all of the seat's roots in one cut). By AI agents, Wed Nov 11 2026. No macro, syntax, notation, axiom, sorry.
-/
import Derived.Test.YtgjogfohknjpmaaChecked
import GoSem.Claim
import GoSem.ClaimJoined
import GoSem.ClaimMapViews
import Derived.JoinedTies
import Derived.KernelRfl
namespace Go.Proofs.Ytgjogfohknjpmaa
/- THE CELL 'sum', in the pinned program and in every row, IS THE sha256 OF THE DUMP (.gsa) THAT YtgjogfohknjpmaaProg.lean LOADS. Nothing in Lean hashes anything: it is a label: what it is worth is what the hold of that sum in a sandbox is worth. -/
noncomputable def Try.pinned : Pinned := { name := "ytgjogfohknjpmaa", sum := "4833f11ea4e3e70a769e7cbc1b05509fb39035c4993f6991f55c25203d3b51ef", checked := Try.checked }
namespace Rows
def none {H : Type} : Left H := { results := [], args := [] }

/-- 'laws.FnExactNewton': WHATEVER THE INPUT: true; the input reads as it did. -/
def fnExactNewtonSpec : ChangeSpec := { name := "fnExactNewton", fn := fun _ => fun
  | [d1, d2] => { results := [.lit (.bool true)], args := [d1, d2] }
  | _ => none }
def fnExactNewtonRow : OpenClaim := { program := "ytgjogfohknjpmaa", sum := "4833f11ea4e3e70a769e7cbc1b05509fb39035c4993f6991f55c25203d3b51ef", func := "loop.example/g00710/laws.FnExactNewton", spec := "fnExactNewton", unfollowed := true, recurses := true, apart := false }
def FnExactNewtonSaid : Prop := fnExactNewtonRow.holds Try.pinned (OpenSpec.ofChange fnExactNewtonSpec)

/-- ITS FALSE NEIGHBOUR: 'it returns false'. Refute it at one input. -/
def fnExactNewtonWrong : ChangeSpec := { name := "fnExactNewton", fn := fun _ => fun
  | [d1, d2] => { results := [.lit (.bool false)], args := [d1, d2] }
  | _ => none }
def FnExactNewtonWrongFalsely : Prop := fnExactNewtonRow.holds Try.pinned (OpenSpec.ofChange fnExactNewtonWrong)

/-- 'laws.FnNewton': WHATEVER THE INPUT: true; the input reads as it did. -/
def fnNewtonSpec : ChangeSpec := { name := "fnNewton", fn := fun _ => fun
  | [d] => { results := [.lit (.bool true)], args := [d] }
  | _ => none }
def fnNewtonRow : OpenClaim := { program := "ytgjogfohknjpmaa", sum := "4833f11ea4e3e70a769e7cbc1b05509fb39035c4993f6991f55c25203d3b51ef", func := "loop.example/g00710/laws.FnNewton", spec := "fnNewton", unfollowed := true, recurses := true, apart := false }
def FnNewtonSaid : Prop := fnNewtonRow.holds Try.pinned (OpenSpec.ofChange fnNewtonSpec)

/-- ITS FALSE NEIGHBOUR: 'it returns false'. Refute it at one input. -/
def fnNewtonWrong : ChangeSpec := { name := "fnNewton", fn := fun _ => fun
  | [d] => { results := [.lit (.bool false)], args := [d] }
  | _ => none }
def FnNewtonWrongFalsely : Prop := fnNewtonRow.holds Try.pinned (OpenSpec.ofChange fnNewtonWrong)

/-- 'laws.FnExactConvPoly': WHATEVER THE INPUT: true; the input reads as it did. -/
def fnExactConvPolySpec : ChangeSpec := { name := "fnExactConvPoly", fn := fun _ => fun
  | [d1, d2, d3] => { results := [.lit (.bool true)], args := [d1, d2, d3] }
  | _ => none }
def fnExactConvPolyRow : OpenClaim := { program := "ytgjogfohknjpmaa", sum := "4833f11ea4e3e70a769e7cbc1b05509fb39035c4993f6991f55c25203d3b51ef", func := "loop.example/g00710/laws.FnExactConvPoly", spec := "fnExactConvPoly", apart := false }
def FnExactConvPolySaid : Prop := fnExactConvPolyRow.holds Try.pinned (OpenSpec.ofChange fnExactConvPolySpec)

/-- ITS FALSE NEIGHBOUR: 'it returns false'. Refute it at one input. -/
def fnExactConvPolyWrong : ChangeSpec := { name := "fnExactConvPoly", fn := fun _ => fun
  | [d1, d2, d3] => { results := [.lit (.bool false)], args := [d1, d2, d3] }
  | _ => none }
def FnExactConvPolyWrongFalsely : Prop := fnExactConvPolyRow.holds Try.pinned (OpenSpec.ofChange fnExactConvPolyWrong)

/-- 'laws.FnExactVanish': WHATEVER THE INPUT: true; the input reads as it did. -/
def fnExactVanishSpec : ChangeSpec := { name := "fnExactVanish", fn := fun _ => fun
  | [d1, d2] => { results := [.lit (.bool true)], args := [d1, d2] }
  | _ => none }
def fnExactVanishRow : OpenClaim := { program := "ytgjogfohknjpmaa", sum := "4833f11ea4e3e70a769e7cbc1b05509fb39035c4993f6991f55c25203d3b51ef", func := "loop.example/g00710/laws.FnExactVanish", spec := "fnExactVanish", apart := false }
def FnExactVanishSaid : Prop := fnExactVanishRow.holds Try.pinned (OpenSpec.ofChange fnExactVanishSpec)

/-- ITS FALSE NEIGHBOUR: 'it returns false'. Refute it at one input. -/
def fnExactVanishWrong : ChangeSpec := { name := "fnExactVanish", fn := fun _ => fun
  | [d1, d2] => { results := [.lit (.bool false)], args := [d1, d2] }
  | _ => none }
def FnExactVanishWrongFalsely : Prop := fnExactVanishRow.holds Try.pinned (OpenSpec.ofChange fnExactVanishWrong)

/-- 'laws.FnExactDigitParts': WHATEVER THE INPUT: true; the input reads as it did. -/
def fnExactDigitPartsSpec : ChangeSpec := { name := "fnExactDigitParts", fn := fun _ => fun
  | [d1, d2, d3, d4] => { results := [.lit (.bool true)], args := [d1, d2, d3, d4] }
  | _ => none }
def fnExactDigitPartsRow : OpenClaim := { program := "ytgjogfohknjpmaa", sum := "4833f11ea4e3e70a769e7cbc1b05509fb39035c4993f6991f55c25203d3b51ef", func := "loop.example/g00710/laws.FnExactDigitParts", spec := "fnExactDigitParts", apart := false }
def FnExactDigitPartsSaid : Prop := fnExactDigitPartsRow.holds Try.pinned (OpenSpec.ofChange fnExactDigitPartsSpec)

/-- ITS FALSE NEIGHBOUR: 'it returns false'. Refute it at one input. -/
def fnExactDigitPartsWrong : ChangeSpec := { name := "fnExactDigitParts", fn := fun _ => fun
  | [d1, d2, d3, d4] => { results := [.lit (.bool false)], args := [d1, d2, d3, d4] }
  | _ => none }
def FnExactDigitPartsWrongFalsely : Prop := fnExactDigitPartsRow.holds Try.pinned (OpenSpec.ofChange fnExactDigitPartsWrong)

/-- 'laws.FnExactRejoin': WHATEVER THE INPUT: true; the input reads as it did. -/
def fnExactRejoinSpec : ChangeSpec := { name := "fnExactRejoin", fn := fun _ => fun
  | [d1, d2, d3] => { results := [.lit (.bool true)], args := [d1, d2, d3] }
  | _ => none }
def fnExactRejoinRow : OpenClaim := { program := "ytgjogfohknjpmaa", sum := "4833f11ea4e3e70a769e7cbc1b05509fb39035c4993f6991f55c25203d3b51ef", func := "loop.example/g00710/laws.FnExactRejoin", spec := "fnExactRejoin", apart := false }
def FnExactRejoinSaid : Prop := fnExactRejoinRow.holds Try.pinned (OpenSpec.ofChange fnExactRejoinSpec)

/-- ITS FALSE NEIGHBOUR: 'it returns false'. Refute it at one input. -/
def fnExactRejoinWrong : ChangeSpec := { name := "fnExactRejoin", fn := fun _ => fun
  | [d1, d2, d3] => { results := [.lit (.bool false)], args := [d1, d2, d3] }
  | _ => none }
def FnExactRejoinWrongFalsely : Prop := fnExactRejoinRow.holds Try.pinned (OpenSpec.ofChange fnExactRejoinWrong)

/-- 'laws.FnParts': WHATEVER THE INPUT: true; the input reads as it did. -/
def fnPartsSpec : ChangeSpec := { name := "fnParts", fn := fun _ => fun
  | [d] => { results := [.lit (.bool true)], args := [d] }
  | _ => none }
def fnPartsRow : OpenClaim := { program := "ytgjogfohknjpmaa", sum := "4833f11ea4e3e70a769e7cbc1b05509fb39035c4993f6991f55c25203d3b51ef", func := "loop.example/g00710/laws.FnParts", spec := "fnParts", apart := false }
def FnPartsSaid : Prop := fnPartsRow.holds Try.pinned (OpenSpec.ofChange fnPartsSpec)

/-- ITS FALSE NEIGHBOUR: 'it returns false'. Refute it at one input. -/
def fnPartsWrong : ChangeSpec := { name := "fnParts", fn := fun _ => fun
  | [d] => { results := [.lit (.bool false)], args := [d] }
  | _ => none }
def FnPartsWrongFalsely : Prop := fnPartsRow.holds Try.pinned (OpenSpec.ofChange fnPartsWrong)

/-- 'laws.FnRescaled': WHATEVER THE INPUT: true; the input reads as it did. -/
def fnRescaledSpec : ChangeSpec := { name := "fnRescaled", fn := fun _ => fun
  | [d] => { results := [.lit (.bool true)], args := [d] }
  | _ => none }
def fnRescaledRow : OpenClaim := { program := "ytgjogfohknjpmaa", sum := "4833f11ea4e3e70a769e7cbc1b05509fb39035c4993f6991f55c25203d3b51ef", func := "loop.example/g00710/laws.FnRescaled", spec := "fnRescaled", apart := false }
def FnRescaledSaid : Prop := fnRescaledRow.holds Try.pinned (OpenSpec.ofChange fnRescaledSpec)

/-- ITS FALSE NEIGHBOUR: 'it returns false'. Refute it at one input. -/
def fnRescaledWrong : ChangeSpec := { name := "fnRescaled", fn := fun _ => fun
  | [d] => { results := [.lit (.bool false)], args := [d] }
  | _ => none }
def FnRescaledWrongFalsely : Prop := fnRescaledRow.holds Try.pinned (OpenSpec.ofChange fnRescaledWrong)

/-- 'laws.FnTrace': WHATEVER THE INPUT: true; the input reads as it did. -/
def fnTraceSpec : ChangeSpec := { name := "fnTrace", fn := fun _ => fun
  | [d] => { results := [.lit (.bool true)], args := [d] }
  | _ => none }
def fnTraceRow : OpenClaim := { program := "ytgjogfohknjpmaa", sum := "4833f11ea4e3e70a769e7cbc1b05509fb39035c4993f6991f55c25203d3b51ef", func := "loop.example/g00710/laws.FnTrace", spec := "fnTrace", apart := false }
def FnTraceSaid : Prop := fnTraceRow.holds Try.pinned (OpenSpec.ofChange fnTraceSpec)

/-- ITS FALSE NEIGHBOUR: 'it returns false'. Refute it at one input. -/
def fnTraceWrong : ChangeSpec := { name := "fnTrace", fn := fun _ => fun
  | [d] => { results := [.lit (.bool false)], args := [d] }
  | _ => none }
def FnTraceWrongFalsely : Prop := fnTraceRow.holds Try.pinned (OpenSpec.ofChange fnTraceWrong)

/- THE SECOND FORM. 'bulk': how many values and letters a reading holds, each counted each time it is reached (what is shared counts as often as it is met; a slice's spare places count too). A statement '..UptoSaid' is the law's where the arguments, and the package variables that the reading takes, are together of bulk at most 1048576: NARROWER than '..Said'. Prove '..Said' where nothing that the law and all that it calls make is longer than what came in: it says more and counts as full. Else prove '..UptoSaid'. A law counts once. -/
mutual
def uptoBulk {H : Type} : DataW H → Nat
  | .lit (.string bytes) => bytes.length + 1
  | .lit _ => 1
  | .nil => 1
  | .ptr d => uptoBulk d + 1
  | .slice elems spare => uptoBulkAll elems + uptoBulkAll spare + 1
  | .agg parts => uptoBulkAll parts + 1
  | .iface _ d => uptoBulk d + 1
  | .map entries => uptoBulkEntries entries + 1
  | .held _ => 1
def uptoBulkAll {H : Type} : List (DataW H) → Nat
  | [] => 0
  | d :: r => uptoBulk d + uptoBulkAll r
def uptoBulkEntries {H : Type} : List (Lit × DataW H) → Nat
  | [] => 0
  | x :: r => uptoBulkEntry x + uptoBulkEntries r
def uptoBulkEntry {H : Type} : Lit × DataW H → Nat
  | (.string bytes, d) => bytes.length + uptoBulk d + 1
  | (_, d) => uptoBulk d + 1
 end
def uptoSmall : (H : Type) → List (DataW H) → Bool := fun _ ds => decide (uptoBulkAll ds ≤ 1048576)
def OpenSpec.upto (s : _root_.Go.ChangeSpec) : _root_.Go.OpenSpec := { _root_.Go.OpenSpec.ofChange s with cond := some uptoSmall }

/-- 'laws.FnExactNewton', WHERE WHAT IT READS IS OF BULK AT MOST 1048576: true; the input reads as it did. -/
def fnExactNewtonUptoRow : OpenClaim := { program := "ytgjogfohknjpmaa", sum := "4833f11ea4e3e70a769e7cbc1b05509fb39035c4993f6991f55c25203d3b51ef", func := "loop.example/g00710/laws.FnExactNewton", spec := "fnExactNewton", unfollowed := true, recurses := true, apart := false, narrowed := true }
def FnExactNewtonUptoSaid : Prop := fnExactNewtonUptoRow.holds Try.pinned (OpenSpec.upto fnExactNewtonSpec)

/-- 'laws.FnNewton', WHERE WHAT IT READS IS OF BULK AT MOST 1048576: true; the input reads as it did. -/
def fnNewtonUptoRow : OpenClaim := { program := "ytgjogfohknjpmaa", sum := "4833f11ea4e3e70a769e7cbc1b05509fb39035c4993f6991f55c25203d3b51ef", func := "loop.example/g00710/laws.FnNewton", spec := "fnNewton", unfollowed := true, recurses := true, apart := false, narrowed := true }
def FnNewtonUptoSaid : Prop := fnNewtonUptoRow.holds Try.pinned (OpenSpec.upto fnNewtonSpec)

/-- 'laws.FnExactConvPoly', WHERE WHAT IT READS IS OF BULK AT MOST 1048576: true; the input reads as it did. -/
def fnExactConvPolyUptoRow : OpenClaim := { program := "ytgjogfohknjpmaa", sum := "4833f11ea4e3e70a769e7cbc1b05509fb39035c4993f6991f55c25203d3b51ef", func := "loop.example/g00710/laws.FnExactConvPoly", spec := "fnExactConvPoly", apart := false, narrowed := true }
def FnExactConvPolyUptoSaid : Prop := fnExactConvPolyUptoRow.holds Try.pinned (OpenSpec.upto fnExactConvPolySpec)

/-- 'laws.FnExactVanish', WHERE WHAT IT READS IS OF BULK AT MOST 1048576: true; the input reads as it did. -/
def fnExactVanishUptoRow : OpenClaim := { program := "ytgjogfohknjpmaa", sum := "4833f11ea4e3e70a769e7cbc1b05509fb39035c4993f6991f55c25203d3b51ef", func := "loop.example/g00710/laws.FnExactVanish", spec := "fnExactVanish", apart := false, narrowed := true }
def FnExactVanishUptoSaid : Prop := fnExactVanishUptoRow.holds Try.pinned (OpenSpec.upto fnExactVanishSpec)

/-- 'laws.FnExactDigitParts', WHERE WHAT IT READS IS OF BULK AT MOST 1048576: true; the input reads as it did. -/
def fnExactDigitPartsUptoRow : OpenClaim := { program := "ytgjogfohknjpmaa", sum := "4833f11ea4e3e70a769e7cbc1b05509fb39035c4993f6991f55c25203d3b51ef", func := "loop.example/g00710/laws.FnExactDigitParts", spec := "fnExactDigitParts", apart := false, narrowed := true }
def FnExactDigitPartsUptoSaid : Prop := fnExactDigitPartsUptoRow.holds Try.pinned (OpenSpec.upto fnExactDigitPartsSpec)

/-- 'laws.FnExactRejoin', WHERE WHAT IT READS IS OF BULK AT MOST 1048576: true; the input reads as it did. -/
def fnExactRejoinUptoRow : OpenClaim := { program := "ytgjogfohknjpmaa", sum := "4833f11ea4e3e70a769e7cbc1b05509fb39035c4993f6991f55c25203d3b51ef", func := "loop.example/g00710/laws.FnExactRejoin", spec := "fnExactRejoin", apart := false, narrowed := true }
def FnExactRejoinUptoSaid : Prop := fnExactRejoinUptoRow.holds Try.pinned (OpenSpec.upto fnExactRejoinSpec)

/-- 'laws.FnParts', WHERE WHAT IT READS IS OF BULK AT MOST 1048576: true; the input reads as it did. -/
def fnPartsUptoRow : OpenClaim := { program := "ytgjogfohknjpmaa", sum := "4833f11ea4e3e70a769e7cbc1b05509fb39035c4993f6991f55c25203d3b51ef", func := "loop.example/g00710/laws.FnParts", spec := "fnParts", apart := false, narrowed := true }
def FnPartsUptoSaid : Prop := fnPartsUptoRow.holds Try.pinned (OpenSpec.upto fnPartsSpec)

/-- 'laws.FnRescaled', WHERE WHAT IT READS IS OF BULK AT MOST 1048576: true; the input reads as it did. -/
def fnRescaledUptoRow : OpenClaim := { program := "ytgjogfohknjpmaa", sum := "4833f11ea4e3e70a769e7cbc1b05509fb39035c4993f6991f55c25203d3b51ef", func := "loop.example/g00710/laws.FnRescaled", spec := "fnRescaled", apart := false, narrowed := true }
def FnRescaledUptoSaid : Prop := fnRescaledUptoRow.holds Try.pinned (OpenSpec.upto fnRescaledSpec)

/-- 'laws.FnTrace', WHERE WHAT IT READS IS OF BULK AT MOST 1048576: true; the input reads as it did. -/
def fnTraceUptoRow : OpenClaim := { program := "ytgjogfohknjpmaa", sum := "4833f11ea4e3e70a769e7cbc1b05509fb39035c4993f6991f55c25203d3b51ef", func := "loop.example/g00710/laws.FnTrace", spec := "fnTrace", apart := false, narrowed := true }
def FnTraceUptoSaid : Prop := fnTraceUptoRow.holds Try.pinned (OpenSpec.upto fnTraceSpec)

end Rows
end Go.Proofs.Ytgjogfohknjpmaa
