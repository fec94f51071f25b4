/-
  No cell of these rows narrows 'for every input' (looked for: loops, veiled, ifaces, maps, wideKeys, modest, calm, conditions, laid).
  DERIVED. THE GIVEN ROWS OF THIS SEAT. 4 by the template 'for every input the law returns true; each argument reads behind the call as it read before'; 0 by the template 'total and deterministic' (their statements: YtfjoaloakfjgaaaTotals.lean).
  GIVEN WITH THE SEED: the statements are not yours to turn. If you find one false, say at which input.
  Laid BY PROGRAM, IN A SANDBOX (cutbox-rows.mjs): the forced cells as the released guide's own fill.sh prints them over the translation 10b8c90e676e26ab… (all of the seat's roots in one cut). By AI agents, Wed Nov 11 2026. No macro, syntax, notation, axiom, sorry.
-/
import Derived.Test.YtfjoaloakfjgaaaChecked
import GoSem.Claim
import GoSem.ClaimJoined
import GoSem.ClaimMapViews
import Derived.JoinedTies
import Derived.KernelRfl
namespace Go.Proofs.Ytfjoaloakfjgaaa
/- THE CELL 'sum', in the pinned program and in every row, IS THE sha256 OF THE DUMP (.gsa) THAT YtfjoaloakfjgaaaProg.lean LOADS. Nothing in Lean hashes anything: it is a label: what it is worth is what the hold of that sum in a sandbox is worth. -/
noncomputable def Try.pinned : Pinned := { name := "ytfjoaloakfjgaaa", sum := "10b8c90e676e26abed2965040e26e395c08f3615d808fb08bfe57de9f01490bf", checked := Try.checked }
namespace Rows
def none {H : Type} : Left H := { results := [], args := [] }

/-- 'laws.FnParts': WHATEVER THE INPUT: true; the input reads as it did. -/
def fnPartsSpec : ChangeSpec := { name := "fnParts", fn := fun _ => fun
  | [d] => { results := [.lit (.bool true)], args := [d] }
  | _ => none }
def fnPartsRow : OpenClaim := { program := "ytfjoaloakfjgaaa", sum := "10b8c90e676e26abed2965040e26e395c08f3615d808fb08bfe57de9f01490bf", func := "loop.example/g00710/laws.FnParts", spec := "fnParts", apart := false }
def FnPartsSaid : Prop := fnPartsRow.holds Try.pinned (OpenSpec.ofChange fnPartsSpec)

/-- ITS FALSE NEIGHBOUR: 'it returns false'. Refute it at one input. -/
def fnPartsWrong : ChangeSpec := { name := "fnParts", fn := fun _ => fun
  | [d] => { results := [.lit (.bool false)], args := [d] }
  | _ => none }
def FnPartsWrongFalsely : Prop := fnPartsRow.holds Try.pinned (OpenSpec.ofChange fnPartsWrong)

/-- 'laws.FnExactBackward': WHATEVER THE INPUT: true; the input reads as it did. -/
def fnExactBackwardSpec : ChangeSpec := { name := "fnExactBackward", fn := fun _ => fun
  | [d1, d2] => { results := [.lit (.bool true)], args := [d1, d2] }
  | _ => none }
def fnExactBackwardRow : OpenClaim := { program := "ytfjoaloakfjgaaa", sum := "10b8c90e676e26abed2965040e26e395c08f3615d808fb08bfe57de9f01490bf", func := "loop.example/g00710/laws.FnExactBackward", spec := "fnExactBackward", apart := false }
def FnExactBackwardSaid : Prop := fnExactBackwardRow.holds Try.pinned (OpenSpec.ofChange fnExactBackwardSpec)

/-- ITS FALSE NEIGHBOUR: 'it returns false'. Refute it at one input. -/
def fnExactBackwardWrong : ChangeSpec := { name := "fnExactBackward", fn := fun _ => fun
  | [d1, d2] => { results := [.lit (.bool false)], args := [d1, d2] }
  | _ => none }
def FnExactBackwardWrongFalsely : Prop := fnExactBackwardRow.holds Try.pinned (OpenSpec.ofChange fnExactBackwardWrong)

/-- 'laws.FnTwistedFold': WHATEVER THE INPUT: true; the input reads as it did. -/
def fnTwistedFoldSpec : ChangeSpec := { name := "fnTwistedFold", fn := fun _ => fun
  | [d] => { results := [.lit (.bool true)], args := [d] }
  | _ => none }
def fnTwistedFoldRow : OpenClaim := { program := "ytfjoaloakfjgaaa", sum := "10b8c90e676e26abed2965040e26e395c08f3615d808fb08bfe57de9f01490bf", func := "loop.example/g00710/laws.FnTwistedFold", spec := "fnTwistedFold", apart := false }
def FnTwistedFoldSaid : Prop := fnTwistedFoldRow.holds Try.pinned (OpenSpec.ofChange fnTwistedFoldSpec)

/-- ITS FALSE NEIGHBOUR: 'it returns false'. Refute it at one input. -/
def fnTwistedFoldWrong : ChangeSpec := { name := "fnTwistedFold", fn := fun _ => fun
  | [d] => { results := [.lit (.bool false)], args := [d] }
  | _ => none }
def FnTwistedFoldWrongFalsely : Prop := fnTwistedFoldRow.holds Try.pinned (OpenSpec.ofChange fnTwistedFoldWrong)

/-- 'laws.FnRotate': WHATEVER THE INPUT: true; the input reads as it did. -/
def fnRotateSpec : ChangeSpec := { name := "fnRotate", fn := fun _ => fun
  | [d] => { results := [.lit (.bool true)], args := [d] }
  | _ => none }
def fnRotateRow : OpenClaim := { program := "ytfjoaloakfjgaaa", sum := "10b8c90e676e26abed2965040e26e395c08f3615d808fb08bfe57de9f01490bf", func := "loop.example/g00710/laws.FnRotate", spec := "fnRotate", apart := false }
def FnRotateSaid : Prop := fnRotateRow.holds Try.pinned (OpenSpec.ofChange fnRotateSpec)

/-- ITS FALSE NEIGHBOUR: 'it returns false'. Refute it at one input. -/
def fnRotateWrong : ChangeSpec := { name := "fnRotate", fn := fun _ => fun
  | [d] => { results := [.lit (.bool false)], args := [d] }
  | _ => none }
def FnRotateWrongFalsely : Prop := fnRotateRow.holds Try.pinned (OpenSpec.ofChange fnRotateWrong)

/- THE SECOND FORM. 'bulk': how many values and letters a reading holds, each counted each time it is reached (what is shared counts as often as it is met; a slice's spare places count too). A statement '..UptoSaid' is the law's where the arguments, and the package variables that the reading takes, are together of bulk at most 1048576: NARROWER than '..Said'. Prove '..Said' where nothing that the law and all that it calls make is longer than what came in: it says more and counts as full. Else prove '..UptoSaid'. A law counts once. -/
mutual
def uptoBulk {H : Type} : DataW H → Nat
  | .lit (.string bytes) => bytes.length + 1
  | .lit _ => 1
  | .nil => 1
  | .ptr d => uptoBulk d + 1
  | .slice elems spare => uptoBulkAll elems + uptoBulkAll spare + 1
  | .agg parts => uptoBulkAll parts + 1
  | .iface _ d => uptoBulk d + 1
  | .map entries => uptoBulkEntries entries + 1
  | .held _ => 1
def uptoBulkAll {H : Type} : List (DataW H) → Nat
  | [] => 0
  | d :: r => uptoBulk d + uptoBulkAll r
def uptoBulkEntries {H : Type} : List (Lit × DataW H) → Nat
  | [] => 0
  | x :: r => uptoBulkEntry x + uptoBulkEntries r
def uptoBulkEntry {H : Type} : Lit × DataW H → Nat
  | (.string bytes, d) => bytes.length + uptoBulk d + 1
  | (_, d) => uptoBulk d + 1
 end
def uptoSmall : (H : Type) → List (DataW H) → Bool := fun _ ds => decide (uptoBulkAll ds ≤ 1048576)
def OpenSpec.upto (s : _root_.Go.ChangeSpec) : _root_.Go.OpenSpec := { _root_.Go.OpenSpec.ofChange s with cond := some uptoSmall }

/-- 'laws.FnParts', WHERE WHAT IT READS IS OF BULK AT MOST 1048576: true; the input reads as it did. -/
def fnPartsUptoRow : OpenClaim := { program := "ytfjoaloakfjgaaa", sum := "10b8c90e676e26abed2965040e26e395c08f3615d808fb08bfe57de9f01490bf", func := "loop.example/g00710/laws.FnParts", spec := "fnParts", apart := false, narrowed := true }
def FnPartsUptoSaid : Prop := fnPartsUptoRow.holds Try.pinned (OpenSpec.upto fnPartsSpec)

/-- 'laws.FnExactBackward', WHERE WHAT IT READS IS OF BULK AT MOST 1048576: true; the input reads as it did. -/
def fnExactBackwardUptoRow : OpenClaim := { program := "ytfjoaloakfjgaaa", sum := "10b8c90e676e26abed2965040e26e395c08f3615d808fb08bfe57de9f01490bf", func := "loop.example/g00710/laws.FnExactBackward", spec := "fnExactBackward", apart := false, narrowed := true }
def FnExactBackwardUptoSaid : Prop := fnExactBackwardUptoRow.holds Try.pinned (OpenSpec.upto fnExactBackwardSpec)

/-- 'laws.FnTwistedFold', WHERE WHAT IT READS IS OF BULK AT MOST 1048576: true; the input reads as it did. -/
def fnTwistedFoldUptoRow : OpenClaim := { program := "ytfjoaloakfjgaaa", sum := "10b8c90e676e26abed2965040e26e395c08f3615d808fb08bfe57de9f01490bf", func := "loop.example/g00710/laws.FnTwistedFold", spec := "fnTwistedFold", apart := false, narrowed := true }
def FnTwistedFoldUptoSaid : Prop := fnTwistedFoldUptoRow.holds Try.pinned (OpenSpec.upto fnTwistedFoldSpec)

/-- 'laws.FnRotate', WHERE WHAT IT READS IS OF BULK AT MOST 1048576: true; the input reads as it did. -/
def fnRotateUptoRow : OpenClaim := { program := "ytfjoaloakfjgaaa", sum := "10b8c90e676e26abed2965040e26e395c08f3615d808fb08bfe57de9f01490bf", func := "loop.example/g00710/laws.FnRotate", spec := "fnRotate", apart := false, narrowed := true }
def FnRotateUptoSaid : Prop := fnRotateUptoRow.holds Try.pinned (OpenSpec.upto fnRotateSpec)

end Rows
end Go.Proofs.Ytfjoaloakfjgaaa
