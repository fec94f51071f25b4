/-
  No cell of these rows narrows 'for every input' (looked for: loops, veiled, ifaces, maps, wideKeys, modest, calm, conditions, laid).
  DERIVED. THE GIVEN ROWS OF THIS SEAT. 3 by the template 'for every input the law returns true; each argument reads behind the call as it read before'; 0 by the template 'total and deterministic' (their statements: YtmhkloeenmnlhaaTotals.lean).
  GIVEN WITH THE SEED: the statements are not yours to turn. If you find one false, say at which input.
  Laid BY PROGRAM, IN A SANDBOX (cutbox-rows.mjs): the forced cells as the released guide's own fill.sh prints them over the translation 0cb9c4fbf782ed76… (all of the seat's roots in one cut). By AI agents, Wed Nov 11 2026. No macro, syntax, notation, axiom, sorry.
-/
import Derived.Test.YtmhkloeenmnlhaaChecked
import GoSem.Claim
import GoSem.ClaimJoined
import GoSem.ClaimMapViews
import Derived.JoinedTies
import Derived.KernelRfl
namespace Go.Proofs.Ytmhkloeenmnlhaa
/- THE CELL 'sum', in the pinned program and in every row, IS THE sha256 OF THE DUMP (.gsa) THAT YtmhkloeenmnlhaaProg.lean LOADS. Nothing in Lean hashes anything: it is a label: what it is worth is what the hold of that sum in a sandbox is worth. -/
noncomputable def Try.pinned : Pinned := { name := "ytmhkloeenmnlhaa", sum := "0cb9c4fbf782ed762279b03d18038bf8dd2559243c2b2293a6bd4e575a08e3a0", checked := Try.checked }
namespace Rows
def none {H : Type} : Left H := { results := [], args := [] }

/-- 'laws.FnLogProduct': WHATEVER THE INPUT: true; the input reads as it did. -/
def fnLogProductSpec : ChangeSpec := { name := "fnLogProduct", fn := fun _ => fun
  | [d] => { results := [.lit (.bool true)], args := [d] }
  | _ => none }
def fnLogProductRow : OpenClaim := { program := "ytmhkloeenmnlhaa", sum := "0cb9c4fbf782ed762279b03d18038bf8dd2559243c2b2293a6bd4e575a08e3a0", func := "loop.example/g00710/laws.FnLogProduct", spec := "fnLogProduct", apart := false }
def FnLogProductSaid : Prop := fnLogProductRow.holds Try.pinned (OpenSpec.ofChange fnLogProductSpec)

/-- ITS FALSE NEIGHBOUR: 'it returns false'. Refute it at one input. -/
def fnLogProductWrong : ChangeSpec := { name := "fnLogProduct", fn := fun _ => fun
  | [d] => { results := [.lit (.bool false)], args := [d] }
  | _ => none }
def FnLogProductWrongFalsely : Prop := fnLogProductRow.holds Try.pinned (OpenSpec.ofChange fnLogProductWrong)

/-- 'laws.FnLogExp': WHATEVER THE INPUT: true; the input reads as it did. -/
def fnLogExpSpec : ChangeSpec := { name := "fnLogExp", fn := fun _ => fun
  | [d] => { results := [.lit (.bool true)], args := [d] }
  | _ => none }
def fnLogExpRow : OpenClaim := { program := "ytmhkloeenmnlhaa", sum := "0cb9c4fbf782ed762279b03d18038bf8dd2559243c2b2293a6bd4e575a08e3a0", func := "loop.example/g00710/laws.FnLogExp", spec := "fnLogExp", apart := false }
def FnLogExpSaid : Prop := fnLogExpRow.holds Try.pinned (OpenSpec.ofChange fnLogExpSpec)

/-- ITS FALSE NEIGHBOUR: 'it returns false'. Refute it at one input. -/
def fnLogExpWrong : ChangeSpec := { name := "fnLogExp", fn := fun _ => fun
  | [d] => { results := [.lit (.bool false)], args := [d] }
  | _ => none }
def FnLogExpWrongFalsely : Prop := fnLogExpRow.holds Try.pinned (OpenSpec.ofChange fnLogExpWrong)

/-- 'laws.FnSeriesInto': WHATEVER THE INPUT: true; the input reads as it did. -/
def fnSeriesIntoSpec : ChangeSpec := { name := "fnSeriesInto", fn := fun _ => fun
  | [d] => { results := [.lit (.bool true)], args := [d] }
  | _ => none }
def fnSeriesIntoRow : OpenClaim := { program := "ytmhkloeenmnlhaa", sum := "0cb9c4fbf782ed762279b03d18038bf8dd2559243c2b2293a6bd4e575a08e3a0", func := "loop.example/g00710/laws.FnSeriesInto", spec := "fnSeriesInto", apart := false }
def FnSeriesIntoSaid : Prop := fnSeriesIntoRow.holds Try.pinned (OpenSpec.ofChange fnSeriesIntoSpec)

/-- ITS FALSE NEIGHBOUR: 'it returns false'. Refute it at one input. -/
def fnSeriesIntoWrong : ChangeSpec := { name := "fnSeriesInto", fn := fun _ => fun
  | [d] => { results := [.lit (.bool false)], args := [d] }
  | _ => none }
def FnSeriesIntoWrongFalsely : Prop := fnSeriesIntoRow.holds Try.pinned (OpenSpec.ofChange fnSeriesIntoWrong)

/- THE SECOND FORM. 'bulk': how many values and letters a reading holds, each counted each time it is reached (what is shared counts as often as it is met; a slice's spare places count too). A statement '..UptoSaid' is the law's where the arguments, and the package variables that the reading takes, are together of bulk at most 1048576: NARROWER than '..Said'. Prove '..Said' where nothing that the law and all that it calls make is longer than what came in: it says more and counts as full. Else prove '..UptoSaid'. A law counts once. -/
mutual
def uptoBulk {H : Type} : DataW H → Nat
  | .lit (.string bytes) => bytes.length + 1
  | .lit _ => 1
  | .nil => 1
  | .ptr d => uptoBulk d + 1
  | .slice elems spare => uptoBulkAll elems + uptoBulkAll spare + 1
  | .agg parts => uptoBulkAll parts + 1
  | .iface _ d => uptoBulk d + 1
  | .map entries => uptoBulkEntries entries + 1
  | .held _ => 1
def uptoBulkAll {H : Type} : List (DataW H) → Nat
  | [] => 0
  | d :: r => uptoBulk d + uptoBulkAll r
def uptoBulkEntries {H : Type} : List (Lit × DataW H) → Nat
  | [] => 0
  | x :: r => uptoBulkEntry x + uptoBulkEntries r
def uptoBulkEntry {H : Type} : Lit × DataW H → Nat
  | (.string bytes, d) => bytes.length + uptoBulk d + 1
  | (_, d) => uptoBulk d + 1
 end
def uptoSmall : (H : Type) → List (DataW H) → Bool := fun _ ds => decide (uptoBulkAll ds ≤ 1048576)
def OpenSpec.upto (s : _root_.Go.ChangeSpec) : _root_.Go.OpenSpec := { _root_.Go.OpenSpec.ofChange s with cond := some uptoSmall }

/-- 'laws.FnLogProduct', WHERE WHAT IT READS IS OF BULK AT MOST 1048576: true; the input reads as it did. -/
def fnLogProductUptoRow : OpenClaim := { program := "ytmhkloeenmnlhaa", sum := "0cb9c4fbf782ed762279b03d18038bf8dd2559243c2b2293a6bd4e575a08e3a0", func := "loop.example/g00710/laws.FnLogProduct", spec := "fnLogProduct", apart := false, narrowed := true }
def FnLogProductUptoSaid : Prop := fnLogProductUptoRow.holds Try.pinned (OpenSpec.upto fnLogProductSpec)

/-- 'laws.FnLogExp', WHERE WHAT IT READS IS OF BULK AT MOST 1048576: true; the input reads as it did. -/
def fnLogExpUptoRow : OpenClaim := { program := "ytmhkloeenmnlhaa", sum := "0cb9c4fbf782ed762279b03d18038bf8dd2559243c2b2293a6bd4e575a08e3a0", func := "loop.example/g00710/laws.FnLogExp", spec := "fnLogExp", apart := false, narrowed := true }
def FnLogExpUptoSaid : Prop := fnLogExpUptoRow.holds Try.pinned (OpenSpec.upto fnLogExpSpec)

/-- 'laws.FnSeriesInto', WHERE WHAT IT READS IS OF BULK AT MOST 1048576: true; the input reads as it did. -/
def fnSeriesIntoUptoRow : OpenClaim := { program := "ytmhkloeenmnlhaa", sum := "0cb9c4fbf782ed762279b03d18038bf8dd2559243c2b2293a6bd4e575a08e3a0", func := "loop.example/g00710/laws.FnSeriesInto", spec := "fnSeriesInto", apart := false, narrowed := true }
def FnSeriesIntoUptoSaid : Prop := fnSeriesIntoUptoRow.holds Try.pinned (OpenSpec.upto fnSeriesIntoSpec)

end Rows
end Go.Proofs.Ytmhkloeenmnlhaa
