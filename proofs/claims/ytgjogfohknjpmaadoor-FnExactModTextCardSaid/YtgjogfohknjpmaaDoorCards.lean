/-
  DERIVED. GIVEN WITH THE SEED: THE CARDS: each row of YtgjogfohknjpmaaDoorRows.lean that lists a variable, with what it lists TIED to the program's text (the seventh form; the later family's looks); each row that meets fmt, with fmt's text TOLD by the authors' own Lean function (tested against real Go, not proved from fmt's source: count such statements apart). THE CARD IS WHAT COUNTS. Prove the row's statement (the work); the ties are given (YtgjogfohknjpmaaDoorTie.lean); close each card by the builder's one call (the guide's Derived/Test/ToyasCard.lean, 'card_holds'). Laid BY PROGRAM, IN A SANDBOX (cutbox-door.mjs). By AI agents, Wed Nov 11 2026. No macro, syntax, notation, axiom, sorry.
-/
import Derived.Test.YtgjogfohknjpmaaDoorRows
import GoSem.ClaimSeven
namespace Go.Proofs.YtgjogfohknjpmaaDoor
namespace Rows

/-- THE TIED CARD OF 'laws.FnExactDigitsOk'. -/
def fnExactDigitsOkCard : Claim7 := { stood := { row := fnExactDigitsOkRow, standIns := [], harness := (true, "53b75bf78236e47d0d1d931dc7f23a940b11b3dec4cb8d2d6ed298f4983a9831"), looks := false }, kinds := [], alts := [], laidByText := true, laidKinds := [.data, .pinned], laidTests := true, laidLooks := .later }
def FnExactDigitsOkCardSaid : Prop := Claim7.holds Tryd.pinned (.plain (OpenSpec.ofChange fnExactDigitsOkSpec)) fnExactDigitsOkCard

/-- THE TIED CARD OF 'laws.FnExactModText'. -/
def fnExactModTextCard : Claim7 := { stood := { row := fnExactModTextRow, standIns := [], harness := (true, "53b75bf78236e47d0d1d931dc7f23a940b11b3dec4cb8d2d6ed298f4983a9831"), looks := false }, kinds := [], alts := [], laidByText := true, laidKinds := [.data, .pinned], laidTests := true, laidLooks := .later }
def FnExactModTextCardSaid : Prop := Claim7.holds Tryd.pinned (.plain (OpenSpec.ofChange fnExactModTextSpec)) fnExactModTextCard

/-- THE SECOND FORM's CARD OF 'laws.FnExactDigitsOk'. -/
def fnExactDigitsOkUptoCard : Claim7 := { stood := { row := fnExactDigitsOkUptoRow, standIns := [], harness := (true, "53b75bf78236e47d0d1d931dc7f23a940b11b3dec4cb8d2d6ed298f4983a9831"), looks := false }, kinds := [], alts := [], laidByText := true, laidKinds := [.data, .pinned], laidTests := true, laidLooks := .later }
def FnExactDigitsOkUptoCardSaid : Prop := Claim7.holds Tryd.pinned (.plain (OpenSpec.upto fnExactDigitsOkSpec)) fnExactDigitsOkUptoCard

/-- THE SECOND FORM's CARD OF 'laws.FnExactModText'. -/
def fnExactModTextUptoCard : Claim7 := { stood := { row := fnExactModTextUptoRow, standIns := [], harness := (true, "53b75bf78236e47d0d1d931dc7f23a940b11b3dec4cb8d2d6ed298f4983a9831"), looks := false }, kinds := [], alts := [], laidByText := true, laidKinds := [.data, .pinned], laidTests := true, laidLooks := .later }
def FnExactModTextUptoCardSaid : Prop := Claim7.holds Tryd.pinned (.plain (OpenSpec.upto fnExactModTextSpec)) fnExactModTextUptoCard
end Rows
end Go.Proofs.YtgjogfohknjpmaaDoor
