/- Words of the printed texts: those that this seat's laws reach, laid by a program of this session out of the print's own words; no condition. -/
import Derived.Test.YtmhkloeenmnlhaaWInv
import Derived.Test.YtmhkloeenmnlhaaWFootNe
namespace Go.Proofs.YtmhkloeenmnlhaaW.PrintWords
open Go.RowKit
end Go.Proofs.YtmhkloeenmnlhaaW.PrintWords
namespace Go.Proofs.YtmhkloeenmnlhaaW.PrintLast
section
variable {ops : Array Oper} {a : Act} {o og : Oper} {g : Nat} {t : Tmp} {u : Bool}
end
end Go.Proofs.YtmhkloeenmnlhaaW.PrintLast
