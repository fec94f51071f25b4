/- Words of the printed texts: those that this seat's laws reach, laid by a program of this session out of the print's own words; no condition. -/
import Derived.Test.YtmhkloeenmnlhaaWTab
namespace Go.Proofs.YtmhkloeenmnlhaaW.PrintLast
section
variable {P : Program} {ops : Array Oper} {Q : Exit → Act → World → Prop} {md : Region.Mode} {S : World → Prop} {ds : List Nat} {T : Bool × List (List Nat × List Nat)}
end
end Go.Proofs.YtmhkloeenmnlhaaW.PrintLast
