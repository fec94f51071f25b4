/- Words of the printed texts: those that this seat's laws reach, laid by a program of this session out of the print's own words; no condition. -/
import Derived.Test.YtmhkloeenmnlhaaWWords
import Derived.Laws.StructEq
namespace Go.Proofs.YtmhkloeenmnlhaaW.PrintWords
open Go.RowKit
section
variable {P : Program} {d : Nat} {xs ys : Array Value} {f : Field} {fs : List Field} {a b : Value} {r s : Bool} {w : World}
end
end Go.Proofs.YtmhkloeenmnlhaaW.PrintWords
