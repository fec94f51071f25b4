/- Words of the printed texts: those that this seat's laws reach, laid by a program of this session out of the print's own words; no condition. -/
import Derived.Test.YtmhkloeenmnlhaaWWords
namespace Go.Proofs.YtmhkloeenmnlhaaW.PrintWords
open Go.RowKit
namespace Kd
section
variable {α : Type} {n : Nat} {d : Kd α} {hs : 0 < d.sz} {w : World} {base : Nat} {ok : Nat → Prop} {xs : List α} {cs : List Value}
end
section
variable {α : Type} {n : Nat} {enc : α → Value} {h1 : ∀ x, (enc x).oneCell' = true} {hs : 0 < (scalar enc h1).sz} {w : World} {base : Nat} {ok : Nat → Prop} {xs : List α} {cs : List Value}
end
end Kd
end Go.Proofs.YtmhkloeenmnlhaaW.PrintWords
