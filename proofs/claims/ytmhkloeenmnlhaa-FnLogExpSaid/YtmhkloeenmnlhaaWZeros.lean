/- Words of the printed texts: those that this seat's laws reach, laid by a program of this session out of the print's own words; no condition. -/
import Derived.Test.YtmhkloeenmnlhaaWApart
import Derived.Test.YtmhkloeenmnlhaaWArr
namespace Go.Proofs.YtmhkloeenmnlhaaW.PrintWords
open Go.RowKit
section
variable {P : Program}
end
namespace Kd
section
variable {P : Program} {ops : Array Oper} {rest : List Oper} {o : Oper} {a : Act} {Q : Exit → Act → World → Prop} {Kc : Act → World → Prop} {α : Type}
end
section
variable {α : Type} {d : Kd α} {e : Nat} {w : World} {base : Nat} {ok : Nat → Prop} {v : Value} {xs : List α}
end
section
variable {P : Program} {ops : Array Oper} {rest : List Oper} {o : Oper} {a : Act} {Q : Exit → Act → World → Prop} {Kc : Act → World → Prop} {α : Type}
end
end Kd
end Go.Proofs.YtmhkloeenmnlhaaW.PrintWords
