/- The machine side of this law: each Go function that it reaches as a Lean function, and the proof that the call comes to just its answer; printed by a program of this session out of the kit's print, with a contract of impl.fieldOf that is this session's own. No condition. -/
import Derived.Test.YtgjogfohknjpmaaDoorProg
import Derived.Test.YtgjogfohknjpmaaDoorLays
import Derived.Below
import Derived.Deep.Draws
import Derived.Deep.AppendLies
import Derived.Maps.AppendAt
import Derived.OwnWalk
import Derived.Laws.BytesArg
import Derived.Laws.MakeOwn
import Derived.Laws.OwnMore
import Derived.Deep.OwnRows
import Derived.Tactics
import Derived.Lib.ConvBytes
import Derived.Laws.Slices
import Derived.WalkKit
import Derived.KernelRfl
import Derived.RowKit3
import Derived.Deep.LoopGhost
import Derived.Deep.QuietTactic
import Derived.BigQuiet
import Derived.WideLaws
import Derived.Deep.DeepCutAuto
import Derived.Deep.CutBlock
import Derived.Deep.RegionHeld3
import Derived.Laws.Rows
import Derived.Lib.AppendStr
import Derived.ArgAppend
import Derived.Laws.IdiomCopy
import Derived.OrdersHeld
import Derived.Laws.BitsLemmas
import Derived.RowKit
import Derived.Test.YtgjogfohknjpmaaDoorWWords
import Derived.Test.YtgjogfohknjpmaaDoorWLast
import Derived.Test.YtgjogfohknjpmaaDoorWTab
import Derived.Test.YtgjogfohknjpmaaDoorWFour
import Derived.Test.YtgjogfohknjpmaaDoorWQPut
import Derived.Test.YtgjogfohknjpmaaDoorWApart
import Derived.Test.YtgjogfohknjpmaaDoorWArr
import Derived.Test.YtgjogfohknjpmaaDoorWZeros
import Derived.Test.YtgjogfohknjpmaaDoorWFoot
import Derived.Test.YtgjogfohknjpmaaDoorWKept
import Derived.Test.YtgjogfohknjpmaaDoorWShare
import Derived.Test.YtgjogfohknjpmaaDoorWN
import Derived.Test.YtgjogfohknjpmaaDoorWFootNe
import Derived.Test.YtgjogfohknjpmaaDoorWAt
import Derived.Test.YtgjogfohknjpmaaDoorWEqStruct
import Derived.Test.YtgjogfohknjpmaaDoorWRepsOne
import Derived.Test.YtgjogfohknjpmaaDoorWInv
import Derived.Test.YtgjogfohknjpmaaDoorWInvWords
import Derived.Test.YtgjogfohknjpmaaDoorWGuard
import Derived.Test.YtgjogfohknjpmaaDoorWNEv
import Derived.Test.YtgjogfohknjpmaaDoorWMore
namespace Go.Proofs.YtgjogfohknjpmaaDoor.PFnExactModText
open Go.RowKit Go.Proofs.YtgjogfohknjpmaaDoorW.PrintWords Go.Proofs.YtgjogfohknjpmaaDoorW.PrintLast Go.Proofs.YtgjogfohknjpmaaDoorW.PrintMore
attribute [local go_sem] max2_int min2_int max_two min_two max_three min_three max_four min_four   -- for this text's walks alone
set_option linter.unusedVariables false
set_option linter.unusedSimpArgs false



def errW : Option Int → Value
  | none => .nilIface
  | some c => .iface 0 (.int .i64 c)
theorem errW_none : errW none = .nilIface := rfl
theorem errW_some (c : Int) : errW (some c) = .iface 0 (.int .i64 c) := rfl

-- the values' own types

end Go.Proofs.YtgjogfohknjpmaaDoor.PFnExactModText
