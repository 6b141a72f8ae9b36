/- Contracts of Go functions that the law FnNumbers reaches (what a print told with a stand-in for strconv.Itoa, with the shelf's contract in its place). -/
import Derived.Test.YtpcjbnglolfaaaaDoorProg
import Derived.Test.YtpcjbnglolfaaaaDoorTabUp
import Derived.Test.YtpcjbnglolfaaaaDoorMake0
import Derived.Below
import Derived.Deep.Draws
import Derived.Deep.AppendLies
import Derived.Maps.AppendAt
import Derived.OwnWalk
import Derived.Laws.BytesArg
import Derived.Laws.MakeOwn
import Derived.Laws.OwnMore
import Derived.Deep.OwnRows
import Derived.Tactics
import Derived.Lib.ConvBytes
import Derived.Laws.Slices
import Derived.WalkKit
import Derived.KernelRfl
import Derived.RowKit3
import Derived.Deep.LoopGhost
import Derived.Deep.QuietTactic
import Derived.BigQuiet
import Derived.WideLaws
import Derived.Deep.DeepCutAuto
import Derived.Deep.CutBlock
import Derived.Deep.RegionHeld3
import Derived.Laws.Rows
import Derived.Lib.AppendStr
import Derived.ArgAppend
import Derived.Laws.IdiomCopy
import Derived.OrdersHeld
import Derived.Laws.BitsLemmas
import Derived.RowKit
import Derived.Test.YtpcjbnglolfaaaaDoorWWords
import Derived.Test.YtpcjbnglolfaaaaDoorWLast
import Derived.Test.YtpcjbnglolfaaaaDoorWTab
import Derived.Test.YtpcjbnglolfaaaaDoorWFour
import Derived.Test.YtpcjbnglolfaaaaDoorWQPut
import Derived.Test.YtpcjbnglolfaaaaDoorWApart
import Derived.Test.YtpcjbnglolfaaaaDoorWArr
import Derived.Test.YtpcjbnglolfaaaaDoorWZeros
import Derived.Test.YtpcjbnglolfaaaaDoorWFoot
import Derived.Test.YtpcjbnglolfaaaaDoorWKept
import Derived.Test.YtpcjbnglolfaaaaDoorWShare
import Derived.Test.YtpcjbnglolfaaaaDoorWN
import Derived.Test.YtpcjbnglolfaaaaDoorWFootNe
import Derived.Test.YtpcjbnglolfaaaaDoorWAt
import Derived.Test.YtpcjbnglolfaaaaDoorWEqStruct
import Derived.Test.YtpcjbnglolfaaaaDoorWRepsOne
import Derived.Test.YtpcjbnglolfaaaaDoorWInv
import Derived.Test.YtpcjbnglolfaaaaDoorWInvWords
import Derived.Test.YtpcjbnglolfaaaaDoorWGuard
import Derived.Test.YtpcjbnglolfaaaaDoorWNEv
import Derived.Test.YtpcjbnglolfaaaaDoorWMore
namespace Go.Proofs.YtpcjbnglolfaaaaDoor.PFnNumbers
open Go.RowKit Go.Proofs.YtpcjbnglolfaaaaDoorW.PrintWords Go.Proofs.YtpcjbnglolfaaaaDoorW.PrintLast Go.Proofs.YtpcjbnglolfaaaaDoorW.PrintMore
attribute [local go_sem] max2_int min2_int max_two min_two max_three min_three max_four min_four   -- for this text's walks alone
set_option linter.unusedVariables false
set_option linter.unusedSimpArgs false



def errW : Option Int → Value
  | none => .nilIface
  | some c => .iface 0 (.int .i64 c)
theorem errW_none : errW none = .nilIface := rfl
theorem errW_some (c : Int) : errW (some c) = .iface 0 (.int .i64 c) := rfl

theorem info3 : (Tryd.prog.info? 3).map (fun i => (i.zero, i.size, i.bytes)) = some (some (.int .i64 0), 1, 8) := by kernel_rfl
theorem info5 : (Tryd.prog.info? 5).map (fun i => (i.zero, i.size, i.bytes)) = some (some (.int .u8 0), 1, 1) := by kernel_rfl
-- the values' own types

end Go.Proofs.YtpcjbnglolfaaaaDoor.PFnNumbers
