/- Functions of the program and what each call of them comes to, for the law FnExactUnitCost; written by a program of this session. No condition beyond those of each theorem. -/
import Derived.Test.YtejcbclcifnomaaProg
import Derived.Below
import Derived.Deep.Draws
import Derived.Deep.AppendLies
import Derived.Maps.AppendAt
import Derived.OwnWalk
import Derived.Laws.BytesArg
import Derived.Laws.MakeOwn
import Derived.Laws.OwnMore
import Derived.Deep.OwnRows
import Derived.Tactics
import Derived.Lib.ConvBytes
import Derived.Laws.Slices
import Derived.WalkKit
import Derived.KernelRfl
import Derived.RowKit3
import Derived.Deep.LoopGhost
import Derived.Deep.QuietTactic
import Derived.BigQuiet
import Derived.WideLaws
import Derived.Deep.DeepCutAuto
import Derived.Deep.CutBlock
import Derived.Deep.RegionHeld3
import Derived.Laws.Rows
import Derived.Lib.AppendStr
import Derived.ArgAppend
import Derived.Laws.IdiomCopy
import Derived.OrdersHeld
import Derived.Laws.BitsLemmas
import Derived.RowKit
import Derived.Test.YtejcbclcifnomaaWWords
import Derived.Test.YtejcbclcifnomaaWLast
import Derived.Test.YtejcbclcifnomaaWTab
import Derived.Test.YtejcbclcifnomaaWFour
import Derived.Test.YtejcbclcifnomaaWQPut
import Derived.Test.YtejcbclcifnomaaWApart
import Derived.Test.YtejcbclcifnomaaWArr
import Derived.Test.YtejcbclcifnomaaWZeros
import Derived.Test.YtejcbclcifnomaaWFoot
import Derived.Test.YtejcbclcifnomaaWKept
import Derived.Test.YtejcbclcifnomaaWShare
import Derived.Test.YtejcbclcifnomaaWN
import Derived.Test.YtejcbclcifnomaaWFootNe
import Derived.Test.YtejcbclcifnomaaWAt
import Derived.Test.YtejcbclcifnomaaWEqStruct
import Derived.Test.YtejcbclcifnomaaWRepsOne
import Derived.Test.YtejcbclcifnomaaWInv
import Derived.Test.YtejcbclcifnomaaWInvWords
import Derived.Test.YtejcbclcifnomaaWGuard
import Derived.Test.YtejcbclcifnomaaWNEv
import Derived.Test.YtejcbclcifnomaaWMore
namespace Go.Proofs.Ytejcbclcifnomaa.HFnExactUnitCost
open Go.RowKit Go.Proofs.YtejcbclcifnomaaW.PrintWords Go.Proofs.YtejcbclcifnomaaW.PrintLast Go.Proofs.YtejcbclcifnomaaW.PrintMore
attribute [local go_sem] max2_int min2_int max_two min_two max_three min_three max_four min_four   -- for this text's walks alone
set_option linter.unusedVariables false
set_option linter.unusedSimpArgs false



def errW : Option Int → Value
  | none => .nilIface
  | some c => .iface 0 (.int .i64 c)
theorem errW_none : errW none = .nilIface := rfl
theorem errW_some (c : Int) : errW (some c) = .iface 0 (.int .i64 c) := rfl

theorem info3 : (Try.prog.info? 3).map (fun i => (i.zero, i.size, i.bytes)) = some (some (.int .i64 0), 1, 8) := by kernel_rfl
-- the values' own types

end Go.Proofs.Ytejcbclcifnomaa.HFnExactUnitCost
