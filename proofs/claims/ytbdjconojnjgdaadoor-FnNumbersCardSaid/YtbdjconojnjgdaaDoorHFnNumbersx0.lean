/- Functions of the program and what each call of them comes to, for the law FnNumbers; written by a program of this session. No condition beyond those of each theorem. -/
import Derived.Test.YtbdjconojnjgdaaDoorProg
import Derived.Below
import Derived.Deep.Draws
import Derived.Deep.AppendLies
import Derived.Maps.AppendAt
import Derived.OwnWalk
import Derived.Laws.BytesArg
import Derived.Laws.MakeOwn
import Derived.Laws.OwnMore
import Derived.Deep.OwnRows
import Derived.Tactics
import Derived.Lib.ConvBytes
import Derived.Laws.Slices
import Derived.WalkKit
import Derived.KernelRfl
import Derived.RowKit3
import Derived.Deep.LoopGhost
import Derived.Deep.QuietTactic
import Derived.BigQuiet
import Derived.WideLaws
import Derived.Deep.DeepCutAuto
import Derived.Deep.CutBlock
import Derived.Deep.RegionHeld3
import Derived.Laws.Rows
import Derived.Lib.AppendStr
import Derived.ArgAppend
import Derived.Laws.IdiomCopy
import Derived.OrdersHeld
import Derived.Laws.BitsLemmas
import Derived.RowKit
import Derived.Test.YtbdjconojnjgdaaDoorShD
import Derived.Lib.SmallJoins
import Derived.Lib.AppendIntMem
import Derived.Test.YtbdjconojnjgdaaDoorWWords
import Derived.Test.YtbdjconojnjgdaaDoorWLast
import Derived.Test.YtbdjconojnjgdaaDoorWTab
import Derived.Test.YtbdjconojnjgdaaDoorWFour
import Derived.Test.YtbdjconojnjgdaaDoorWQPut
import Derived.Test.YtbdjconojnjgdaaDoorWApart
import Derived.Test.YtbdjconojnjgdaaDoorWArr
import Derived.Test.YtbdjconojnjgdaaDoorWZeros
import Derived.Test.YtbdjconojnjgdaaDoorWFoot
import Derived.Test.YtbdjconojnjgdaaDoorWKept
import Derived.Test.YtbdjconojnjgdaaDoorWShare
import Derived.Test.YtbdjconojnjgdaaDoorWN
import Derived.Test.YtbdjconojnjgdaaDoorWFootNe
import Derived.Test.YtbdjconojnjgdaaDoorWAt
import Derived.Test.YtbdjconojnjgdaaDoorWEqStruct
import Derived.Test.YtbdjconojnjgdaaDoorWRepsOne
import Derived.Test.YtbdjconojnjgdaaDoorWInv
import Derived.Test.YtbdjconojnjgdaaDoorWInvWords
import Derived.Test.YtbdjconojnjgdaaDoorWGuard
import Derived.Test.YtbdjconojnjgdaaDoorWNEv
import Derived.Test.YtbdjconojnjgdaaDoorWMore
namespace Go.Proofs.YtbdjconojnjgdaaDoor.HFnNumbers
open Go.RowKit Go.Proofs.YtbdjconojnjgdaaDoorW.PrintWords Go.Proofs.YtbdjconojnjgdaaDoorW.PrintLast Go.Proofs.YtbdjconojnjgdaaDoorW.PrintMore
attribute [local go_sem] max2_int min2_int max_two min_two max_three min_three max_four min_four   -- for this text's walks alone
set_option linter.unusedVariables false
set_option linter.unusedSimpArgs false



def errW : Option Int → Value
  | none => .nilIface
  | some c => .iface 0 (.int .i64 c)
theorem errW_none : errW none = .nilIface := rfl
theorem errW_some (c : Int) : errW (some c) = .iface 0 (.int .i64 c) := rfl

theorem info3 : (Tryd.prog.info? 3).map (fun i => (i.zero, i.size, i.bytes)) = some (some (.int .i64 0), 1, 8) := by kernel_rfl
theorem info5 : (Tryd.prog.info? 5).map (fun i => (i.zero, i.size, i.bytes)) = some (some (.int .u8 0), 1, 1) := by kernel_rfl
-- the values' own types

end Go.Proofs.YtbdjconojnjgdaaDoor.HFnNumbers
