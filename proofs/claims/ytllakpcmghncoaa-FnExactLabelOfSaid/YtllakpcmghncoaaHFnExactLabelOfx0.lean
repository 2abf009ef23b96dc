/- Functions of the program and what each call of them comes to, for the law FnExactLabelOf; written by a program of this session. No condition beyond those of each theorem. -/
import Derived.Test.YtllakpcmghncoaaProg
import Derived.Below
import Derived.Deep.Draws
import Derived.Deep.AppendLies
import Derived.Maps.AppendAt
import Derived.OwnWalk
import Derived.Laws.BytesArg
import Derived.Laws.MakeOwn
import Derived.Laws.OwnMore
import Derived.Deep.OwnRows
import Derived.Tactics
import Derived.Lib.ConvBytes
import Derived.Laws.Slices
import Derived.WalkKit
import Derived.KernelRfl
import Derived.RowKit3
import Derived.Deep.LoopGhost
import Derived.Deep.QuietTactic
import Derived.BigQuiet
import Derived.WideLaws
import Derived.Deep.DeepCutAuto
import Derived.Deep.CutBlock
import Derived.Deep.RegionHeld3
import Derived.Laws.Rows
import Derived.Lib.AppendStr
import Derived.ArgAppend
import Derived.Laws.IdiomCopy
import Derived.OrdersHeld
import Derived.Laws.BitsLemmas
import Derived.RowKit
import Derived.Test.YtllakpcmghncoaaWWords
import Derived.Test.YtllakpcmghncoaaWLast
import Derived.Test.YtllakpcmghncoaaWTab
import Derived.Test.YtllakpcmghncoaaWFour
import Derived.Test.YtllakpcmghncoaaWQPut
import Derived.Test.YtllakpcmghncoaaWApart
import Derived.Test.YtllakpcmghncoaaWArr
import Derived.Test.YtllakpcmghncoaaWZeros
import Derived.Test.YtllakpcmghncoaaWFoot
import Derived.Test.YtllakpcmghncoaaWKept
import Derived.Test.YtllakpcmghncoaaWShare
import Derived.Test.YtllakpcmghncoaaWN
import Derived.Test.YtllakpcmghncoaaWFootNe
import Derived.Test.YtllakpcmghncoaaWAt
import Derived.Test.YtllakpcmghncoaaWEqStruct
import Derived.Test.YtllakpcmghncoaaWRepsOne
import Derived.Test.YtllakpcmghncoaaWInv
import Derived.Test.YtllakpcmghncoaaWInvWords
import Derived.Test.YtllakpcmghncoaaWGuard
import Derived.Test.YtllakpcmghncoaaWNEv
import Derived.Test.YtllakpcmghncoaaWMore
namespace Go.Proofs.Ytllakpcmghncoaa.HFnExactLabelOf
open Go.RowKit Go.Proofs.YtllakpcmghncoaaW.PrintWords Go.Proofs.YtllakpcmghncoaaW.PrintLast Go.Proofs.YtllakpcmghncoaaW.PrintMore
attribute [local go_sem] max2_int min2_int max_two min_two max_three min_three max_four min_four   -- for this text's walks alone
set_option linter.unusedVariables false
set_option linter.unusedSimpArgs false



def errW : Option Int → Value
  | none => .nilIface
  | some c => .iface 0 (.int .i64 c)
theorem errW_none : errW none = .nilIface := rfl
theorem errW_some (c : Int) : errW (some c) = .iface 0 (.int .i64 c) := rfl

theorem info9 : (Try.prog.info? 9).map (fun i => (i.zero, i.size, i.bytes)) = some (some (.string ⟨#[]⟩), 1, 16) := by kernel_rfl
-- the values' own types

end Go.Proofs.Ytllakpcmghncoaa.HFnExactLabelOf
