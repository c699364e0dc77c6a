/- The functions that FnExactConstants reaches as Lean functions, each with its contract: laid by a program of this session (wip/print2.py) over the kit's print. -/
import Derived.Test.YtccobinebaomoaaProg
import Derived.Below
import Derived.Deep.Draws
import Derived.Deep.AppendLies
import Derived.Maps.AppendAt
import Derived.OwnWalk
import Derived.Laws.BytesArg
import Derived.Laws.MakeOwn
import Derived.Laws.OwnMore
import Derived.Deep.OwnRows
import Derived.Tactics
import Derived.Lib.ConvBytes
import Derived.Laws.Slices
import Derived.WalkKit
import Derived.KernelRfl
import Derived.RowKit3
import Derived.Deep.LoopGhost
import Derived.Deep.QuietTactic
import Derived.BigQuiet
import Derived.WideLaws
import Derived.Deep.DeepCutAuto
import Derived.Deep.CutBlock
import Derived.Deep.RegionHeld3
import Derived.Laws.Rows
import Derived.Lib.AppendStr
import Derived.ArgAppend
import Derived.Laws.IdiomCopy
import Derived.OrdersHeld
import Derived.Laws.BitsLemmas
import Derived.RowKit
import Derived.Laws.Externs
import Derived.Laws.FloatArith
import Derived.LoopN
import Derived.Test.YtccobinebaomoaaFloatW
import Derived.Test.YtccobinebaomoaaLib
import Derived.Test.YtccobinebaomoaaWWords
import Derived.Test.YtccobinebaomoaaWLast
import Derived.Test.YtccobinebaomoaaWTab
import Derived.Test.YtccobinebaomoaaWFour
import Derived.Test.YtccobinebaomoaaWQPut
import Derived.Test.YtccobinebaomoaaWApart
import Derived.Test.YtccobinebaomoaaWArr
import Derived.Test.YtccobinebaomoaaWZeros
import Derived.Test.YtccobinebaomoaaWFoot
import Derived.Test.YtccobinebaomoaaWKept
import Derived.Test.YtccobinebaomoaaWShare
import Derived.Test.YtccobinebaomoaaWN
import Derived.Test.YtccobinebaomoaaWFootNe
import Derived.Test.YtccobinebaomoaaWAt
import Derived.Test.YtccobinebaomoaaWEqStruct
import Derived.Test.YtccobinebaomoaaWRepsOne
import Derived.Test.YtccobinebaomoaaWInv
import Derived.Test.YtccobinebaomoaaWInvWords
import Derived.Test.YtccobinebaomoaaWGuard
import Derived.Test.YtccobinebaomoaaWNEv
import Derived.Test.YtccobinebaomoaaWMore
namespace Go.Proofs.Ytccobinebaomoaa.PFnExactConstants
open Go.RowKit Go.Proofs.YtccobinebaomoaaW.PrintWords Go.Proofs.YtccobinebaomoaaW.PrintLast Go.Proofs.YtccobinebaomoaaW.PrintMore
attribute [local go_sem] max2_int min2_int max_two min_two max_three min_three max_four min_four   -- for this text's walks alone
set_option linter.unusedVariables false
set_option linter.unusedSimpArgs false



def errW : Option Int → Value
  | none => .nilIface
  | some c => .iface 0 (.int .i64 c)
theorem errW_none : errW none = .nilIface := rfl
theorem errW_some (c : Int) : errW (some c) = .iface 0 (.int .i64 c) := rfl

-- the values' own types

end Go.Proofs.Ytccobinebaomoaa.PFnExactConstants
