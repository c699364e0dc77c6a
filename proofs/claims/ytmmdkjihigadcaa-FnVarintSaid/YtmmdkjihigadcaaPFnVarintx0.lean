/- The functions that FnVarint reaches as Lean functions, each with its contract: laid by a program of this session (wip/print2.py) over the kit's print. -/
import Derived.Test.YtmmdkjihigadcaaProg
import Derived.Below
import Derived.Deep.Draws
import Derived.Deep.AppendLies
import Derived.Maps.AppendAt
import Derived.OwnWalk
import Derived.Laws.BytesArg
import Derived.Laws.MakeOwn
import Derived.Laws.OwnMore
import Derived.Deep.OwnRows
import Derived.Tactics
import Derived.Lib.ConvBytes
import Derived.Laws.Slices
import Derived.WalkKit
import Derived.KernelRfl
import Derived.RowKit3
import Derived.Deep.LoopGhost
import Derived.Deep.QuietTactic
import Derived.BigQuiet
import Derived.WideLaws
import Derived.Deep.DeepCutAuto
import Derived.Deep.CutBlock
import Derived.Deep.RegionHeld3
import Derived.Laws.Rows
import Derived.Lib.AppendStr
import Derived.ArgAppend
import Derived.Laws.IdiomCopy
import Derived.OrdersHeld
import Derived.Laws.BitsLemmas
import Derived.RowKit
import Derived.Laws.Externs
import Derived.Laws.FloatArith
import Derived.LoopN
import Derived.Test.YtmmdkjihigadcaaFloatW
import Derived.Test.YtmmdkjihigadcaaLib
import Derived.Test.YtmmdkjihigadcaaWWords
import Derived.Test.YtmmdkjihigadcaaWLast
import Derived.Test.YtmmdkjihigadcaaWTab
import Derived.Test.YtmmdkjihigadcaaWFour
import Derived.Test.YtmmdkjihigadcaaWQPut
import Derived.Test.YtmmdkjihigadcaaWApart
import Derived.Test.YtmmdkjihigadcaaWArr
import Derived.Test.YtmmdkjihigadcaaWZeros
import Derived.Test.YtmmdkjihigadcaaWFoot
import Derived.Test.YtmmdkjihigadcaaWKept
import Derived.Test.YtmmdkjihigadcaaWShare
import Derived.Test.YtmmdkjihigadcaaWN
import Derived.Test.YtmmdkjihigadcaaWFootNe
import Derived.Test.YtmmdkjihigadcaaWAt
import Derived.Test.YtmmdkjihigadcaaWEqStruct
import Derived.Test.YtmmdkjihigadcaaWRepsOne
import Derived.Test.YtmmdkjihigadcaaWInv
import Derived.Test.YtmmdkjihigadcaaWInvWords
import Derived.Test.YtmmdkjihigadcaaWGuard
import Derived.Test.YtmmdkjihigadcaaWNEv
import Derived.Test.YtmmdkjihigadcaaWMore
namespace Go.Proofs.Ytmmdkjihigadcaa.PFnVarint
open Go.RowKit Go.Proofs.YtmmdkjihigadcaaW.PrintWords Go.Proofs.YtmmdkjihigadcaaW.PrintLast Go.Proofs.YtmmdkjihigadcaaW.PrintMore
attribute [local go_sem] max2_int min2_int max_two min_two max_three min_three max_four min_four   -- for this text's walks alone
set_option linter.unusedVariables false
set_option linter.unusedSimpArgs false



def errW : Option Int → Value
  | none => .nilIface
  | some c => .iface 0 (.int .i64 c)
theorem errW_none : errW none = .nilIface := rfl
theorem errW_some (c : Int) : errW (some c) = .iface 0 (.int .i64 c) := rfl

theorem info3 : (Try.prog.info? 3).map (fun i => (i.zero, i.size, i.bytes)) = some (some (.int .i64 0), 1, 8) := by kernel_rfl
theorem info5 : (Try.prog.info? 5).map (fun i => (i.zero, i.size, i.bytes)) = some (some (.int .u8 0), 1, 1) := by kernel_rfl
-- the values' own types

end Go.Proofs.Ytmmdkjihigadcaa.PFnVarint
