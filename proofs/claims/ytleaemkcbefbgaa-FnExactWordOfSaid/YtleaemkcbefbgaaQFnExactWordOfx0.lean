-- Written by a program of this session (wip/patch_print.py, wip/hand_fns.py).
import Derived.Test.YtleaemkcbefbgaaProg
import Derived.Below
import Derived.Deep.Draws
import Derived.Deep.AppendLies
import Derived.Maps.AppendAt
import Derived.OwnWalk
import Derived.Laws.BytesArg
import Derived.Laws.MakeOwn
import Derived.Laws.OwnMore
import Derived.Deep.OwnRows
import Derived.Tactics
import Derived.Lib.ConvBytes
import Derived.Laws.Slices
import Derived.WalkKit
import Derived.KernelRfl
import Derived.RowKit3
import Derived.Deep.LoopGhost
import Derived.Deep.QuietTactic
import Derived.BigQuiet
import Derived.WideLaws
import Derived.Deep.DeepCutAuto
import Derived.Deep.CutBlock
import Derived.Deep.RegionHeld3
import Derived.Laws.Rows
import Derived.Lib.AppendStr
import Derived.ArgAppend
import Derived.Laws.IdiomCopy
import Derived.OrdersHeld
import Derived.Laws.BitsLemmas
import Derived.RowKit
import Derived.WalkSpells
import Derived.Test.YtleaemkcbefbgaaWWords
import Derived.Test.YtleaemkcbefbgaaWLast
import Derived.Test.YtleaemkcbefbgaaWTab
import Derived.Test.YtleaemkcbefbgaaWFour
import Derived.Test.YtleaemkcbefbgaaWQPut
import Derived.Test.YtleaemkcbefbgaaWApart
import Derived.Test.YtleaemkcbefbgaaWArr
import Derived.Test.YtleaemkcbefbgaaWZeros
import Derived.Test.YtleaemkcbefbgaaWFoot
import Derived.Test.YtleaemkcbefbgaaWKept
import Derived.Test.YtleaemkcbefbgaaWShare
import Derived.Test.YtleaemkcbefbgaaWN
import Derived.Test.YtleaemkcbefbgaaWFootNe
import Derived.Test.YtleaemkcbefbgaaWAt
import Derived.Test.YtleaemkcbefbgaaWEqStruct
import Derived.Test.YtleaemkcbefbgaaWRepsOne
import Derived.Test.YtleaemkcbefbgaaWInv
import Derived.Test.YtleaemkcbefbgaaWInvWords
import Derived.Test.YtleaemkcbefbgaaWGuard
import Derived.Test.YtleaemkcbefbgaaWNEv
import Derived.Test.YtleaemkcbefbgaaWMore
namespace Go.Proofs.Ytleaemkcbefbgaa.QFnExactWordOf
open Go.RowKit Go.Proofs.YtleaemkcbefbgaaW.PrintWords Go.Proofs.YtleaemkcbefbgaaW.PrintLast Go.Proofs.YtleaemkcbefbgaaW.PrintMore
attribute [local go_sem] max2_int min2_int max_two min_two max_three min_three max_four min_four   -- for this text's walks alone
set_option linter.unusedVariables false
set_option linter.unusedSimpArgs false



def errW : Option Int → Value
  | none => .nilIface
  | some c => .iface 0 (.int .i64 c)
theorem errW_none : errW none = .nilIface := rfl
theorem errW_some (c : Int) : errW (some c) = .iface 0 (.int .i64 c) := rfl

theorem info3 : (Try.prog.info? 3).map (fun i => (i.zero, i.size, i.bytes)) = some (some (.int .i64 0), 1, 8) := by kernel_rfl
-- the values' own types

end Go.Proofs.Ytleaemkcbefbgaa.QFnExactWordOf
