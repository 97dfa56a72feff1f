-- Written by wip/pp.py (a driver of the kit's print.py) for this claim
import Derived.Test.YtfcfnnkepjoncaaProg
import Derived.Below
import Derived.Deep.Draws
import Derived.Deep.AppendLies
import Derived.Maps.AppendAt
import Derived.OwnWalk
import Derived.Laws.BytesArg
import Derived.Laws.MakeOwn
import Derived.Laws.OwnMore
import Derived.Deep.OwnRows
import Derived.Tactics
import Derived.Lib.ConvBytes
import Derived.Laws.Slices
import Derived.WalkKit
import Derived.KernelRfl
import Derived.RowKit3
import Derived.Deep.LoopGhost
import Derived.Deep.QuietTactic
import Derived.BigQuiet
import Derived.WideLaws
import Derived.Deep.DeepCutAuto
import Derived.Deep.CutBlock
import Derived.Deep.RegionHeld3
import Derived.Laws.Rows
import Derived.Lib.AppendStr
import Derived.ArgAppend
import Derived.Laws.IdiomCopy
import Derived.OrdersHeld
import Derived.Laws.BitsLemmas
import Derived.RowKit
import Derived.Test.YtfcfnnkepjoncaaWWords
import Derived.Test.YtfcfnnkepjoncaaWLast
import Derived.Test.YtfcfnnkepjoncaaWTab
import Derived.Test.YtfcfnnkepjoncaaWFour
import Derived.Test.YtfcfnnkepjoncaaWQPut
import Derived.Test.YtfcfnnkepjoncaaWApart
import Derived.Test.YtfcfnnkepjoncaaWArr
import Derived.Test.YtfcfnnkepjoncaaWZeros
import Derived.Test.YtfcfnnkepjoncaaWFoot
import Derived.Test.YtfcfnnkepjoncaaWKept
import Derived.Test.YtfcfnnkepjoncaaWShare
import Derived.Test.YtfcfnnkepjoncaaWN
import Derived.Test.YtfcfnnkepjoncaaWFootNe
import Derived.Test.YtfcfnnkepjoncaaWAt
import Derived.Test.YtfcfnnkepjoncaaWEqStruct
import Derived.Test.YtfcfnnkepjoncaaWRepsOne
import Derived.Test.YtfcfnnkepjoncaaWInv
import Derived.Test.YtfcfnnkepjoncaaWInvWords
import Derived.Test.YtfcfnnkepjoncaaWGuard
import Derived.Test.YtfcfnnkepjoncaaWNEv
import Derived.Test.YtfcfnnkepjoncaaWMore
namespace Go.Proofs.Ytfcfnnkepjoncaa.PB
open Go.RowKit Go.Proofs.YtfcfnnkepjoncaaW.PrintWords Go.Proofs.YtfcfnnkepjoncaaW.PrintLast Go.Proofs.YtfcfnnkepjoncaaW.PrintMore
attribute [local go_sem] max2_int min2_int max_two min_two max_three min_three max_four min_four   -- for this text's walks alone
set_option linter.unusedVariables false
set_option linter.unusedSimpArgs false



def errW : Option Int → Value
  | none => .nilIface
  | some c => .iface 0 (.int .i64 c)
theorem errW_none : errW none = .nilIface := rfl
theorem errW_some (c : Int) : errW (some c) = .iface 0 (.int .i64 c) := rfl

theorem info5 : (Try.prog.info? 5).map (fun i => (i.zero, i.size, i.bytes)) = some (some (.int .u8 0), 1, 1) := by kernel_rfl
-- the values' own types

end Go.Proofs.Ytfcfnnkepjoncaa.PB
