-- written by a program of this session's (wip/hook.py: the kit's print, with functions proved by hand)
import Derived.Test.YtdgjanjoiabgfaaProg
import Derived.Below
import Derived.Deep.Draws
import Derived.Deep.AppendLies
import Derived.Maps.AppendAt
import Derived.OwnWalk
import Derived.Laws.BytesArg
import Derived.Laws.MakeOwn
import Derived.Laws.OwnMore
import Derived.Deep.OwnRows
import Derived.Tactics
import Derived.Lib.ConvBytes
import Derived.Laws.Slices
import Derived.WalkKit
import Derived.KernelRfl
import Derived.RowKit3
import Derived.Deep.LoopGhost
import Derived.Deep.QuietTactic
import Derived.BigQuiet
import Derived.WideLaws
import Derived.Deep.DeepCutAuto
import Derived.Deep.CutBlock
import Derived.Deep.RegionHeld3
import Derived.Laws.Rows
import Derived.Lib.AppendStr
import Derived.ArgAppend
import Derived.Laws.IdiomCopy
import Derived.OrdersHeld
import Derived.Laws.BitsLemmas
import Derived.RowKit
import Derived.Test.YtdgjanjoiabgfaaRs0
import Derived.Test.YtdgjanjoiabgfaaH0
import Derived.Test.YtdgjanjoiabgfaaH1
import Derived.Test.YtdgjanjoiabgfaaH2
import Derived.Test.YtdgjanjoiabgfaaH3
import Derived.Test.YtdgjanjoiabgfaaH4
import Derived.Test.YtdgjanjoiabgfaaWWords
import Derived.Test.YtdgjanjoiabgfaaWLast
import Derived.Test.YtdgjanjoiabgfaaWTab
import Derived.Test.YtdgjanjoiabgfaaWFour
import Derived.Test.YtdgjanjoiabgfaaWQPut
import Derived.Test.YtdgjanjoiabgfaaWApart
import Derived.Test.YtdgjanjoiabgfaaWArr
import Derived.Test.YtdgjanjoiabgfaaWZeros
import Derived.Test.YtdgjanjoiabgfaaWFoot
import Derived.Test.YtdgjanjoiabgfaaWKept
import Derived.Test.YtdgjanjoiabgfaaWShare
import Derived.Test.YtdgjanjoiabgfaaWN
import Derived.Test.YtdgjanjoiabgfaaWFootNe
import Derived.Test.YtdgjanjoiabgfaaWAt
import Derived.Test.YtdgjanjoiabgfaaWEqStruct
import Derived.Test.YtdgjanjoiabgfaaWRepsOne
import Derived.Test.YtdgjanjoiabgfaaWInv
import Derived.Test.YtdgjanjoiabgfaaWInvWords
import Derived.Test.YtdgjanjoiabgfaaWGuard
import Derived.Test.YtdgjanjoiabgfaaWNEv
import Derived.Test.YtdgjanjoiabgfaaWMore
namespace Go.Proofs.Ytdgjanjoiabgfaa.Q
open Go.RowKit Go.Proofs.YtdgjanjoiabgfaaW.PrintWords Go.Proofs.YtdgjanjoiabgfaaW.PrintLast Go.Proofs.Ytdgjanjoiabgfaa.Hand Go.Proofs.YtdgjanjoiabgfaaW.PrintMore
attribute [local go_sem] max2_int min2_int max_two min_two max_three min_three max_four min_four   -- for this text's walks alone
set_option linter.unusedVariables false
set_option linter.unusedSimpArgs false



def errW : Option Int → Value
  | none => .nilIface
  | some c => .iface 0 (.int .i64 c)
theorem errW_none : errW none = .nilIface := rfl
theorem errW_some (c : Int) : errW (some c) = .iface 0 (.int .i64 c) := rfl

theorem info3 : (Try.prog.info? 3).map (fun i => (i.zero, i.size, i.bytes)) = some (some (.int .i64 0), 1, 8) := by kernel_rfl
theorem info5 : (Try.prog.info? 5).map (fun i => (i.zero, i.size, i.bytes)) = some (some (.int .u8 0), 1, 1) := by kernel_rfl
-- the values' own types

end Go.Proofs.Ytdgjanjoiabgfaa.Q
