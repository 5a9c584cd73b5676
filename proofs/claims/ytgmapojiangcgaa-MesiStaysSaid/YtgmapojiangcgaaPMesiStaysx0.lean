-- This session's own text: written by wip/tools/myprint.sh after the kit's printer.
import Derived.Test.YtgmapojiangcgaaProg
import Derived.Below
import Derived.Deep.Draws
import Derived.Deep.AppendLies
import Derived.Maps.AppendAt
import Derived.OwnWalk
import Derived.Laws.BytesArg
import Derived.Laws.MakeOwn
import Derived.Laws.OwnMore
import Derived.Deep.OwnRows
import Derived.Tactics
import Derived.Lib.ConvBytes
import Derived.Laws.Slices
import Derived.WalkKit
import Derived.KernelRfl
import Derived.RowKit3
import Derived.Deep.LoopGhost
import Derived.Deep.QuietTactic
import Derived.BigQuiet
import Derived.WideLaws
import Derived.Deep.DeepCutAuto
import Derived.Deep.CutBlock
import Derived.Deep.RegionHeld3
import Derived.Laws.Rows
import Derived.Lib.AppendStr
import Derived.ArgAppend
import Derived.Laws.IdiomCopy
import Derived.OrdersHeld
import Derived.Laws.BitsLemmas
import Derived.RowKit
import Derived.Lib.SliceRun
import Derived.Laws.CopyOwn
import Derived.Test.YtgmapojiangcgaaCp
import Derived.Test.YtgmapojiangcgaaWWords
import Derived.Test.YtgmapojiangcgaaWLast
import Derived.Test.YtgmapojiangcgaaWTab
import Derived.Test.YtgmapojiangcgaaWFour
import Derived.Test.YtgmapojiangcgaaWQPut
import Derived.Test.YtgmapojiangcgaaWApart
import Derived.Test.YtgmapojiangcgaaWArr
import Derived.Test.YtgmapojiangcgaaWZeros
import Derived.Test.YtgmapojiangcgaaWFoot
import Derived.Test.YtgmapojiangcgaaWKept
import Derived.Test.YtgmapojiangcgaaWShare
import Derived.Test.YtgmapojiangcgaaWN
import Derived.Test.YtgmapojiangcgaaWFootNe
import Derived.Test.YtgmapojiangcgaaWAt
import Derived.Test.YtgmapojiangcgaaWEqStruct
import Derived.Test.YtgmapojiangcgaaWRepsOne
import Derived.Test.YtgmapojiangcgaaWInv
import Derived.Test.YtgmapojiangcgaaWInvWords
import Derived.Test.YtgmapojiangcgaaWGuard
import Derived.Test.YtgmapojiangcgaaWNEv
import Derived.Test.YtgmapojiangcgaaWMore
namespace Go.Proofs.Ytgmapojiangcgaa.PMesiStays
open Go.RowKit Go.Proofs.YtgmapojiangcgaaW.PrintWords Go.Proofs.YtgmapojiangcgaaW.PrintLast Go.Proofs.YtgmapojiangcgaaW.PrintMore
attribute [local go_sem] max2_int min2_int max_two min_two max_three min_three max_four min_four   -- for this text's walks alone
set_option linter.unusedVariables false
set_option linter.unusedSimpArgs false



def errW : Option Int → Value
  | none => .nilIface
  | some c => .iface 0 (.int .i64 c)
theorem errW_none : errW none = .nilIface := rfl
theorem errW_some (c : Int) : errW (some c) = .iface 0 (.int .i64 c) := rfl

theorem info3 : (Try.prog.info? 3).map (fun i => (i.zero, i.size, i.bytes)) = some (some (.int .i64 0), 1, 8) := by kernel_rfl
-- the values' own types

end Go.Proofs.Ytgmapojiangcgaa.PMesiStays
