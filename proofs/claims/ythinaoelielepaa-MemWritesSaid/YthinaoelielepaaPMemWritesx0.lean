-- This session's own text: written by wip/tools/myprint.sh after the kit's printer.
import Derived.Test.YthinaoelielepaaProg
import Derived.Below
import Derived.Deep.Draws
import Derived.Deep.AppendLies
import Derived.Maps.AppendAt
import Derived.OwnWalk
import Derived.Laws.BytesArg
import Derived.Laws.MakeOwn
import Derived.Laws.OwnMore
import Derived.Deep.OwnRows
import Derived.Tactics
import Derived.Lib.ConvBytes
import Derived.Laws.Slices
import Derived.WalkKit
import Derived.KernelRfl
import Derived.RowKit3
import Derived.Deep.LoopGhost
import Derived.Deep.QuietTactic
import Derived.BigQuiet
import Derived.WideLaws
import Derived.Deep.DeepCutAuto
import Derived.Deep.CutBlock
import Derived.Deep.RegionHeld3
import Derived.Laws.Rows
import Derived.Lib.AppendStr
import Derived.ArgAppend
import Derived.Laws.IdiomCopy
import Derived.OrdersHeld
import Derived.Laws.BitsLemmas
import Derived.RowKit
import Derived.Lib.SliceRun
import Derived.Laws.CopyOwn
import Derived.Test.YthinaoelielepaaCp
import Derived.Test.YthinaoelielepaaWWords
import Derived.Test.YthinaoelielepaaWLast
import Derived.Test.YthinaoelielepaaWTab
import Derived.Test.YthinaoelielepaaWFour
import Derived.Test.YthinaoelielepaaWQPut
import Derived.Test.YthinaoelielepaaWApart
import Derived.Test.YthinaoelielepaaWArr
import Derived.Test.YthinaoelielepaaWZeros
import Derived.Test.YthinaoelielepaaWFoot
import Derived.Test.YthinaoelielepaaWKept
import Derived.Test.YthinaoelielepaaWShare
import Derived.Test.YthinaoelielepaaWN
import Derived.Test.YthinaoelielepaaWFootNe
import Derived.Test.YthinaoelielepaaWAt
import Derived.Test.YthinaoelielepaaWEqStruct
import Derived.Test.YthinaoelielepaaWRepsOne
import Derived.Test.YthinaoelielepaaWInv
import Derived.Test.YthinaoelielepaaWInvWords
import Derived.Test.YthinaoelielepaaWGuard
import Derived.Test.YthinaoelielepaaWNEv
import Derived.Test.YthinaoelielepaaWMore
namespace Go.Proofs.Ythinaoelielepaa.PMemWrites
open Go.RowKit Go.Proofs.YthinaoelielepaaW.PrintWords Go.Proofs.YthinaoelielepaaW.PrintLast Go.Proofs.YthinaoelielepaaW.PrintMore
attribute [local go_sem] max2_int min2_int max_two min_two max_three min_three max_four min_four   -- for this text's walks alone
set_option linter.unusedVariables false
set_option linter.unusedSimpArgs false



def errW : Option Int → Value
  | none => .nilIface
  | some c => .iface 0 (.int .i64 c)
theorem errW_none : errW none = .nilIface := rfl
theorem errW_some (c : Int) : errW (some c) = .iface 0 (.int .i64 c) := rfl

theorem info5 : (Try.prog.info? 5).map (fun i => (i.zero, i.size, i.bytes)) = some (some (.int .u8 0), 1, 1) := by kernel_rfl
-- the values' own types

end Go.Proofs.Ythinaoelielepaa.PMemWrites
