-- This session's own text: written by wip/tools/myprint.sh after the kit's printer.
import Derived.Test.YtkcncghdpjoodaaPTlbFindsx0
import Derived.Test.YtkcncghdpjoodaaPTlbFindsx3
namespace Go.Proofs.Ytkcncghdpjoodaa.PTlbFinds
open Go.RowKit Go.Proofs.YtkcncghdpjoodaaW.PrintWords Go.Proofs.YtkcncghdpjoodaaW.PrintLast Go.Proofs.YtkcncghdpjoodaaW.PrintMore
attribute [local go_sem] max2_int min2_int max_two min_two max_three min_three max_four min_four   -- for this text's walks alone
set_option linter.unusedVariables false
set_option linter.unusedSimpArgs false

end Go.Proofs.Ytkcncghdpjoodaa.PTlbFinds
