-- This session's own text: written by wip/tools/myprint.sh after the kit's printer.
import Derived.Test.YtgmapojiangcgaaPMesiStaysx0
import Derived.Test.YtgmapojiangcgaaPMesiStaysx1
import Derived.Test.YtgmapojiangcgaaPMesiStaysx2
import Derived.Test.YtgmapojiangcgaaPMesiStaysx3
namespace Go.Proofs.Ytgmapojiangcgaa.PMesiStays
open Go.RowKit Go.Proofs.YtgmapojiangcgaaW.PrintWords Go.Proofs.YtgmapojiangcgaaW.PrintLast Go.Proofs.YtgmapojiangcgaaW.PrintMore
attribute [local go_sem] max2_int min2_int max_two min_two max_three min_three max_four min_four   -- for this text's walks alone
set_option linter.unusedVariables false
set_option linter.unusedSimpArgs false

end Go.Proofs.Ytgmapojiangcgaa.PMesiStays
