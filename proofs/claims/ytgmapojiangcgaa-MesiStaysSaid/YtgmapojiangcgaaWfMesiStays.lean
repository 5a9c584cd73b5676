/- Which numbers fit: the arguments of MesiStays, out of their reading as data. Written by this session's program rowgen.py. -/
import Derived.Test.YtgmapojiangcgaaOpn
import Derived.Test.YtgmapojiangcgaaPMesiStaysx3
import Derived.KernelRfl
namespace Go.Proofs.Ytgmapojiangcgaa.PMesiStays
open Go.RowKit Go.Proofs.YtgmapojiangcgaaW.PrintWords Go.Proofs.Ytgmapojiangcgaa.Opn
set_option linter.unusedVariables false
set_option maxRecDepth 100000
end Go.Proofs.Ytgmapojiangcgaa.PMesiStays
