/- Which numbers fit: the arguments of MesiTells, out of their reading as data. Written by this session's program rowgen.py. -/
import Derived.Test.YtgmapojiangcgaaOpn
import Derived.Test.YtgmapojiangcgaaPMesiTellsx3
import Derived.KernelRfl
namespace Go.Proofs.Ytgmapojiangcgaa.PMesiTells
open Go.RowKit Go.Proofs.YtgmapojiangcgaaW.PrintWords Go.Proofs.Ytgmapojiangcgaa.Opn
set_option linter.unusedVariables false
set_option maxRecDepth 100000
end Go.Proofs.Ytgmapojiangcgaa.PMesiTells
