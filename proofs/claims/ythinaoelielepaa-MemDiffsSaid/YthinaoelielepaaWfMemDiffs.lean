/- Which numbers fit: the arguments of MemDiffs, out of their reading as data. Written by this session's program rowgen.py. -/
import Derived.Test.YthinaoelielepaaOpn
import Derived.Test.YthinaoelielepaaPMemDiffsx3
import Derived.KernelRfl
namespace Go.Proofs.Ythinaoelielepaa.PMemDiffs
open Go.RowKit Go.Proofs.YthinaoelielepaaW.PrintWords Go.Proofs.Ythinaoelielepaa.Opn
set_option linter.unusedVariables false
set_option maxRecDepth 100000
end Go.Proofs.Ythinaoelielepaa.PMemDiffs
