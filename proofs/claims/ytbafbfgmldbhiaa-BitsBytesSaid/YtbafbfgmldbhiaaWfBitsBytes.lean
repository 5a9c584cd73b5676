/- Which numbers fit: the arguments of BitsBytes, out of their reading as data. Written by this session's program rowgen.py. -/
import Derived.Test.YtbafbfgmldbhiaaOpn
import Derived.Test.YtbafbfgmldbhiaaPBitsBytesx2
import Derived.KernelRfl
namespace Go.Proofs.Ytbafbfgmldbhiaa.PBitsBytes
open Go.RowKit Go.Proofs.YtbafbfgmldbhiaaW.PrintWords Go.Proofs.Ytbafbfgmldbhiaa.Opn
set_option linter.unusedVariables false
set_option maxRecDepth 100000
end Go.Proofs.Ytbafbfgmldbhiaa.PBitsBytes
