/- Which numbers fit: the arguments of WalkMaps, out of their reading as data. Written by this session's program rowgen.py. -/
import Derived.Test.YtmkipjmadmjfaaaOpn
import Derived.Test.YtmkipjmadmjfaaaPWalkMapsx6
import Derived.KernelRfl
namespace Go.Proofs.Ytmkipjmadmjfaaa.PWalkMaps
open Go.RowKit Go.Proofs.YtmkipjmadmjfaaaW.PrintWords Go.Proofs.Ytmkipjmadmjfaaa.Opn
set_option linter.unusedVariables false
set_option maxRecDepth 100000
end Go.Proofs.Ytmkipjmadmjfaaa.PWalkMaps
