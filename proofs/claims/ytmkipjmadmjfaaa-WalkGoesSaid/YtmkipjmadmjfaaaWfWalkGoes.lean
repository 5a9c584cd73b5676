/- Which numbers fit: the arguments of WalkGoes, out of their reading as data. Written by this session's program rowgen.py. -/
import Derived.Test.YtmkipjmadmjfaaaOpn
import Derived.Test.YtmkipjmadmjfaaaPWalkGoesx5
import Derived.KernelRfl
namespace Go.Proofs.Ytmkipjmadmjfaaa.PWalkGoes
open Go.RowKit Go.Proofs.YtmkipjmadmjfaaaW.PrintWords Go.Proofs.Ytmkipjmadmjfaaa.Opn
set_option linter.unusedVariables false
set_option maxRecDepth 100000
end Go.Proofs.Ytmkipjmadmjfaaa.PWalkGoes
