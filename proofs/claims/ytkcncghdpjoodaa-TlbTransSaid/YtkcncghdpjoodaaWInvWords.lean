-- This session's own text: turned out of a printed text by wip/tools/trim.py.
import Derived.Test.YtkcncghdpjoodaaWInv
import Derived.Test.YtkcncghdpjoodaaWFootNe
namespace Go.Proofs.YtkcncghdpjoodaaW.PrintWords
open Go.RowKit
end Go.Proofs.YtkcncghdpjoodaaW.PrintWords
namespace Go.Proofs.YtkcncghdpjoodaaW.PrintLast
end Go.Proofs.YtkcncghdpjoodaaW.PrintLast
