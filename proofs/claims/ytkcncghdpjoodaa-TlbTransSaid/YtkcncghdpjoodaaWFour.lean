-- This session's own text: turned out of a printed text by wip/tools/trim.py.
import Derived.Test.YtkcncghdpjoodaaWTab
/-! ### 56. Four, five, six operations that may come up next, in any order -/
namespace Go.Proofs.YtkcncghdpjoodaaW.PrintLast
end Go.Proofs.YtkcncghdpjoodaaW.PrintLast
