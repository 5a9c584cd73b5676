-- This session's own text: turned out of a printed text by wip/tools/trim.py.
import Derived.Test.YtkcncghdpjoodaaWLast
import Derived.Test.YtkcncghdpjoodaaWWords
/-! ### 50. A region's order in a table, made once a region: each step asks the table (numbers alone), not the operations -/
namespace Go.Proofs.YtkcncghdpjoodaaW.PrintLast
open Go.Proofs.YtkcncghdpjoodaaW.PrintWords (Aside0)
end Go.Proofs.YtkcncghdpjoodaaW.PrintLast
