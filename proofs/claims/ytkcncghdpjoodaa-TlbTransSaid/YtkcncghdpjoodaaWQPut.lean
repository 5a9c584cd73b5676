-- This session's own text: turned out of a printed text by wip/tools/trim.py.
import Derived.Test.YtkcncghdpjoodaaWWords
import Derived.Test.YtkcncghdpjoodaaWLast
/-! ### 39. Stores into a row that may begin inside its block (Q): Q_form, Q_elem, Q_seg; scalars: Q_cell, Q_putg -/
namespace Go.Proofs.YtkcncghdpjoodaaW.PrintWords
open Go.RowKit
namespace Kd
end Kd
end Go.Proofs.YtkcncghdpjoodaaW.PrintWords
