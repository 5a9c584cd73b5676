-- This session's own text: turned out of a printed text by wip/tools/trim.py.
import Derived.Test.YtkcncghdpjoodaaWWords
/-! ### 41. Arrays '[n]T' as_ values: a kind (a field, an element of a row), an element read, an element set -/
namespace Go.Proofs.YtkcncghdpjoodaaW.PrintWords
open Go.RowKit
namespace Kd
end Kd
end Go.Proofs.YtkcncghdpjoodaaW.PrintWords
