-- This session's own text: turned out of a printed text by wip/tools/trim.py.
import Derived.Test.YtkcncghdpjoodaaWN
/-! ### 52. A row that stays read whatever happens to a block (a set of blocks) doesn't lie there -/
namespace Go.Proofs.YtkcncghdpjoodaaW.PrintWords
open Go.RowKit
namespace Kd
end Kd
end Go.Proofs.YtkcncghdpjoodaaW.PrintWords
