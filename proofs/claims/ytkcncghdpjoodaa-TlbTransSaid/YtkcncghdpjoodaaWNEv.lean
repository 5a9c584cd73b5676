-- This session's own text: turned out of a printed text by wip/tools/trim.py.
import Derived.Test.YtkcncghdpjoodaaWN
/-! ### 48. N's events: append, a whole row appended, zeros appended, literals, make, stores, cuts, an element taken out -/
namespace Go.Proofs.YtkcncghdpjoodaaW.PrintWords
open Go.RowKit
namespace Kd
end Kd
end Go.Proofs.YtkcncghdpjoodaaW.PrintWords
