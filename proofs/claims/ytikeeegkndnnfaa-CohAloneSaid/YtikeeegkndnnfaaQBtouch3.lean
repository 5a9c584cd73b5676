/- Ways of which one is used: in plain Lean. -/
import Derived.Test.YtikeeegkndnnfaaAcc5
namespace Go.Proofs.Ytikeeegkndnnfaa.Abs
open Go Go.RowKit Fn
set_option linter.unusedVariables false
set_option linter.unusedSimpArgs false
set_option linter.unnecessarySimpa false
set_option maxRecDepth 100000
set_option maxHeartbeats 4000000

theorem bump_all (a : Int) (l : List Way) : bumpK a l.length l = l.map (up a) := by simp [bumpK]
end Go.Proofs.Ytikeeegkndnnfaa.Abs
