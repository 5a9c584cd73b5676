/- What a request does: the given function's walk, one of the others' caches. -/
import Derived.Test.YtikeeegkndnnfaaBdo5
namespace Go.Proofs.Ytikeeegkndnnfaa.Abs
open Go Go.RowKit Fn
set_option linter.unusedVariables false
set_option linter.unusedSimpArgs false
set_option linter.unnecessarySimpa false
set_option maxRecDepth 100000
set_option maxHeartbeats 4000000

theorem cell_up {R : List (List Way)} {v : T} (h : UpT (.agg [setsT ⟨R⟩]) v) : ∃ z, v = .agg [z] ∧ UpT (setsT ⟨R⟩) z ∧ allLeaf [z] = true := by
  obtain ⟨c', rfl, h2⟩ := h.agg
  simp only [UpL] at h2
  obtain ⟨z, _, rfl, hz, rfl⟩ := h2
  refine ⟨z, rfl, hz, ?_⟩
  obtain ⟨f', c', rfl, _⟩ := UpT.imm (f := false) (n := R.length) (c := R.flatMap (fun l => [rowT l])) hz
  try rfl
end Go.Proofs.Ytikeeegkndnnfaa.Abs
