/- May a system be? The given function's walk. -/
import Derived.Test.YtikeeegkndnnfaaVw
namespace Go.Proofs.Ytikeeegkndnnfaa.Abs
open Go Go.RowKit Fn
set_option linter.unusedVariables false
set_option linter.unusedSimpArgs false
set_option linter.unnecessarySimpa false
set_option maxRecDepth 100000
set_option maxHeartbeats 4000000

/-- A line's states. -/
def stL (m : Coh) (ln : Nat) : List Int := (List.range m.caches.length).map fun (j : Nat) => stateOf m (j : Int) ln
def SoundX (m : Coh) (x : Way) : Prop := x.state = 0 ∨ (x.tag.toNat * 16 + 16 ≤ m.mem.length ∧ (x.state = 3 ∨ x.data = bytesM m x.tag.toNat) ∧ LegalP (stL m x.tag.toNat))
def SoundW (m : Coh) (l : List Way) (n : Nat) : Prop := ∀ w, w < n → SoundX m (wayN l w)
def SoundT (m : Coh) (c : Cache) (n : Nat) : Prop := ∀ s, s < n → SoundW m (row c s) (row c s).length
def SoundK (m : Coh) (n : Nat) : Prop := ∀ k, k < n → RightP (cacheAt m k) ∧ SoundT m (cacheAt m k) (cacheAt m k).sets.length
theorem stL_len (m : Coh) (ln : Nat) : (stL m ln).length = m.caches.length := by unfold stL; rw [List.length_map, List.length_range]
end Go.Proofs.Ytikeeegkndnnfaa.Abs
