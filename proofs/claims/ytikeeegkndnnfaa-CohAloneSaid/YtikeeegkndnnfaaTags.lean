/- Is each way right by itself? The given tags. -/
import Derived.Test.YtikeeegkndnnfaaAges
namespace Go.Proofs.Ytikeeegkndnnfaa.Abs
open Go Go.RowKit Fn
set_option linter.unusedVariables false
set_option linter.unusedSimpArgs false
set_option linter.unnecessarySimpa false
set_option maxRecDepth 100000
set_option maxHeartbeats 4000000

def zeros : List Int := List.replicate 16 0
/-- Do two ways hold one line? -/
def Dup (l : List Way) (k j : Nat) : Prop := (wayN l k).state ≠ 0 ∧ (wayN l j).state ≠ 0 ∧ (wayN l k).tag = (wayN l j).tag
def TagsK (c : Cache) (s : Nat) (l : List Way) (k : Nat) : Prop :=
  0 ≤ (wayN l k).state ∧ (wayN l k).state ≤ 3 ∧ ((wayN l k).state = 0 → (wayN l k).tag = 0 ∧ (wayN l k).data = zeros) ∧ ((wayN l k).state ≠ 0 → seti c (wayN l k).tag.toNat = s) ∧ ∀ j, j < k → ¬ Dup l k j
def TagsP (c : Cache) (s : Nat) (l : List Way) : Prop := ∀ k, k < l.length → TagsK c s l k
end Go.Proofs.Ytikeeegkndnnfaa.Abs
