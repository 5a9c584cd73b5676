/- What all memory says: the given function's walk. -/
import Derived.Test.YtikeeegkndnnfaaLgl
namespace Go.Proofs.Ytikeeegkndnnfaa.Abs
open Go Go.RowKit Fn
set_option linter.unusedVariables false
set_option linter.unusedSimpArgs false
set_option linter.unnecessarySimpa false
set_option maxRecDepth 100000
set_option maxHeartbeats 4000000

/-- A way's bytes over memory, if it owns changed ones. -/
def vputM (mem : List Int) (x : Way) : List Int := if x.state = 3 then (putM ⟨mem, []⟩ x.tag.toNat x.data).mem else mem
def viewW (l : List Way) (mem : List Int) : Nat → List Int
  | 0 => mem
  | w + 1 => vputM (viewW l mem w) (wayN l w)
def viewS (c : Cache) (mem : List Int) : Nat → List Int
  | 0 => mem
  | s + 1 => viewW (row c s) (viewS c mem s) (row c s).length
def viewK (m : Coh) : Nat → List Int
  | 0 => m.mem
  | k + 1 => viewS (cacheAt m k) (viewK m k) (cacheAt m k).sets.length
def viewM (m : Coh) : List Int := viewK m m.caches.length
def FitB (n : Nat) (l : List Int) : Prop := l.length = n ∧ ∀ y ∈ l, (Lit.int .u8 y).wf = true
theorem fitB_put {n : Nat} {l : List Int} (h : FitB n l) {x : Way} (hx : x.wf) : FitB n (vputM l x) := by
  unfold vputM
  split
  · refine ⟨by rw [putM_len]; exact h.1, ?_⟩
    unfold putM
    split
    · exact spl_bytes _ _ _ h.2 hx.2.2.1.2
    · exact h.2
  · exact h
theorem fitB_w {n : Nat} {mem : List Int} (h : FitB n mem) {l : List Way} (hl : ∀ x ∈ l, x.wf) : ∀ w, w ≤ l.length → FitB n (viewW l mem w)
  | 0, _ => h
  | w + 1, hw => fitB_put (fitB_w h hl w (by omega)) (wayN_wf hl (by omega))
theorem fitB_s {n : Nat} {mem : List Int} (h : FitB n mem) {c : Cache} (hc : c.wf) : ∀ s, s ≤ c.sets.length → FitB n (viewS c mem s)
  | 0, _ => h
  | s + 1, hs => fitB_w (fitB_s h hc s (by omega)) (row_wf hc s (by omega)).2 _ (Nat.le_refl _)
theorem fitB_k {m : Coh} (hm : m.wf) : ∀ k, k ≤ m.caches.length → FitB m.mem.length (viewK m k)
  | 0, _ => ⟨rfl, hm.1.2⟩
  | k + 1, hk => fitB_s (fitB_k hm k (by omega)) (cacheAt_wf hm k (by omega)) _ (Nat.le_refl _)
end Go.Proofs.Ytikeeegkndnnfaa.Abs
