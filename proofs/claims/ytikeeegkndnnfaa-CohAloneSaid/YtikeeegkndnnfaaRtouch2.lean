/- A cache in new memory: the given 'copied'. -/
import Derived.Test.YtikeeegkndnnfaaBtouch3
namespace Go.Proofs.Ytikeeegkndnnfaa.Abs
open Go Go.RowKit Fn
set_option linter.unusedVariables false
set_option linter.unusedSimpArgs false
set_option linter.unnecessarySimpa false
set_option maxRecDepth 100000
set_option maxHeartbeats 4000000

def rowN (R : List (List Way)) (j : Nat) : List Way := (R[j]?).getD []
/-- n rows, each in a block of its own, with the slice of them behind. -/
def CopyAt (g : Mem) (v : T) (R : List (List Way)) (lo hi n : Nat) : Prop :=
  (n = 0 ∧ v = .imm true 0 []) ∨ (0 < n ∧ ∃ (A : Nat) (els : List T) (bf : Nat → Nat), v = .own A 0 n 1 ∧ g A = some els ∧ els.length = n ∧ allLeaf els = true ∧ A < hi ∧ ∀ j, j < n → els[j]? = some (.own (bf j) 0 (rowN R j).length 19) ∧ g (bf j) = some ((rowN R j).flatMap Way.enc) ∧ lo ≤ bf j ∧ bf j < A ∧ ∀ k, j < k → k < n → bf j < bf k)
theorem CopyAt.mono {g g' : Mem} {v : T} {R : List (List Way)} {lo hi hi' n : Nat} (h : CopyAt g v R lo hi n) (hh : hi ≤ hi') (hg : ∀ t, lo ≤ t → t < hi → g' t = g t) : CopyAt g' v R lo hi' n := by
  rcases h with h | ⟨h0, A, els, bf, h1, h2, h3, h4, h5, h6⟩
  · exact .inl h
  · have hA : lo ≤ A := by obtain ⟨_, _, a, b, _⟩ := h6 0 h0; omega
    refine .inr ⟨h0, A, els, bf, h1, by rw [hg A hA h5]; exact h2, h3, h4, by omega, fun j hj => ?_⟩
    obtain ⟨a, b, c, d, e⟩ := h6 j hj
    exact ⟨a, by rw [hg _ c (by omega)]; exact b, c, d, e⟩
theorem EI_bodyV {AP : AProg} {F : AFun} {args : List T} {g : Mem} {nx : Nat} {P : T → Mem → Nat → Prop} (h : W AP F.body ⟨args ++ List.replicate (F.ntmps - args.length) .undef, g, nx⟩ (fun e st => e.leaves = true ∧ ∃ v, resT st.s st.g F.res = some v ∧ P v st.g st.nx)) : ∃ N v g' nx', (∀ k, N ≤ k → runBody (ev AP k) F args g nx = some (v, g', nx')) ∧ P v g' nx' := by
  obtain ⟨N, e, st, h1, h2, v, h3, h4⟩ := h
  refine ⟨N, v, st.g, st.nx, fun k hk => ?_, h4⟩
  have := ev_add AP N (k - N) _ _ _ h1
  rw [Nat.add_sub_cancel' hk] at this
  unfold runBody
  rw [this]
  simp only [h2, if_true, h3]
def rowsT (L : List (List Way)) : List T := L.map fun l => .imm false l.length (l.flatMap Way.enc)
theorem tells_rows (L : List (List Way)) : Tells (rowsT L) L := by
  refine ⟨by unfold rowsT; rw [List.length_map], fun i h => ⟨false, ?_⟩⟩
  unfold rowsT
  rw [Nat.mul_one, List.getElem?_map, List.getElem?_eq_getElem h]; rfl
theorem E_bodyV {AP : AProg} {f : Nat} {F : AFun} (hF : AP f = some F) (hp : F.pure = true) (hn : F.nat = none) {args : List T} {P : T → Prop} (h : W AP F.body ⟨args ++ List.replicate (F.ntmps - args.length) .undef, fun _ => none, 0⟩ (fun e st => e.leaves = true ∧ ∃ v, P v ∧ ∃ u ids, resT st.s st.g F.res = some u ∧ frz ⟨st.g, st.nx⟩ frzDepth u = some (v, ids))) : ∃ v, E AP f args v ∧ P v := by
  obtain ⟨k, e, st, h1, h2, v, hv, u, ids, h3, h4⟩ := h
  exact ⟨v, E_body hF hp hn ⟨k, e, st, h1, h2, u, ids, h3, h4⟩, hv⟩
/-- What a function gives that is a cache of rows R. -/
def CacheOf (R : List (List Way)) (v : T) : Prop := ∃ f ys, v = .agg [.imm f R.length ys] ∧ Tells ys R
end Go.Proofs.Ytikeeegkndnnfaa.Abs
