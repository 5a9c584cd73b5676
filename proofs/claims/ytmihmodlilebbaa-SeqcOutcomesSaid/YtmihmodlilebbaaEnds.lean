/- All that may be seen: in plain Lean; lists of outcomes of one's own. -/
import Derived.Test.YtmihmodlilebbaaKnown
namespace Go.Proofs.Ytmihmodlilebbaa.Abs
open Go Go.RowKit Fn
set_option linter.unusedVariables false
set_option linter.unusedSimpArgs false
set_option linter.unnecessarySimpa false
set_option maxRecDepth 100000
set_option maxHeartbeats 1000000

abbrev Outs := List (List (List Int))
def leafS (L : Outs) (S : List (List Int)) : Outs := if S ∈ L then L else L ++ [S]
def foldW (f : Nat → Outs → Outs) : Nat → Outs → Outs
  | 0, L => L
  | j + 1, L => f j (foldW f j L)
/-- Has any of the first k an operation left? -/
def anyL (p : List (List Op)) (s : PS) : Nat → Bool
  | 0 => false
  | k + 1 => anyL p s k || decide (leftS p s (k : Int))
def endsS (p : List (List Op)) : Nat → PS → Outs → Outs
  | 0, s, L => leafS L s.seen
  | r + 1, s, L => if anyL p s p.length = true then foldW (fun j acc => if leftS p s (j : Int) then endsS p r (stepS p s j) acc else acc) p.length L else leafS L s.seen
def remN (p : List (List Op)) (s : PS) : Nat → Nat
  | 0 => 0
  | k + 1 => remN p s k + ((thr p k).length - farN s k)
theorem leaf_len (L : Outs) (S : List (List Int)) : (leafS L S).length ≤ L.length + 1 := by
  unfold leafS; split
  · omega
  · rw [List.length_append]; exact Nat.le_refl _
theorem two_pos : ∀ r, 1 ≤ 2 ^ r
  | 0 => Nat.le_refl _
  | r + 1 => by have := two_pos r; rw [Nat.pow_succ]; omega
theorem ends_len (p : List (List Op)) (hp : p.length ≤ 2) : ∀ (r : Nat) (s : PS) (L : Outs), (endsS p r s L).length ≤ L.length + 2 ^ r
  | 0, s, L => leaf_len L s.seen
  | r + 1, s, L => by
    rw [endsS]
    split
    · have h : ∀ k, (foldW (fun j acc => if leftS p s (j : Int) then endsS p r (stepS p s j) acc else acc) k L).length ≤ L.length + k * 2 ^ r := by
        intro k
        induction k with
        | zero => simp [foldW]
        | succ j ih =>
          rw [foldW]
          split
          · have := ends_len p hp r (stepS p s j) (foldW (fun j acc => if leftS p s (j : Int) then endsS p r (stepS p s j) acc else acc) j L)
            rw [Nat.add_mul]; omega
          · rw [Nat.add_mul]; omega
      have h2 := h p.length
      have h3 : p.length * 2 ^ r ≤ 2 * 2 ^ r := Nat.mul_le_mul_right _ hp
      rw [Nat.pow_succ]; omega
    · have := leaf_len L s.seen
      have := two_pos (r + 1)
      omega
def Shape (p : List (List Op)) (L : Outs) : Prop := ∀ R ∈ L, R.length = p.length ∧ ∀ l ∈ R, l.length ≤ 1000
theorem good_shape {p : List (List Op)} (hR : RightP p) {s : PS} (hG : Good p s) : s.seen.length = p.length ∧ ∀ l ∈ s.seen, l.length ≤ 1000 := by
  refine ⟨hG.2.2.1, fun l hl => ?_⟩
  obtain ⟨j, hj, rfl⟩ := List.getElem_of_mem hl
  have hjp : j < p.length := by rw [← hG.2.2.1]; exact hj
  obtain ⟨a1, a2⟩ := hG.2.2.2 j hjp
  have h8 := hR.2 j hjp
  have e : seenN s j = s.seen[j] := by unfold seenN; rw [List.getElem?_eq_getElem hj]; rfl
  rw [e] at a2
  rw [thr_eq hjp] at a1
  omega
theorem shape_leaf {p : List (List Op)} (hR : RightP p) {s : PS} (hG : Good p s) {L : Outs} (hL : Shape p L) : Shape p (leafS L s.seen) := by
  unfold leafS
  split
  · exact hL
  · intro R h
    rw [List.mem_append, List.mem_singleton] at h
    rcases h with h | rfl
    · exact hL R h
    · exact good_shape hR hG
theorem shape_ends {p : List (List Op)} (hR : RightP p) : ∀ (r : Nat) (s : PS) (L : Outs), Good p s → Shape p L → Shape p (endsS p r s L)
  | 0, s, L, hG, hL => shape_leaf hR hG hL
  | r + 1, s, L, hG, hL => by
    rw [endsS]
    split
    · have h : ∀ k, k ≤ p.length → Shape p (foldW (fun j acc => if leftS p s (j : Int) then endsS p r (stepS p s j) acc else acc) k L) := by
        intro k
        induction k with
        | zero => exact fun _ => hL
        | succ j ih =>
          intro hj
          rw [foldW]
          split
          · rename_i hl
            exact shape_ends hR r _ _ (good_step hG (by omega) (by have := hl.2.2; rw [Int.toNat_natCast] at this; exact this)) (ih (by omega))
          · exact ih (by omega)
      exact h _ (Nat.le_refl _)
    · exact shape_leaf hR hG hL
theorem rem_step {p : List (List Op)} {s : PS} (hG : Good p s) {w : Nat} (hw : w < p.length) (hl : farN s w < (thr p w).length) : ∀ k, remN p (stepS p s w) k + (if w < k then 1 else 0) = remN p s k
  | 0 => rfl
  | k + 1 => by
    have ih := rem_step hG hw hl k
    have hf : farN (stepS p s w) k = if w = k then farN s w + 1 else farN s k := by
      show ((s.far.set w (farN s w + 1))[k]?).getD 0 = _
      rw [List.getElem?_set]
      by_cases hwk : w = k
      · rw [if_pos hwk, if_pos hwk, if_pos (by rw [hG.2.1]; exact hw)]; rfl
      · rw [if_neg hwk, if_neg hwk]; rfl
    rw [remN, remN, hf]
    by_cases hwk : w = k
    · subst hwk
      rw [if_pos rfl, if_pos (by omega)]
      rw [if_neg (by omega)] at ih
      omega
    · rw [if_neg hwk]
      by_cases h : w < k
      · rw [if_pos h] at ih; rw [if_pos (by omega)]; omega
      · rw [if_neg h] at ih; rw [if_neg (by omega)]; omega
theorem rem_any {p : List (List Op)} {s : PS} : ∀ k, k ≤ p.length → anyL p s k = true → 1 ≤ remN p s k
  | 0, _, h => by cases h
  | k + 1, hk, h => by
    rw [anyL, Bool.or_eq_true] at h
    rw [remN]
    rcases h with h | h
    · have := rem_any k (by omega) h; omega
    · have := (of_decide_eq_true h).2.2
      rw [Int.toNat_natCast] at this
      omega
/-- Outcomes in a slice of one's own. -/
def OutA (g : Mem) (v : T) (L : Outs) (hi : Nat) : Prop := (L = [] ∧ v = .imm true 0 []) ∨ (0 < L.length ∧ ∃ t cells, t < hi ∧ v = .own t 0 L.length 1 ∧ g t = some cells ∧ OutT cells L)
theorem OutA.mono {g g' : Mem} {v : T} {L : Outs} {hi hi' : Nat} (h : OutA g v L hi) (hh : hi ≤ hi') (hg : ∀ t n, v = .own t 0 n 1 → g' t = g t) : OutA g' v L hi' := by
  rcases h with h | ⟨h0, t, cells, h1, h2, h3, h4⟩
  · exact .inl h
  · exact .inr ⟨h0, t, cells, by omega, h2, by rw [hg t _ h2]; exact h3, h4⟩
theorem outT_still {cells : List T} {L : Outs} (h : OutT cells L) : ∀ x ∈ cells, Still x := by
  intro x hx
  obtain ⟨i, hi, rfl⟩ := List.getElem_of_mem hx
  obtain ⟨f, cs, hf, _⟩ := h.2 i (by rw [← h.1]; exact hi)
  rw [List.getElem?_eq_getElem hi] at hf
  rw [Option.some.inj hf]; trivial
theorem outT_snoc {cells : List T} {L : Outs} (h : OutT cells L) {f : Bool} {S : List (List Int)} {cs : List T} (hS : SeenT cs S) : OutT (cells ++ [.imm f S.length cs]) (L ++ [S]) := by
  refine ⟨by rw [List.length_append, List.length_append, h.1]; rfl, fun j hj => ?_⟩
  rw [List.length_append] at hj
  by_cases hjl : j < L.length
  · obtain ⟨f', cs', h1, h2⟩ := h.2 j hjl
    rw [List.getElem_append_left hjl, List.getElem?_append_left (by rw [h.1]; exact hjl)]
    exact ⟨f', cs', h1, h2⟩
  · have hje : j = L.length := by simp only [List.length_cons, List.length_nil] at hj; omega
    subst hje
    rw [List.getElem_append_right (Nat.le_refl _), List.getElem?_append_right (by rw [h.1]; exact Nat.le_refl _), h.1]
    simp only [Nat.sub_self, List.getElem_cons_zero]
    exact ⟨f, cs, rfl, hS⟩
/-- Outcomes, frozen. -/
theorem frz_out {g : Mem} {nx d : Nat} {v : T} {L : Outs} {hi : Nat} (h : OutA g v L hi) : ∃ fo cells ids, frz ⟨g, nx⟩ (d + 2) v = some (.imm fo L.length cells, ids) ∧ OutT cells L := by
  rcases h with ⟨rfl, rfl⟩ | ⟨h0, t, cells, h1, rfl, h3, h4⟩
  · exact ⟨true, [], [], rfl, rfl, fun j h => by simp at h⟩
  · obtain ⟨ids, e⟩ := frz_own (h := ⟨g, nx⟩) (d := d + 1) (n := L.length) (es := 1) h3 (by rw [h4.1]; omega) (frzAll_still (d := d) (outT_still h4))
    exact ⟨false, cells, ids, e, h4⟩
theorem E.callB {AP : AProg} {f : Nat} {F : AFun} {args' : List T} {b : Bool} (h : E AP f args' (.bool b)) (hF : AP f = some F) : ∃ N, ∀ k, N ≤ k → ∀ (g : Mem) (args : List T) (ids : List Nat), frzL ⟨g, 0⟩ frzDepth args = some (args', ids) → callPure (ev AP k) F args g = some ⟨.bool b, ids, []⟩ := by
  obtain ⟨N, hN⟩ := h.run hF
  refine ⟨N, fun k hk g args ids h1 => ?_⟩
  have hr := hN (k - N)
  rw [Nat.sub_add_cancel hk] at hr
  unfold callPure
  rw [h1]
  simp only [hr]
  rfl
end Go.Proofs.Ytmihmodlilebbaa.Abs
