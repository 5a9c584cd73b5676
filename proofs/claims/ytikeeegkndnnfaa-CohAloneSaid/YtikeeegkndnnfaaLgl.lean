/- Are the states of a line legal? The given function's walk. -/
import Derived.Test.YtikeeegkndnnfaaLegal3
namespace Go.Proofs.Ytikeeegkndnnfaa.Abs
open Go Go.RowKit Fn
set_option linter.unusedVariables false
set_option linter.unusedSimpArgs false
set_option linter.unnecessarySimpa false
set_option maxRecDepth 100000
set_option maxHeartbeats 4000000

def at0 (L : List Int) (i : Nat) : Int := (L[i]?).getD 0
def posN (L : List Int) : Nat → Nat
  | 0 => 0
  | i + 1 => posN L i + if at0 L i > 0 then 1 else 0
def aloneN (L : List Int) : Nat → Bool
  | 0 => false
  | i + 1 => aloneN L i || decide (at0 L i > 1)
def rngN (L : List Int) (n : Nat) : Prop := ∀ i, i < n → 0 ≤ at0 L i ∧ at0 L i ≤ 3
def LegalP (L : List Int) : Prop := rngN L L.length ∧ (aloneN L L.length = false ∨ posN L L.length = 1)
theorem pos_one (L : List Int) : ∀ n, (∀ i, i < n → 0 ≤ at0 L i) → (posN L n = 0 ↔ ∀ i, i < n → at0 L i = 0)
  | 0, _ => ⟨fun _ i h => absurd h (by omega), fun _ => rfl⟩
  | n + 1, h => by
    have ih := pos_one L n (fun i hi => h i (by omega))
    have hn := h n (by omega)
    rw [posN]
    constructor
    · intro e i hi
      split at e
      · omega
      · by_cases hin : i = n
        · subst hin; omega
        · exact ih.mp (by omega) i (by omega)
    · intro e
      rw [if_neg (by have := e n (by omega); omega), ih.mpr (fun i hi => e i (by omega))]
theorem pos_alone (L : List Int) : ∀ n, (∀ i, i < n → 0 ≤ at0 L i) → ∀ k, k < n → at0 L k > 0 → (posN L n = 1 ↔ ∀ i, i < n → i ≠ k → at0 L i = 0)
  | 0, _, k, hk, _ => absurd hk (by omega)
  | n + 1, h, k, hk, hp => by
    rw [posN]
    by_cases hkn : k = n
    · subst hkn
      rw [if_pos hp]
      have := pos_one L k (fun i hi => h i (by omega))
      constructor
      · intro e i hi hne
        exact this.mp (by omega) i (by omega)
      · intro e
        rw [this.mpr (fun i hi => e i (by omega) (by omega))]
    · have ih := pos_alone L n (fun i hi => h i (by omega)) k (by omega) hp
      have hz : posN L n = 0 → False := fun e => by
        have := (pos_one L n (fun i hi => h i (by omega))).mp e k (by omega)
        omega
      have hn := h n (by omega)
      constructor
      · intro e i hi hne
        split at e
        · exact absurd (by omega) hz
        · by_cases hin : i = n
          · subst hin; omega
          · exact ih.mp (by omega) i (by omega) hne
      · intro e
        rw [if_neg (by have := e n (by omega) (by omega); omega), ih.mpr (fun i hi => e i (by omega))]
theorem alone_iff (L : List Int) : ∀ n, (aloneN L n = true ↔ ∃ i, i < n ∧ at0 L i > 1)
  | 0 => ⟨fun h => (by cases h), fun ⟨i, h, _⟩ => absurd h (by omega)⟩
  | n + 1 => by
    have ih := alone_iff L n
    rw [aloneN, Bool.or_eq_true, ih, decide_eq_true_eq]
    constructor
    · rintro (⟨i, h1, h2⟩ | h)
      · exact ⟨i, by omega, h2⟩
      · exact ⟨n, by omega, h⟩
    · rintro ⟨i, h1, h2⟩
      by_cases hin : i = n
      · subst hin; exact .inr h2
      · exact .inl ⟨i, by omega, h2⟩
/-- What a legal list is. -/
theorem legal_iff (L : List Int) : LegalP L ↔ rngN L L.length ∧ ∀ k, k < L.length → at0 L k > 1 → ∀ i, i < L.length → i ≠ k → at0 L i = 0 := by
  unfold LegalP
  constructor
  · rintro ⟨hr, h⟩
    refine ⟨hr, fun k hk hgt => ?_⟩
    have ha := (alone_iff L L.length).mpr ⟨k, hk, hgt⟩
    have hp : posN L L.length = 1 := by
      rcases h with h | h
      · rw [ha] at h; cases h
      · exact h
    exact (pos_alone L L.length (fun i hi => (hr i hi).1) k hk (by omega)).mp hp
  · rintro ⟨hr, h⟩
    refine ⟨hr, ?_⟩
    cases ha : aloneN L L.length with
    | false => exact .inl rfl
    | true =>
      obtain ⟨k, hk, hgt⟩ := (alone_iff L L.length).mp ha
      exact .inr ((pos_alone L L.length (fun i hi => (hr i hi).1) k hk (by omega)).mpr (h k hk hgt))
end Go.Proofs.Ytikeeegkndnnfaa.Abs
