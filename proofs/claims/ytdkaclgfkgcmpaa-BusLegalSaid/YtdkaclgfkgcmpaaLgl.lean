/- Are the states of a line legal? The given function's walk. -/
import Derived.Test.YtdkaclgfkgcmpaaLegal3
namespace Go.Proofs.Ytdkaclgfkgcmpaa.Abs
open Go Go.RowKit Fn
set_option linter.unusedVariables false
set_option linter.unusedSimpArgs false
set_option linter.unnecessarySimpa false
set_option maxRecDepth 100000
set_option maxHeartbeats 1000000

def at0 (L : List Int) (i : Nat) : Int := (L[i]?).getD 0
def posN (L : List Int) : Nat → Nat
  | 0 => 0
  | i + 1 => posN L i + if at0 L i > 0 then 1 else 0
def aloneN (L : List Int) : Nat → Bool
  | 0 => false
  | i + 1 => aloneN L i || decide (at0 L i > 1)
def rngN (L : List Int) (n : Nat) : Prop := ∀ i, i < n → 0 ≤ at0 L i ∧ at0 L i ≤ 3
def LegalP (L : List Int) : Prop := rngN L L.length ∧ (aloneN L L.length = false ∨ posN L L.length = 1)
theorem posN_le (L : List Int) : ∀ n, posN L n ≤ n
  | 0 => Nat.le_refl _
  | n + 1 => by have := posN_le L n; rw [posN]; split <;> omega
def lgT (L : List Int) : List T := L.map (T.int .i64)
theorem lgT_get (L : List Int) (i : Nat) (h : i < L.length) : (lgT L)[i * 1]? = some (.int .i64 (at0 L i)) := by
  rw [Nat.mul_one]; unfold lgT at0; rw [List.getElem?_map, List.getElem?_eq_getElem h]; rfl
def lgLoop : ACode := match f46.body with | .seq _ (.seq _ (.seq (.seq _ (.block _ (.loop c))) _)) => c | _ => .skip
theorem lg_loop (L : List Int) (hL : L.length ≤ 1000) (f : Bool) (Q : AExit → St → Prop)
    (hQr : ∀ st : St, rho st.s (.tmp 2) = .bool false → ¬ rngN L L.length → Q .ret st) (hQe : ∀ st : St, st.s.length = 42 → rho st.s (.tmp 3) = .int .i64 (posN L L.length : Int) → rho st.s (.tmp 4) = .bool (aloneN L L.length) → rngN L L.length → Q (.exit 0) st) :
    ∀ (m : Nat) (st : St), (∃ i : Nat, st.s.length = 42 ∧ rho st.s (.tmp 0) = .imm f L.length (lgT L) ∧ rho st.s (.tmp 3) = .int .i64 (posN L i : Int) ∧ rho st.s (.tmp 4) = .bool (aloneN L i) ∧ rho st.s (.tmp 5) = .int .i64 (i : Int) ∧ rngN L i ∧ i ≤ L.length ∧ m = L.length - i) → W ap (.loop lgLoop) st Q := by
  refine W_loop _ ?_
  rintro m st ⟨i, hl, h0, h3, h4, h5, hr, hi, hm⟩
  by_cases hend : i = L.length
  · subst hend
    have hlt : decide ((L.length : Int) < (L.length : Int)) = false := decide_eq_false (by omega)
    refine W_seq (W_seqn (W_region (fun k => by simp (decide := true) (disch := first | omega | simp (decide := true) only [List.length_set, hl]) only [sims, autos, simprocAttr, h0, h5, hlt]; rfl) ⟨rfl, W_fls (W_exit (.inr ⟨by simp, .inr ⟨by simp, hQe _ ?_ ?_ ?_ hr⟩⟩))⟩)) <;> simp (decide := true) (disch := first | omega | simp (decide := true) only [List.length_set, hl]) only [sims, autos, simprocAttr, hl, h3, h4]
  have hlt : decide ((i : Int) < (L.length : Int)) = true := decide_eq_true (by omega)
  have hil : i < L.length := by omega
  have hw : IntKind.i64.wrap ((i : Int) + 1) = ((i + 1 : Nat) : Int) := by rw [wrap_id (by omega)]; omega
  have hpl := posN_le L i
  have hw3 : IntKind.i64.wrap ((posN L i : Int) + 1) = ((posN L i + 1 : Nat) : Int) := by rw [wrap_id (by omega)]; omega
  have hcl : (lgT L).length = L.length := by unfold lgT; rw [List.length_map]
  have hg := lgT_get L i hil
  have hb : i * 1 + 1 ≤ L.length := by omega
  have hp1 : posN L (i + 1) = posN L i + if at0 L i > 0 then 1 else 0 := rfl
  have ha1 : aloneN L (i + 1) = (aloneN L i || decide (at0 L i > 1)) := rfl
  have hrn : (0 ≤ at0 L i ∧ at0 L i ≤ 3) → rngN L (i + 1) := fun h j hj => by
    by_cases hji : j = i
    · subst hji; exact h
    · exact hr j (by omega)
  have hrx : rngN L L.length → 0 ≤ at0 L i ∧ at0 L i ≤ 3 := fun h => h i hil
  generalize at0 L i = x at *
  generalize lgT L = cs at *
  refine W_seqn (W_seqn (W_region (fun k => by simp (decide := true) (disch := first | omega | simp (decide := true) only [List.length_set, hl]) only [sims, autos, simprocAttr, h0, h5, hlt]; rfl) ⟨rfl, W_tru (W_skip ⟨rfl, ?_⟩)⟩))
  refine W_seq (W_block ?_)
  by_cases hx : 0 ≤ x ∧ x ≤ 3
  · have d1 : decide (x < 0) = false := decide_eq_false (by omega)
    have d2 : decide (x > 3) = false := decide_eq_false (by omega)
    refine W_cut (fun s => s.s.length = 42 ∧ rho s.s (.tmp 0) = .imm f L.length cs ∧ rho s.s (.tmp 3) = .int .i64 (posN L i : Int) ∧ rho s.s (.tmp 4) = .bool (aloneN L i) ∧ rho s.s (.tmp 5) = .int .i64 (i : Int)) (W_seqn (W_region (fun k => by simp (decide := true) (disch := first | omega | simp (decide := true) only [List.length_set, hl]) only [sims, autos, simprocAttr, h0, h5, hil, hcl, hb, hg, d1, d2]; rfl) ⟨rfl, W_fls (W_skip ⟨rfl, ?_⟩)⟩)) ?_
    · refine ⟨?_, ?_, ?_, ?_, ?_⟩ <;> simp (decide := true) (disch := first | omega | simp (decide := true) only [List.length_set, hl]) only [sims, autos, simprocAttr, hl, h0, h3, h4, h5]
    rintro st ⟨hl, h0, h3, h4, h5⟩
    refine W_cut (fun s => s.s.length = 42 ∧ rho s.s (.tmp 0) = .imm f L.length cs ∧ rho s.s (.tmp 3) = .int .i64 (posN L (i + 1) : Int) ∧ rho s.s (.tmp 4) = .bool (aloneN L i) ∧ rho s.s (.tmp 5) = .int .i64 (i : Int)) ?_ ?_
    · by_cases hx0 : x > 0
      · have d3 : decide (x > 0) = true := decide_eq_true hx0
        rw [if_pos hx0] at hp1
        rw [hp1]
        refine W_seqn (W_region (fun k => by simp (decide := true) (disch := first | omega | simp (decide := true) only [List.length_set, hl]) only [sims, autos, simprocAttr, h0, h5, hil, hcl, hb, hg, d3]; rfl) ⟨rfl, W_tru (W_region (fun k => by simp (decide := true) (disch := first | omega | simp (decide := true) only [List.length_set, hl]) only [sims, autos, simprocAttr, h3, hw3]; rfl) ⟨rfl, ?_⟩)⟩)
        refine ⟨?_, ?_, ?_, ?_, ?_⟩ <;> simp (decide := true) (disch := first | omega | simp (decide := true) only [List.length_set, hl]) only [sims, autos, simprocAttr, hl, h0, h3, h4, h5]
      · have d3 : decide (x > 0) = false := decide_eq_false hx0
        rw [if_neg hx0] at hp1
        rw [hp1]
        refine W_seqn (W_region (fun k => by simp (decide := true) (disch := first | omega | simp (decide := true) only [List.length_set, hl]) only [sims, autos, simprocAttr, h0, h5, hil, hcl, hb, hg, d3]; rfl) ⟨rfl, W_fls (W_skip ⟨rfl, ?_⟩)⟩)
        refine ⟨?_, ?_, ?_, ?_, ?_⟩ <;> simp (decide := true) (disch := first | omega | simp (decide := true) only [List.length_set, hl]) only [sims, autos, simprocAttr, hl, h0, h3, h4, h5]
    rintro st ⟨hl, h0, h3, h4, h5⟩
    refine W_abs (fun s => s.s.length = 42 ∧ rho s.s (.tmp 0) = .imm f L.length cs ∧ rho s.s (.tmp 3) = .int .i64 (posN L (i + 1) : Int) ∧ rho s.s (.tmp 4) = .bool (aloneN L i) ∧ rho s.s (.tmp 5) = .int .i64 (i : Int)) ⟨hl, h0, h3, h4, h5⟩ ?_
    rintro st ⟨hl, h0, h3, h4, h5⟩
    by_cases hx1 : x > 1
    · have d3 : decide (x > 1) = true := decide_eq_true hx1
      rw [d3, Bool.or_true] at ha1
      refine W_seqn (W_region (fun k => by simp (decide := true) (disch := first | omega | simp (decide := true) only [List.length_set, hl]) only [sims, autos, simprocAttr, h0, h5, hil, hcl, hb, hg, d3]; rfl) ⟨rfl, W_tru (W_region (fun k => by simp (decide := true) (disch := first | omega | simp (decide := true) only [List.length_set, hl]) only [sims, autos, simprocAttr]; rfl) (.inr (.inl ⟨by simp, .inl ⟨rfl, ?_⟩⟩)))⟩)
      refine W_region (fun k => by simp (decide := true) (disch := first | omega | simp (decide := true) only [List.length_set, hl]) only [sims, autos, simprocAttr, h5, hw]; rfl) (.inl ⟨rfl, L.length - (i + 1), by omega, i + 1, ?_, ?_, ?_, ?_, ?_, hrn hx, by omega, rfl⟩) <;> simp (decide := true) (disch := first | omega | simp (decide := true) only [List.length_set, hl]) only [sims, autos, simprocAttr, hl, h0, h3, h4, h5, ha1]
    · have d3 : decide (x > 1) = false := decide_eq_false hx1
      rw [d3, Bool.or_false] at ha1
      refine W_seqn (W_region (fun k => by simp (decide := true) (disch := first | omega | simp (decide := true) only [List.length_set, hl]) only [sims, autos, simprocAttr, h0, h5, hil, hcl, hb, hg, d3]; rfl) ⟨rfl, W_fls (W_skip (.inr (.inl ⟨by simp, .inl ⟨rfl, ?_⟩⟩)))⟩)
      refine W_region (fun k => by simp (decide := true) (disch := first | omega | simp (decide := true) only [List.length_set, hl]) only [sims, autos, simprocAttr, h5, hw]; rfl) (.inl ⟨rfl, L.length - (i + 1), by omega, i + 1, ?_, ?_, ?_, ?_, ?_, hrn hx, by omega, rfl⟩) <;> simp (decide := true) (disch := first | omega | simp (decide := true) only [List.length_set, hl]) only [sims, autos, simprocAttr, hl, h0, h3, h4, h5, ha1]
  · by_cases hx0 : x < 0
    · have d1 : decide (x < 0) = true := decide_eq_true hx0
      refine W_seq (W_seqn (W_region (fun k => by simp (decide := true) (disch := first | omega | simp (decide := true) only [List.length_set, hl]) only [sims, autos, simprocAttr, h0, h5, hil, hcl, hb, hg, d1]; rfl) ⟨rfl, W_tru ?_⟩))
      refine W_seqn (W_region (fun k => by simp (decide := true) (disch := first | omega | simp (decide := true) only [List.length_set, hl]) only [sims, autos, simprocAttr]; rfl) ⟨rfl, W_ret ?_⟩)
      simp only [reduceCtorEq, false_and, false_or, or_false, exists_false, exists_const, ne_eq, not_false_eq_true, true_and, implies_true]
      refine hQr _ ?_ (fun h => hx (hrx h))
      simp (decide := true) (disch := first | omega | simp (decide := true) only [List.length_set, hl]) only [sims, autos, simprocAttr]
    · have d1 : decide (x < 0) = false := decide_eq_false hx0
      have d2 : decide (x > 3) = true := decide_eq_true (by omega)
      refine W_seq (W_seqn (W_region (fun k => by simp (decide := true) (disch := first | omega | simp (decide := true) only [List.length_set, hl]) only [sims, autos, simprocAttr, h0, h5, hil, hcl, hb, hg, d1, d2]; rfl) ⟨rfl, W_tru ?_⟩))
      refine W_seqn (W_region (fun k => by simp (decide := true) (disch := first | omega | simp (decide := true) only [List.length_set, hl]) only [sims, autos, simprocAttr]; rfl) ⟨rfl, W_ret ?_⟩)
      simp only [reduceCtorEq, false_and, false_or, or_false, exists_false, exists_const, ne_eq, not_false_eq_true, true_and, implies_true]
      refine hQr _ ?_ (fun h => hx (hrx h))
      simp (decide := true) (disch := first | omega | simp (decide := true) only [List.length_set, hl]) only [sims, autos, simprocAttr]
theorem ref_legal (L : List Int) (hL : L.length ≤ 1000) (f : Bool) : ∃ v, E ap 46 [.imm f L.length (lgT L)] v ∧ ∃ b, v = .bool b ∧ (b = true ↔ LegalP L) := by
  refine E_bodyV (F := f46) rfl rfl rfl (P := fun v => ∃ b, v = .bool b ∧ (b = true ↔ LegalP L)) ?_
  generalize hs0 : (_ : List T) ++ List.replicate _ T.undef = s0
  have e0 : s0.length = 42 ∧ rho s0 (.tmp 0) = .imm f L.length (lgT L) := by subst hs0; exact ⟨rfl, rfl⟩
  clear hs0
  obtain ⟨hl, h0⟩ := e0
  refine W_seqn (W_region (fun k => by simp (decide := true) (disch := first | omega | simp (decide := true) only [List.length_set, hl]) only [sims, autos, simprocAttr]; rfl) ⟨rfl, ?_⟩)
  refine W_seqn (W_region (fun k => by simp (decide := true) (disch := first | omega | simp (decide := true) only [List.length_set, hl]) only [sims, autos, simprocAttr]; rfl) ⟨rfl, ?_⟩)
  refine W_seq (W_seqn (W_region (fun k => by simp (decide := true) (disch := first | omega | simp (decide := true) only [List.length_set, hl]) only [sims, autos, simprocAttr]; rfl) ⟨rfl, W_block ?_⟩))
  refine lg_loop L hL f _ (fun st h2 hno => ?_) (fun st hl h3 h4 hr => ?_) (L.length - 0) _ ⟨0, ?_, ?_, ?_, ?_, ?_, fun j hj => absurd hj (by omega), by omega, rfl⟩
  · simp only [reduceCtorEq, false_and, false_or, or_false, exists_false, exists_const, ne_eq, not_false_eq_true, true_and, implies_true]
    exact ⟨rfl, fin_bool (F := f46) (b := false) (P := fun b => b = true ↔ LegalP L) rfl (bfalse (fun h => hno h.1)) h2⟩
  · refine .inl ⟨rfl, .inl ⟨rfl, ?_⟩⟩
    have hdef : LegalP L = (rngN L L.length ∧ (aloneN L L.length = false ∨ posN L L.length = 1)) := rfl
    cases ha : aloneN L L.length with
    | false =>
      rw [ha] at h4
      refine W_seqn (W_region (fun k => by simp (decide := true) (disch := first | omega | simp (decide := true) only [List.length_set, hl]) only [sims, autos, simprocAttr, h3, h4]; rfl) ⟨rfl, W_ret ?_⟩)
      refine ⟨rfl, fin_bool (F := f46) (b := true) (P := fun b => b = true ↔ LegalP L) rfl (btrue ⟨hr, .inl ha⟩) ?_⟩
      simp (decide := true) (disch := first | omega | simp (decide := true) only [List.length_set, hl]) only [sims, autos, simprocAttr]
    | true =>
      rw [ha] at h4
      by_cases hp : posN L L.length = 1
      · have e1 : ((posN L L.length : Int) == 1) = true := by rw [hp]; rfl
        refine W_seqn (W_region (fun k => by simp (decide := true) (disch := first | omega | simp (decide := true) only [List.length_set, hl]) only [sims, autos, simprocAttr, h3, h4, e1]; rfl) ⟨rfl, W_ret ?_⟩)
        refine ⟨rfl, fin_bool (F := f46) (b := true) (P := fun b => b = true ↔ LegalP L) rfl (btrue ⟨hr, .inr hp⟩) ?_⟩
        simp (decide := true) (disch := first | omega | simp (decide := true) only [List.length_set, hl]) only [sims, autos, simprocAttr]
      · have e1 : ((posN L L.length : Int) == 1) = false := by simp; omega
        refine W_seqn (W_region (fun k => by simp (decide := true) (disch := first | omega | simp (decide := true) only [List.length_set, hl]) only [sims, autos, simprocAttr, h3, h4, e1]; rfl) ⟨rfl, W_ret ?_⟩)
        refine ⟨rfl, fin_bool (F := f46) (b := false) (P := fun b => b = true ↔ LegalP L) rfl (bfalse (fun h => by rw [hdef] at h; rcases h.2 with h | h; rw [ha] at h; cases h; exact hp h)) ?_⟩
        simp (decide := true) (disch := first | omega | simp (decide := true) only [List.length_set, hl]) only [sims, autos, simprocAttr]
  all_goals first | (simp (decide := true) (disch := first | omega | simp (decide := true) only [List.length_set, hl]) only [sims, autos, simprocAttr, hl, h0]; done) | (simp (decide := true) (disch := first | omega | simp (decide := true) only [List.length_set, hl]) only [sims, autos, simprocAttr, hl, h0]; rfl)
theorem pos_one (L : List Int) : ∀ n, (∀ i, i < n → 0 ≤ at0 L i) → (posN L n = 0 ↔ ∀ i, i < n → at0 L i = 0)
  | 0, _ => ⟨fun _ i h => absurd h (by omega), fun _ => rfl⟩
  | n + 1, h => by
    have ih := pos_one L n (fun i hi => h i (by omega))
    have hn := h n (by omega)
    rw [posN]
    constructor
    · intro e i hi
      split at e
      · omega
      · by_cases hin : i = n
        · subst hin; omega
        · exact ih.mp (by omega) i (by omega)
    · intro e
      rw [if_neg (by have := e n (by omega); omega), ih.mpr (fun i hi => e i (by omega))]
theorem pos_alone (L : List Int) : ∀ n, (∀ i, i < n → 0 ≤ at0 L i) → ∀ k, k < n → at0 L k > 0 → (posN L n = 1 ↔ ∀ i, i < n → i ≠ k → at0 L i = 0)
  | 0, _, k, hk, _ => absurd hk (by omega)
  | n + 1, h, k, hk, hp => by
    rw [posN]
    by_cases hkn : k = n
    · subst hkn
      rw [if_pos hp]
      have := pos_one L k (fun i hi => h i (by omega))
      constructor
      · intro e i hi hne
        exact this.mp (by omega) i (by omega)
      · intro e
        rw [this.mpr (fun i hi => e i (by omega) (by omega))]
    · have ih := pos_alone L n (fun i hi => h i (by omega)) k (by omega) hp
      have hz : posN L n = 0 → False := fun e => by
        have := (pos_one L n (fun i hi => h i (by omega))).mp e k (by omega)
        omega
      have hn := h n (by omega)
      constructor
      · intro e i hi hne
        split at e
        · exact absurd (by omega) hz
        · by_cases hin : i = n
          · subst hin; omega
          · exact ih.mp (by omega) i (by omega) hne
      · intro e
        rw [if_neg (by have := e n (by omega) (by omega); omega), ih.mpr (fun i hi => e i (by omega))]
theorem alone_iff (L : List Int) : ∀ n, (aloneN L n = true ↔ ∃ i, i < n ∧ at0 L i > 1)
  | 0 => ⟨fun h => (by cases h), fun ⟨i, h, _⟩ => absurd h (by omega)⟩
  | n + 1 => by
    have ih := alone_iff L n
    rw [aloneN, Bool.or_eq_true, ih, decide_eq_true_eq]
    constructor
    · rintro (⟨i, h1, h2⟩ | h)
      · exact ⟨i, by omega, h2⟩
      · exact ⟨n, by omega, h⟩
    · rintro ⟨i, h1, h2⟩
      by_cases hin : i = n
      · subst hin; exact .inr h2
      · exact .inl ⟨i, by omega, h2⟩
/-- What a legal list is. -/
theorem legal_iff (L : List Int) : LegalP L ↔ rngN L L.length ∧ ∀ k, k < L.length → at0 L k > 1 → ∀ i, i < L.length → i ≠ k → at0 L i = 0 := by
  unfold LegalP
  constructor
  · rintro ⟨hr, h⟩
    refine ⟨hr, fun k hk hgt => ?_⟩
    have ha := (alone_iff L L.length).mpr ⟨k, hk, hgt⟩
    have hp : posN L L.length = 1 := by
      rcases h with h | h
      · rw [ha] at h; cases h
      · exact h
    exact (pos_alone L L.length (fun i hi => (hr i hi).1) k hk (by omega)).mp hp
  · rintro ⟨hr, h⟩
    refine ⟨hr, ?_⟩
    cases ha : aloneN L L.length with
    | false => exact .inl rfl
    | true =>
      obtain ⟨k, hk, hgt⟩ := (alone_iff L L.length).mp ha
      exact .inr ((pos_alone L L.length (fun i hi => (hr i hi).1) k hk (by omega)).mpr (h k hk hgt))
end Go.Proofs.Ytdkaclgfkgcmpaa.Abs
