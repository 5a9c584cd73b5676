/- May a cache be? What both functions ask comes to the same. -/
import Derived.Test.YtikeeegkndnnfaaTags
namespace Go.Proofs.Ytikeeegkndnnfaa.Abs
open Go Go.RowKit Fn
set_option linter.unusedVariables false
set_option linter.unusedSimpArgs false
set_option linter.unnecessarySimpa false
set_option maxRecDepth 100000
set_option maxHeartbeats 4000000

/-! Ages: each once, or none twice. -/

def sumC (f : Nat → Nat) : Nat → Nat
  | 0 => 0
  | n + 1 => sumC f n + f n
theorem sumC_add (f g : Nat → Nat) : ∀ n, sumC (fun a => f a + g a) n = sumC f n + sumC g n
  | 0 => rfl
  | n + 1 => by rw [sumC, sumC_add f g n, sumC, sumC]; omega
theorem sumC_one (x : Int) : ∀ n : Nat, sumC (fun a => if x = (a : Int) then 1 else 0) n = if 0 ≤ x ∧ x < n then 1 else 0
  | 0 => by rw [sumC, if_neg (by omega)]
  | n + 1 => by
    rw [sumC, sumC_one x n]
    by_cases h : 0 ≤ x ∧ x < n
    · rw [if_pos h, if_neg (by omega), if_pos (by omega)]
    · by_cases h2 : x = (n : Int)
      · rw [if_neg h, if_pos h2, if_pos (by omega)]
      · rw [if_neg h, if_neg h2, if_neg (by omega)]
def inR (l : List Way) (n : Nat) : Nat → Nat
  | 0 => 0
  | k + 1 => inR l n k + if 0 ≤ (wayN l k).age ∧ (wayN l k).age < n then 1 else 0
theorem dbl (l : List Way) (n : Nat) : ∀ k, sumC (fun a => cntA l (a : Int) k) n = inR l n k
  | 0 => by
    have h : ∀ m, sumC (fun a => cntA l (a : Int) 0) m = 0 := by
      intro m
      induction m with
      | zero => rfl
      | succ j ih => rw [sumC, ih]; rfl
    rw [h]; rfl
  | k + 1 => by
    have e : (fun a : Nat => cntA l (a : Int) (k + 1)) = fun a : Nat => cntA l (a : Int) k + (if (wayN l k).age = (a : Int) then 1 else 0) := rfl
    rw [e, sumC_add, dbl l n k, sumC_one, inR]
theorem inR_le (l : List Way) (n : Nat) : ∀ k, inR l n k ≤ k
  | 0 => Nat.le_refl _
  | k + 1 => by have := inR_le l n k; rw [inR]; split <;> omega
theorem inR_all (l : List Way) (n : Nat) : ∀ k, (inR l n k = k ↔ ∀ i, i < k → 0 ≤ (wayN l i).age ∧ (wayN l i).age < n)
  | 0 => ⟨fun _ i h => by omega, fun _ => rfl⟩
  | k + 1 => by
    have h1 := inR_le l n k
    have ih := inR_all l n k
    rw [inR]
    constructor
    · intro h i hi
      split at h
      · rename_i hk
        by_cases hik : i = k
        · subst hik; exact hk
        · exact ih.mp (by omega) i (by omega)
      · omega
    · intro h
      rw [if_pos (h k (by omega)), ih.mpr (fun i hi => h i (by omega))]
theorem cnt_zero (l : List Way) (a : Int) : ∀ k, (∀ j, j < k → (wayN l j).age ≠ a) → cntA l a k = 0
  | 0, _ => rfl
  | k + 1, h => by rw [cntA, cnt_zero l a k (fun j hj => h j (by omega)), if_neg (h k (by omega))]
theorem cnt_le1 (l : List Way) (a : Int) : ∀ k, (∀ i, i < k → ∀ j, j < i → (wayN l j).age ≠ (wayN l i).age) → cntA l a k ≤ 1
  | 0, _ => by show 0 ≤ 1; omega
  | k + 1, h => by
    rw [cntA]
    by_cases hk : (wayN l k).age = a
    · rw [if_pos hk, cnt_zero l a k (fun j hj => by rw [← hk]; exact h k (by omega) j hj)]; omega
    · rw [if_neg hk]
      exact cnt_le1 l a k (fun i hi => h i (by omega))
theorem cnt_mono (l : List Way) (a : Int) (k : Nat) : ∀ d, cntA l a k ≤ cntA l a (k + d)
  | 0 => Nat.le_refl _
  | d + 1 => by have := cnt_mono l a k d; rw [← Nat.add_assoc, cntA]; split <;> omega
theorem sum_ones (f : Nat → Nat) : ∀ n, (∀ a, a < n → f a ≤ 1) → sumC f n ≤ n ∧ (sumC f n = n → ∀ a, a < n → f a = 1)
  | 0, _ => ⟨Nat.le_refl _, fun _ a h => by omega⟩
  | n + 1, h => by
    obtain ⟨h1, h2⟩ := sum_ones f n (fun a ha => h a (by omega))
    have h3 := h n (by omega)
    rw [sumC]
    refine ⟨by omega, fun he a ha => ?_⟩
    by_cases hn : a = n
    · subst hn; omega
    · exact h2 (by omega) a (by omega)
theorem sum_const (f : Nat → Nat) : ∀ n, (∀ a, a < n → f a = 1) → sumC f n = n
  | 0, _ => rfl
  | n + 1, h => by rw [sumC, sum_const f n (fun a ha => h a (by omega)), h n (by omega)]
theorem ages_iff (l : List Way) : AgesP l ↔ ∀ k, k < l.length → 0 ≤ (wayN l k).age ∧ (wayN l k).age < l.length ∧ ∀ j, j < k → (wayN l j).age ≠ (wayN l k).age := by
  have hd := dbl l l.length l.length
  have hin := inR_all l l.length l.length
  constructor
  · intro h k hk
    rw [sum_const _ _ h] at hd
    have hr := hin.mp hd.symm
    refine ⟨(hr k hk).1, (hr k hk).2, fun j hj he => ?_⟩
    obtain ⟨h1, h2⟩ := hr k hk
    have hc := h (wayN l k).age.toNat (by omega)
    rw [show (((wayN l k).age.toNat : Nat) : Int) = (wayN l k).age by omega] at hc
    have c1 : cntA l (wayN l k).age (j + 1) = cntA l (wayN l k).age j + 1 := by rw [cntA, if_pos he]
    have c2 : cntA l (wayN l k).age (k + 1) = cntA l (wayN l k).age k + 1 := by rw [cntA, if_pos rfl]
    have m1 := cnt_mono l (wayN l k).age (j + 1) (k - (j + 1))
    have m2 := cnt_mono l (wayN l k).age (k + 1) (l.length - (k + 1))
    rw [show j + 1 + (k - (j + 1)) = k by omega] at m1
    rw [show k + 1 + (l.length - (k + 1)) = l.length by omega] at m2
    omega
  · intro h
    have h1 : inR l l.length l.length = l.length := hin.mpr (fun i hi => ⟨(h i hi).1, (h i hi).2.1⟩)
    rw [h1] at hd
    exact (sum_ones _ _ (fun a _ => cnt_le1 l (a : Int) l.length (fun i hi => (h i hi).2.2))).2 hd
theorem isAt_iff (ln : Nat) (w : Way) : isAt ln w = true ↔ w.tag = (ln : Int) ∧ w.state ≠ 0 := by
  unfold isAt; simp
theorem fine_iff (c : Cache) (hc : c.wf) (s : Nat) (hs : s < c.sets.length) : FineP c s (row c s) ↔ 1 ≤ (row c s).length ∧ (row c s).length ≤ 4 ∧ AgesP (row c s) ∧ TagsP c s (row c s) := by
  have hw := (row_wf hc s hs).2
  have hfd : ∀ ln, seti c ln = s → find c ln = fnd (row c s) ln 0 (row c s).length := fun ln h => by unfold find; rw [if_neg (by omega), h]
  have htag : ∀ k, k < (row c s).length → (((wayN (row c s) k).tag.toNat : Nat) : Int) = (wayN (row c s) k).tag := fun k hk => by have := wf_u32 (wayN_wf hw hk).2.1; omega
  rw [ages_iff]
  unfold FineP TagsP
  constructor
  · rintro ⟨h1, h2, h3⟩
    refine ⟨h1, h2, fun k hk => ⟨(h3 k hk).1, (h3 k hk).2.1, (h3 k hk).2.2.1⟩, fun k hk => ?_⟩
    obtain ⟨a1, a2, a3, a4, a5, a6, a7⟩ := h3 k hk
    refine ⟨a4, a5, fun hz => ?_, fun hz => (a7 hz).1, fun j hj ⟨d1, d2, d3⟩ => ?_⟩
    · have e := a6 hz
      exact ⟨by rw [e]; rfl, by rw [e]; rfl⟩
    · obtain ⟨b1, b2⟩ := a7 d1
      rw [hfd _ b1] at b2
      have := (fnd_first _ _ _ _ _ b2).2.2 j (by omega) hj
      rw [(isAt_iff _ _).mpr ⟨by rw [← d3, htag k hk], d2⟩] at this
      cases this
  · rintro ⟨h1, h2, h3, h4⟩
    refine ⟨h1, h2, fun k hk => ?_⟩
    obtain ⟨a1, a2, a3⟩ := h3 k hk
    obtain ⟨t1, t2, t3, t4, t5⟩ := h4 k hk
    refine ⟨a1, a2, a3, t1, t2, fun hz => ?_, fun hz => ⟨t4 hz, ?_⟩⟩
    · obtain ⟨e1, e2⟩ := t3 hz
      show wayN (row c s) k = ⟨0, 0, List.replicate 16 0, (wayN (row c s) k).age⟩
      have : ∀ w : Way, w.state = 0 → w.tag = 0 → w.data = zeros → w = ⟨0, 0, List.replicate 16 0, w.age⟩ := by
        intro w h1 h2 h3
        cases w
        simp only at h1 h2 h3
        rw [h1, h2, h3]; rfl
      exact this _ hz e1 e2
    · rw [hfd _ (t4 hz)]
      obtain ⟨j, hj⟩ := fnd_has (row c s) (wayN (row c s) k).tag.toNat (row c s).length 0 k (by omega) (by omega) ((isAt_iff _ _).mpr ⟨(htag k hk).symm, hz⟩)
      obtain ⟨f1, f2, f90003⟩ := fnd_first _ _ _ _ _ hj
      rw [hj]
      by_cases hjk : j = k
      · rw [hjk]
      · by_cases hlt : k < j
        · have := f90003 k (by omega) hlt
          rw [(isAt_iff _ _).mpr ⟨(htag k hk).symm, hz⟩] at this
          cases this
        · obtain ⟨g1, g2⟩ := (isAt_iff _ _).mp f1
          exact absurd ⟨hz, g2, by rw [g1, htag k hk]⟩ (t5 j (by omega))
def RightP (c : Cache) : Prop := 1 ≤ c.sets.length ∧ c.sets.length ≤ 8 ∧ ∀ s, s < c.sets.length → (row c s).length = (row c 0).length ∧ FineP c s (row c s)
theorem ap48 : ap 48 = some f48 := rfl
theorem p48 : f48.pure = true := rfl
theorem n48 : f48.nat = none := rfl
def brLoop : ACode := match f26.body with | .seq _ (.seq _ (.seq (.seq _ (.block _ (.loop c))) _)) => c | _ => .skip
theorem br_loop (c : Cache) (hc : c.wf) (hfit : Fit c.sets) (Q : AExit → St → Prop)
    (hQr : ∀ st : St, rho st.s (.tmp 2) = .bool false → ¬ (∀ s, s < c.sets.length → (row c s).length = (row c 0).length ∧ FineP c s (row c s)) → Q .ret st) (hQe : ∀ st : St, st.s.length = 39 → (∀ s, s < c.sets.length → (row c s).length = (row c 0).length ∧ FineP c s (row c s)) → Q (.exit 0) st) :
    ∀ (m : Nat) (st : St), (∃ s : Nat, st.s.length = 39 ∧ rho st.s (.tmp 1) = .ptr 0 0 ∧ st.g 0 = some [setsT c] ∧ rho st.s (.tmp 16) = .int .i64 (c.sets.length : Int) ∧ rho st.s (.tmp 17) = .int .i64 (s : Int) ∧ s ≤ c.sets.length ∧ m = c.sets.length - s ∧ (∀ j, j < s → (row c j).length = (row c 0).length ∧ FineP c j (row c j))) → W ap (.loop brLoop) st Q := by
  refine W_loop _ ?_
  rintro m st ⟨s, hl, h1, g0, h16, h17, hs, hm, hall⟩
  have hN := hfit.1
  by_cases hend : s = c.sets.length
  · have hlt : decide ((s : Int) < (c.sets.length : Int)) = false := decide_eq_false (by omega)
    refine W_seqn (W_region (fun k => by simp (decide := true) (disch := first | omega | simp (decide := true) only [List.length_set, hl]) only [sims, autos, simprocAttr, h16, h17, hlt]; rfl) ⟨rfl, ?_⟩)
    refine W_seq (W_false (by simp (decide := true) (disch := first | omega | simp (decide := true) only [List.length_set, hl]) only [sims, autos, simprocAttr] <;> rfl) (W_exit ?_))
    refine (.inr ⟨by simp, .inr ⟨by simp, hQe _ ?_ (fun j hj => hall j (by omega))⟩⟩)
    simp (decide := true) (disch := first | omega | simp (decide := true) only [List.length_set, hl]) only [sims, autos, simprocAttr, hl]
  have hlt : decide ((s : Int) < (c.sets.length : Int)) = true := decide_eq_true (by omega)
  have hsl : s < c.sets.length := by omega
  have h0l : 0 < c.sets.length := by omega
  have hw2 : IntKind.i64.wrap ((s : Int) + 1) = ((s + 1 : Nat) : Int) := by rw [wrap_id (by omega)]; omega
  have hsc : setsT c = .imm false c.sets.length (c.sets.flatMap (fun l => [rowT l])) := rfl
  have hrl := rows_len c
  have hrg := rows_get c s hsl
  have hrg0 := rows_get c 0 h0l
  rw [show rowT (row c s) = .imm false (row c s).length ((row c s).flatMap Way.enc) from rfl] at hrg
  rw [show rowT (row c 0) = .imm false (row c 0).length ((row c 0).flatMap Way.enc) from rfl] at hrg0
  have hb : s * 1 + 1 ≤ c.sets.length := by omega
  have hb0 : 0 * 1 + 1 ≤ c.sets.length := by omega
  have hrb := (fit_row hfit s hsl).1
  obtain ⟨v, hv, b, rfl, hiff⟩ := bus_fine c hc s hsl (by omega)
  obtain ⟨N1, c31⟩ := hv.call ap48 (fun g => rfl)
  have q31 := c31 N1 (Nat.le_refl _)
  have bad : ¬ ((row c s).length = (row c 0).length ∧ FineP c s (row c s)) → ¬ (∀ s, s < c.sets.length → (row c s).length = (row c 0).length ∧ FineP c s (row c s)) := fun h h' => h (h' s hsl)
  have hcut : cut [T.imm false c.sets.length (c.sets.flatMap (fun l => [rowT l]))] 0 1 = [T.imm false c.sets.length (c.sets.flatMap (fun l => [rowT l]))] := rfl
  rw [hsc] at q31 g0
  generalize c.sets.flatMap (fun l => [rowT l]) = rows at *
  refine W_seqn (W_region (fun k => by simp (decide := true) (disch := first | omega | simp (decide := true) only [List.length_set, hl]) only [sims, autos, simprocAttr, h16, h17, hlt]; rfl) ⟨rfl, ?_⟩)
  refine W_seqn (W_true (by simp (decide := true) (disch := first | omega | simp (decide := true) only [List.length_set, hl]) only [sims, autos, simprocAttr] <;> rfl) (W_skip ⟨rfl, ?_⟩))
  refine W_seq (W_block ?_)
  refine W_seqn (W_region (fun k => by simp (decide := true) (disch := first | omega | simp (decide := true) only [List.length_set, hl]) only [sims, autos, simprocAttr, h17]; rfl) ⟨rfl, ?_⟩)
  by_cases hlen : (row c s).length = (row c 0).length
  · have e1 : (((row c s).length : Int) != ((row c 0).length : Int)) = false := by simp [hlen]
    cases b with
    | true =>
      refine W_seqn (W_regionN ⟨N1, by simp (decide := true) (disch := first | omega | simp (decide := true) only [List.length_set, hl]) only [sims, autos, simprocAttr, hps, h1, g0, hrl, hsl, h0l, hb, hb0, hrg, hrg0, hcut, e1, ap48, p48, n48, q31]; rfl⟩ ⟨rfl, W_false (by simp (decide := true) (disch := first | omega | simp (decide := true) only [List.length_set, hl]) only [sims, autos, simprocAttr] <;> rfl) (W_skip (.inr (.inl ⟨by simp, .inl ⟨rfl, ?_⟩⟩)))⟩)
      refine W_region (fun k => by simp (decide := true) (disch := first | omega | simp (decide := true) only [List.length_set, hl]) only [sims, autos, simprocAttr, h17, hw2]; rfl) ?_
      refine .inl ⟨rfl, c.sets.length - (s + 1), by omega, s + 1, ?_, ?_, ?_, ?_, ?_, by omega, rfl, fun j hj => ?_⟩
      rotate_right 1
      · by_cases hjs : j = s
        · subst hjs; exact ⟨hlen, hiff.mp rfl⟩
        · exact hall j (by omega)
      all_goals simp (decide := true) (disch := first | omega | simp (decide := true) only [List.length_set, hl]) only [sims, autos, simprocAttr, hl, h1, g0, h16, hsc]
    | false =>
      refine W_seqn (W_regionN ⟨N1, by simp (decide := true) (disch := first | omega | simp (decide := true) only [List.length_set, hl]) only [sims, autos, simprocAttr, hps, h1, g0, hrl, hsl, h0l, hb, hb0, hrg, hrg0, hcut, e1, ap48, p48, n48, q31]; rfl⟩ ⟨rfl, W_true (by simp (decide := true) (disch := first | omega | simp (decide := true) only [List.length_set, hl]) only [sims, autos, simprocAttr] <;> rfl) ?_⟩)
      refine W_seqn (W_region (fun k => by simp (decide := true) (disch := first | omega | simp (decide := true) only [List.length_set, hl]) only [sims, autos, simprocAttr]; rfl) ⟨rfl, W_ret ?_⟩)
      simp only [reduceCtorEq, false_and, false_or, or_false, exists_false, exists_const, ne_eq, not_false_eq_true, true_and, implies_true]
      refine hQr _ ?_ (bad (fun h => by have := hiff.mpr h.2; cases this))
      simp (decide := true) (disch := first | omega | simp (decide := true) only [List.length_set, hl]) only [sims, autos, simprocAttr]
  · have e1 : (((row c s).length : Int) != ((row c 0).length : Int)) = true := by simp; omega
    refine W_seqn (W_regionN ⟨N1, by simp (decide := true) (disch := first | omega | simp (decide := true) only [List.length_set, hl]) only [sims, autos, simprocAttr, hps, h1, g0, hrl, hsl, h0l, hb, hb0, hrg, hrg0, hcut, e1]; rfl⟩ ⟨rfl, W_true (by simp (decide := true) (disch := first | omega | simp (decide := true) only [List.length_set, hl]) only [sims, autos, simprocAttr] <;> rfl) ?_⟩)
    refine W_seqn (W_region (fun k => by simp (decide := true) (disch := first | omega | simp (decide := true) only [List.length_set, hl]) only [sims, autos, simprocAttr]; rfl) ⟨rfl, W_ret ?_⟩)
    simp only [reduceCtorEq, false_and, false_or, or_false, exists_false, exists_const, ne_eq, not_false_eq_true, true_and, implies_true]
    refine hQr _ ?_ (bad (fun h => hlen h.1))
    simp (decide := true) (disch := first | omega | simp (decide := true) only [List.length_set, hl]) only [sims, autos, simprocAttr]
theorem bus_right (c : Cache) (hc : c.wf) (hfit : Fit c.sets) : ∃ v, E ap 26 [.agg [setsT c]] v ∧ ∃ b, v = .bool b ∧ (b = true ↔ RightP c) := by
  refine E_bodyV (F := f26) rfl rfl rfl (P := fun v => ∃ b, v = .bool b ∧ (b = true ↔ RightP c)) ?_
  generalize hs0 : (_ : List T) ++ List.replicate _ T.undef = s0
  have e0 : s0.length = 39 ∧ rho s0 (.tmp 0) = .agg [setsT c] := by subst hs0; exact ⟨rfl, rfl⟩
  clear hs0
  obtain ⟨hl, h0⟩ := e0
  have hleaf : allLeaf [setsT c] = true := rfl
  have hsc : setsT c = .imm false c.sets.length (c.sets.flatMap (fun l => [rowT l])) := rfl
  have hdef : RightP c = (1 ≤ c.sets.length ∧ c.sets.length ≤ 8 ∧ ∀ s, s < c.sets.length → (row c s).length = (row c 0).length ∧ FineP c s (row c s)) := rfl
  refine W_seqn (W_region (fun k => by simp (decide := true) (disch := first | omega | simp (decide := true) only [List.length_set, hl]) only [sims, autos, simprocAttr, hps, h0, hleaf]; rfl) ⟨rfl, ?_⟩)
  by_cases ha : (c.sets.length : Int) < 1
  · have d1 : decide ((c.sets.length : Int) < 1) = true := decide_eq_true ha
    refine W_seq (W_seqn (W_region (fun k => by simp (decide := true) (disch := first | omega | simp (decide := true) only [List.length_set, hl]) only [sims, autos, simprocAttr, hps, hsc, d1]; rfl) ⟨rfl, W_true (by simp (decide := true) (disch := first | omega | simp (decide := true) only [List.length_set, hl]) only [sims, autos, simprocAttr] <;> rfl) ?_⟩))
    refine W_seqn (W_region (fun k => by simp (decide := true) (disch := first | omega | simp (decide := true) only [List.length_set, hl]) only [sims, autos, simprocAttr]; rfl) ⟨rfl, W_ret ?_⟩)
    simp only [reduceCtorEq, false_and, false_or, or_false, exists_false, exists_const, ne_eq, not_false_eq_true, true_and, implies_true]
    refine ⟨rfl, fin_bool (F := f26) (b := false) (P := fun b => b = true ↔ RightP c) rfl (bfalse (fun h => by rw [hdef] at h; omega)) ?_⟩
    simp (decide := true) (disch := first | omega | simp (decide := true) only [List.length_set, hl]) only [sims, autos, simprocAttr]
  have d1 : decide ((c.sets.length : Int) < 1) = false := decide_eq_false ha
  by_cases ha2 : (c.sets.length : Int) > 8
  · have d2 : decide ((c.sets.length : Int) > 8) = true := decide_eq_true ha2
    refine W_seq (W_seqn (W_region (fun k => by simp (decide := true) (disch := first | omega | simp (decide := true) only [List.length_set, hl]) only [sims, autos, simprocAttr, hps, hsc, d1, d2]; rfl) ⟨rfl, W_true (by simp (decide := true) (disch := first | omega | simp (decide := true) only [List.length_set, hl]) only [sims, autos, simprocAttr] <;> rfl) ?_⟩))
    refine W_seqn (W_region (fun k => by simp (decide := true) (disch := first | omega | simp (decide := true) only [List.length_set, hl]) only [sims, autos, simprocAttr]; rfl) ⟨rfl, W_ret ?_⟩)
    simp only [reduceCtorEq, false_and, false_or, or_false, exists_false, exists_const, ne_eq, not_false_eq_true, true_and, implies_true]
    refine ⟨rfl, fin_bool (F := f26) (b := false) (P := fun b => b = true ↔ RightP c) rfl (bfalse (fun h => by rw [hdef] at h; omega)) ?_⟩
    simp (decide := true) (disch := first | omega | simp (decide := true) only [List.length_set, hl]) only [sims, autos, simprocAttr]
  have d2 : decide ((c.sets.length : Int) > 8) = false := decide_eq_false ha2
  refine W_seqn (W_seqn (W_region (fun k => by simp (decide := true) (disch := first | omega | simp (decide := true) only [List.length_set, hl]) only [sims, autos, simprocAttr, hps, hsc, d1, d2]; rfl) ⟨rfl, W_false (by simp (decide := true) (disch := first | omega | simp (decide := true) only [List.length_set, hl]) only [sims, autos, simprocAttr] <;> rfl) (W_skip ⟨rfl, ?_⟩)⟩))
  refine W_seq (W_seqn (W_region (fun k => by simp (decide := true) (disch := first | omega | simp (decide := true) only [List.length_set, hl]) only [sims, autos, simprocAttr, hps, hsc]; rfl) ⟨rfl, W_block ?_⟩))
  refine br_loop c hc hfit _ (fun st h2 hno => ?_) (fun st hst hall => ?_) (c.sets.length - 0) _ ⟨0, ?_, ?_, ?_, ?_, ?_, by omega, rfl, fun j hj => by omega⟩
  · simp only [reduceCtorEq, false_and, false_or, or_false, exists_false, exists_const, ne_eq, not_false_eq_true, true_and, implies_true]
    exact ⟨rfl, fin_bool (F := f26) (b := false) (P := fun b => b = true ↔ RightP c) rfl (bfalse (fun h => hno h.2.2)) h2⟩
  · have hl := hst
    refine .inl ⟨rfl, .inl ⟨rfl, W_seqn (W_region (fun k => by simp (decide := true) (disch := first | omega | simp (decide := true) only [List.length_set, hl]) only [sims, autos, simprocAttr]; rfl) ⟨rfl, W_ret ?_⟩)⟩⟩
    refine ⟨rfl, fin_bool (F := f26) (b := true) (P := fun b => b = true ↔ RightP c) rfl (btrue ⟨by omega, by omega, hall⟩) ?_⟩
    simp (decide := true) (disch := first | omega | simp (decide := true) only [List.length_set, hl]) only [sims, autos, simprocAttr]
  all_goals first | (simp (decide := true) (disch := first | omega | simp (decide := true) only [List.length_set, hl]) only [sims, autos, simprocAttr, hps, hl]; done) | (simp (decide := true) (disch := first | omega | simp (decide := true) only [List.length_set, hl]) only [sims, autos, simprocAttr, hps, hl, hsc]; done) | (simp (decide := true) (disch := first | omega | simp (decide := true) only [List.length_set, hl]) only [sims, autos, simprocAttr, hps, hl]; rfl)
end Go.Proofs.Ytikeeegkndnnfaa.Abs
