/- Is a system small? The given function's walk, with what follows from its answer. -/
import Derived.Test.YtikeeegkndnnfaaRdo2
namespace Go.Proofs.Ytikeeegkndnnfaa.Abs
open Go Go.RowKit Fn
set_option linter.unusedVariables false
set_option linter.unusedSimpArgs false
set_option linter.unnecessarySimpa false
set_option maxRecDepth 100000

def smOut : ACode := match f10.body with | .seq _ (.seq _ (.seq (.seq _ (.block _ (.loop c))) _)) => c | _ => .skip
def smIn : ACode := match smOut with | .seq _ (.seq (.block _ (.seq _ (.seq _ (.block _ (.loop c))))) _) => c | _ => .skip
/-- As small as it is looked at here. -/
def SmallIn (m : Coh) (k n : Nat) : Prop := ∀ s, s < n → (row (cacheAt m k) s).length ≤ 4
def SmallTo (m : Coh) (n : Nat) : Prop := ∀ k, k < n → (cacheAt m k).sets.length ≤ 8 ∧ SmallIn m k (cacheAt m k).sets.length
theorem small_in2 (m : Coh) (hm : m.wf) (k : Nat) (hk : k < m.caches.length) (Q : AExit → St → Prop)
    (hQr : ∀ st : St, rho st.s (.tmp 2) = .bool false → Q .ret st) (hQe : ∀ st : St, st.s.length = 52 → rho st.s (.tmp 1) = .ptr 0 0 → st.g 0 = some [memT m, cachT m] → rho st.s (.tmp 3) = .int .i64 (k : Int) → SmallIn m k (cacheAt m k).sets.length → Q (.exit 2) st) :
    ∀ (n : Nat) (st : St), (∃ s : Nat, st.s.length = 52 ∧ rho st.s (.tmp 1) = .ptr 0 0 ∧ st.g 0 = some [memT m, cachT m] ∧ rho st.s (.tmp 3) = .int .i64 (k : Int) ∧ rho st.s (.tmp 4) = .int .i64 (s : Int) ∧ SmallIn m k s ∧ s ≤ (cacheAt m k).sets.length ∧ n = (cacheAt m k).sets.length - s) → W ap (.loop smIn) st Q := by
  refine W_loop _ ?_
  rintro n st ⟨s, hl, h1, hg, h3, h4, hsm, hs, hn⟩
  have hmx := max_small
  have hcw := cacheAt_wf hm k hk
  have hcm := hcw.1
  have hcl := caches_len m
  have hb : k * 1 + 1 ≤ m.caches.length := by omega
  have hcg := caches_get m k hk
  have hcc : cachT m = .imm false m.caches.length (m.caches.flatMap Cache.enc) := rfl
  have hsc : setsT (cacheAt m k) = .imm false (cacheAt m k).sets.length ((cacheAt m k).sets.flatMap (fun l => [rowT l])) := rfl
  rw [hsc] at hcg
  have hrl := rows_len (cacheAt m k)
  have hrow := rows_get (cacheAt m k) s
  generalize (cacheAt m k).sets.flatMap (fun l => [rowT l]) = rows at *
  generalize m.caches.flatMap Cache.enc = ccs at *
  by_cases hend : s = (cacheAt m k).sets.length
  · have hlt : decide ((s : Int) < ((cacheAt m k).sets.length : Int)) = false := decide_eq_false (by omega)
    refine W_seq (W_seqn (W_region (fun k => by simp (decide := true) only [sims, autos, simprocAttr, hl, h1, hg, h3, h4, hcc, hk, hb, hcl, hcg, hlt]; rfl) ⟨rfl, W_fls (W_exit (.inr ⟨by simp, .inr ⟨by simp, hQe _ ?_ ?_ ?_ ?_ (by rw [← hend]; exact hsm)⟩⟩))⟩)) <;> simp (decide := true) only [sims, autos, simprocAttr, hl, h1, hg, h3, hcc]
  · have hlt : decide ((s : Int) < ((cacheAt m k).sets.length : Int)) = true := decide_eq_true (by omega)
    have hsl : s < (cacheAt m k).sets.length := by omega
    have hrow := hrow hsl
    have hb1 : s * 1 + 1 ≤ (cacheAt m k).sets.length := by omega
    have hw2 : IntKind.i64.wrap ((s : Int) + 1) = ((s + 1 : Nat) : Int) := by rw [wrap_id (by omega)]; omega
    have hrt : rowT (row (cacheAt m k) s) = .imm false (row (cacheAt m k) s).length ((row (cacheAt m k) s).flatMap Way.enc) := rfl
    rw [hrt] at hrow
    generalize (row (cacheAt m k) s).flatMap Way.enc = ws at *
    generalize hwl : (row (cacheAt m k) s).length = wl at *
    refine W_seqn (W_seqn (W_region (fun k => by simp (decide := true) only [sims, autos, simprocAttr, hl, h1, hg, h3, h4, hcc, hk, hb, hcl, hcg, hlt]; rfl) ⟨rfl, W_tru (W_skip ⟨rfl, ?_⟩)⟩))
    cases hbig : decide ((wl : Int) > 4) with
    | true =>
      refine W_seq (W_block ?_)
      refine W_seqn (W_region (fun k => by simp (decide := true) only [sims, autos, simprocAttr, hl, h1, hg, h3, h4, hcc, hk, hb, hcl, hcg, hsl, hb1, hrl, hrow, hbig]; rfl) ⟨rfl, W_tru ?_⟩)
      refine W_seqn (W_region (fun k => by simp (decide := true) only [sims, autos, simprocAttr]; rfl) ⟨rfl, W_ret ?_⟩)
      simp only [reduceCtorEq, false_and, false_or, or_false, exists_false, exists_const, ne_eq, not_false_eq_true, true_and, implies_true]
      refine hQr _ ?_
      simp (decide := true) only [sims, autos, simprocAttr, hl]
    | false =>
      refine W_seqn (W_block ?_)
      refine W_seqn (W_region (fun k => by simp (decide := true) only [sims, autos, simprocAttr, hl, h1, hg, h3, h4, hcc, hk, hb, hcl, hcg, hsl, hb1, hrl, hrow, hbig]; rfl) ⟨rfl, W_fls (W_skip (.inr (.inl ⟨by simp, rfl, ?_⟩)))⟩)
      refine W_region (fun k => by simp (decide := true) only [sims, autos, simprocAttr, hl, h4, hw2]; rfl) (.inl ⟨rfl, (cacheAt m k).sets.length - (s + 1), by omega, s + 1, ?_, ?_, ?_, ?_, ?_, fun s' hs' => by (rcases Nat.lt_succ_iff_lt_or_eq.mp hs' with h | rfl; exact hsm s' h; rw [hwl]; have := of_decide_eq_false hbig; omega), by omega, rfl⟩) <;> simp (decide := true) only [sims, autos, simprocAttr, hl, h1, hg, h3, hcc]
theorem small_out2 (m : Coh) (hm : m.wf) (Q : AExit → St → Prop)
    (hQr : ∀ st : St, rho st.s (.tmp 2) = .bool false → Q .ret st) (hQe : ∀ st : St, st.s.length = 52 → SmallTo m m.caches.length → Q (.exit 0) st) :
    ∀ (n : Nat) (st : St), (∃ k : Nat, st.s.length = 52 ∧ rho st.s (.tmp 1) = .ptr 0 0 ∧ st.g 0 = some [memT m, cachT m] ∧ rho st.s (.tmp 3) = .int .i64 (k : Int) ∧ SmallTo m k ∧ k ≤ m.caches.length ∧ n = m.caches.length - k) → W ap (.loop smOut) st Q := by
  refine W_loop _ ?_
  rintro n st ⟨k, hl, h1, hg, h3, hsm, hk, hn⟩
  have hmx := max_small
  have hml := hm.2.1
  have hcc : cachT m = .imm false m.caches.length (m.caches.flatMap Cache.enc) := rfl
  by_cases hend : k = m.caches.length
  · have hlt : decide ((k : Int) < (m.caches.length : Int)) = false := decide_eq_false (by omega)
    refine W_seq (W_seqn (W_region (fun k => by simp (decide := true) only [sims, autos, simprocAttr, hl, h1, hg, h3, hcc, hlt]; rfl) ⟨rfl, W_fls (W_exit (.inr ⟨by simp, .inr ⟨by simp, hQe _ ?_ (by rw [← hend]; exact hsm)⟩⟩))⟩))
    simp (decide := true) only [sims, autos, simprocAttr, hl]
  · have hlt : decide ((k : Int) < (m.caches.length : Int)) = true := decide_eq_true (by omega)
    have hkl : k < m.caches.length := by omega
    have hw2 : IntKind.i64.wrap ((k : Int) + 1) = ((k + 1 : Nat) : Int) := by rw [wrap_id (by omega)]; omega
    have hcl := caches_len m
    have hb : k * 1 + 1 ≤ m.caches.length := by omega
    have hcg := caches_get m k hkl
    have hsc : setsT (cacheAt m k) = .imm false (cacheAt m k).sets.length ((cacheAt m k).sets.flatMap (fun l => [rowT l])) := rfl
    rw [hsc] at hcg
    refine W_seqn (W_seqn (W_region (fun k => by simp (decide := true) only [sims, autos, simprocAttr, hl, h1, hg, h3, hcc, hlt]; rfl) ⟨rfl, W_tru (W_skip ⟨rfl, ?_⟩)⟩))
    cases hbig : decide (((cacheAt m k).sets.length : Int) > 8) with
    | true =>
      refine W_seq (W_block ?_)
      refine W_seq (W_seqn (W_region (fun k => by simp (decide := true) only [sims, autos, simprocAttr, hl, h1, hg, h3, hcc, hkl, hb, hcl, hcg, hbig]; rfl) ⟨rfl, W_tru ?_⟩))
      refine W_seqn (W_region (fun k => by simp (decide := true) only [sims, autos, simprocAttr]; rfl) ⟨rfl, W_ret ?_⟩)
      simp only [reduceCtorEq, false_and, false_or, or_false, exists_false, exists_const, ne_eq, not_false_eq_true, true_and, implies_true]
      refine hQr _ ?_
      simp (decide := true) only [sims, autos, simprocAttr, hl]
    | false =>
      refine W_seq (W_block ?_)
      refine W_seqn (W_seqn (W_region (fun k => by simp (decide := true) only [sims, autos, simprocAttr, hl, h1, hg, h3, hcc, hkl, hb, hcl, hcg, hbig]; rfl) ⟨rfl, W_fls (W_skip ⟨rfl, ?_⟩)⟩))
      refine W_seqn (W_region (fun k => by simp (decide := true) only [sims, autos, simprocAttr]; rfl) ⟨rfl, W_block ?_⟩)
      refine small_in2 m hm k hkl _ (fun st h2 => ?_) (fun st hl h1 hg h3 hin => ?_) (cacheAt m k).sets.length _ ⟨0, ?_, ?_, ?_, ?_, ?_, fun s hs => absurd hs (by omega), by omega, rfl⟩
      · simp only [reduceCtorEq, false_and, false_or, or_false, exists_false, exists_const, ne_eq, not_false_eq_true, true_and, implies_true]
        exact hQr _ h2
      · refine .inl ⟨rfl, .inr (.inl ⟨by simp, .inl ⟨rfl, ?_⟩⟩)⟩
        refine W_region (fun k => by simp (decide := true) only [sims, autos, simprocAttr, hl, h3, hw2]; rfl) (.inl ⟨rfl, m.caches.length - (k + 1), by omega, k + 1, ?_, ?_, ?_, ?_, fun k' hk' => by (rcases Nat.lt_succ_iff_lt_or_eq.mp hk' with h | rfl; exact hsm k' h; exact ⟨by have := of_decide_eq_false hbig; omega, hin⟩), by omega, rfl⟩) <;> simp (decide := true) only [sims, autos, simprocAttr, hl, h1, hg]
      all_goals simp (decide := true) only [sims, autos, simprocAttr, hl, h1, hg, h3, hcc]
      try rfl
theorem ref_small2 (m : Coh) (hm : m.wf) : ∃ b, E ap 10 [.agg [memT m, cachT m]] (.bool b) ∧ (b = true → m.mem.length ≤ 1024 ∧ m.caches.length ≤ 4 ∧ SmallTo m m.caches.length) := by
  have hcc : cachT m = .imm false m.caches.length (m.caches.flatMap Cache.enc) := rfl
  have hmt : memT m = .imm false m.mem.length (m.mem.flatMap u8T) := rfl
  have hleaf : allLeaf [memT m, cachT m] = true := rfl
  obtain ⟨v, hE, b, rfl, hb⟩ := E_bodyV (F := f10) (f := 10) (AP := ap) rfl rfl rfl (args := [.agg [memT m, cachT m]]) (P := fun v => ∃ b, v = .bool b ∧ (b = true → m.mem.length ≤ 1024 ∧ m.caches.length ≤ 4 ∧ SmallTo m m.caches.length)) (by
    generalize hs0 : (_ : List T) ++ List.replicate _ T.undef = s0
    have e0 : s0.length = 52 ∧ rho s0 (.tmp 0) = .agg [memT m, cachT m] := by subst hs0; exact ⟨rfl, rfl⟩
    clear hs0
    obtain ⟨hl, h0⟩ := e0
    have fin : ∀ (b : Bool) (st : St) (e : AExit), e.leaves = true → rho st.s (.tmp 2) = .bool b → (b = true → m.mem.length ≤ 1024 ∧ m.caches.length ≤ 4 ∧ SmallTo m m.caches.length) → e.leaves = true ∧ ∃ v, (∃ b, v = T.bool b ∧ (b = true → m.mem.length ≤ 1024 ∧ m.caches.length ≤ 4 ∧ SmallTo m m.caches.length)) ∧ ∃ u ids, resT st.s st.g f10.res = some u ∧ frz ⟨st.g, st.nx⟩ frzDepth u = some (v, ids) := fun b st e he h hb => ⟨he, .bool b, ⟨b, rfl, hb⟩, .bool b, [], res_one (F := f10) rfl h, rfl⟩
    refine W_seqn (W_region (fun k => by simp (decide := true) only [sims, autos, simprocAttr, hl, h0, hleaf]; rfl) ⟨rfl, ?_⟩)
    cases hb1 : decide ((m.mem.length : Int) > 1024) with
    | true =>
      refine W_seq (W_seqn (W_region (fun k => by simp (decide := true) only [sims, autos, simprocAttr, hl, hmt, hb1]; rfl) ⟨rfl, W_tru ?_⟩))
      refine W_seqn (W_region (fun k => by simp (decide := true) only [sims, autos, simprocAttr]; rfl) ⟨rfl, W_ret (.inr ⟨by simp, fin false _ _ rfl ?_ (fun h => by cases h)⟩)⟩)
      simp (decide := true) only [sims, autos, simprocAttr, hl]
    | false =>
      cases hb2 : decide ((m.caches.length : Int) > 4) with
      | true =>
        refine W_seq (W_seqn (W_region (fun k => by simp (decide := true) only [sims, autos, simprocAttr, hl, hmt, hb1, hcc, hb2]; rfl) ⟨rfl, W_tru ?_⟩))
        refine W_seqn (W_region (fun k => by simp (decide := true) only [sims, autos, simprocAttr]; rfl) ⟨rfl, W_ret (.inr ⟨by simp, fin false _ _ rfl ?_ (fun h => by cases h)⟩)⟩)
        simp (decide := true) only [sims, autos, simprocAttr, hl]
      | false =>
        refine W_seqn (W_seqn (W_region (fun k => by simp (decide := true) only [sims, autos, simprocAttr, hl, hmt, hb1, hcc, hb2]; rfl) ⟨rfl, W_fls (W_skip ⟨rfl, ?_⟩)⟩))
        refine W_seq (W_seqn (W_region (fun k => by simp (decide := true) only [sims, autos, simprocAttr]; rfl) ⟨rfl, W_block ?_⟩))
        refine small_out2 m hm _ (fun st h2 => ?_) (fun st hst hto => ?_) m.caches.length _ ⟨0, ?_, ?_, ?_, ?_, fun k hk => absurd hk (by omega), by omega, rfl⟩
        · simp only [reduceCtorEq, false_and, false_or, or_false, exists_false, exists_const, ne_eq, not_false_eq_true, true_and, implies_true]
          exact fin false _ _ rfl h2 (fun h => by cases h)
        · refine .inl ⟨rfl, .inl ⟨rfl, W_seqn (W_region (fun k => by simp (decide := true) only [sims, autos, simprocAttr]; rfl) ⟨rfl, W_ret (fin true _ _ rfl ?_ (fun _ => ⟨by have := of_decide_eq_false hb1; omega, by have := of_decide_eq_false hb2; omega, hto⟩))⟩)⟩⟩
          simp (decide := true) only [sims, autos, simprocAttr, hst]
        all_goals simp (decide := true) only [sims, autos, simprocAttr, hl, hmt, hcc]
        try rfl)
  exact ⟨b, hE, hb⟩
theorem ok_small {m : Coh} (hm : m.wf) (h : m.mem.length ≤ 1024 ∧ m.caches.length ≤ 4 ∧ SmallTo m m.caches.length) : Ok m := by
  refine ⟨hm, h.1, h.2.1, fun k hk => ?_⟩
  obtain ⟨h1, h2⟩ := h.2.2 k hk
  exact fit_cache (cacheAt_wf hm k hk) ⟨by omega, fun j hj => by have := h2 j hj; omega⟩
end Go.Proofs.Ytikeeegkndnnfaa.Abs
