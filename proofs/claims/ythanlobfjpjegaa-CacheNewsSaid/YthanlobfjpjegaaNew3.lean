/- An empty cache: the given function, whole. -/
import Derived.Test.YthanlobfjpjegaaNew2
namespace Go.Proofs.Ythanlobfjpjegaa.Abs
open Go Go.RowKit Fn
set_option linter.unusedVariables false
set_option linter.unusedSimpArgs false
set_option linter.unnecessarySimpa false
set_option maxRecDepth 100000
set_option maxHeartbeats 1000000

theorem rowN_newR (n m j : Nat) (h : j < n) : rowN (newR n m) j = newRow m := by
  unfold rowN newR; rw [List.getElem?_replicate, if_pos h]; rfl
theorem ng_out (sets ways : Int) (n m : Nat) (hn : n = clampN sets 8) (hm : m = clampN ways 4) (Q : AExit → St → Prop)
    (hQe : ∀ st : St, (∃ v, st.s.length = 35 ∧ rho st.s (.tmp 4) = .ptr 0 0 ∧ rho st.s (.tmp 5) = .ptr 1 0 ∧ st.g 0 = some [.imm true 0 []] ∧ st.g 1 = some [v] ∧ CopyAt st.g v (newR n m) 2 st.nx n) → Q (.exit 0) st) :
    ∀ (d : Nat) (st : St), (∃ (i : Nat) (v : T), st.s.length = 35 ∧ rho st.s (.tmp 0) = .int .i64 sets ∧ rho st.s (.tmp 1) = .int .i64 ways ∧ rho st.s (.tmp 4) = .ptr 0 0 ∧ rho st.s (.tmp 5) = .ptr 1 0 ∧ rho st.s (.tmp 6) = .int .i64 (i : Int) ∧ st.g 0 = some [.imm true 0 []] ∧ st.g 1 = some [v] ∧ CopyAt st.g v (newR n m) 2 st.nx i ∧ 2 ≤ st.nx ∧ i ≤ n ∧ d = n - i) → W ap (.loop ngOut) st Q := by
  have hnr := clampN_range sets 8 (by omega)
  have hmr := clampN_range ways 4 (by omega)
  have hnv := clamp_val sets 8 (by omega)
  rw [← hn] at hnr hnv
  rw [← hm] at hmr
  rw [show (((8 : Nat) : Int)) = 8 from rfl] at hnv
  refine W_loop _ ?_
  rintro d st ⟨i, v, hl, h0, h1, h4, h5, h6, g0, g1, hC, hnx, hi, hd⟩
  generalize hmx : (if (1 : Int) > sets then (1 : Int) else sets) = y at *
  by_cases hend : i = n
  · have hlt : decide ((i : Int) < (n : Int)) = false := decide_eq_false (by omega)
    refine W_seq (W_seqn (W_region (fun k => by simp (decide := true) (disch := first | omega | (simp (decide := true) only [List.length_set, hl]; done) | fail) only [sims, evRegion, evOps, evOp, evG, evR, guardT, callee, opRes, pureR, binT, unT, T.cells, T.leaf, fillT, splice, Nat.reduceLT, Nat.reduceAdd, Nat.reduceMul, Nat.reduceLeDiff, Nat.reduceEqDiff, reduceIte, Int.reduceBEq, Int.reduceBNe, Int.reduceLT, Int.reduceLE, Int.reduceGT, Int.reduceGE, Int.reduceNeg, reduceCtorEq, h0, h6, minL, maxL, List.foldlM_cons, List.foldlM_nil, hmx, hnv, bind, Option.bind_some, pure, hlt]; rfl) ⟨rfl, W_false (by simp (decide := true) (disch := first | omega | (simp (decide := true) only [List.length_set, hl]; done) | fail) only [sims, evRegion, evOps, evOp, evG, evR, guardT, callee, opRes, pureR, binT, unT, T.cells, T.leaf, fillT, splice, Nat.reduceLT, Nat.reduceAdd, Nat.reduceMul, Nat.reduceLeDiff, Nat.reduceEqDiff, reduceIte, Int.reduceBEq, Int.reduceBNe, Int.reduceLT, Int.reduceLE, Int.reduceGT, Int.reduceGE, Int.reduceNeg, reduceCtorEq] <;> rfl) (W_exit ?_)⟩))
    refine (.inr ⟨by simp, .inr ⟨by simp, hQe _ ⟨v, ?_, ?_, ?_, g0, g1, ?_⟩⟩⟩)
    rotate_right 1
    · rw [hend] at hC
      exact hC.mono (Nat.le_add_right _ _) (fun t _ _ => rfl)
    all_goals simp (decide := true) (disch := first | omega | (simp (decide := true) only [List.length_set, hl]; done) | fail) only [sims, evRegion, evOps, evOp, evG, evR, guardT, callee, opRes, pureR, binT, unT, T.cells, T.leaf, fillT, splice, Nat.reduceLT, Nat.reduceAdd, Nat.reduceMul, Nat.reduceLeDiff, Nat.reduceEqDiff, reduceIte, Int.reduceBEq, Int.reduceBNe, Int.reduceLT, Int.reduceLE, Int.reduceGT, Int.reduceGE, Int.reduceNeg, reduceCtorEq, hl, h4, h5]
  have hlt : decide ((i : Int) < (n : Int)) = true := decide_eq_true (by omega)
  have hin : i < n := by omega
  have hw2 : IntKind.i64.wrap ((i : Int) + 1) = ((i + 1 : Nat) : Int) := by rw [wrap_id (by omega)]; omega
  refine W_seqn (W_seqn (W_region (fun k => by simp (decide := true) (disch := first | omega | (simp (decide := true) only [List.length_set, hl]; done) | fail) only [sims, evRegion, evOps, evOp, evG, evR, guardT, callee, opRes, pureR, binT, unT, T.cells, T.leaf, fillT, splice, Nat.reduceLT, Nat.reduceAdd, Nat.reduceMul, Nat.reduceLeDiff, Nat.reduceEqDiff, reduceIte, Int.reduceBEq, Int.reduceBNe, Int.reduceLT, Int.reduceLE, Int.reduceGT, Int.reduceGE, Int.reduceNeg, reduceCtorEq, h0, h6, minL, maxL, List.foldlM_cons, List.foldlM_nil, hmx, hnv, bind, Option.bind_some, pure, hlt]; rfl) ⟨rfl, W_true (by simp (decide := true) (disch := first | omega | (simp (decide := true) only [List.length_set, hl]; done) | fail) only [sims, evRegion, evOps, evOp, evG, evR, guardT, callee, opRes, pureR, binT, unT, T.cells, T.leaf, fillT, splice, Nat.reduceLT, Nat.reduceAdd, Nat.reduceMul, Nat.reduceLeDiff, Nat.reduceEqDiff, reduceIte, Int.reduceBEq, Int.reduceBNe, Int.reduceLT, Int.reduceLE, Int.reduceGT, Int.reduceGE, Int.reduceNeg, reduceCtorEq] <;> rfl) (W_skip ⟨rfl, ?_⟩)⟩))
  refine W_seqn (W_block ?_)
  refine W_seqn (W_region (fun k => by simp (decide := true) (disch := first | omega | (simp (decide := true) only [List.length_set, hl]; done) | fail) only [sims, evRegion, evOps, evOp, evG, evR, guardT, callee, opRes, pureR, binT, unT, T.cells, T.leaf, fillT, splice, Nat.reduceLT, Nat.reduceAdd, Nat.reduceMul, Nat.reduceLeDiff, Nat.reduceEqDiff, reduceIte, Int.reduceBEq, Int.reduceBNe, Int.reduceLT, Int.reduceLE, Int.reduceGT, Int.reduceGE, Int.reduceNeg, reduceCtorEq]; rfl) ⟨rfl, ?_⟩)
  refine W_seqn (W_seqn (W_region (fun k => by simp (decide := true) (disch := first | omega | (simp (decide := true) only [List.length_set, hl]; done) | fail) only [sims, evRegion, evOps, evOp, evG, evR, guardT, callee, opRes, pureR, binT, unT, T.cells, T.leaf, fillT, splice, Nat.reduceLT, Nat.reduceAdd, Nat.reduceMul, Nat.reduceLeDiff, Nat.reduceEqDiff, reduceIte, Int.reduceBEq, Int.reduceBNe, Int.reduceLT, Int.reduceLE, Int.reduceGT, Int.reduceGE, Int.reduceNeg, reduceCtorEq]; rfl) ⟨rfl, W_block ?_⟩))
  refine ng_in ways m hm (st.nx + 5 + 1 + 1) st.g (.int .i64 sets) (.int .i64 (i : Int)) _ (fun st2 hst a0 a1 a4 a5 a6 hg hnx2 hA => ?_) (m - 0) _ ⟨0, ?_, ?_, ?_, ?_, ?_, ?_, fun t ht => rfl, Nat.le_refl _, .inl ⟨rfl, ?_⟩, ?_, by omega, rfl⟩
  · refine .inl ⟨rfl, rfl, ?_⟩
    clear hl
    have hl := hst
    rcases hA with ⟨h, _⟩ | ⟨_, b, b1, b2, h7, gb⟩
    · omega
    have k0 : st2.g 0 = some [.imm true 0 []] := by rw [hg 0 (by omega)]; exact g0
    have k1 : st2.g 1 = some [v] := by rw [hg 1 (by omega)]; exact g1
    have hrn := rowN_newR n m i hin
    have hrl := newRow_len m
    have next : ∀ (st' : St) (v' : T), (st'.s.length = 35 ∧ rho st'.s (.tmp 0) = .int .i64 sets ∧ rho st'.s (.tmp 1) = .int .i64 ways ∧ rho st'.s (.tmp 4) = .ptr 0 0 ∧ rho st'.s (.tmp 5) = .ptr 1 0 ∧ rho st'.s (.tmp 6) = .int .i64 (i : Int) ∧ st'.g 0 = some [.imm true 0 []] ∧ st'.g 1 = some [v'] ∧ CopyAt st'.g v' (newR n m) 2 st'.nx (i + 1) ∧ 2 ≤ st'.nx) → W ap (.region [⟨some 14, .mv (.tmp 6), none⟩, ⟨some 15, .bin .add (.tmp 14) (.con (.int .i64 1)), none⟩, ⟨some 6, .mv (.tmp 15), none⟩] []) st' (fun e s' => (e = .normal ∧ ∃ d', d' < d ∧ ∃ (i : Nat) (v : T), s'.s.length = 35 ∧ rho s'.s (.tmp 0) = .int .i64 sets ∧ rho s'.s (.tmp 1) = .int .i64 ways ∧ rho s'.s (.tmp 4) = .ptr 0 0 ∧ rho s'.s (.tmp 5) = .ptr 1 0 ∧ rho s'.s (.tmp 6) = .int .i64 (i : Int) ∧ s'.g 0 = some [.imm true 0 []] ∧ s'.g 1 = some [v] ∧ CopyAt s'.g v (newR n m) 2 s'.nx i ∧ 2 ≤ s'.nx ∧ i ≤ n ∧ d' = n - i) ∨ (e ≠ .normal ∧ Q e s')) := by
      rintro ⟨sl, g, nx⟩ v' ⟨hl, h0, h1, h4, h5, h6, g0, g1, hC, hnx⟩
      simp only at hl h0 h1 h4 h5 h6 g0 g1 hC hnx
      refine W_region (fun k => by simp (decide := true) (disch := first | omega | (simp (decide := true) only [List.length_set, hl]; done) | fail) only [sims, evRegion, evOps, evOp, evG, evR, guardT, callee, opRes, pureR, binT, unT, T.cells, T.leaf, fillT, splice, Nat.reduceLT, Nat.reduceAdd, Nat.reduceMul, Nat.reduceLeDiff, Nat.reduceEqDiff, reduceIte, Int.reduceBEq, Int.reduceBNe, Int.reduceLT, Int.reduceLE, Int.reduceGT, Int.reduceGE, Int.reduceNeg, reduceCtorEq, h6, hw2]; rfl) ?_
      refine .inl ⟨rfl, n - (i + 1), by omega, i + 1, v', ?_, ?_, ?_, ?_, ?_, ?_, g0, g1, hC.mono (Nat.le_add_right _ _) (fun t _ _ => rfl), Nat.le_add_right_of_le hnx, by omega, rfl⟩
      all_goals simp (decide := true) (disch := first | omega | (simp (decide := true) only [List.length_set, hl]; done) | fail) only [sims, evRegion, evOps, evOp, evG, evR, guardT, callee, opRes, pureR, binT, unT, T.cells, T.leaf, fillT, splice, Nat.reduceLT, Nat.reduceAdd, Nat.reduceMul, Nat.reduceLeDiff, Nat.reduceEqDiff, reduceIte, Int.reduceBEq, Int.reduceBNe, Int.reduceLT, Int.reduceLE, Int.reduceGT, Int.reduceGE, Int.reduceNeg, reduceCtorEq, hl, h0, h1, h4, h5]
    have hr3 : (0 + 1) * 24 ≤ 549755813888 := by omega
    have hc1 : cut [T.own b 0 m 19] 0 1 = [T.own b 0 m 19] := rfl
    rcases hC with ⟨hn0, hv⟩ | ⟨hn0, A, els, bf, hv, gA, hel, helf, hAh, hrest⟩
    · subst hn0
      subst hv
      have hC0 : CopyAt st.g (.imm true 0 []) (newR n m) 2 (st.nx + 5 + 1 + 1) 0 := .inl ⟨rfl, rfl⟩
      refine W_region (fun k => by simp (decide := true) (disch := first | omega | (simp (decide := true) only [List.length_set, hl]; done) | fail) only [sims, evRegion, evOps, evOp, evG, evR, guardT, callee, opRes, pureR, binT, unT, T.cells, T.leaf, fillT, splice, Nat.reduceLT, Nat.reduceAdd, Nat.reduceMul, Nat.reduceLeDiff, Nat.reduceEqDiff, reduceIte, Int.reduceBEq, Int.reduceBNe, Int.reduceLT, Int.reduceLE, Int.reduceGT, Int.reduceGE, Int.reduceNeg, reduceCtorEq, hps, cellsOf, a5, h7, k1, hc1, hr3, List.all]; rfl) (.inr (.inl ⟨by simp, rfl, ?_⟩))
      refine next _ (.own (st2.nx + 4) 0 (0 + 1) 1) ⟨?_, ?_, ?_, ?_, ?_, ?_, ?_, ?_, CopyAt.snoc (b := b) (els := []) (A := st2.nx + 4) hC0 (.inl ⟨rfl, rfl⟩) (by omega) b1 (by omega) (by show st2.nx + 4 < st2.nx + 7; omega) (fun t ht1 ht2 hne => ?_) ?_ ?_, Nat.le_add_right_of_le (by omega)⟩
      rotate_left 8
      · rw [← hg t ht2]
        simp (decide := true) (disch := first | omega | (simp (decide := true) only [List.length_set, hl]; done) | fail) only [sims, evRegion, evOps, evOp, evG, evR, guardT, callee, opRes, pureR, binT, unT, T.cells, T.leaf, fillT, splice, Nat.reduceLT, Nat.reduceAdd, Nat.reduceMul, Nat.reduceLeDiff, Nat.reduceEqDiff, reduceIte, Int.reduceBEq, Int.reduceBNe, Int.reduceLT, Int.reduceLE, Int.reduceGT, Int.reduceGE, Int.reduceNeg, reduceCtorEq, hps]
      · rw [hrn]
        simp (decide := true) (disch := first | omega | (simp (decide := true) only [List.length_set, hl]; done) | fail) only [sims, evRegion, evOps, evOp, evG, evR, guardT, callee, opRes, pureR, binT, unT, T.cells, T.leaf, fillT, splice, Nat.reduceLT, Nat.reduceAdd, Nat.reduceMul, Nat.reduceLeDiff, Nat.reduceEqDiff, reduceIte, Int.reduceBEq, Int.reduceBNe, Int.reduceLT, Int.reduceLE, Int.reduceGT, Int.reduceGE, Int.reduceNeg, reduceCtorEq, hps, gb]
      · rw [hrn, hrl]
        simp (decide := true) (disch := first | omega | (simp (decide := true) only [List.length_set, hl]; done) | fail) only [sims, evRegion, evOps, evOp, evG, evR, guardT, callee, opRes, pureR, binT, unT, T.cells, T.leaf, fillT, splice, Nat.reduceLT, Nat.reduceAdd, Nat.reduceMul, Nat.reduceLeDiff, Nat.reduceEqDiff, reduceIte, Int.reduceBEq, Int.reduceBNe, Int.reduceLT, Int.reduceLE, Int.reduceGT, Int.reduceGE, Int.reduceNeg, reduceCtorEq, hps] <;> rfl
      all_goals first | (simp (decide := true) (disch := first | omega | (simp (decide := true) only [List.length_set, hl]; done) | fail) only [sims, evRegion, evOps, evOp, evG, evR, guardT, callee, opRes, pureR, binT, unT, T.cells, T.leaf, fillT, splice, Nat.reduceLT, Nat.reduceAdd, Nat.reduceMul, Nat.reduceLeDiff, Nat.reduceEqDiff, reduceIte, Int.reduceBEq, Int.reduceBNe, Int.reduceLT, Int.reduceLE, Int.reduceGT, Int.reduceGE, Int.reduceNeg, reduceCtorEq, hps, hl, a0, a1, a4, a5, a6, k0]; done) | (simp (decide := true) (disch := first | omega | (simp (decide := true) only [List.length_set, hl]; done) | fail) only [sims, evRegion, evOps, evOp, evG, evR, guardT, callee, opRes, pureR, binT, unT, T.cells, T.leaf, fillT, splice, Nat.reduceLT, Nat.reduceAdd, Nat.reduceMul, Nat.reduceLeDiff, Nat.reduceEqDiff, reduceIte, Int.reduceBEq, Int.reduceBNe, Int.reduceLT, Int.reduceLE, Int.reduceGT, Int.reduceGE, Int.reduceNeg, reduceCtorEq, hps, hl, a0, a1, a4, a5, a6, k0]; rfl)
    · subst hv
      have hAlo : 2 < A := by obtain ⟨_, _, a, b, _⟩ := hrest 0 hn0; omega
      have hC0 : CopyAt st.g (.own A 0 i 1) (newR n m) 2 (st.nx + 5 + 1 + 1) i := (CopyAt.mono (.inr ⟨hn0, A, els, bf, rfl, gA, hel, helf, hAh, hrest⟩) (by omega) (fun t _ _ => rfl))
      have kA : st2.g A = some els := by rw [hg A (by omega)]; exact gA
      have hcA : cut els 0 (i * 1) = els := cut_all (by omega)
      have hr4 : (i + 1) * 24 ≤ 549755813888 := by omega
      have hr5 : i + 1 ≤ 549755813888 := by omega
      have hle1 : i * 1 ≤ i := by omega
      refine W_region (fun k => by simp (decide := true) (disch := first | omega | (simp (decide := true) only [List.length_set, hl]; done) | fail) only [sims, evRegion, evOps, evOp, evG, evR, guardT, callee, opRes, pureR, binT, unT, T.cells, T.leaf, fillT, splice, Nat.reduceLT, Nat.reduceAdd, Nat.reduceMul, Nat.reduceLeDiff, Nat.reduceEqDiff, reduceIte, Int.reduceBEq, Int.reduceBNe, Int.reduceLT, Int.reduceLE, Int.reduceGT, Int.reduceGE, Int.reduceNeg, reduceCtorEq, hps, cellsOf, a5, h7, k1, kA, hel, hcA, hle1, hc1, hr4, hr5, List.all]; rfl) (.inr (.inl ⟨by simp, rfl, ?_⟩))
      refine next _ (.own (st2.nx + 4) 0 (i + 1) 1) ⟨?_, ?_, ?_, ?_, ?_, ?_, ?_, ?_, CopyAt.snoc (b := b) (els := els) (A := st2.nx + 4) hC0 (.inr ⟨A, rfl, gA⟩) (by omega) b1 (by omega) (by show st2.nx + 4 < st2.nx + 7; omega) (fun t ht1 ht2 hne => ?_) ?_ ?_, Nat.le_add_right_of_le (by omega)⟩
      rotate_left 8
      · have hnA : A ≠ t := fun e => hne i (by rw [e])
        rw [← hg t ht2]
        simp (decide := true) (disch := first | omega | (simp (decide := true) only [List.length_set, hl]; done) | fail) only [sims, evRegion, evOps, evOp, evG, evR, guardT, callee, opRes, pureR, binT, unT, T.cells, T.leaf, fillT, splice, Nat.reduceLT, Nat.reduceAdd, Nat.reduceMul, Nat.reduceLeDiff, Nat.reduceEqDiff, reduceIte, Int.reduceBEq, Int.reduceBNe, Int.reduceLT, Int.reduceLE, Int.reduceGT, Int.reduceGE, Int.reduceNeg, reduceCtorEq, hps]
      · rw [hrn]
        simp (decide := true) (disch := first | omega | (simp (decide := true) only [List.length_set, hl]; done) | fail) only [sims, evRegion, evOps, evOp, evG, evR, guardT, callee, opRes, pureR, binT, unT, T.cells, T.leaf, fillT, splice, Nat.reduceLT, Nat.reduceAdd, Nat.reduceMul, Nat.reduceLeDiff, Nat.reduceEqDiff, reduceIte, Int.reduceBEq, Int.reduceBNe, Int.reduceLT, Int.reduceLE, Int.reduceGT, Int.reduceGE, Int.reduceNeg, reduceCtorEq, hps, gb]
      · rw [hrn, hrl]
        simp (decide := true) (disch := first | omega | (simp (decide := true) only [List.length_set, hl]; done) | fail) only [sims, evRegion, evOps, evOp, evG, evR, guardT, callee, opRes, pureR, binT, unT, T.cells, T.leaf, fillT, splice, Nat.reduceLT, Nat.reduceAdd, Nat.reduceMul, Nat.reduceLeDiff, Nat.reduceEqDiff, reduceIte, Int.reduceBEq, Int.reduceBNe, Int.reduceLT, Int.reduceLE, Int.reduceGT, Int.reduceGE, Int.reduceNeg, reduceCtorEq, hps] <;> rfl
      all_goals first | (simp (decide := true) (disch := first | omega | (simp (decide := true) only [List.length_set, hl]; done) | fail) only [sims, evRegion, evOps, evOp, evG, evR, guardT, callee, opRes, pureR, binT, unT, T.cells, T.leaf, fillT, splice, Nat.reduceLT, Nat.reduceAdd, Nat.reduceMul, Nat.reduceLeDiff, Nat.reduceEqDiff, reduceIte, Int.reduceBEq, Int.reduceBNe, Int.reduceLT, Int.reduceLE, Int.reduceGT, Int.reduceGE, Int.reduceNeg, reduceCtorEq, hps, hl, a0, a1, a4, a5, a6, k0]; done) | (simp (decide := true) (disch := first | omega | (simp (decide := true) only [List.length_set, hl]; done) | fail) only [sims, evRegion, evOps, evOp, evG, evR, guardT, callee, opRes, pureR, binT, unT, T.cells, T.leaf, fillT, splice, Nat.reduceLT, Nat.reduceAdd, Nat.reduceMul, Nat.reduceLeDiff, Nat.reduceEqDiff, reduceIte, Int.reduceBEq, Int.reduceBNe, Int.reduceLT, Int.reduceLE, Int.reduceGT, Int.reduceGE, Int.reduceNeg, reduceCtorEq, hps, hl, a0, a1, a4, a5, a6, k0]; rfl)
  all_goals first | (simp (decide := true) (disch := first | omega | (simp (decide := true) only [List.length_set, hl]; done) | fail) only [sims, evRegion, evOps, evOp, evG, evR, guardT, callee, opRes, pureR, binT, unT, T.cells, T.leaf, fillT, splice, Nat.reduceLT, Nat.reduceAdd, Nat.reduceMul, Nat.reduceLeDiff, Nat.reduceEqDiff, reduceIte, Int.reduceBEq, Int.reduceBNe, Int.reduceLT, Int.reduceLE, Int.reduceGT, Int.reduceGE, Int.reduceNeg, reduceCtorEq, hl, h0, h1, h4, h5, h6]; done) | (simp (decide := true) (disch := first | omega | (simp (decide := true) only [List.length_set, hl]; done) | fail) only [sims, evRegion, evOps, evOp, evG, evR, guardT, callee, opRes, pureR, binT, unT, T.cells, T.leaf, fillT, splice, Nat.reduceLT, Nat.reduceAdd, Nat.reduceMul, Nat.reduceLeDiff, Nat.reduceEqDiff, reduceIte, Int.reduceBEq, Int.reduceBNe, Int.reduceLT, Int.reduceLE, Int.reduceGT, Int.reduceGE, Int.reduceNeg, reduceCtorEq, hl, h0, h1, h4, h5, h6]; rfl)
theorem ref_new (sets ways : Int) : ∃ v, E ap 12 [.int .i64 sets, .int .i64 ways] v ∧ CacheOf (newC sets ways).sets v := by
  refine E_bodyV (F := f12) rfl rfl rfl (P := CacheOf (newC sets ways).sets) ?_
  generalize hs0 : (_ : List T) ++ List.replicate _ T.undef = s0
  have e0 : s0.length = 35 ∧ rho s0 (.tmp 0) = .int .i64 sets ∧ rho s0 (.tmp 1) = .int .i64 ways := by subst hs0; exact ⟨rfl, rfl, rfl⟩
  clear hs0
  obtain ⟨hl, h0, h1⟩ := e0
  have hmr := clampN_range ways 4 (by omega)
  refine W_seqn (W_region (fun k => by simp (decide := true) (disch := first | omega | (simp (decide := true) only [List.length_set, hl]; done) | fail) only [sims, evRegion, evOps, evOp, evG, evR, guardT, callee, opRes, pureR, binT, unT, T.cells, T.leaf, fillT, splice, Nat.reduceLT, Nat.reduceAdd, Nat.reduceMul, Nat.reduceLeDiff, Nat.reduceEqDiff, reduceIte, Int.reduceBEq, Int.reduceBNe, Int.reduceLT, Int.reduceLE, Int.reduceGT, Int.reduceGE, Int.reduceNeg, reduceCtorEq, hps]; rfl) ⟨rfl, ?_⟩)
  refine W_seqn (W_region (fun k => by simp (decide := true) (disch := first | omega | (simp (decide := true) only [List.length_set, hl]; done) | fail) only [sims, evRegion, evOps, evOp, evG, evR, guardT, callee, opRes, pureR, binT, unT, T.cells, T.leaf, fillT, splice, Nat.reduceLT, Nat.reduceAdd, Nat.reduceMul, Nat.reduceLeDiff, Nat.reduceEqDiff, reduceIte, Int.reduceBEq, Int.reduceBNe, Int.reduceLT, Int.reduceLE, Int.reduceGT, Int.reduceGE, Int.reduceNeg, reduceCtorEq, hps]; rfl) ⟨rfl, ?_⟩)
  refine W_seq (W_seqn (W_region (fun k => by simp (decide := true) (disch := first | omega | (simp (decide := true) only [List.length_set, hl]; done) | fail) only [sims, evRegion, evOps, evOp, evG, evR, guardT, callee, opRes, pureR, binT, unT, T.cells, T.leaf, fillT, splice, Nat.reduceLT, Nat.reduceAdd, Nat.reduceMul, Nat.reduceLeDiff, Nat.reduceEqDiff, reduceIte, Int.reduceBEq, Int.reduceBNe, Int.reduceLT, Int.reduceLE, Int.reduceGT, Int.reduceGE, Int.reduceNeg, reduceCtorEq, hps]; rfl) ⟨rfl, W_block ?_⟩))
  refine ng_out sets ways (clampN sets 8) (clampN ways 4) rfl rfl _ (fun st hex => ?_) (clampN sets 8 - 0) _ ⟨0, .imm true 0 [], ?_, ?_, ?_, ?_, ?_, ?_, ?_, ?_, .inl ⟨rfl, rfl⟩, ?_, by omega, rfl⟩
  · obtain ⟨v, hst, h4, h5, g0, g1, hC⟩ := hex
    have hl := hst
    have hvl := copy_leaf hC
    have hc1 : cut [v] 0 1 = [v] := rfl
    refine .inl ⟨rfl, .inl ⟨rfl, ?_⟩⟩
    refine W_seqn (W_region (fun k => by simp (decide := true) (disch := first | omega | (simp (decide := true) only [List.length_set, hl]; done) | fail) only [sims, evRegion, evOps, evOp, evG, evR, guardT, callee, opRes, pureR, binT, unT, T.cells, T.leaf, fillT, splice, Nat.reduceLT, Nat.reduceAdd, Nat.reduceMul, Nat.reduceLeDiff, Nat.reduceEqDiff, reduceIte, Int.reduceBEq, Int.reduceBNe, Int.reduceLT, Int.reduceLE, Int.reduceGT, Int.reduceGE, Int.reduceNeg, reduceCtorEq, hps, h4, h5, g0, g1, hc1, hvl]; rfl) ⟨rfl, W_ret ?_⟩)
    have hC2 : CopyAt (put1 st.g (0, some [v])) v (newR (clampN sets 8) (clampN ways 4)) 2 st.nx (newR (clampN sets 8) (clampN ways 4)).length := by
      rw [newR_len]
      exact hC.mono (Nat.le_refl _) (fun t ht1 ht2 => put1_ne (by omega))
    obtain ⟨f, ys, ids, e1, e2⟩ := frz_copy (nx := st.nx + 2) (d := 8) (newR_wf _ _ (by omega)) hC2
    refine ⟨rfl, _, ⟨f, ys, rfl, e2⟩, (fin_cellV (F := f12) (t := 4) (p := 0) rfl e1 ?_ ?_).2⟩
    · simp (decide := true) (disch := first | omega | (simp (decide := true) only [List.length_set, hl]; done) | fail) only [sims, evRegion, evOps, evOp, evG, evR, guardT, callee, opRes, pureR, binT, unT, T.cells, T.leaf, fillT, splice, Nat.reduceLT, Nat.reduceAdd, Nat.reduceMul, Nat.reduceLeDiff, Nat.reduceEqDiff, reduceIte, Int.reduceBEq, Int.reduceBNe, Int.reduceLT, Int.reduceLE, Int.reduceGT, Int.reduceGE, Int.reduceNeg, reduceCtorEq, h4]
    · simp (decide := true) (disch := first | omega | (simp (decide := true) only [List.length_set, hl]; done) | fail) only [sims, evRegion, evOps, evOp, evG, evR, guardT, callee, opRes, pureR, binT, unT, T.cells, T.leaf, fillT, splice, Nat.reduceLT, Nat.reduceAdd, Nat.reduceMul, Nat.reduceLeDiff, Nat.reduceEqDiff, reduceIte, Int.reduceBEq, Int.reduceBNe, Int.reduceLT, Int.reduceLE, Int.reduceGT, Int.reduceGE, Int.reduceNeg, reduceCtorEq, hps]
  rotate_right 1
  · show 2 ≤ 0 + 1 + 1 + 1; omega
  all_goals first | (simp (decide := true) (disch := first | omega | (simp (decide := true) only [List.length_set, hl]; done) | fail) only [sims, evRegion, evOps, evOp, evG, evR, guardT, callee, opRes, pureR, binT, unT, T.cells, T.leaf, fillT, splice, Nat.reduceLT, Nat.reduceAdd, Nat.reduceMul, Nat.reduceLeDiff, Nat.reduceEqDiff, reduceIte, Int.reduceBEq, Int.reduceBNe, Int.reduceLT, Int.reduceLE, Int.reduceGT, Int.reduceGE, Int.reduceNeg, reduceCtorEq, hps, hl, h0, h1]; done) | (simp (decide := true) (disch := first | omega | (simp (decide := true) only [List.length_set, hl]; done) | fail) only [sims, evRegion, evOps, evOp, evG, evR, guardT, callee, opRes, pureR, binT, unT, T.cells, T.leaf, fillT, splice, Nat.reduceLT, Nat.reduceAdd, Nat.reduceMul, Nat.reduceLeDiff, Nat.reduceEqDiff, reduceIte, Int.reduceBEq, Int.reduceBNe, Int.reduceLT, Int.reduceLE, Int.reduceGT, Int.reduceGE, Int.reduceNeg, reduceCtorEq, hps, hl, h0, h1]; rfl)
end Go.Proofs.Ythanlobfjpjegaa.Abs
