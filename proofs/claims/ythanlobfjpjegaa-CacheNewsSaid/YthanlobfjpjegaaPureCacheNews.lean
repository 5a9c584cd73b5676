/- New caches, and whether a cache may be: the law's walk. -/
import Derived.Test.YthanlobfjpjegaaNew3
namespace Go.Proofs.Ythanlobfjpjegaa.Abs
open Go Go.RowKit Fn
set_option linter.unusedVariables false
set_option linter.unusedSimpArgs false
set_option linter.unnecessarySimpa false
set_option maxRecDepth 100000
set_option maxHeartbeats 1000000

theorem ap10 : ap 10 = some f10 := rfl
theorem p10 : f10.pure = true := rfl
theorem n10 : f10.nat = none := rfl
theorem ap12 : ap 12 = some f12 := rfl
theorem p12 : f12.pure = true := rfl
theorem n12 : f12.nat = none := rfl
theorem ap13 : ap 13 = some f13 := rfl
theorem p13 : f13.pure = true := rfl
theorem n13 : f13.nat = none := rfl
theorem ap14 : ap 14 = some f14 := rfl
theorem p14 : f14.pure = true := rfl
theorem n14 : f14.nat = none := rfl
theorem newC_fit (sets ways : Int) : Fit (newC sets ways).sets := by
  have hnr := clampN_range sets 8 (by omega)
  have hmr := clampN_range ways 4 (by omega)
  refine ⟨by show (newR _ _).length ≤ 20; rw [newR_len]; omega, fun l hl => ?_⟩
  have hl : l ∈ newR (clampN sets 8) (clampN ways 4) := hl
  unfold newR at hl
  rw [List.mem_replicate] at hl
  rw [hl.2, newRow_len]
  exact ⟨by omega, newRow_wf _ (by omega)⟩
theorem newC_wf (sets ways : Int) : (newC sets ways).wf := by
  have h := newC_fit sets ways
  have hm : (1000 : Nat) ≤ maxLen := by decide
  exact ⟨by have := h.1; omega, fun l hl => ⟨by have := (h.2 l hl).1; omega, (h.2 l hl).2⟩⟩
theorem newC_right (sets ways : Int) : RightP (newC sets ways) := by
  have hnr := clampN_range sets 8 (by omega)
  have hmr := clampN_range ways 4 (by omega)
  have hsl : (newC sets ways).sets.length = clampN sets 8 := newR_len _ _
  have hrow : ∀ s, s < clampN sets 8 → row (newC sets ways) s = newRow (clampN ways 4) := fun s hs => rowN_newR _ _ s hs
  refine ⟨by omega, by omega, fun s hs => ?_⟩
  rw [hsl] at hs
  rw [hrow s hs, hrow 0 (by omega)]
  refine ⟨rfl, by rw [newRow_len]; omega, by rw [newRow_len]; omega, fun k hk => ?_⟩
  rw [newRow_len] at hk
  unfold FineK
  rw [newRow_get _ k hk, newRow_len]
  refine ⟨?_, ?_, fun j hj => ?_, ?_, ?_, fun _ => rfl, fun h => absurd rfl h⟩
  · show (0 : Int) ≤ (k : Int); omega
  · show (k : Int) < _; omega
  · rw [newRow_get _ j (by omega)]
    show (j : Int) ≠ (k : Int); omega
  · show (0 : Int) ≤ 0; omega
  · show (0 : Int) ≤ 3; omega
theorem Pure.CacheNews (a0 : Int) (a1 : Int) (a2 : Cache) (h0 : (Lit.int .i64 a0).wf = true) (h1 : (Lit.int .i64 a1).wf = true) (h2 : Cache.wf a2) :
    ∃ k, evF ap k 3 [T.int .i64 a0, T.int .i64 a1, T.agg (a2.enc)] = some (.bool true) := by
  refine E.get ?_
  rw [cache_enc]
  refine E_body (F := f3) rfl rfl rfl ?_
  generalize hs0 : (_ : List T) ++ List.replicate _ T.undef = s0
  have e0 : s0.length = 34 ∧ rho s0 (.tmp 0) = .int .i64 a0 ∧ rho s0 (.tmp 1) = .int .i64 a1 ∧ rho s0 (.tmp 2) = .agg [setsT a2] := by subst hs0; exact ⟨rfl, rfl, rfl, rfl⟩
  clear hs0
  obtain ⟨hl, e0, e1, e2⟩ := e0
  have hcut : cut [setsT a2] 0 1 = [setsT a2] := rfl
  have hleaf : allLeaf [setsT a2] = true := rfl
  obtain ⟨b, h8, hb⟩ := law_light a2 h2
  obtain ⟨n8', c8⟩ := h8.call ap8 (fun g => rfl)
  obtain ⟨n9', c9⟩ := (E_of awake_runs).call ap9 (fun g => rfl)
  have q8 := c8 n8' (Nat.le_refl _)
  have q9 := c9 n9' (Nat.le_refl _)
  refine W_seqn (W_region (fun k => by simp (decide := true) (disch := first | omega | (simp (decide := true) only [List.length_set, hl]; done) | fail) only [sims, evRegion, evOps, evOp, evG, evR, guardT, callee, opRes, pureR, binT, unT, T.cells, T.leaf, fillT, splice, Nat.reduceLT, Nat.reduceAdd, Nat.reduceMul, Nat.reduceLeDiff, Nat.reduceEqDiff, reduceIte, Int.reduceBEq, Int.reduceBNe, Int.reduceLT, Int.reduceLE, Int.reduceGT, Int.reduceGE, Int.reduceNeg, reduceCtorEq, hps, e2, hleaf]; rfl) ⟨rfl, ?_⟩)
  cases b with
  | false =>
    refine W_seq (W_seqn (W_regionN ⟨n8', by simp (decide := true) (disch := first | omega | (simp (decide := true) only [List.length_set, hl]; done) | fail) only [sims, evRegion, evOps, evOp, evG, evR, guardT, callee, opRes, pureR, binT, unT, T.cells, T.leaf, fillT, splice, Nat.reduceLT, Nat.reduceAdd, Nat.reduceMul, Nat.reduceLeDiff, Nat.reduceEqDiff, reduceIte, Int.reduceBEq, Int.reduceBNe, Int.reduceLT, Int.reduceLE, Int.reduceGT, Int.reduceGE, Int.reduceNeg, reduceCtorEq, hps, hcut, ap8, p8, n8, q8]; rfl⟩ ⟨rfl, W_true (by simp (decide := true) (disch := first | omega | (simp (decide := true) only [List.length_set, hl]; done) | fail) only [sims, evRegion, evOps, evOp, evG, evR, guardT, callee, opRes, pureR, binT, unT, T.cells, T.leaf, fillT, splice, Nat.reduceLT, Nat.reduceAdd, Nat.reduceMul, Nat.reduceLeDiff, Nat.reduceEqDiff, reduceIte, Int.reduceBEq, Int.reduceBNe, Int.reduceLT, Int.reduceLE, Int.reduceGT, Int.reduceGE, Int.reduceNeg, reduceCtorEq] <;> rfl) ?_⟩))
    refine W_seqn (W_regionN ⟨n9', by simp (decide := true) (disch := first | omega | (simp (decide := true) only [List.length_set, hl]; done) | fail) only [sims, evRegion, evOps, evOp, evG, evR, guardT, callee, opRes, pureR, binT, unT, T.cells, T.leaf, fillT, splice, Nat.reduceLT, Nat.reduceAdd, Nat.reduceMul, Nat.reduceLeDiff, Nat.reduceEqDiff, reduceIte, Int.reduceBEq, Int.reduceBNe, Int.reduceLT, Int.reduceLE, Int.reduceGT, Int.reduceGE, Int.reduceNeg, reduceCtorEq, ap9, p9, n9, q9]; rfl⟩ ⟨rfl, W_ret ?_⟩)
    simp only [reduceCtorEq, false_and, false_or, or_false, exists_false, exists_const, ne_eq, not_false_eq_true, true_and, implies_true]
    refine fin_of (F := f3) rfl (fun _ => rfl) ?_
    simp (decide := true) (disch := first | omega | (simp (decide := true) only [List.length_set, hl]; done) | fail) only [sims, evRegion, evOps, evOp, evG, evR, guardT, callee, opRes, pureR, binT, unT, T.cells, T.leaf, fillT, splice, Nat.reduceLT, Nat.reduceAdd, Nat.reduceMul, Nat.reduceLeDiff, Nat.reduceEqDiff, reduceIte, Int.reduceBEq, Int.reduceBNe, Int.reduceLT, Int.reduceLE, Int.reduceGT, Int.reduceGE, Int.reduceNeg, reduceCtorEq]
  | true =>
    have hfit := fit_cache h2 (hb rfl)
    have hnf := newC_fit a0 a1
    have hnw := newC_wf a0 a1
    have hon : CacheOf (newC a0 a1).sets (.agg [setsT (newC a0 a1)]) := cacheOf_sets _
    obtain ⟨u, hu, ou⟩ := ref_new a0 a1
    obtain ⟨v1, hv1, b1, rfl, i1⟩ := bus_right (newC a0 a1) hnw hnf
    obtain ⟨v2, hv2, b2, rfl, i2⟩ := bus_right a2 h2 hfit
    obtain ⟨v3, hv3, b3, rfl, i3⟩ := ref_right a2 h2 hfit
    have hb1 : b1 = true := i1.mpr (newC_right a0 a1)
    have hb23 : b2 = b3 := by rw [Bool.eq_iff_iff, i2, i3]
    subst hb1
    subst hb23
    obtain ⟨M1, k1⟩ := (bus_new a0 a1).call ap10 (fun g => rfl)
    obtain ⟨M2, k2⟩ := hu.call ap12 (fun g => rfl)
    obtain ⟨M3, k3⟩ := (same_of hnf hon ou).call ap11 (fun g => frzL_two (cacheOf_frz hon _) (cacheOf_frz ou _))
    obtain ⟨M4, k4⟩ := hv1.call ap13 (fun g => rfl)
    obtain ⟨M5, k5⟩ := hv2.call ap13 (fun g => rfl)
    obtain ⟨M6, k6⟩ := hv3.call ap14 (fun g => rfl)
    generalize hM : n9' + M1 + M2 + M3 + M4 + M5 + M6 = M
    have r9 := c9 M (by omega)
    have r1 := k1 M (by omega)
    have r2 := k2 M (by omega)
    have r3 := k3 M (by omega)
    have r4 := k4 M (by omega)
    have r5 := k5 M (by omega)
    have r6 := k6 M (by omega)
    have hcut2 : cut [setsT (newC a0 a1)] 0 1 = [setsT (newC a0 a1)] := rfl
    have hleaf2 : allLeaf [setsT (newC a0 a1)] = true := rfl
    have hbb : (b2 == b2) = true := by simp
    generalize setsT (newC a0 a1) = sn at *
    refine W_seqn (W_seqn (W_regionN ⟨n8', by simp (decide := true) (disch := first | omega | (simp (decide := true) only [List.length_set, hl]; done) | fail) only [sims, evRegion, evOps, evOp, evG, evR, guardT, callee, opRes, pureR, binT, unT, T.cells, T.leaf, fillT, splice, Nat.reduceLT, Nat.reduceAdd, Nat.reduceMul, Nat.reduceLeDiff, Nat.reduceEqDiff, reduceIte, Int.reduceBEq, Int.reduceBNe, Int.reduceLT, Int.reduceLE, Int.reduceGT, Int.reduceGE, Int.reduceNeg, reduceCtorEq, hps, hcut, ap8, p8, n8, q8]; rfl⟩ ⟨rfl, W_false (by simp (decide := true) (disch := first | omega | (simp (decide := true) only [List.length_set, hl]; done) | fail) only [sims, evRegion, evOps, evOp, evG, evR, guardT, callee, opRes, pureR, binT, unT, T.cells, T.leaf, fillT, splice, Nat.reduceLT, Nat.reduceAdd, Nat.reduceMul, Nat.reduceLeDiff, Nat.reduceEqDiff, reduceIte, Int.reduceBEq, Int.reduceBNe, Int.reduceLT, Int.reduceLE, Int.reduceGT, Int.reduceGE, Int.reduceNeg, reduceCtorEq] <;> rfl) (W_skip ⟨rfl, ?_⟩)⟩))
    refine W_seqn (W_regionN ⟨M, by simp (decide := true) (disch := first | omega | (simp (decide := true) only [List.length_set, hl]; done) | fail) only [sims, evRegion, evOps, evOp, evG, evR, guardT, callee, opRes, pureR, binT, unT, T.cells, T.leaf, fillT, splice, Nat.reduceLT, Nat.reduceAdd, Nat.reduceMul, Nat.reduceLeDiff, Nat.reduceEqDiff, reduceIte, Int.reduceBEq, Int.reduceBNe, Int.reduceLT, Int.reduceLE, Int.reduceGT, Int.reduceGE, Int.reduceNeg, reduceCtorEq, hps, e0, e1, hcut, hleaf2, ap10, p10, n10, r1]; rfl⟩ ⟨rfl, ?_⟩)
    refine W_seqn (W_regionN ⟨M, by simp (decide := true) (disch := first | omega | (simp (decide := true) only [List.length_set, hl]; done) | fail) only [sims, evRegion, evOps, evOp, evG, evR, guardT, callee, opRes, pureR, binT, unT, T.cells, T.leaf, fillT, splice, Nat.reduceLT, Nat.reduceAdd, Nat.reduceMul, Nat.reduceLeDiff, Nat.reduceEqDiff, reduceIte, Int.reduceBEq, Int.reduceBNe, Int.reduceLT, Int.reduceLE, Int.reduceGT, Int.reduceGE, Int.reduceNeg, reduceCtorEq, hps, e0, e1, hcut, hcut2, hbb, ap9, p9, n9, r9, ap11, p11, n11, ap12, p12, n12, ap13, p13, n13, ap14, p14, n14, r2, r3, r4, r5, r6]; rfl⟩ ⟨rfl, W_ret ?_⟩)
    refine fin_of (F := f3) rfl (fun _ => rfl) ?_
    simp (decide := true) (disch := first | omega | (simp (decide := true) only [List.length_set, hl]; done) | fail) only [sims, evRegion, evOps, evOp, evG, evR, guardT, callee, opRes, pureR, binT, unT, T.cells, T.leaf, fillT, splice, Nat.reduceLT, Nat.reduceAdd, Nat.reduceMul, Nat.reduceLeDiff, Nat.reduceEqDiff, reduceIte, Int.reduceBEq, Int.reduceBNe, Int.reduceLT, Int.reduceLE, Int.reduceGT, Int.reduceGE, Int.reduceNeg, reduceCtorEq]
end Go.Proofs.Ythanlobfjpjegaa.Abs
