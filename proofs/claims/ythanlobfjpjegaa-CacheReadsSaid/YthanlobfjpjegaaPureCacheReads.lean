/- What caches have at places, and behind writes: the law's walk. -/
import Derived.Test.YthanlobfjpjegaaWrite2
namespace Go.Proofs.Ythanlobfjpjegaa.Abs
open Go Go.RowKit Fn
set_option linter.unusedVariables false
set_option linter.unusedSimpArgs false
set_option linter.unnecessarySimpa false
set_option maxRecDepth 100000
set_option maxHeartbeats 1000000

theorem ap23 : ap 23 = some f23 := rfl
theorem p23 : f23.pure = true := rfl
theorem n23 : f23.nat = none := rfl
theorem ap24 : ap 24 = some f24 := rfl
theorem p24 : f24.pure = true := rfl
theorem n24 : f24.nat = none := rfl
theorem fit_writeR {c : Cache} (hfit : Fit c.sets) (addr : Nat) (size v : Int) : Fit (writeR c addr size v).1 := by
  unfold writeR
  cases hK : writeK c addr size with
  | none => exact ⟨by simp, fun l h => by simp at h⟩
  | some k =>
    have hk : readK c addr size = some k := by
      unfold writeK at hK
      cases h : readK c addr size with
      | none => rw [h] at hK; cases hK
      | some j =>
        rw [h] at hK
        simp only at hK
        split at hK
        · exact hK
        · cases hK
    obtain ⟨hok, hf, _⟩ := place_some hk
    obtain ⟨hil, hkl⟩ := find_lt hf
    have hrow := fit_row hfit _ hil
    obtain ⟨n, rfl, hn, hn1, hn4, han⟩ := okay_nat hok
    exact fit_set hfit _ _ ⟨by rw [List.length_set]; exact hrow.1, (set_wr _ hrow.2 k hkl _ _ v (by rw [hn]; exact han)).2.2⟩
theorem readT_is (c : Cache) (addr : Nat) (size : Int) : ∃ x b, readT c addr size = .tup [.int .u32 x, .bool b] := by
  unfold readT; split <;> exact ⟨_, _, rfl⟩
theorem Pure.CacheReads (a0 : Cache) (a1 : Place) (a2 : Int) (h0 : Cache.wf a0) (h1 : Place.wf a1) (h2 : (Lit.int .u32 a2).wf = true) :
    ∃ k, evF ap k 5 [T.agg (a0.enc), T.agg (a1.enc), T.int .u32 a2] = some (.bool true) := by
  refine E.get ?_
  obtain ⟨addr, size⟩ := a1
  obtain ⟨hw1, hw2⟩ := h1
  simp only at hw1 hw2
  have had := wf_u32 hw1
  have hv := wf_u32 h2
  obtain ⟨ad, rfl⟩ : ∃ ad : Nat, addr = (ad : Int) := ⟨addr.toNat, by omega⟩
  have ha : ad ≤ 4294967295 := by omega
  rw [cache_enc, show Place.enc ⟨(ad : Int), size⟩ = [T.int .u32 (ad : Int), T.int .i64 size] from rfl]
  refine E_body (F := f5) rfl rfl rfl ?_
  generalize hs0 : (_ : List T) ++ List.replicate _ T.undef = s0
  have e0 : s0.length = 78 ∧ rho s0 (.tmp 0) = .agg [setsT a0] ∧ rho s0 (.tmp 1) = .agg [T.int .u32 (ad : Int), T.int .i64 size] ∧ rho s0 (.tmp 2) = .int .u32 a2 := by subst hs0; exact ⟨rfl, rfl, rfl, rfl⟩
  clear hs0
  obtain ⟨hl, e0, e1, e2⟩ := e0
  have hcut : cut [setsT a0] 0 1 = [setsT a0] := rfl
  have hleaf : allLeaf [setsT a0] = true := rfl
  have hleaf2 : allLeaf [T.int .u32 (ad : Int), T.int .i64 size] = true := rfl
  obtain ⟨b, h8, hb⟩ := law_light a0 h0
  obtain ⟨n8', c8⟩ := h8.call ap8 (fun g => rfl)
  obtain ⟨n9', c9⟩ := (E_of awake_runs).call ap9 (fun g => rfl)
  have q8 := c8 n8' (Nat.le_refl _)
  have q9 := c9 n9' (Nat.le_refl _)
  refine W_seqn (W_region (fun k => by simp (decide := true) (disch := first | omega | (simp (decide := true) only [List.length_set, hl]; done) | fail) only [sims, evRegion, evOps, evOp, evG, evR, guardT, callee, opRes, pureR, binT, unT, T.cells, T.leaf, fillT, splice, Nat.reduceLT, Nat.reduceAdd, Nat.reduceMul, Nat.reduceLeDiff, Nat.reduceEqDiff, reduceIte, Int.reduceBEq, Int.reduceBNe, Int.reduceLT, Int.reduceLE, Int.reduceGT, Int.reduceGE, Int.reduceNeg, reduceCtorEq, hps, e0, e1, hleaf, hleaf2]; rfl) ⟨rfl, ?_⟩)
  cases b with
  | false =>
    refine W_seq (W_seqn (W_regionN ⟨n8', by simp (decide := true) (disch := first | omega | (simp (decide := true) only [List.length_set, hl]; done) | fail) only [sims, evRegion, evOps, evOp, evG, evR, guardT, callee, opRes, pureR, binT, unT, T.cells, T.leaf, fillT, splice, Nat.reduceLT, Nat.reduceAdd, Nat.reduceMul, Nat.reduceLeDiff, Nat.reduceEqDiff, reduceIte, Int.reduceBEq, Int.reduceBNe, Int.reduceLT, Int.reduceLE, Int.reduceGT, Int.reduceGE, Int.reduceNeg, reduceCtorEq, hps, hcut, ap8, p8, n8, q8]; rfl⟩ ⟨rfl, W_true (by simp (decide := true) (disch := first | omega | (simp (decide := true) only [List.length_set, hl]; done) | fail) only [sims, evRegion, evOps, evOp, evG, evR, guardT, callee, opRes, pureR, binT, unT, T.cells, T.leaf, fillT, splice, Nat.reduceLT, Nat.reduceAdd, Nat.reduceMul, Nat.reduceLeDiff, Nat.reduceEqDiff, reduceIte, Int.reduceBEq, Int.reduceBNe, Int.reduceLT, Int.reduceLE, Int.reduceGT, Int.reduceGE, Int.reduceNeg, reduceCtorEq] <;> rfl) ?_⟩))
    refine W_seqn (W_regionN ⟨n9', by simp (decide := true) (disch := first | omega | (simp (decide := true) only [List.length_set, hl]; done) | fail) only [sims, evRegion, evOps, evOp, evG, evR, guardT, callee, opRes, pureR, binT, unT, T.cells, T.leaf, fillT, splice, Nat.reduceLT, Nat.reduceAdd, Nat.reduceMul, Nat.reduceLeDiff, Nat.reduceEqDiff, reduceIte, Int.reduceBEq, Int.reduceBNe, Int.reduceLT, Int.reduceLE, Int.reduceGT, Int.reduceGE, Int.reduceNeg, reduceCtorEq, ap9, p9, n9, q9]; rfl⟩ ⟨rfl, W_ret ?_⟩)
    simp only [reduceCtorEq, false_and, false_or, or_false, exists_false, exists_const, ne_eq, not_false_eq_true, true_and, implies_true]
    refine fin_of (F := f5) rfl (fun _ => rfl) ?_
    simp (decide := true) (disch := first | omega | (simp (decide := true) only [List.length_set, hl]; done) | fail) only [sims, evRegion, evOps, evOp, evG, evR, guardT, callee, opRes, pureR, binT, unT, T.cells, T.leaf, fillT, splice, Nat.reduceLT, Nat.reduceAdd, Nat.reduceMul, Nat.reduceLeDiff, Nat.reduceEqDiff, reduceIte, Int.reduceBEq, Int.reduceBNe, Int.reduceLT, Int.reduceLE, Int.reduceGT, Int.reduceGE, Int.reduceNeg, reduceCtorEq]
  | true =>
    have hfit := fit_cache h0 (hb rfl)
    have hfW := fit_writeR hfit ad size a2
    obtain ⟨x, r, hrt⟩ := readT_is a0 ad size
    obtain ⟨u3, hu3, o3⟩ := bus_write a0 h0 hfit ad ha size a2 hv
    obtain ⟨u4, hu4, o4⟩ := ref_write a0 h0 hfit ad ha size a2 hv
    obtain ⟨M1, k1⟩ := (bus_read a0 h0 ad ha size).call ap21 (fun g => rfl)
    obtain ⟨M2, k2⟩ := (ref_read a0 h0 ad ha size).call ap22 (fun g => rfl)
    obtain ⟨M3, k3⟩ := hu3.call ap23 (fun g => rfl)
    obtain ⟨M4, k4⟩ := hu4.call ap24 (fun g => rfl)
    obtain ⟨M5, k5⟩ := (same_of hfW o3 o4).call ap11 (fun g => frzL_two (cacheOf_frz o3 _) (cacheOf_frz o4 _))
    rw [hrt] at k1 k2
    obtain ⟨fa, ya, rfl, _⟩ := id o3
    obtain ⟨fb, yb, rfl, _⟩ := id o4
    generalize (writeR a0 ad size a2).2 = bw at *
    generalize (writeR a0 ad size a2).1 = R1 at *
    have hca : cut [T.imm fa R1.length ya] 0 1 = [T.imm fa R1.length ya] := rfl
    have hcb : cut [T.imm fb R1.length yb] 0 1 = [T.imm fb R1.length yb] := rfl
    generalize hM : n9' + M1 + M2 + M3 + M4 + M5 = M
    have r9 := c9 M (by omega)
    have r1 := k1 M (by omega)
    have r2 := k2 M (by omega)
    have r3 := k3 M (by omega)
    have r4 := k4 M (by omega)
    have r5 := k5 M (by omega)
    have hxx : (x == x) = true := by simp
    have hrr : (r == r) = true := by simp
    have hbb : (bw == bw) = true := by simp
    refine W_seqn (W_seqn (W_regionN ⟨n8', by simp (decide := true) (disch := first | omega | (simp (decide := true) only [List.length_set, hl]; done) | fail) only [sims, evRegion, evOps, evOp, evG, evR, guardT, callee, opRes, pureR, binT, unT, T.cells, T.leaf, fillT, splice, Nat.reduceLT, Nat.reduceAdd, Nat.reduceMul, Nat.reduceLeDiff, Nat.reduceEqDiff, reduceIte, Int.reduceBEq, Int.reduceBNe, Int.reduceLT, Int.reduceLE, Int.reduceGT, Int.reduceGE, Int.reduceNeg, reduceCtorEq, hps, hcut, ap8, p8, n8, q8]; rfl⟩ ⟨rfl, W_false (by simp (decide := true) (disch := first | omega | (simp (decide := true) only [List.length_set, hl]; done) | fail) only [sims, evRegion, evOps, evOp, evG, evR, guardT, callee, opRes, pureR, binT, unT, T.cells, T.leaf, fillT, splice, Nat.reduceLT, Nat.reduceAdd, Nat.reduceMul, Nat.reduceLeDiff, Nat.reduceEqDiff, reduceIte, Int.reduceBEq, Int.reduceBNe, Int.reduceLT, Int.reduceLE, Int.reduceGT, Int.reduceGE, Int.reduceNeg, reduceCtorEq] <;> rfl) (W_skip ⟨rfl, ?_⟩)⟩))
    refine W_seqn (W_regionN ⟨M, by simp (decide := true) (disch := first | omega | (simp (decide := true) only [List.length_set, hl]; done) | fail) only [sims, evRegion, evOps, evOp, evG, evR, guardT, callee, opRes, pureR, binT, unT, T.cells, T.leaf, fillT, splice, Nat.reduceLT, Nat.reduceAdd, Nat.reduceMul, Nat.reduceLeDiff, Nat.reduceEqDiff, reduceIte, Int.reduceBEq, Int.reduceBNe, Int.reduceLT, Int.reduceLE, Int.reduceGT, Int.reduceGE, Int.reduceNeg, reduceCtorEq, hps, hcut, ap21, p21, n21, r1]; rfl⟩ ⟨rfl, ?_⟩)
    refine W_seqn (W_regionN ⟨M, by simp (decide := true) (disch := first | omega | (simp (decide := true) only [List.length_set, hl]; done) | fail) only [sims, evRegion, evOps, evOp, evG, evR, guardT, callee, opRes, pureR, binT, unT, T.cells, T.leaf, fillT, splice, Nat.reduceLT, Nat.reduceAdd, Nat.reduceMul, Nat.reduceLeDiff, Nat.reduceEqDiff, reduceIte, Int.reduceBEq, Int.reduceBNe, Int.reduceLT, Int.reduceLE, Int.reduceGT, Int.reduceGE, Int.reduceNeg, reduceCtorEq, hps, hcut, ap22, p22, n22, r2]; rfl⟩ ⟨rfl, ?_⟩)
    refine W_seqn (W_regionN ⟨M, by simp (decide := true) (disch := first | omega | (simp (decide := true) only [List.length_set, hl]; done) | fail) only [sims, evRegion, evOps, evOp, evG, evR, guardT, callee, opRes, pureR, binT, unT, T.cells, T.leaf, fillT, splice, Nat.reduceLT, Nat.reduceAdd, Nat.reduceMul, Nat.reduceLeDiff, Nat.reduceEqDiff, reduceIte, Int.reduceBEq, Int.reduceBNe, Int.reduceLT, Int.reduceLE, Int.reduceGT, Int.reduceGE, Int.reduceNeg, reduceCtorEq, hps, e2, hcut, ap23, p23, n23, r3]; rfl⟩ ⟨rfl, ?_⟩)
    refine W_seqn (W_regionN ⟨M, by simp (decide := true) (disch := first | omega | (simp (decide := true) only [List.length_set, hl]; done) | fail) only [sims, evRegion, evOps, evOp, evG, evR, guardT, callee, opRes, pureR, binT, unT, T.cells, T.leaf, fillT, splice, Nat.reduceLT, Nat.reduceAdd, Nat.reduceMul, Nat.reduceLeDiff, Nat.reduceEqDiff, reduceIte, Int.reduceBEq, Int.reduceBNe, Int.reduceLT, Int.reduceLE, Int.reduceGT, Int.reduceGE, Int.reduceNeg, reduceCtorEq, hps, e2, hcut, ap24, p24, n24, r4]; rfl⟩ ⟨rfl, ?_⟩)
    refine W_seqn (W_regionN ⟨M, by simp (decide := true) (disch := first | omega | (simp (decide := true) only [List.length_set, hl]; done) | fail) only [sims, evRegion, evOps, evOp, evG, evR, guardT, callee, opRes, pureR, binT, unT, T.cells, T.leaf, fillT, splice, Nat.reduceLT, Nat.reduceAdd, Nat.reduceMul, Nat.reduceLeDiff, Nat.reduceEqDiff, reduceIte, Int.reduceBEq, Int.reduceBNe, Int.reduceLT, Int.reduceLE, Int.reduceGT, Int.reduceGE, Int.reduceNeg, reduceCtorEq, hps, hca, hcb, hxx, hrr, hbb, ap9, p9, n9, r9, ap11, p11, n11, r5]; rfl⟩ ⟨rfl, W_ret ?_⟩)
    refine fin_of (F := f5) rfl (fun _ => rfl) ?_
    simp (decide := true) (disch := first | omega | (simp (decide := true) only [List.length_set, hl]; done) | fail) only [sims, evRegion, evOps, evOp, evG, evR, guardT, callee, opRes, pureR, binT, unT, T.cells, T.leaf, fillT, splice, Nat.reduceLT, Nat.reduceAdd, Nat.reduceMul, Nat.reduceLeDiff, Nat.reduceEqDiff, reduceIte, Int.reduceBEq, Int.reduceBNe, Int.reduceLT, Int.reduceLE, Int.reduceGT, Int.reduceGE, Int.reduceNeg, reduceCtorEq]
end Go.Proofs.Ythanlobfjpjegaa.Abs
