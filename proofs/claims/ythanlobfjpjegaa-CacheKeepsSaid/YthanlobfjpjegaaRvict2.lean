/- Where a line would be put, by the given function. -/
import Derived.Test.YthanlobfjpjegaaRvict
namespace Go.Proofs.Ythanlobfjpjegaa.Abs
open Go Go.RowKit Fn
set_option linter.unusedVariables false
set_option linter.unusedSimpArgs false
set_option linter.unnecessarySimpa false
set_option maxRecDepth 100000

theorem ap16 : ap 16 = some f16 := rfl
theorem p16 : f16.pure = true := rfl
theorem n16 : f16.nat = none := rfl
def victT (c : Cache) (ln : Nat) : T := .tup [.int .i64 ((victim c ln).1 : Int), .int .i64 ((victim c ln).2 : Int)]
theorem ref_victim (c : Cache) (hc : c.wf) (ln : Nat) (hln : ln ≤ 4294967295) : E ap 18 [.agg [setsT c], .int .u32 (ln : Int)] (victT c ln) := by
  refine E_body (F := f18) rfl rfl rfl ?_
  generalize hs0 : (_ : List T) ++ List.replicate _ T.undef = s0
  have e0 : s0.length = 70 ∧ rho s0 (.tmp 0) = .agg [setsT c] ∧ rho s0 (.tmp 1) = .int .u32 (ln : Int) := by subst hs0; exact ⟨rfl, rfl, rfl⟩
  clear hs0
  obtain ⟨hl, h0, h1⟩ := e0
  have hleaf : allLeaf [setsT c] = true := rfl
  have hcut : cut [setsT c] 0 1 = [setsT c] := rfl
  obtain ⟨N1, c16⟩ := (ref_find c hc ln hln).call ap16 (fun g => rfl)
  obtain ⟨N2, c38⟩ := (ref_set c ln hln).call ap38 (fun g => rfl)
  have q16 := c16 N1 (Nat.le_refl _)
  have q38 := c38 N2 (Nat.le_refl _)
  refine W_seqn (W_region (fun k => by simp (decide := true) only [sims, evRegion, evOps, evOp, evG, evR, guardT, callee, opRes, pureR, binT, unT, T.cells, T.leaf, fillT, splice, Nat.reduceLT, Nat.reduceAdd, Nat.reduceMul, Nat.reduceLeDiff, Nat.reduceEqDiff, reduceIte, Int.reduceBEq, Int.reduceBNe, Int.reduceLT, Int.reduceLE, Int.reduceGT, Int.reduceGE, Int.reduceNeg, reduceCtorEq, hl, h0, hleaf]; rfl) ⟨rfl, ?_⟩)
  cases hf : find c ln with
  | some k =>
    have e1 : findT c ln = .tup [.int .i64 (seti c ln : Int), .int .i64 (k : Int), .bool true] := by unfold findT; rw [hf]
    have e2 : victT c ln = .tup [.int .i64 (seti c ln : Int), .int .i64 (k : Int)] := by unfold victT victim; rw [hf]
    rw [e1] at q16
    rw [e2]
    refine W_seqn (W_regionN ⟨N1, by simp (decide := true) only [sims, evRegion, evOps, evOp, evG, evR, guardT, callee, opRes, pureR, binT, unT, T.cells, T.leaf, fillT, splice, Nat.reduceLT, Nat.reduceAdd, Nat.reduceMul, Nat.reduceLeDiff, Nat.reduceEqDiff, reduceIte, Int.reduceBEq, Int.reduceBNe, Int.reduceLT, Int.reduceLE, Int.reduceGT, Int.reduceGE, Int.reduceNeg, reduceCtorEq, hl, h1, hcut, ap16, p16, n16, q16]; rfl⟩ ⟨rfl, ?_⟩)
    refine W_seq (W_seqn (W_region (fun k => by simp (decide := true) only [sims, evRegion, evOps, evOp, evG, evR, guardT, callee, opRes, pureR, binT, unT, T.cells, T.leaf, fillT, splice, Nat.reduceLT, Nat.reduceAdd, Nat.reduceMul, Nat.reduceLeDiff, Nat.reduceEqDiff, reduceIte, Int.reduceBEq, Int.reduceBNe, Int.reduceLT, Int.reduceLE, Int.reduceGT, Int.reduceGE, Int.reduceNeg, reduceCtorEq, hl]; rfl) ⟨rfl, W_true (by simp (decide := true) only [sims, evRegion, evOps, evOp, evG, evR, guardT, callee, opRes, pureR, binT, unT, T.cells, T.leaf, fillT, splice, Nat.reduceLT, Nat.reduceAdd, Nat.reduceMul, Nat.reduceLeDiff, Nat.reduceEqDiff, reduceIte, Int.reduceBEq, Int.reduceBNe, Int.reduceLT, Int.reduceLE, Int.reduceGT, Int.reduceGE, Int.reduceNeg, reduceCtorEq, hl] <;> rfl) ?_⟩))
    refine W_seqn (W_region (fun k => by simp (decide := true) only [sims, evRegion, evOps, evOp, evG, evR, guardT, callee, opRes, pureR, binT, unT, T.cells, T.leaf, fillT, splice, Nat.reduceLT, Nat.reduceAdd, Nat.reduceMul, Nat.reduceLeDiff, Nat.reduceEqDiff, reduceIte, Int.reduceBEq, Int.reduceBNe, Int.reduceLT, Int.reduceLE, Int.reduceGT, Int.reduceGE, Int.reduceNeg, reduceCtorEq, hl]; rfl) ⟨rfl, W_ret ?_⟩)
    simp only [reduceCtorEq, false_and, false_or, or_false, exists_false, exists_const, ne_eq, not_false_eq_true, true_and, implies_true]
    refine fin_of2 (F := f18) rfl (fun _ => rfl) ?_ ?_ <;> simp (decide := true) only [sims, evRegion, evOps, evOp, evG, evR, guardT, callee, opRes, pureR, binT, unT, T.cells, T.leaf, fillT, splice, Nat.reduceLT, Nat.reduceAdd, Nat.reduceMul, Nat.reduceLeDiff, Nat.reduceEqDiff, reduceIte, Int.reduceBEq, Int.reduceBNe, Int.reduceLT, Int.reduceLE, Int.reduceGT, Int.reduceGE, Int.reduceNeg, reduceCtorEq, hl]
  | none =>
    have e1 : findT c ln = .tup [.int .i64 0, .int .i64 0, .bool false] := by unfold findT; rw [hf]
    rw [e1] at q16
    refine W_seqn (W_regionN ⟨N1, by simp (decide := true) only [sims, evRegion, evOps, evOp, evG, evR, guardT, callee, opRes, pureR, binT, unT, T.cells, T.leaf, fillT, splice, Nat.reduceLT, Nat.reduceAdd, Nat.reduceMul, Nat.reduceLeDiff, Nat.reduceEqDiff, reduceIte, Int.reduceBEq, Int.reduceBNe, Int.reduceLT, Int.reduceLE, Int.reduceGT, Int.reduceGE, Int.reduceNeg, reduceCtorEq, hl, h1, hcut, ap16, p16, n16, q16]; rfl⟩ ⟨rfl, ?_⟩)
    refine W_seqn (W_seqn (W_region (fun k => by simp (decide := true) only [sims, evRegion, evOps, evOp, evG, evR, guardT, callee, opRes, pureR, binT, unT, T.cells, T.leaf, fillT, splice, Nat.reduceLT, Nat.reduceAdd, Nat.reduceMul, Nat.reduceLeDiff, Nat.reduceEqDiff, reduceIte, Int.reduceBEq, Int.reduceBNe, Int.reduceLT, Int.reduceLE, Int.reduceGT, Int.reduceGE, Int.reduceNeg, reduceCtorEq, hl]; rfl) ⟨rfl, W_false (by simp (decide := true) only [sims, evRegion, evOps, evOp, evG, evR, guardT, callee, opRes, pureR, binT, unT, T.cells, T.leaf, fillT, splice, Nat.reduceLT, Nat.reduceAdd, Nat.reduceMul, Nat.reduceLeDiff, Nat.reduceEqDiff, reduceIte, Int.reduceBEq, Int.reduceBNe, Int.reduceLT, Int.reduceLE, Int.reduceGT, Int.reduceGE, Int.reduceNeg, reduceCtorEq, hl] <;> rfl) (W_skip ⟨rfl, ?_⟩)⟩))
    refine W_seqn (W_regionN ⟨N2, by simp (decide := true) only [sims, evRegion, evOps, evOp, evG, evR, guardT, callee, opRes, pureR, binT, unT, T.cells, T.leaf, fillT, splice, Nat.reduceLT, Nat.reduceAdd, Nat.reduceMul, Nat.reduceLeDiff, Nat.reduceEqDiff, reduceIte, Int.reduceBEq, Int.reduceBNe, Int.reduceLT, Int.reduceLE, Int.reduceGT, Int.reduceGE, Int.reduceNeg, reduceCtorEq, hl, h1, hcut, ap38, p38, n38, q38]; rfl⟩ ⟨rfl, ?_⟩)
    by_cases hz : c.sets.length = 0
    · have e2 : victT c ln = .tup [.int .i64 0, .int .i64 0] := by unfold victT victim; rw [hf]; simp only [if_pos hz]; rfl
      rw [e2]
      refine W_seq (W_seqn (W_region (fun k => by simp (decide := true) only [sims, evRegion, evOps, evOp, evG, evR, guardT, callee, opRes, pureR, binT, unT, T.cells, T.leaf, fillT, splice, Nat.reduceLT, Nat.reduceAdd, Nat.reduceMul, Nat.reduceLeDiff, Nat.reduceEqDiff, reduceIte, Int.reduceBEq, Int.reduceBNe, Int.reduceLT, Int.reduceLE, Int.reduceGT, Int.reduceGE, Int.reduceNeg, reduceCtorEq, hl, hz]; rfl) ⟨rfl, W_true (by simp (decide := true) only [sims, evRegion, evOps, evOp, evG, evR, guardT, callee, opRes, pureR, binT, unT, T.cells, T.leaf, fillT, splice, Nat.reduceLT, Nat.reduceAdd, Nat.reduceMul, Nat.reduceLeDiff, Nat.reduceEqDiff, reduceIte, Int.reduceBEq, Int.reduceBNe, Int.reduceLT, Int.reduceLE, Int.reduceGT, Int.reduceGE, Int.reduceNeg, reduceCtorEq, hl] <;> rfl) ?_⟩))
      refine W_seqn (W_region (fun k => by simp (decide := true) only [sims, evRegion, evOps, evOp, evG, evR, guardT, callee, opRes, pureR, binT, unT, T.cells, T.leaf, fillT, splice, Nat.reduceLT, Nat.reduceAdd, Nat.reduceMul, Nat.reduceLeDiff, Nat.reduceEqDiff, reduceIte, Int.reduceBEq, Int.reduceBNe, Int.reduceLT, Int.reduceLE, Int.reduceGT, Int.reduceGE, Int.reduceNeg, reduceCtorEq]; rfl) ⟨rfl, W_ret ?_⟩)
      simp only [reduceCtorEq, false_and, false_or, or_false, exists_false, exists_const, ne_eq, not_false_eq_true, true_and, implies_true]
      refine fin_of2 (F := f18) rfl (fun _ => rfl) ?_ ?_ <;> simp (decide := true) only [sims, evRegion, evOps, evOp, evG, evR, guardT, callee, opRes, pureR, binT, unT, T.cells, T.leaf, fillT, splice, Nat.reduceLT, Nat.reduceAdd, Nat.reduceMul, Nat.reduceLeDiff, Nat.reduceEqDiff, reduceIte, Int.reduceBEq, Int.reduceBNe, Int.reduceLT, Int.reduceLE, Int.reduceGT, Int.reduceGE, Int.reduceNeg, reduceCtorEq, hl]
    · have hd : decide ((seti c ln : Int) < 0) = false := decide_eq_false (by omega)
      have hs : seti c ln < c.sets.length := Nat.mod_lt _ (by omega)
      generalize hr : rv (row c (seti c ln)) 0 0 (row c (seti c ln)).length = r
      have e2 : victT c ln = .tup [.int .i64 (seti c ln : Int), .int .i64 (r : Int)] := by unfold victT victim; rw [hf]; simp only [if_neg hz, hr]
      rw [e2]
      refine W_seqn (W_seqn (W_region (fun k => by simp (decide := true) only [sims, evRegion, evOps, evOp, evG, evR, guardT, callee, opRes, pureR, binT, unT, T.cells, T.leaf, fillT, splice, Nat.reduceLT, Nat.reduceAdd, Nat.reduceMul, Nat.reduceLeDiff, Nat.reduceEqDiff, reduceIte, Int.reduceBEq, Int.reduceBNe, Int.reduceLT, Int.reduceLE, Int.reduceGT, Int.reduceGE, Int.reduceNeg, reduceCtorEq, hl, hz, hd]; rfl) ⟨rfl, W_false (by simp (decide := true) only [sims, evRegion, evOps, evOp, evG, evR, guardT, callee, opRes, pureR, binT, unT, T.cells, T.leaf, fillT, splice, Nat.reduceLT, Nat.reduceAdd, Nat.reduceMul, Nat.reduceLeDiff, Nat.reduceEqDiff, reduceIte, Int.reduceBEq, Int.reduceBNe, Int.reduceLT, Int.reduceLE, Int.reduceGT, Int.reduceGE, Int.reduceNeg, reduceCtorEq, hl] <;> rfl) (W_skip ⟨rfl, ?_⟩)⟩))
      refine W_seqn (W_region (fun k => by simp (decide := true) only [sims, evRegion, evOps, evOp, evG, evR, guardT, callee, opRes, pureR, binT, unT, T.cells, T.leaf, fillT, splice, Nat.reduceLT, Nat.reduceAdd, Nat.reduceMul, Nat.reduceLeDiff, Nat.reduceEqDiff, reduceIte, Int.reduceBEq, Int.reduceBNe, Int.reduceLT, Int.reduceLE, Int.reduceGT, Int.reduceGE, Int.reduceNeg, reduceCtorEq]; rfl) ⟨rfl, ?_⟩)
      refine W_seq (W_seqn (W_region (fun k => by simp (decide := true) only [sims, evRegion, evOps, evOp, evG, evR, guardT, callee, opRes, pureR, binT, unT, T.cells, T.leaf, fillT, splice, Nat.reduceLT, Nat.reduceAdd, Nat.reduceMul, Nat.reduceLeDiff, Nat.reduceEqDiff, reduceIte, Int.reduceBEq, Int.reduceBNe, Int.reduceLT, Int.reduceLE, Int.reduceGT, Int.reduceGE, Int.reduceNeg, reduceCtorEq]; rfl) ⟨rfl, W_block ?_⟩))
      refine rv_loop c hc (seti c ln) hs r _ (fun st h4 h5 => ?_) (fun st hst h6 h9 => ?_) (row c (seti c ln)).length _ ⟨0, 0, ?_, ?_, ?_, ?_, ?_, ?_, by omega, by omega, rfl, hr⟩
      · simp only [reduceCtorEq, false_and, false_or, or_false, exists_false, exists_const, ne_eq, not_false_eq_true, true_and, implies_true]
        exact fin_of2 (F := f18) rfl (fun _ => rfl) h4 h5
      · refine .inl ⟨rfl, .inl ⟨rfl, W_seqn (W_region (fun k => by simp (decide := true) only [sims, evRegion, evOps, evOp, evG, evR, guardT, callee, opRes, pureR, binT, unT, T.cells, T.leaf, fillT, splice, Nat.reduceLT, Nat.reduceAdd, Nat.reduceMul, Nat.reduceLeDiff, Nat.reduceEqDiff, reduceIte, Int.reduceBEq, Int.reduceBNe, Int.reduceLT, Int.reduceLE, Int.reduceGT, Int.reduceGE, Int.reduceNeg, reduceCtorEq, hst, h6, h9]; rfl) ⟨rfl, W_ret ?_⟩)⟩⟩
        refine fin_of2 (F := f18) rfl (fun _ => rfl) ?_ ?_ <;> simp (decide := true) only [sims, evRegion, evOps, evOp, evG, evR, guardT, callee, opRes, pureR, binT, unT, T.cells, T.leaf, fillT, splice, Nat.reduceLT, Nat.reduceAdd, Nat.reduceMul, Nat.reduceLeDiff, Nat.reduceEqDiff, reduceIte, Int.reduceBEq, Int.reduceBNe, Int.reduceLT, Int.reduceLE, Int.reduceGT, Int.reduceGE, Int.reduceNeg, reduceCtorEq, hst, h6, h9]
      · simp (decide := true) only [sims, evRegion, evOps, evOp, evG, evR, guardT, callee, opRes, pureR, binT, unT, T.cells, T.leaf, fillT, splice, Nat.reduceLT, Nat.reduceAdd, Nat.reduceMul, Nat.reduceLeDiff, Nat.reduceEqDiff, reduceIte, Int.reduceBEq, Int.reduceBNe, Int.reduceLT, Int.reduceLE, Int.reduceGT, Int.reduceGE, Int.reduceNeg, reduceCtorEq, hl]
      · simp (decide := true) only [sims, evRegion, evOps, evOp, evG, evR, guardT, callee, opRes, pureR, binT, unT, T.cells, T.leaf, fillT, splice, Nat.reduceLT, Nat.reduceAdd, Nat.reduceMul, Nat.reduceLeDiff, Nat.reduceEqDiff, reduceIte, Int.reduceBEq, Int.reduceBNe, Int.reduceLT, Int.reduceLE, Int.reduceGT, Int.reduceGE, Int.reduceNeg, reduceCtorEq, hl]
      · simp (decide := true) only [sims, evRegion, evOps, evOp, evG, evR, guardT, callee, opRes, pureR, binT, unT, T.cells, T.leaf, fillT, splice, Nat.reduceLT, Nat.reduceAdd, Nat.reduceMul, Nat.reduceLeDiff, Nat.reduceEqDiff, reduceIte, Int.reduceBEq, Int.reduceBNe, Int.reduceLT, Int.reduceLE, Int.reduceGT, Int.reduceGE, Int.reduceNeg, reduceCtorEq]
      · simp (decide := true) only [sims, evRegion, evOps, evOp, evG, evR, guardT, callee, opRes, pureR, binT, unT, T.cells, T.leaf, fillT, splice, Nat.reduceLT, Nat.reduceAdd, Nat.reduceMul, Nat.reduceLeDiff, Nat.reduceEqDiff, reduceIte, Int.reduceBEq, Int.reduceBNe, Int.reduceLT, Int.reduceLE, Int.reduceGT, Int.reduceGE, Int.reduceNeg, reduceCtorEq, hl, hz]
      · simp (decide := true) only [sims, evRegion, evOps, evOp, evG, evR, guardT, callee, opRes, pureR, binT, unT, T.cells, T.leaf, fillT, splice, Nat.reduceLT, Nat.reduceAdd, Nat.reduceMul, Nat.reduceLeDiff, Nat.reduceEqDiff, reduceIte, Int.reduceBEq, Int.reduceBNe, Int.reduceLT, Int.reduceLE, Int.reduceGT, Int.reduceGE, Int.reduceNeg, reduceCtorEq, hl]; rfl
      · simp (decide := true) only [sims, evRegion, evOps, evOp, evG, evR, guardT, callee, opRes, pureR, binT, unT, T.cells, T.leaf, fillT, splice, Nat.reduceLT, Nat.reduceAdd, Nat.reduceMul, Nat.reduceLeDiff, Nat.reduceEqDiff, reduceIte, Int.reduceBEq, Int.reduceBNe, Int.reduceLT, Int.reduceLE, Int.reduceGT, Int.reduceGE, Int.reduceNeg, reduceCtorEq, hl]; rfl
end Go.Proofs.Ythanlobfjpjegaa.Abs
