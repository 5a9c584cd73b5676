/- A line in another state: the given function. -/
import Derived.Test.YthanlobfjpjegaaSet
namespace Go.Proofs.Ythanlobfjpjegaa.Abs
open Go Go.RowKit Fn
set_option linter.unusedVariables false
set_option linter.unusedSimpArgs false
set_option linter.unnecessarySimpa false
set_option maxRecDepth 100000
set_option maxHeartbeats 1000000

theorem ref_set_rows (c : Cache) (hc : c.wf) (hfit : Fit c.sets) (ln : Nat) (hln : ln ≤ 4294967295) (st : Int) :
    ∃ v, E ap 28 [.agg [setsT c], .int .u32 (ln : Int), .int .i64 st] v ∧ CacheOf (setR c ln st) v := by
  have hx := tells_cache c
  have hxl := hx.1
  refine E_bodyV (F := f28) rfl rfl rfl (P := CacheOf (setR c ln st)) ?_
  generalize hs0 : (_ : List T) ++ List.replicate _ T.undef = s0
  have e0 : s0.length = 60 ∧ rho s0 (.tmp 0) = .agg [setsT c] ∧ rho s0 (.tmp 1) = .int .u32 (ln : Int) ∧ rho s0 (.tmp 2) = .int .i64 st := by subst hs0; exact ⟨rfl, rfl, rfl, rfl⟩
  clear hs0
  obtain ⟨hl, h0, h1, h2⟩ := e0
  obtain ⟨N1, c16⟩ := (ref_find c hc ln hln).call ap16 (fun g => rfl)
  have q16 := c16 N1 (Nat.le_refl _)
  have hsc : setsT c = .imm false c.sets.length (c.sets.flatMap (fun l => [rowT l])) := rfl
  rw [hsc] at h0 q16
  clear hsc c16
  generalize hX : c.sets.flatMap (fun l => [rowT l]) = xs at *
  have hleaf : allLeaf [T.imm false c.sets.length xs] = true := rfl
  have hcut : cut [T.imm false c.sets.length xs] 0 1 = [T.imm false c.sets.length xs] := rfl
  have hzl : zeroW.enc.length = 19 := rfl
  have hbody : f28.body = f28.body := rfl
  conv at hbody => rhs; simp only [f28]
  simp only [← zero_enc] at hbody
  rw [hbody]
  clear hbody
  have hzb0 : ∀ a, zeroW.enc.set 18 (.int .i64 a) = (aged zeroW a).enc := build_aged
  generalize zeroW.enc = zc at *
  refine W_seqn (W_region (fun k => by simp (decide := true) (disch := first | omega | (simp (decide := true) only [List.length_set, hl]; done) | fail) only [sims, evRegion, evOps, evOp, evG, evR, guardT, callee, opRes, pureR, binT, unT, T.cells, T.leaf, fillT, splice, Nat.reduceLT, Nat.reduceAdd, Nat.reduceMul, Nat.reduceLeDiff, Nat.reduceEqDiff, reduceIte, Int.reduceBEq, Int.reduceBNe, Int.reduceLT, Int.reduceLE, Int.reduceGT, Int.reduceGE, Int.reduceNeg, reduceCtorEq, hps, h0, hleaf]; rfl) ⟨rfl, ?_⟩)
  refine W_abs (fun s => s.s.length = 60 ∧ rho s.s (.tmp 1) = .int .u32 (ln : Int) ∧ rho s.s (.tmp 2) = .int .i64 st ∧ rho s.s (.tmp 3) = .ptr 0 0 ∧ rho s.s (.tmp 6) = .ptr 1 0 ∧ s.g 0 = some [.imm false c.sets.length xs] ∧ s.g 1 = some [.imm true 0 []] ∧ s.nx = 2) ⟨by simp (decide := true) (disch := first | omega | (simp (decide := true) only [List.length_set, hl]; done) | fail) only [sims, evRegion, evOps, evOp, evG, evR, guardT, callee, opRes, pureR, binT, unT, T.cells, T.leaf, fillT, splice, Nat.reduceLT, Nat.reduceAdd, Nat.reduceMul, Nat.reduceLeDiff, Nat.reduceEqDiff, reduceIte, Int.reduceBEq, Int.reduceBNe, Int.reduceLT, Int.reduceLE, Int.reduceGT, Int.reduceGE, Int.reduceNeg, reduceCtorEq, hps, hl], by simp (decide := true) (disch := first | omega | (simp (decide := true) only [List.length_set, hl]; done) | fail) only [sims, evRegion, evOps, evOp, evG, evR, guardT, callee, opRes, pureR, binT, unT, T.cells, T.leaf, fillT, splice, Nat.reduceLT, Nat.reduceAdd, Nat.reduceMul, Nat.reduceLeDiff, Nat.reduceEqDiff, reduceIte, Int.reduceBEq, Int.reduceBNe, Int.reduceLT, Int.reduceLE, Int.reduceGT, Int.reduceGE, Int.reduceNeg, reduceCtorEq, hps, h1], by simp (decide := true) (disch := first | omega | (simp (decide := true) only [List.length_set, hl]; done) | fail) only [sims, evRegion, evOps, evOp, evG, evR, guardT, callee, opRes, pureR, binT, unT, T.cells, T.leaf, fillT, splice, Nat.reduceLT, Nat.reduceAdd, Nat.reduceMul, Nat.reduceLeDiff, Nat.reduceEqDiff, reduceIte, Int.reduceBEq, Int.reduceBNe, Int.reduceLT, Int.reduceLE, Int.reduceGT, Int.reduceGE, Int.reduceNeg, reduceCtorEq, hps, h2], by simp (decide := true) (disch := first | omega | (simp (decide := true) only [List.length_set, hl]; done) | fail) only [sims, evRegion, evOps, evOp, evG, evR, guardT, callee, opRes, pureR, binT, unT, T.cells, T.leaf, fillT, splice, Nat.reduceLT, Nat.reduceAdd, Nat.reduceMul, Nat.reduceLeDiff, Nat.reduceEqDiff, reduceIte, Int.reduceBEq, Int.reduceBNe, Int.reduceLT, Int.reduceLE, Int.reduceGT, Int.reduceGE, Int.reduceNeg, reduceCtorEq, hps], by simp (decide := true) (disch := first | omega | (simp (decide := true) only [List.length_set, hl]; done) | fail) only [sims, evRegion, evOps, evOp, evG, evR, guardT, callee, opRes, pureR, binT, unT, T.cells, T.leaf, fillT, splice, Nat.reduceLT, Nat.reduceAdd, Nat.reduceMul, Nat.reduceLeDiff, Nat.reduceEqDiff, reduceIte, Int.reduceBEq, Int.reduceBNe, Int.reduceLT, Int.reduceLE, Int.reduceGT, Int.reduceGE, Int.reduceNeg, reduceCtorEq, hps], by simp (decide := true) (disch := first | omega | (simp (decide := true) only [List.length_set, hl]; done) | fail) only [sims, evRegion, evOps, evOp, evG, evR, guardT, callee, opRes, pureR, binT, unT, T.cells, T.leaf, fillT, splice, Nat.reduceLT, Nat.reduceAdd, Nat.reduceMul, Nat.reduceLeDiff, Nat.reduceEqDiff, reduceIte, Int.reduceBEq, Int.reduceBNe, Int.reduceLT, Int.reduceLE, Int.reduceGT, Int.reduceGE, Int.reduceNeg, reduceCtorEq, hps], by simp (decide := true) (disch := first | omega | (simp (decide := true) only [List.length_set, hl]; done) | fail) only [sims, evRegion, evOps, evOp, evG, evR, guardT, callee, opRes, pureR, binT, unT, T.cells, T.leaf, fillT, splice, Nat.reduceLT, Nat.reduceAdd, Nat.reduceMul, Nat.reduceLeDiff, Nat.reduceEqDiff, reduceIte, Int.reduceBEq, Int.reduceBNe, Int.reduceLT, Int.reduceLE, Int.reduceGT, Int.reduceGE, Int.reduceNeg, reduceCtorEq, hps], by show (0 + 2 : Nat) = 2; rfl⟩ ?_
  clear hl h0 h1 h2
  rintro ⟨s, g, nx⟩ ⟨hl, h1, h2, h3, h6, g0, g1, hnx⟩
  simp only at hl h1 h2 h3 h6 g0 g1 hnx
  subst hnx
  obtain ⟨N, v, g', nx', hN, c', rfl, hC, hg', hnx'⟩ := copied_run false c.sets xs hx hfit.big.1 hfit.big.2 g (2 + 4)
  have q41 := hN N (Nat.le_refl _)
  have w0 : g' 0 = some [.imm false c.sets.length xs] := by rw [hg' 0 (by omega)]; exact g0
  have w1 : g' 1 = some [.imm true 0 []] := by rw [hg' 1 (by omega)]; exact g1
  have hcl' := copy_leaf hC
  have hcc : cut [c'] 0 1 = [c'] := rfl
  refine W_seqn (W_regionN ⟨N, by simp (decide := true) (disch := first | omega | (simp (decide := true) only [List.length_set, hl]; done) | fail) only [sims, evRegion, evOps, evOp, evG, evR, guardT, callee, opRes, pureR, binT, unT, T.cells, T.leaf, fillT, splice, Nat.reduceLT, Nat.reduceAdd, Nat.reduceMul, Nat.reduceLeDiff, Nat.reduceEqDiff, reduceIte, Int.reduceBEq, Int.reduceBNe, Int.reduceLT, Int.reduceLE, Int.reduceGT, Int.reduceGE, Int.reduceNeg, reduceCtorEq, hps, evI, h3, g0, hcut, ap41, p41, n41, q41, hcl']; rfl⟩ ⟨rfl, ?_⟩)
  refine W_abs (fun s => s.s.length = 60 ∧ rho s.s (.tmp 1) = .int .u32 (ln : Int) ∧ rho s.s (.tmp 2) = .int .i64 st ∧ rho s.s (.tmp 3) = .ptr 0 0 ∧ rho s.s (.tmp 6) = .ptr 1 0 ∧ rho s.s (.tmp 7) = .ptr 4 0 ∧ s.g 0 = some [.imm false c.sets.length xs] ∧ s.g 1 = some [.imm true 0 []] ∧ s.g 4 = some [c'] ∧ CopyAt s.g c' c.sets 6 nx' c.sets.length) ?_ ?_
  · refine ⟨?_, ?_, ?_, ?_, ?_, ?_, ?_, ?_, ?_, hC.mono (Nat.le_refl _) (fun t ht1 ht2 => ?_)⟩
    rotate_right 1
    · simp (decide := true) (disch := first | omega | (simp (decide := true) only [List.length_set, hl]; done) | fail) only [sims, evRegion, evOps, evOp, evG, evR, guardT, callee, opRes, pureR, binT, unT, T.cells, T.leaf, fillT, splice, Nat.reduceLT, Nat.reduceAdd, Nat.reduceMul, Nat.reduceLeDiff, Nat.reduceEqDiff, reduceIte, Int.reduceBEq, Int.reduceBNe, Int.reduceLT, Int.reduceLE, Int.reduceGT, Int.reduceGE, Int.reduceNeg, reduceCtorEq, hps]
    all_goals first | (simp (decide := true) (disch := first | omega | (simp (decide := true) only [List.length_set, hl]; done) | fail) only [sims, evRegion, evOps, evOp, evG, evR, guardT, callee, opRes, pureR, binT, unT, T.cells, T.leaf, fillT, splice, Nat.reduceLT, Nat.reduceAdd, Nat.reduceMul, Nat.reduceLeDiff, Nat.reduceEqDiff, reduceIte, Int.reduceBEq, Int.reduceBNe, Int.reduceLT, Int.reduceLE, Int.reduceGT, Int.reduceGE, Int.reduceNeg, reduceCtorEq, hps, hl, h1, h2, h3, h6, w0, w1]; done) | (simp (decide := true) (disch := first | omega | (simp (decide := true) only [List.length_set, hl]; done) | fail) only [sims, evRegion, evOps, evOp, evG, evR, guardT, callee, opRes, pureR, binT, unT, T.cells, T.leaf, fillT, splice, Nat.reduceLT, Nat.reduceAdd, Nat.reduceMul, Nat.reduceLeDiff, Nat.reduceEqDiff, reduceIte, Int.reduceBEq, Int.reduceBNe, Int.reduceLT, Int.reduceLE, Int.reduceGT, Int.reduceGE, Int.reduceNeg, reduceCtorEq, hps, hl, h1, h2, h3, h6, w0, w1]; rfl)
  clear hl h1 h2 h3 h6 g0 g1 w0 w1 hC hg'
  rintro ⟨s, g, nx⟩ ⟨hl, h1, h2, h3, h6, h7, g0, g1, g4, hC⟩
  simp only at hl h1 h2 h3 h6 h7 g0 g1 g4 hC
  have tail : ∀ st' : St, setR c ln st = c.sets → (st'.s.length = 60 ∧ rho st'.s (.tmp 7) = .ptr 4 0 ∧ rho st'.s (.tmp 6) = .ptr 1 0 ∧ st'.g = g) → W ap (.seq (.region [⟨some 30, .load false 1 (.tmp 7), none⟩, ⟨none, .store 1 (.tmp 6) (.tmp 30), none⟩] []) .ret) st' (fun e s => e = .ret ∧ ∃ v, CacheOf (setR c ln st) v ∧ ∃ u ids, resT s.s s.g f28.res = some u ∧ frz ⟨s.g, s.nx⟩ frzDepth u = some (v, ids)) := by
    rintro ⟨s, g5, nx⟩ hR ⟨hl, h7, h6, hg5⟩
    simp only at hl h7 h6 hg5
    subst hg5
    refine W_seqn (W_region (fun k => by simp (decide := true) (disch := first | omega | (simp (decide := true) only [List.length_set, hl]; done) | fail) only [sims, evRegion, evOps, evOp, evG, evR, guardT, callee, opRes, pureR, binT, unT, T.cells, T.leaf, fillT, splice, Nat.reduceLT, Nat.reduceAdd, Nat.reduceMul, Nat.reduceLeDiff, Nat.reduceEqDiff, reduceIte, Int.reduceBEq, Int.reduceBNe, Int.reduceLT, Int.reduceLE, Int.reduceGT, Int.reduceGE, Int.reduceNeg, reduceCtorEq, hps, h7, h6, g1, g4, hcc, hcl']; rfl) ⟨rfl, W_ret ?_⟩)
    have hC2 : CopyAt (put1 g5 (1, some [c'])) c' c.sets 6 nx' c.sets.length := hC.mono (Nat.le_refl _) (fun t ht1 ht2 => put1_ne (by omega))
    obtain ⟨f, ys, ids, e1, e2⟩ := frz_copy (nx := nx + 2) (d := 8) (fun l h => (hfit.2 l h).2) hC2
    refine ⟨rfl, .agg [.imm f c.sets.length ys], by rw [hR]; exact ⟨f, ys, rfl, e2⟩, (fin_cellV (F := f28) (t := 6) (p := 1) rfl e1 ?_ ?_).2⟩
    · simp (decide := true) (disch := first | omega | (simp (decide := true) only [List.length_set, hl]; done) | fail) only [sims, evRegion, evOps, evOp, evG, evR, guardT, callee, opRes, pureR, binT, unT, T.cells, T.leaf, fillT, splice, Nat.reduceLT, Nat.reduceAdd, Nat.reduceMul, Nat.reduceLeDiff, Nat.reduceEqDiff, reduceIte, Int.reduceBEq, Int.reduceBNe, Int.reduceLT, Int.reduceLE, Int.reduceGT, Int.reduceGE, Int.reduceNeg, reduceCtorEq, h6]
    · simp (decide := true) (disch := first | omega | (simp (decide := true) only [List.length_set, hl]; done) | fail) only [sims, evRegion, evOps, evOp, evG, evR, guardT, callee, opRes, pureR, binT, unT, T.cells, T.leaf, fillT, splice, Nat.reduceLT, Nat.reduceAdd, Nat.reduceMul, Nat.reduceLeDiff, Nat.reduceEqDiff, reduceIte, Int.reduceBEq, Int.reduceBNe, Int.reduceLT, Int.reduceLE, Int.reduceGT, Int.reduceGE, Int.reduceNeg, reduceCtorEq, hps]
  cases hf : find c ln with
  | none =>
    have hR : setR c ln st = c.sets := by unfold setR; rw [hf]
    rw [findT_no c ln hf] at q16
    refine W_seqn (W_regionN ⟨N1, by simp (decide := true) (disch := first | omega | (simp (decide := true) only [List.length_set, hl]; done) | fail) only [sims, evRegion, evOps, evOp, evG, evR, guardT, callee, opRes, pureR, binT, unT, T.cells, T.leaf, fillT, splice, Nat.reduceLT, Nat.reduceAdd, Nat.reduceMul, Nat.reduceLeDiff, Nat.reduceEqDiff, reduceIte, Int.reduceBEq, Int.reduceBNe, Int.reduceLT, Int.reduceLE, Int.reduceGT, Int.reduceGE, Int.reduceNeg, reduceCtorEq, hps, h3, h1, g0, hcut, ap16, p16, n16, q16]; rfl⟩ ⟨rfl, ?_⟩)
    refine W_seq (W_seqn (W_region (fun k => by simp (decide := true) (disch := first | omega | (simp (decide := true) only [List.length_set, hl]; done) | fail) only [sims, evRegion, evOps, evOp, evG, evR, guardT, callee, opRes, pureR, binT, unT, T.cells, T.leaf, fillT, splice, Nat.reduceLT, Nat.reduceAdd, Nat.reduceMul, Nat.reduceLeDiff, Nat.reduceEqDiff, reduceIte, Int.reduceBEq, Int.reduceBNe, Int.reduceLT, Int.reduceLE, Int.reduceGT, Int.reduceGE, Int.reduceNeg, reduceCtorEq, hps, h2]; rfl) ⟨rfl, W_true (by simp (decide := true) (disch := first | omega | (simp (decide := true) only [List.length_set, hl]; done) | fail) only [sims, evRegion, evOps, evOp, evG, evR, guardT, callee, opRes, pureR, binT, unT, T.cells, T.leaf, fillT, splice, Nat.reduceLT, Nat.reduceAdd, Nat.reduceMul, Nat.reduceLeDiff, Nat.reduceEqDiff, reduceIte, Int.reduceBEq, Int.reduceBNe, Int.reduceLT, Int.reduceLE, Int.reduceGT, Int.reduceGE, Int.reduceNeg, reduceCtorEq] <;> rfl) ?_⟩))
    refine (tail _ hR ⟨by simp (decide := true) (disch := first | omega | (simp (decide := true) only [List.length_set, hl]; done) | fail) only [sims, evRegion, evOps, evOp, evG, evR, guardT, callee, opRes, pureR, binT, unT, T.cells, T.leaf, fillT, splice, Nat.reduceLT, Nat.reduceAdd, Nat.reduceMul, Nat.reduceLeDiff, Nat.reduceEqDiff, reduceIte, Int.reduceBEq, Int.reduceBNe, Int.reduceLT, Int.reduceLE, Int.reduceGT, Int.reduceGE, Int.reduceNeg, reduceCtorEq, hps, hl], by simp (decide := true) (disch := first | omega | (simp (decide := true) only [List.length_set, hl]; done) | fail) only [sims, evRegion, evOps, evOp, evG, evR, guardT, callee, opRes, pureR, binT, unT, T.cells, T.leaf, fillT, splice, Nat.reduceLT, Nat.reduceAdd, Nat.reduceMul, Nat.reduceLeDiff, Nat.reduceEqDiff, reduceIte, Int.reduceBEq, Int.reduceBNe, Int.reduceLT, Int.reduceLE, Int.reduceGT, Int.reduceGE, Int.reduceNeg, reduceCtorEq, hps, h7], by simp (decide := true) (disch := first | omega | (simp (decide := true) only [List.length_set, hl]; done) | fail) only [sims, evRegion, evOps, evOp, evG, evR, guardT, callee, opRes, pureR, binT, unT, T.cells, T.leaf, fillT, splice, Nat.reduceLT, Nat.reduceAdd, Nat.reduceMul, Nat.reduceLeDiff, Nat.reduceEqDiff, reduceIte, Int.reduceBEq, Int.reduceBNe, Int.reduceLT, Int.reduceLE, Int.reduceGT, Int.reduceGE, Int.reduceNeg, reduceCtorEq, hps, h6], rfl⟩).mono ?_
    rintro e s ⟨rfl, h⟩
    simp only [reduceCtorEq, false_and, false_or, or_false, exists_false, exists_const, ne_eq, not_false_eq_true, true_and, implies_true]
    exact ⟨rfl, h⟩
  | some k =>
    rw [findT_is c ln k hf] at q16
    refine W_seqn (W_regionN ⟨N1, by simp (decide := true) (disch := first | omega | (simp (decide := true) only [List.length_set, hl]; done) | fail) only [sims, evRegion, evOps, evOp, evG, evR, guardT, callee, opRes, pureR, binT, unT, T.cells, T.leaf, fillT, splice, Nat.reduceLT, Nat.reduceAdd, Nat.reduceMul, Nat.reduceLeDiff, Nat.reduceEqDiff, reduceIte, Int.reduceBEq, Int.reduceBNe, Int.reduceLT, Int.reduceLE, Int.reduceGT, Int.reduceGE, Int.reduceNeg, reduceCtorEq, hps, h3, h1, g0, hcut, ap16, p16, n16, q16]; rfl⟩ ⟨rfl, ?_⟩)
    by_cases hb1 : st < 0
    · have d1 : decide (st < 0) = true := decide_eq_true hb1
      have hR : setR c ln st = c.sets := by unfold setR; rw [hf]; exact if_pos (.inl hb1)
      refine W_seq (W_seqn (W_region (fun k => by simp (decide := true) (disch := first | omega | (simp (decide := true) only [List.length_set, hl]; done) | fail) only [sims, evRegion, evOps, evOp, evG, evR, guardT, callee, opRes, pureR, binT, unT, T.cells, T.leaf, fillT, splice, Nat.reduceLT, Nat.reduceAdd, Nat.reduceMul, Nat.reduceLeDiff, Nat.reduceEqDiff, reduceIte, Int.reduceBEq, Int.reduceBNe, Int.reduceLT, Int.reduceLE, Int.reduceGT, Int.reduceGE, Int.reduceNeg, reduceCtorEq, hps, h2, d1]; rfl) ⟨rfl, W_true (by simp (decide := true) (disch := first | omega | (simp (decide := true) only [List.length_set, hl]; done) | fail) only [sims, evRegion, evOps, evOp, evG, evR, guardT, callee, opRes, pureR, binT, unT, T.cells, T.leaf, fillT, splice, Nat.reduceLT, Nat.reduceAdd, Nat.reduceMul, Nat.reduceLeDiff, Nat.reduceEqDiff, reduceIte, Int.reduceBEq, Int.reduceBNe, Int.reduceLT, Int.reduceLE, Int.reduceGT, Int.reduceGE, Int.reduceNeg, reduceCtorEq] <;> rfl) ?_⟩))
      refine (tail _ hR ⟨by simp (decide := true) (disch := first | omega | (simp (decide := true) only [List.length_set, hl]; done) | fail) only [sims, evRegion, evOps, evOp, evG, evR, guardT, callee, opRes, pureR, binT, unT, T.cells, T.leaf, fillT, splice, Nat.reduceLT, Nat.reduceAdd, Nat.reduceMul, Nat.reduceLeDiff, Nat.reduceEqDiff, reduceIte, Int.reduceBEq, Int.reduceBNe, Int.reduceLT, Int.reduceLE, Int.reduceGT, Int.reduceGE, Int.reduceNeg, reduceCtorEq, hps, hl], by simp (decide := true) (disch := first | omega | (simp (decide := true) only [List.length_set, hl]; done) | fail) only [sims, evRegion, evOps, evOp, evG, evR, guardT, callee, opRes, pureR, binT, unT, T.cells, T.leaf, fillT, splice, Nat.reduceLT, Nat.reduceAdd, Nat.reduceMul, Nat.reduceLeDiff, Nat.reduceEqDiff, reduceIte, Int.reduceBEq, Int.reduceBNe, Int.reduceLT, Int.reduceLE, Int.reduceGT, Int.reduceGE, Int.reduceNeg, reduceCtorEq, hps, h7], by simp (decide := true) (disch := first | omega | (simp (decide := true) only [List.length_set, hl]; done) | fail) only [sims, evRegion, evOps, evOp, evG, evR, guardT, callee, opRes, pureR, binT, unT, T.cells, T.leaf, fillT, splice, Nat.reduceLT, Nat.reduceAdd, Nat.reduceMul, Nat.reduceLeDiff, Nat.reduceEqDiff, reduceIte, Int.reduceBEq, Int.reduceBNe, Int.reduceLT, Int.reduceLE, Int.reduceGT, Int.reduceGE, Int.reduceNeg, reduceCtorEq, hps, h6], rfl⟩).mono ?_
      rintro e s ⟨rfl, h⟩
      simp only [reduceCtorEq, false_and, false_or, or_false, exists_false, exists_const, ne_eq, not_false_eq_true, true_and, implies_true]
      exact ⟨rfl, h⟩
    have d1 : decide (st < 0) = false := decide_eq_false hb1
    by_cases hb2 : st > 3
    · have d2 : decide (st > 3) = true := decide_eq_true hb2
      have hR : setR c ln st = c.sets := by unfold setR; rw [hf]; exact if_pos (.inr hb2)
      refine W_seq (W_seqn (W_region (fun k => by simp (decide := true) (disch := first | omega | (simp (decide := true) only [List.length_set, hl]; done) | fail) only [sims, evRegion, evOps, evOp, evG, evR, guardT, callee, opRes, pureR, binT, unT, T.cells, T.leaf, fillT, splice, Nat.reduceLT, Nat.reduceAdd, Nat.reduceMul, Nat.reduceLeDiff, Nat.reduceEqDiff, reduceIte, Int.reduceBEq, Int.reduceBNe, Int.reduceLT, Int.reduceLE, Int.reduceGT, Int.reduceGE, Int.reduceNeg, reduceCtorEq, hps, h2, d1, d2]; rfl) ⟨rfl, W_true (by simp (decide := true) (disch := first | omega | (simp (decide := true) only [List.length_set, hl]; done) | fail) only [sims, evRegion, evOps, evOp, evG, evR, guardT, callee, opRes, pureR, binT, unT, T.cells, T.leaf, fillT, splice, Nat.reduceLT, Nat.reduceAdd, Nat.reduceMul, Nat.reduceLeDiff, Nat.reduceEqDiff, reduceIte, Int.reduceBEq, Int.reduceBNe, Int.reduceLT, Int.reduceLE, Int.reduceGT, Int.reduceGE, Int.reduceNeg, reduceCtorEq] <;> rfl) ?_⟩))
      refine (tail _ hR ⟨by simp (decide := true) (disch := first | omega | (simp (decide := true) only [List.length_set, hl]; done) | fail) only [sims, evRegion, evOps, evOp, evG, evR, guardT, callee, opRes, pureR, binT, unT, T.cells, T.leaf, fillT, splice, Nat.reduceLT, Nat.reduceAdd, Nat.reduceMul, Nat.reduceLeDiff, Nat.reduceEqDiff, reduceIte, Int.reduceBEq, Int.reduceBNe, Int.reduceLT, Int.reduceLE, Int.reduceGT, Int.reduceGE, Int.reduceNeg, reduceCtorEq, hps, hl], by simp (decide := true) (disch := first | omega | (simp (decide := true) only [List.length_set, hl]; done) | fail) only [sims, evRegion, evOps, evOp, evG, evR, guardT, callee, opRes, pureR, binT, unT, T.cells, T.leaf, fillT, splice, Nat.reduceLT, Nat.reduceAdd, Nat.reduceMul, Nat.reduceLeDiff, Nat.reduceEqDiff, reduceIte, Int.reduceBEq, Int.reduceBNe, Int.reduceLT, Int.reduceLE, Int.reduceGT, Int.reduceGE, Int.reduceNeg, reduceCtorEq, hps, h7], by simp (decide := true) (disch := first | omega | (simp (decide := true) only [List.length_set, hl]; done) | fail) only [sims, evRegion, evOps, evOp, evG, evR, guardT, callee, opRes, pureR, binT, unT, T.cells, T.leaf, fillT, splice, Nat.reduceLT, Nat.reduceAdd, Nat.reduceMul, Nat.reduceLeDiff, Nat.reduceEqDiff, reduceIte, Int.reduceBEq, Int.reduceBNe, Int.reduceLT, Int.reduceLE, Int.reduceGT, Int.reduceGE, Int.reduceNeg, reduceCtorEq, hps, h6], rfl⟩).mono ?_
      rintro e s ⟨rfl, h⟩
      simp only [reduceCtorEq, false_and, false_or, or_false, exists_false, exists_const, ne_eq, not_false_eq_true, true_and, implies_true]
      exact ⟨rfl, h⟩
    have d2 : decide (st > 3) = false := decide_eq_false hb2
    have hs : 0 ≤ st ∧ st ≤ 3 := by omega
    have hR : setR c ln st = c.sets.set (seti c ln) ((row c (seti c ln)).set k (setW (wayN (row c (seti c ln)) k) st)) := by unfold setR; rw [hf]; exact if_neg (by omega)
    rw [hR]
    obtain ⟨hil, hkl⟩ := find_lt hf
    have hrow := fit_row hfit _ hil
    obtain ⟨f0, hxi⟩ := hx.2 _ hil
    rw [← row_eq c _ hil] at hxi
    clear tail hR
    generalize hi : seti c ln = i at *
    generalize hL : row c i = l at *
    have hRi : c.sets[i] = l := by rw [← hL, row_eq c i hil]
    have hwk := wayN_wf hrow.2 hkl
    have hst1 := set_st l hrow.2 k hkl st hs
    have hl1w := mem_setw hrow.2 k (stW_wf hwk hs)
    have hwh := set_whole (l.set k (stW (wayN l k) st)) hl1w k (by rw [List.length_set]; exact hkl) (aged zeroW (wayN l k).age) (aged_wf zeroW_wf hwk.2.2.2)
    rw [List.set_set, hst1] at hwh
    have hag := age_at l hrow.2 k hkl
    have hzb := hzb0 (wayN l k).age
    have hzal : (aged zeroW (wayN l k).age).enc.length = 19 := rfl
    have hzalf : allLeaf (aged zeroW (wayN l k).age).enc = true := leaf_ints _ (way_ints _)
    have hcl := enc_len l hrow.2
    have hb : i * 1 + 1 ≤ c.sets.length := by omega
    have hb2 : k * 19 + 1 ≤ l.length * 19 := by omega
    have hb3 : k * 19 + 18 + 1 ≤ l.length * 19 := by omega
    have hb4 : k * 19 + 19 ≤ l.length * 19 := by omega
    obtain ⟨A, els, bf, rfl, gA, hA0, hel, hrows⟩ := rows_copyP hC (by omega)
    obtain ⟨hei, gB, hB0, hBA, hBne⟩ := hrows i hil
    have gB' : g (bf i) = some (l.flatMap Way.enc) := by rw [gB, hRi]
    have hei2 : els[i * 1]? = some (.own (bf i) 0 l.length 19) := by rw [Nat.mul_one, hei, hRi]
    generalize hza : (aged zeroW (wayN l k).age).enc = za at *
    generalize hwsE : l.flatMap Way.enc = ws at *
    refine W_seqn (W_seqn (W_region (fun k => by simp (decide := true) (disch := first | omega | (simp (decide := true) only [List.length_set, hl]; done) | fail) only [sims, evRegion, evOps, evOp, evG, evR, guardT, callee, opRes, pureR, binT, unT, T.cells, T.leaf, fillT, splice, Nat.reduceLT, Nat.reduceAdd, Nat.reduceMul, Nat.reduceLeDiff, Nat.reduceEqDiff, reduceIte, Int.reduceBEq, Int.reduceBNe, Int.reduceLT, Int.reduceLE, Int.reduceGT, Int.reduceGE, Int.reduceNeg, reduceCtorEq, hps, h2, d1, d2]; rfl) ⟨rfl, W_false (by simp (decide := true) (disch := first | omega | (simp (decide := true) only [List.length_set, hl]; done) | fail) only [sims, evRegion, evOps, evOp, evG, evR, guardT, callee, opRes, pureR, binT, unT, T.cells, T.leaf, fillT, splice, Nat.reduceLT, Nat.reduceAdd, Nat.reduceMul, Nat.reduceLeDiff, Nat.reduceEqDiff, reduceIte, Int.reduceBEq, Int.reduceBNe, Int.reduceLT, Int.reduceLE, Int.reduceGT, Int.reduceGE, Int.reduceNeg, reduceCtorEq] <;> rfl) (W_skip ⟨rfl, ?_⟩)⟩))
    have last : ∀ fl : List Way, (∀ w ∈ fl, w.wf) → fl.length = l.length → ∀ st' : St, (st'.s.length = 60 ∧ rho st'.s (.tmp 6) = .ptr 1 0 ∧ rho st'.s (.tmp 7) = .ptr 4 0 ∧ (∀ t, t ≠ bf i → st'.g t = g t) ∧ st'.g (bf i) = some (fl.flatMap Way.enc)) → W ap (.seq (.region [⟨some 59, .load false 1 (.tmp 7), none⟩, ⟨none, .store 1 (.tmp 6) (.tmp 59), none⟩] []) .ret) st' (fun e s => e.leaves = true ∧ ∃ v, CacheOf (c.sets.set i fl) v ∧ ∃ u ids, resT s.s s.g f28.res = some u ∧ frz ⟨s.g, s.nx⟩ frzDepth u = some (v, ids)) := by
      rintro fl hflw hfll ⟨s, g5, nx⟩ ⟨hl, h6, h7, hg5, gb⟩
      simp only at hl h6 h7 hg5 gb
      have k1 := hg5 1 (by omega)
      have k4 := hg5 4 (by omega)
      have kA := hg5 A (by omega)
      rw [g1] at k1
      rw [g4] at k4
      rw [gA] at kA
      refine W_seqn (W_region (fun k => by simp (decide := true) (disch := first | omega | (simp (decide := true) only [List.length_set, hl]; done) | fail) only [sims, evRegion, evOps, evOp, evG, evR, guardT, callee, opRes, pureR, binT, unT, T.cells, T.leaf, fillT, splice, Nat.reduceLT, Nat.reduceAdd, Nat.reduceMul, Nat.reduceLeDiff, Nat.reduceEqDiff, reduceIte, Int.reduceBEq, Int.reduceBNe, Int.reduceLT, Int.reduceLE, Int.reduceGT, Int.reduceGE, Int.reduceNeg, reduceCtorEq, hps, h6, h7, k1, k4, hcc]; rfl) ⟨rfl, W_ret ?_⟩)
      have hRA : RowsAtP (fun _ => True) (put1 g5 (1, some [.own A 0 c.sets.length 1])) els (c.sets.set i fl) := by
        refine rowsAt_set (g := g) (bf := bf) hel (fun j hj => ?_) i hil fl (by rw [hfll, hRi]) (by rw [put1_ne (by omega)]; exact gb) (fun j hj hji => ?_)
        · obtain ⟨a1, a2, a3, a4, a5⟩ := hrows j hj
          exact ⟨a1, a2, trivial, a5⟩
        · have h1 := (hrows j hj).2.2.1
          rw [put1_ne (by omega)]
          exact hg5 _ (fun e => hBne j hj (fun e => hji e.symm) e.symm)
      have hL2 : ∀ r ∈ c.sets.set i fl, ∀ w ∈ r, w.wf := fun r hr => by
        rcases List.mem_or_eq_of_mem_set hr with h | rfl
        · exact (hfit.2 r h).2
        · exact hflw
      obtain ⟨ids, e1, _⟩ := frzP_rows (nx := nx + 2) (d := 8) (show c.sets.length = (c.sets.set i fl).length by rw [List.length_set]) hL2 (show put1 g5 (1, some [.own A 0 c.sets.length 1]) A = some els by rw [put1_ne (by omega)]; exact kA) trivial hRA
      refine ⟨rfl, .agg [.imm false c.sets.length (rowsT (c.sets.set i fl))], ⟨false, _, by rw [List.length_set], tells_rows _⟩, (fin_cellV (F := f28) (t := 6) (p := 1) rfl e1 ?_ ?_).2⟩
      · simp (decide := true) (disch := first | omega | (simp (decide := true) only [List.length_set, hl]; done) | fail) only [sims, evRegion, evOps, evOp, evG, evR, guardT, callee, opRes, pureR, binT, unT, T.cells, T.leaf, fillT, splice, Nat.reduceLT, Nat.reduceAdd, Nat.reduceMul, Nat.reduceLeDiff, Nat.reduceEqDiff, reduceIte, Int.reduceBEq, Int.reduceBNe, Int.reduceLT, Int.reduceLE, Int.reduceGT, Int.reduceGE, Int.reduceNeg, reduceCtorEq, h6]
      · simp (decide := true) (disch := first | omega | (simp (decide := true) only [List.length_set, hl]; done) | fail) only [sims, evRegion, evOps, evOp, evG, evR, guardT, callee, opRes, pureR, binT, unT, T.cells, T.leaf, fillT, splice, Nat.reduceLT, Nat.reduceAdd, Nat.reduceMul, Nat.reduceLeDiff, Nat.reduceEqDiff, reduceIte, Int.reduceBEq, Int.reduceBNe, Int.reduceLT, Int.reduceLE, Int.reduceGT, Int.reduceGE, Int.reduceNeg, reduceCtorEq, hps]
    refine W_seqn (W_region (fun k => by simp (decide := true) (disch := first | omega | (simp (decide := true) only [List.length_set, hl]; done) | fail) only [sims, evRegion, evOps, evOp, evG, evR, guardT, callee, opRes, pureR, binT, unT, T.cells, T.leaf, fillT, splice, Nat.reduceLT, Nat.reduceAdd, Nat.reduceMul, Nat.reduceLeDiff, Nat.reduceEqDiff, reduceIte, Int.reduceBEq, Int.reduceBNe, Int.reduceLT, Int.reduceLE, Int.reduceGT, Int.reduceGE, Int.reduceNeg, reduceCtorEq, hps, h7, h2, g4, gA, gB', hel, hil, hb, hei2, hkl, hcl, hb2]; rfl) ⟨rfl, ?_⟩)
    by_cases hz : st = 0
    · have e1 : (st == 0) = true := by simp [hz]
      refine W_seqn (W_seqn (W_region (fun k => by simp (decide := true) (disch := first | omega | (simp (decide := true) only [List.length_set, hl]; done) | fail) only [sims, evRegion, evOps, evOp, evG, evR, guardT, callee, opRes, pureR, binT, unT, T.cells, T.leaf, fillT, splice, Nat.reduceLT, Nat.reduceAdd, Nat.reduceMul, Nat.reduceLeDiff, Nat.reduceEqDiff, reduceIte, Int.reduceBEq, Int.reduceBNe, Int.reduceLT, Int.reduceLE, Int.reduceGT, Int.reduceGE, Int.reduceNeg, reduceCtorEq, hps, h2, e1]; rfl) ⟨rfl, W_true (by simp (decide := true) (disch := first | omega | (simp (decide := true) only [List.length_set, hl]; done) | fail) only [sims, evRegion, evOps, evOp, evG, evR, guardT, callee, opRes, pureR, binT, unT, T.cells, T.leaf, fillT, splice, Nat.reduceLT, Nat.reduceAdd, Nat.reduceMul, Nat.reduceLeDiff, Nat.reduceEqDiff, reduceIte, Int.reduceBEq, Int.reduceBNe, Int.reduceLT, Int.reduceLE, Int.reduceGT, Int.reduceGE, Int.reduceNeg, reduceCtorEq] <;> rfl) ?_⟩))
      refine W_region (fun k => by simp (decide := true) (disch := first | omega | (simp (decide := true) only [List.length_set, hl]; done) | fail) only [sims, evRegion, evOps, evOp, evG, evR, guardT, callee, opRes, pureR, binT, unT, T.cells, T.leaf, fillT, splice, Nat.reduceLT, Nat.reduceAdd, Nat.reduceMul, Nat.reduceLeDiff, Nat.reduceEqDiff, reduceIte, Int.reduceBEq, Int.reduceBNe, Int.reduceLT, Int.reduceLE, Int.reduceGT, Int.reduceGE, Int.reduceNeg, reduceCtorEq, hps, h7, h3, g0, g4, gA, gB', hel, hxl, hxi, hil, hb, hei2, hkl, hcl, hb3, hb4, hag, hzl, hzb, hzal, hzalf]; rfl) ⟨rfl, ?_⟩
      have hfw : setW (wayN l k) st = aged zeroW (wayN l k).age := by unfold setW; rw [if_pos hz]
      rw [hfw]
      refine last (l.set k (aged zeroW (wayN l k).age)) (mem_setw hrow.2 k (aged_wf zeroW_wf hwk.2.2.2)) (by rw [List.length_set]) _ ⟨?_, ?_, ?_, fun t ht => ?_, ?_⟩
      all_goals simp (decide := true) (disch := first | omega | (simp (decide := true) only [List.length_set, hl]; done) | fail) only [sims, evRegion, evOps, evOp, evG, evR, guardT, callee, opRes, pureR, binT, unT, T.cells, T.leaf, fillT, splice, Nat.reduceLT, Nat.reduceAdd, Nat.reduceMul, Nat.reduceLeDiff, Nat.reduceEqDiff, reduceIte, Int.reduceBEq, Int.reduceBNe, Int.reduceLT, Int.reduceLE, Int.reduceGT, Int.reduceGE, Int.reduceNeg, reduceCtorEq, hps, hl, h6, h7, hwh]
    · have e1 : (st == 0) = false := beq_eq_false_iff_ne.mpr hz
      refine W_seqn (W_seqn (W_region (fun k => by simp (decide := true) (disch := first | omega | (simp (decide := true) only [List.length_set, hl]; done) | fail) only [sims, evRegion, evOps, evOp, evG, evR, guardT, callee, opRes, pureR, binT, unT, T.cells, T.leaf, fillT, splice, Nat.reduceLT, Nat.reduceAdd, Nat.reduceMul, Nat.reduceLeDiff, Nat.reduceEqDiff, reduceIte, Int.reduceBEq, Int.reduceBNe, Int.reduceLT, Int.reduceLE, Int.reduceGT, Int.reduceGE, Int.reduceNeg, reduceCtorEq, hps, h2, e1]; rfl) ⟨rfl, W_false (by simp (decide := true) (disch := first | omega | (simp (decide := true) only [List.length_set, hl]; done) | fail) only [sims, evRegion, evOps, evOp, evG, evR, guardT, callee, opRes, pureR, binT, unT, T.cells, T.leaf, fillT, splice, Nat.reduceLT, Nat.reduceAdd, Nat.reduceMul, Nat.reduceLeDiff, Nat.reduceEqDiff, reduceIte, Int.reduceBEq, Int.reduceBNe, Int.reduceLT, Int.reduceLE, Int.reduceGT, Int.reduceGE, Int.reduceNeg, reduceCtorEq] <;> rfl) (W_skip ⟨rfl, ?_⟩)⟩))
      have hfw : setW (wayN l k) st = stW (wayN l k) st := by unfold setW; rw [if_neg hz]
      rw [hfw]
      refine last (l.set k (stW (wayN l k) st)) hl1w (by rw [List.length_set]) _ ⟨?_, ?_, ?_, fun t ht => ?_, ?_⟩
      all_goals simp (decide := true) (disch := first | omega | (simp (decide := true) only [List.length_set, hl]; done) | fail) only [sims, evRegion, evOps, evOp, evG, evR, guardT, callee, opRes, pureR, binT, unT, T.cells, T.leaf, fillT, splice, Nat.reduceLT, Nat.reduceAdd, Nat.reduceMul, Nat.reduceLeDiff, Nat.reduceEqDiff, reduceIte, Int.reduceBEq, Int.reduceBNe, Int.reduceLT, Int.reduceLE, Int.reduceGT, Int.reduceGE, Int.reduceNeg, reduceCtorEq, hps, hl, h6, h7, hst1]
end Go.Proofs.Ythanlobfjpjegaa.Abs
