/- What threads see in an order: the law's walk. -/
import Derived.Test.YtmihmodlilebbaaRefRun
namespace Go.Proofs.Ytmihmodlilebbaa.Abs
open Go Go.RowKit Fn
set_option linter.unusedVariables false
set_option linter.unusedSimpArgs false
set_option linter.unnecessarySimpa false
set_option maxRecDepth 100000
set_option maxHeartbeats 1000000

theorem ap7 : ap 7 = some f7 := rfl
theorem p7 : f7.pure = true := rfl
theorem n7 : f7.nat = none := rfl
theorem ap10 : ap 10 = some f10 := rfl
theorem p10 : f10.pure = true := rfl
theorem n10 : f10.nat = none := rfl
theorem runs_out (p : List (List Op)) (locs : Int) (ord : List Int) (hord : ord.length ≤ 200) (oc : List T) (hoc : ∀ i (h : i < ord.length), oc[i * 1]? = some (.int .i64 ord[i])) (hol : oc.length = ord.length) :
    ∃ S M, S.length ≤ 1000 ∧ (∀ l ∈ S, l.length ≤ 1000) ∧ M.length ≤ 1000 ∧ ∃ v u, E ap 11 [pT p, .int .i64 locs, .imm false ord.length oc] v ∧ OutS S M v ∧ E ap 12 [pT p, .int .i64 locs, .imm false ord.length oc] u ∧ OutS S M u := by
  by_cases hR : RightP p
  · obtain ⟨v, hv, ov⟩ := bus_run p hR locs ord hord oc hoc hol
    obtain ⟨u, hu, ou⟩ := ref_run p hR locs ord hord oc hoc hol
    have hG := good_run p ord _ (good_begin p locs)
    refine ⟨_, _, ?_, ?_, ?_, v, u, hv, ov, hu, ou⟩
    · have := hG.2.2.1; have := hR.1; omega
    · intro l hl
      obtain ⟨j, hj, rfl⟩ := List.getElem_of_mem hl
      have hjp : j < p.length := by rw [← hG.2.2.1]; exact hj
      obtain ⟨a1, a2⟩ := hG.2.2.2 j hjp
      have h8 := hR.2 j hjp
      have e : seenN (runS p (beginS p locs) ord) j = (runS p (beginS p locs) ord).seen[j] := by unfold seenN; rw [List.getElem?_eq_getElem hj]; rfl
      rw [e] at a2
      rw [thr_eq hjp] at a1
      omega
    · have := hG.1; omega
  · exact ⟨[], [], by simp, fun l h => by simp at h, by simp, _, _, bus_run_bad p hR locs _, out_nil, ref_run_bad p hR locs _, out_nil⟩
theorem Pure.SeqcRuns (a0 : List (List Op)) (a1 : Int) (a2 : List Int) (h0 : (a0.length ≤ maxLen ∧ ∀ y0 ∈ a0, (y0.length ≤ maxLen ∧ ∀ y1 ∈ y0, Op.wf y1))) (h1 : (Lit.int .i64 a1).wf = true) (h2 : (a2.length ≤ maxLen ∧ ∀ y0 ∈ a2, (Lit.int .i64 y0).wf = true)) :
    ∃ k, evF ap k 4 [T.imm false a0.length (a0.flatMap (fun l => [T.imm false l.length (l.flatMap Op.enc)])), T.int .i64 a1, T.imm false a2.length (a2.flatMap (fun n => [T.int .i64 n]))] = some (.bool true) := by
  refine E.get ?_
  rw [show T.imm false a0.length (a0.flatMap (fun l => [T.imm false l.length (l.flatMap Op.enc)])) = pT a0 from rfl]
  have hol : (a2.flatMap (fun n => [T.int .i64 n])).length = a2.length := by rw [flat_len (f := fun n => [T.int .i64 n]) (k := 1) (fun _ => rfl), Nat.mul_one]
  have hoc : ∀ i (h : i < a2.length), (a2.flatMap (fun n => [T.int .i64 n]))[i * 1]? = some (.int .i64 a2[i]) := fun i h => by
    have := flat_get (f := fun n => [T.int .i64 n]) (k := 1) (fun _ => rfl) a2 i h 0 (by omega)
    rw [Nat.add_zero] at this
    rw [this]; rfl
  generalize a2.flatMap (fun n => [T.int .i64 n]) = oc at *
  refine E_body (F := f4) rfl rfl rfl ?_
  generalize hs0 : (_ : List T) ++ List.replicate _ T.undef = s0
  have e0 : s0.length = 45 ∧ rho s0 (.tmp 0) = pT a0 ∧ rho s0 (.tmp 1) = .int .i64 a1 ∧ rho s0 (.tmp 2) = .imm false a2.length oc := by subst hs0; exact ⟨rfl, rfl, rfl, rfl⟩
  clear hs0
  obtain ⟨hl, e0, e1, e2⟩ := e0
  obtain ⟨v6, hv6, b, rfl, _⟩ := law_light a0 8
  obtain ⟨N6, c6⟩ := hv6.call ap6 (fun g => rfl)
  obtain ⟨N7, c7⟩ := (E_of awake_runs).call ap7 (fun g => rfl)
  have q6 := c6 N6 (Nat.le_refl _)
  have q7 := c7 N7 (Nat.le_refl _)
  refine W_seqn (W_region (fun k => by simp (decide := true) (disch := first | omega | (simp (decide := true) only [List.length_set, hl]; done) | fail) only [sims, evRegion, evOps, evOp, evG, evR, guardT, callee, opRes, pureR, binT, unT, T.cells, T.leaf, fillT, splice, Nat.reduceLT, Nat.reduceAdd, Nat.reduceMul, Nat.reduceLeDiff, Nat.reduceEqDiff, reduceIte, Int.reduceBEq, Int.reduceBNe, Int.reduceLT, Int.reduceLE, Int.reduceGT, Int.reduceGE, Int.reduceNeg, reduceCtorEq]; rfl) ⟨rfl, ?_⟩)
  cases b with
  | false =>
    refine W_seq (W_seqn (W_regionN ⟨N6, by simp (decide := true) (disch := first | omega | (simp (decide := true) only [List.length_set, hl]; done) | fail) only [sims, evRegion, evOps, evOp, evG, evR, guardT, callee, opRes, pureR, binT, unT, T.cells, T.leaf, fillT, splice, Nat.reduceLT, Nat.reduceAdd, Nat.reduceMul, Nat.reduceLeDiff, Nat.reduceEqDiff, reduceIte, Int.reduceBEq, Int.reduceBNe, Int.reduceLT, Int.reduceLE, Int.reduceGT, Int.reduceGE, Int.reduceNeg, reduceCtorEq, e0, ap6, p6, n6, q6]; rfl⟩ ⟨rfl, W_true (by simp (decide := true) (disch := first | omega | (simp (decide := true) only [List.length_set, hl]; done) | fail) only [sims, evRegion, evOps, evOp, evG, evR, guardT, callee, opRes, pureR, binT, unT, T.cells, T.leaf, fillT, splice, Nat.reduceLT, Nat.reduceAdd, Nat.reduceMul, Nat.reduceLeDiff, Nat.reduceEqDiff, reduceIte, Int.reduceBEq, Int.reduceBNe, Int.reduceLT, Int.reduceLE, Int.reduceGT, Int.reduceGE, Int.reduceNeg, reduceCtorEq] <;> rfl) ?_⟩))
    refine W_seqn (W_regionN ⟨N7, by simp (decide := true) (disch := first | omega | (simp (decide := true) only [List.length_set, hl]; done) | fail) only [sims, evRegion, evOps, evOp, evG, evR, guardT, callee, opRes, pureR, binT, unT, T.cells, T.leaf, fillT, splice, Nat.reduceLT, Nat.reduceAdd, Nat.reduceMul, Nat.reduceLeDiff, Nat.reduceEqDiff, reduceIte, Int.reduceBEq, Int.reduceBNe, Int.reduceLT, Int.reduceLE, Int.reduceGT, Int.reduceGE, Int.reduceNeg, reduceCtorEq, ap7, p7, n7, q7]; rfl⟩ ⟨rfl, W_ret ?_⟩)
    simp only [reduceCtorEq, false_and, false_or, or_false, exists_false, exists_const, ne_eq, not_false_eq_true, true_and, implies_true]
    refine fin_of (F := f4) rfl (fun _ => rfl) ?_
    simp (decide := true) (disch := first | omega | (simp (decide := true) only [List.length_set, hl]; done) | fail) only [sims, evRegion, evOps, evOp, evG, evR, guardT, callee, opRes, pureR, binT, unT, T.cells, T.leaf, fillT, splice, Nat.reduceLT, Nat.reduceAdd, Nat.reduceMul, Nat.reduceLeDiff, Nat.reduceEqDiff, reduceIte, Int.reduceBEq, Int.reduceBNe, Int.reduceLT, Int.reduceLE, Int.reduceGT, Int.reduceGE, Int.reduceNeg, reduceCtorEq]
  | true =>
    by_cases hbig : (a2.length : Int) > 200
    · have d1 : decide ((a2.length : Int) > 200) = true := decide_eq_true hbig
      refine W_seq (W_seqn (W_regionN ⟨N6, by simp (decide := true) (disch := first | omega | (simp (decide := true) only [List.length_set, hl]; done) | fail) only [sims, evRegion, evOps, evOp, evG, evR, guardT, callee, opRes, pureR, binT, unT, T.cells, T.leaf, fillT, splice, Nat.reduceLT, Nat.reduceAdd, Nat.reduceMul, Nat.reduceLeDiff, Nat.reduceEqDiff, reduceIte, Int.reduceBEq, Int.reduceBNe, Int.reduceLT, Int.reduceLE, Int.reduceGT, Int.reduceGE, Int.reduceNeg, reduceCtorEq, e0, e2, ap6, p6, n6, q6, d1]; rfl⟩ ⟨rfl, W_true (by simp (decide := true) (disch := first | omega | (simp (decide := true) only [List.length_set, hl]; done) | fail) only [sims, evRegion, evOps, evOp, evG, evR, guardT, callee, opRes, pureR, binT, unT, T.cells, T.leaf, fillT, splice, Nat.reduceLT, Nat.reduceAdd, Nat.reduceMul, Nat.reduceLeDiff, Nat.reduceEqDiff, reduceIte, Int.reduceBEq, Int.reduceBNe, Int.reduceLT, Int.reduceLE, Int.reduceGT, Int.reduceGE, Int.reduceNeg, reduceCtorEq] <;> rfl) ?_⟩))
      refine W_seqn (W_regionN ⟨N7, by simp (decide := true) (disch := first | omega | (simp (decide := true) only [List.length_set, hl]; done) | fail) only [sims, evRegion, evOps, evOp, evG, evR, guardT, callee, opRes, pureR, binT, unT, T.cells, T.leaf, fillT, splice, Nat.reduceLT, Nat.reduceAdd, Nat.reduceMul, Nat.reduceLeDiff, Nat.reduceEqDiff, reduceIte, Int.reduceBEq, Int.reduceBNe, Int.reduceLT, Int.reduceLE, Int.reduceGT, Int.reduceGE, Int.reduceNeg, reduceCtorEq, ap7, p7, n7, q7]; rfl⟩ ⟨rfl, W_ret ?_⟩)
      simp only [reduceCtorEq, false_and, false_or, or_false, exists_false, exists_const, ne_eq, not_false_eq_true, true_and, implies_true]
      refine fin_of (F := f4) rfl (fun _ => rfl) ?_
      simp (decide := true) (disch := first | omega | (simp (decide := true) only [List.length_set, hl]; done) | fail) only [sims, evRegion, evOps, evOp, evG, evR, guardT, callee, opRes, pureR, binT, unT, T.cells, T.leaf, fillT, splice, Nat.reduceLT, Nat.reduceAdd, Nat.reduceMul, Nat.reduceLeDiff, Nat.reduceEqDiff, reduceIte, Int.reduceBEq, Int.reduceBNe, Int.reduceLT, Int.reduceLE, Int.reduceGT, Int.reduceGE, Int.reduceNeg, reduceCtorEq]
    have d1 : decide ((a2.length : Int) > 200) = false := decide_eq_false hbig
    obtain ⟨S, M, hS, hSl, hM, v, u, hv, ⟨f, cs, f', rfl, hcs⟩, hu, ⟨k, ds, k', rfl, hds⟩⟩ := runs_out a0 a1 a2 (by omega) oc hoc hol
    obtain ⟨N1, c11⟩ := hv.call ap11 (fun g => rfl)
    obtain ⟨N2, c12⟩ := hu.call ap12 (fun g => rfl)
    obtain ⟨N3, c10⟩ := (same_seen f k S cs ds hcs hds hS hSl).call ap10 (fun g => rfl)
    obtain ⟨N4, c13⟩ := (same_words f' k' M hM).call ap13 (fun g => rfl)
    generalize hMx : N7 + N1 + N2 + N3 + N4 = X
    have r7 := c7 X (by omega)
    have r11 := c11 X (by omega)
    have r12 := c12 X (by omega)
    have r10 := c10 X (by omega)
    have r13 := c13 X (by omega)
    refine W_seqn (W_seqn (W_regionN ⟨N6, by simp (decide := true) (disch := first | omega | (simp (decide := true) only [List.length_set, hl]; done) | fail) only [sims, evRegion, evOps, evOp, evG, evR, guardT, callee, opRes, pureR, binT, unT, T.cells, T.leaf, fillT, splice, Nat.reduceLT, Nat.reduceAdd, Nat.reduceMul, Nat.reduceLeDiff, Nat.reduceEqDiff, reduceIte, Int.reduceBEq, Int.reduceBNe, Int.reduceLT, Int.reduceLE, Int.reduceGT, Int.reduceGE, Int.reduceNeg, reduceCtorEq, e0, e2, ap6, p6, n6, q6, d1]; rfl⟩ ⟨rfl, W_false (by simp (decide := true) (disch := first | omega | (simp (decide := true) only [List.length_set, hl]; done) | fail) only [sims, evRegion, evOps, evOp, evG, evR, guardT, callee, opRes, pureR, binT, unT, T.cells, T.leaf, fillT, splice, Nat.reduceLT, Nat.reduceAdd, Nat.reduceMul, Nat.reduceLeDiff, Nat.reduceEqDiff, reduceIte, Int.reduceBEq, Int.reduceBNe, Int.reduceLT, Int.reduceLE, Int.reduceGT, Int.reduceGE, Int.reduceNeg, reduceCtorEq] <;> rfl) (W_skip ⟨rfl, ?_⟩)⟩))
    refine W_seqn (W_regionN ⟨X, by simp (decide := true) (disch := first | omega | (simp (decide := true) only [List.length_set, hl]; done) | fail) only [sims, evRegion, evOps, evOp, evG, evR, guardT, callee, opRes, pureR, binT, unT, T.cells, T.leaf, fillT, splice, Nat.reduceLT, Nat.reduceAdd, Nat.reduceMul, Nat.reduceLeDiff, Nat.reduceEqDiff, reduceIte, Int.reduceBEq, Int.reduceBNe, Int.reduceLT, Int.reduceLE, Int.reduceGT, Int.reduceGE, Int.reduceNeg, reduceCtorEq, hps, e0, e1, e2, ap11, p11, n11, r11]; rfl⟩ ⟨rfl, ?_⟩)
    refine W_seqn (W_regionN ⟨X, by simp (decide := true) (disch := first | omega | (simp (decide := true) only [List.length_set, hl]; done) | fail) only [sims, evRegion, evOps, evOp, evG, evR, guardT, callee, opRes, pureR, binT, unT, T.cells, T.leaf, fillT, splice, Nat.reduceLT, Nat.reduceAdd, Nat.reduceMul, Nat.reduceLeDiff, Nat.reduceEqDiff, reduceIte, Int.reduceBEq, Int.reduceBNe, Int.reduceLT, Int.reduceLE, Int.reduceGT, Int.reduceGE, Int.reduceNeg, reduceCtorEq, hps, e0, e1, e2, ap12, p12, n12, r12]; rfl⟩ ⟨rfl, ?_⟩)
    refine W_seqn (W_regionN ⟨X, by simp (decide := true) (disch := first | omega | (simp (decide := true) only [List.length_set, hl]; done) | fail) only [sims, evRegion, evOps, evOp, evG, evR, guardT, callee, opRes, pureR, binT, unT, T.cells, T.leaf, fillT, splice, Nat.reduceLT, Nat.reduceAdd, Nat.reduceMul, Nat.reduceLeDiff, Nat.reduceEqDiff, reduceIte, Int.reduceBEq, Int.reduceBNe, Int.reduceLT, Int.reduceLE, Int.reduceGT, Int.reduceGE, Int.reduceNeg, reduceCtorEq, hps, ap7, p7, n7, r7, ap10, p10, n10, r10, ap13, p13, n13, r13]; rfl⟩ ⟨rfl, W_ret ?_⟩)
    refine fin_of (F := f4) rfl (fun _ => rfl) ?_
    simp (decide := true) (disch := first | omega | (simp (decide := true) only [List.length_set, hl]; done) | fail) only [sims, evRegion, evOps, evOp, evG, evR, guardT, callee, opRes, pureR, binT, unT, T.cells, T.leaf, fillT, splice, Nat.reduceLT, Nat.reduceAdd, Nat.reduceMul, Nat.reduceLeDiff, Nat.reduceEqDiff, reduceIte, Int.reduceBEq, Int.reduceBNe, Int.reduceLT, Int.reduceLE, Int.reduceGT, Int.reduceGE, Int.reduceNeg, reduceCtorEq]
end Go.Proofs.Ytmihmodlilebbaa.Abs
