/- Where a line is, its way, and what is asked: the program's walks. -/
import Derived.Test.YthanlobfjpjegaaAt
namespace Go.Proofs.Ythanlobfjpjegaa.Abs
open Go Go.RowKit Fn
set_option linter.unusedVariables false
set_option linter.unusedSimpArgs false
set_option linter.unnecessarySimpa false
set_option maxRecDepth 100000

theorem bus_idx (f : Bool) (l : List Way) (hw : ∀ w ∈ l, w.wf) (hmx : l.length ≤ maxLen) (ln p : Nat) (g : Mem) (nx : Nat) (hp : p < nx) (hg : g p = some [.int .u32 (ln : Int)]) :
    ∃ N g' nx', (∀ k, N ≤ k → runBody (ev ap k) f34 [.imm f l.length (l.flatMap Way.enc), .fn 36 [] [.ptr p 0]] g nx = some (idxT (fnd l ln 0 l.length), g', nx')) ∧ ((∀ t, t < nx → g' t = g t) ∧ nx ≤ nx') := by
  refine EI_body (P := fun g' nx' => (∀ t, t < nx → g' t = g t) ∧ nx ≤ nx') ?_
  generalize hs0 : (_ : List T) ++ List.replicate _ T.undef = s0
  have e0 : s0.length = 19 ∧ rho s0 (.tmp 0) = .imm f l.length (l.flatMap Way.enc) ∧ rho s0 (.tmp 1) = .fn 36 [] [.ptr p 0] := by subst hs0; exact ⟨rfl, rfl, rfl⟩
  clear hs0
  obtain ⟨hl, h0, h1⟩ := e0
  refine W_seqn (W_region (fun k => by simp (decide := true) only [sims, evRegion, evOps, evOp, evG, evR, guardT, callee, opRes, pureR, binT, unT, T.cells, T.leaf, fillT, splice, Nat.reduceLT, Nat.reduceAdd, Nat.reduceMul, Nat.reduceLeDiff, Nat.reduceEqDiff, reduceIte, Int.reduceBEq, Int.reduceBNe, Int.reduceLT, Int.reduceLE, Int.reduceGT, Int.reduceGE, Int.reduceNeg, reduceCtorEq]; rfl) ⟨rfl, ?_⟩)
  refine W_seq (W_seqn (W_region (fun k => by simp (decide := true) only [sims, evRegion, evOps, evOp, evG, evR, guardT, callee, opRes, pureR, binT, unT, T.cells, T.leaf, fillT, splice, Nat.reduceLT, Nat.reduceAdd, Nat.reduceMul, Nat.reduceLeDiff, Nat.reduceEqDiff, reduceIte, Int.reduceBEq, Int.reduceBNe, Int.reduceLT, Int.reduceLE, Int.reduceGT, Int.reduceGE, Int.reduceNeg, reduceCtorEq, hl, h0]; rfl) ⟨rfl, W_block ?_⟩))
  generalize hr : fnd l ln 0 l.length = r
  refine idx_loop f l hw hmx ln p g nx hp hg r _ (fun st hk h4 hg' hn => ?_) (fun st hr hst hg' hn => ?_) l.length _ ⟨0, ?_, ?_, ?_, ?_, ?_, fun t ht => rfl, ?_, by omega, rfl, hr⟩
  · simp only [reduceCtorEq, false_and, false_or, or_false, exists_false, exists_const, ne_eq, not_false_eq_true, true_and, implies_true]
    exact ⟨rfl, res_one (F := f34) rfl h4, hg', hn⟩
  · subst hr
    refine .inl ⟨rfl, .inl ⟨rfl, W_seqn (W_region (fun k => by simp (decide := true) only [sims, evRegion, evOps, evOp, evG, evR, guardT, callee, opRes, pureR, binT, unT, T.cells, T.leaf, fillT, splice, Nat.reduceLT, Nat.reduceAdd, Nat.reduceMul, Nat.reduceLeDiff, Nat.reduceEqDiff, reduceIte, Int.reduceBEq, Int.reduceBNe, Int.reduceLT, Int.reduceLE, Int.reduceGT, Int.reduceGE, Int.reduceNeg, reduceCtorEq]; rfl) ⟨rfl, W_ret ⟨rfl, res_one (F := f34) rfl ?_, ?_, ?_⟩⟩)⟩⟩
    · simp (decide := true) only [sims, evRegion, evOps, evOp, evG, evR, guardT, callee, opRes, pureR, binT, unT, T.cells, T.leaf, fillT, splice, Nat.reduceLT, Nat.reduceAdd, Nat.reduceMul, Nat.reduceLeDiff, Nat.reduceEqDiff, reduceIte, Int.reduceBEq, Int.reduceBNe, Int.reduceLT, Int.reduceLE, Int.reduceGT, Int.reduceGE, Int.reduceNeg, reduceCtorEq, hst, idxT]
    · exact hg'
    · show nx ≤ st.nx + 1; omega
  · simp (decide := true) only [sims, evRegion, evOps, evOp, evG, evR, guardT, callee, opRes, pureR, binT, unT, T.cells, T.leaf, fillT, splice, Nat.reduceLT, Nat.reduceAdd, Nat.reduceMul, Nat.reduceLeDiff, Nat.reduceEqDiff, reduceIte, Int.reduceBEq, Int.reduceBNe, Int.reduceLT, Int.reduceLE, Int.reduceGT, Int.reduceGE, Int.reduceNeg, reduceCtorEq, hl]
  · simp (decide := true) only [sims, evRegion, evOps, evOp, evG, evR, guardT, callee, opRes, pureR, binT, unT, T.cells, T.leaf, fillT, splice, Nat.reduceLT, Nat.reduceAdd, Nat.reduceMul, Nat.reduceLeDiff, Nat.reduceEqDiff, reduceIte, Int.reduceBEq, Int.reduceBNe, Int.reduceLT, Int.reduceLE, Int.reduceGT, Int.reduceGE, Int.reduceNeg, reduceCtorEq, hl, h0]
  · simp (decide := true) only [sims, evRegion, evOps, evOp, evG, evR, guardT, callee, opRes, pureR, binT, unT, T.cells, T.leaf, fillT, splice, Nat.reduceLT, Nat.reduceAdd, Nat.reduceMul, Nat.reduceLeDiff, Nat.reduceEqDiff, reduceIte, Int.reduceBEq, Int.reduceBNe, Int.reduceLT, Int.reduceLE, Int.reduceGT, Int.reduceGE, Int.reduceNeg, reduceCtorEq, hl, h1]
  · simp (decide := true) only [sims, evRegion, evOps, evOp, evG, evR, guardT, callee, opRes, pureR, binT, unT, T.cells, T.leaf, fillT, splice, Nat.reduceLT, Nat.reduceAdd, Nat.reduceMul, Nat.reduceLeDiff, Nat.reduceEqDiff, reduceIte, Int.reduceBEq, Int.reduceBNe, Int.reduceLT, Int.reduceLE, Int.reduceGT, Int.reduceGE, Int.reduceNeg, reduceCtorEq, hl]
  · simp (decide := true) only [sims, evRegion, evOps, evOp, evG, evR, guardT, callee, opRes, pureR, binT, unT, T.cells, T.leaf, fillT, splice, Nat.reduceLT, Nat.reduceAdd, Nat.reduceMul, Nat.reduceLeDiff, Nat.reduceEqDiff, reduceIte, Int.reduceBEq, Int.reduceBNe, Int.reduceLT, Int.reduceLE, Int.reduceGT, Int.reduceGE, Int.reduceNeg, reduceCtorEq, hl]; rfl
  · show nx ≤ nx + 1 + 3; omega

theorem ap35 : ap 35 = some f35 := rfl
theorem p35 : f35.pure = true := rfl
theorem n35 : f35.nat = none := rfl
theorem ap34 : ap 34 = some f34 := rfl
theorem p34 : f34.pure = false := rfl
theorem n34 : f34.nat = none := rfl
theorem ways_of (c : Cache) (hc : c.wf) (ln : Nat) : ∃ f l, waysT c ln = .imm f l.length (l.flatMap Way.enc) ∧ (∀ w ∈ l, w.wf) ∧ l.length ≤ maxLen ∧ find c ln = fnd l ln 0 l.length ∧ (c.sets.length = 0 → l = []) := by
  by_cases hz : c.sets.length = 0
  · refine ⟨true, [], by unfold waysT; rw [if_pos hz]; rfl, by simp, by simp, ?_, fun _ => rfl⟩
    unfold find; rw [if_pos hz]; rfl
  · have hs : seti c ln < c.sets.length := Nat.mod_lt _ (by omega)
    have hr := row_wf hc _ hs
    refine ⟨false, row c (seti c ln), by unfold waysT; rw [if_neg hz]; rfl, hr.2, hr.1, ?_, fun h => absurd h hz⟩
    unfold find; rw [if_neg hz]
theorem bus_find (c : Cache) (hc : c.wf) (ln : Nat) (hln : ln ≤ 4294967295) : E ap 15 [.agg [setsT c], .int .u32 (ln : Int)] (findT c ln) := by
  refine E_body (F := f15) rfl rfl rfl ?_
  generalize hs0 : (_ : List T) ++ List.replicate _ T.undef = s0
  have e0 : s0.length = 19 ∧ rho s0 (.tmp 0) = .agg [setsT c] ∧ rho s0 (.tmp 1) = .int .u32 (ln : Int) := by subst hs0; exact ⟨rfl, rfl, rfl⟩
  clear hs0
  obtain ⟨hl, h0, h1⟩ := e0
  have hleaf : allLeaf [setsT c] = true := rfl
  have hleaf2 : allLeaf [T.int .u32 (ln : Int)] = true := rfl
  have hcut : cut [setsT c] 0 1 = [setsT c] := rfl
  obtain ⟨f, l, hwt, hlw, hlm, hfd, hl0⟩ := ways_of c hc ln
  obtain ⟨N1, q1⟩ := (bus_ways c hc ln hln).call ap35 (fun g => rfl)
  obtain ⟨N2, q2⟩ := (bus_set c hc ln hln).call ap37 (fun g => rfl)
  have q62 := q2 N2 (Nat.le_refl _)
  rw [hwt] at q1
  generalize hst : setsT c = st at *
  refine W_seqn (W_region (fun k => by simp (decide := true) only [sims, evRegion, evOps, evOp, evG, evR, guardT, callee, opRes, pureR, binT, unT, T.cells, T.leaf, fillT, splice, Nat.reduceLT, Nat.reduceAdd, Nat.reduceMul, Nat.reduceLeDiff, Nat.reduceEqDiff, reduceIte, Int.reduceBEq, Int.reduceBNe, Int.reduceLT, Int.reduceLE, Int.reduceGT, Int.reduceGE, Int.reduceNeg, reduceCtorEq, hl, h0, h1, hleaf, hleaf2]; rfl) ⟨rfl, ?_⟩)
  generalize hg1 : put1 (put1 (fun _ => none) (0, some [st])) (1, some [T.int .u32 (ln : Int)]) = g1
  have hga : g1 0 = some [st] := by subst hg1; rfl
  have hgb : g1 1 = some [T.int .u32 (ln : Int)] := by subst hg1; rfl
  obtain ⟨N3, g', nx', hN, hg', hnx'⟩ := bus_idx f l hlw hlm ln 1 g1 11 (by omega) hgb
  have q47 := q1 (N1 + N3) (by omega)
  have q63 := hN (N1 + N3) (by omega)
  have hga' : g' 0 = some [st] := by rw [hg' 0 (by omega), hga]
  have hgb' : g' 1 = some [T.int .u32 (ln : Int)] := by rw [hg' 1 (by omega), hgb]
  generalize l.flatMap Way.enc = cs at *
  refine W_seqn (W_regionN ⟨N1 + N3, by simp (decide := true) only [sims, evRegion, evOps, evOp, evG, evR, guardT, callee, opRes, pureR, binT, unT, T.cells, T.leaf, fillT, splice, Nat.reduceLT, Nat.reduceAdd, Nat.reduceMul, Nat.reduceLeDiff, Nat.reduceEqDiff, reduceIte, Int.reduceBEq, Int.reduceBNe, Int.reduceLT, Int.reduceLE, Int.reduceGT, Int.reduceGE, Int.reduceNeg, reduceCtorEq, evI, hl, hga, hgb, hcut, ap35, p35, n35, q47, ap34, p34, n34, q63]; rfl⟩ ⟨rfl, ?_⟩)
  unfold findT
  rw [hfd]
  cases hfi : fnd l ln 0 l.length with
  | none =>
    have hd : decide ((-1 : Int) < 0) = true := rfl
    refine W_seq (W_seqn (W_region (fun k => by simp (decide := true) only [sims, evRegion, evOps, evOp, evG, evR, guardT, callee, opRes, pureR, binT, unT, T.cells, T.leaf, fillT, splice, Nat.reduceLT, Nat.reduceAdd, Nat.reduceMul, Nat.reduceLeDiff, Nat.reduceEqDiff, reduceIte, Int.reduceBEq, Int.reduceBNe, Int.reduceLT, Int.reduceLE, Int.reduceGT, Int.reduceGE, Int.reduceNeg, reduceCtorEq, hl, idxT, hd]; rfl) ⟨rfl, W_true (by simp (decide := true) only [sims, evRegion, evOps, evOp, evG, evR, guardT, callee, opRes, pureR, binT, unT, T.cells, T.leaf, fillT, splice, Nat.reduceLT, Nat.reduceAdd, Nat.reduceMul, Nat.reduceLeDiff, Nat.reduceEqDiff, reduceIte, Int.reduceBEq, Int.reduceBNe, Int.reduceLT, Int.reduceLE, Int.reduceGT, Int.reduceGE, Int.reduceNeg, reduceCtorEq, hl] <;> rfl) ?_⟩))
    refine W_seqn (W_region (fun k => by simp (decide := true) only [sims, evRegion, evOps, evOp, evG, evR, guardT, callee, opRes, pureR, binT, unT, T.cells, T.leaf, fillT, splice, Nat.reduceLT, Nat.reduceAdd, Nat.reduceMul, Nat.reduceLeDiff, Nat.reduceEqDiff, reduceIte, Int.reduceBEq, Int.reduceBNe, Int.reduceLT, Int.reduceLE, Int.reduceGT, Int.reduceGE, Int.reduceNeg, reduceCtorEq]; rfl) ⟨rfl, W_ret ?_⟩)
    simp only [reduceCtorEq, false_and, false_or, or_false, exists_false, exists_const, ne_eq, not_false_eq_true, true_and, implies_true]
    refine fin_of3 (F := f15) rfl (fun _ => rfl) ?_ ?_ ?_ <;> simp (decide := true) only [sims, evRegion, evOps, evOp, evG, evR, guardT, callee, opRes, pureR, binT, unT, T.cells, T.leaf, fillT, splice, Nat.reduceLT, Nat.reduceAdd, Nat.reduceMul, Nat.reduceLeDiff, Nat.reduceEqDiff, reduceIte, Int.reduceBEq, Int.reduceBNe, Int.reduceLT, Int.reduceLE, Int.reduceGT, Int.reduceGE, Int.reduceNeg, reduceCtorEq, hl]
  | some k =>
    have hd : decide ((k : Int) < 0) = false := decide_eq_false (by omega)
    have hz : ¬ c.sets.length = 0 := fun hz => by rw [hl0 hz] at hfi; cases hfi
    rw [if_neg hz] at q62
    refine W_seqn (W_seqn (W_region (fun k => by simp (decide := true) only [sims, evRegion, evOps, evOp, evG, evR, guardT, callee, opRes, pureR, binT, unT, T.cells, T.leaf, fillT, splice, Nat.reduceLT, Nat.reduceAdd, Nat.reduceMul, Nat.reduceLeDiff, Nat.reduceEqDiff, reduceIte, Int.reduceBEq, Int.reduceBNe, Int.reduceLT, Int.reduceLE, Int.reduceGT, Int.reduceGE, Int.reduceNeg, reduceCtorEq, hl, idxT, hd]; rfl) ⟨rfl, W_false (by simp (decide := true) only [sims, evRegion, evOps, evOp, evG, evR, guardT, callee, opRes, pureR, binT, unT, T.cells, T.leaf, fillT, splice, Nat.reduceLT, Nat.reduceAdd, Nat.reduceMul, Nat.reduceLeDiff, Nat.reduceEqDiff, reduceIte, Int.reduceBEq, Int.reduceBNe, Int.reduceLT, Int.reduceLE, Int.reduceGT, Int.reduceGE, Int.reduceNeg, reduceCtorEq, hl] <;> rfl) (W_skip ⟨rfl, ?_⟩)⟩))
    refine W_seqn (W_regionN ⟨N2, by simp (decide := true) only [sims, evRegion, evOps, evOp, evG, evR, guardT, callee, opRes, pureR, binT, unT, T.cells, T.leaf, fillT, splice, Nat.reduceLT, Nat.reduceAdd, Nat.reduceMul, Nat.reduceLeDiff, Nat.reduceEqDiff, reduceIte, Int.reduceBEq, Int.reduceBNe, Int.reduceLT, Int.reduceLE, Int.reduceGT, Int.reduceGE, Int.reduceNeg, reduceCtorEq, hl, hga', hgb', hcut, ap37, p37, n37, q62]; rfl⟩ ⟨rfl, W_ret ?_⟩)
    refine fin_of3 (F := f15) rfl (fun _ => rfl) ?_ ?_ ?_ <;> simp (decide := true) only [sims, evRegion, evOps, evOp, evG, evR, guardT, callee, opRes, pureR, binT, unT, T.cells, T.leaf, fillT, splice, Nat.reduceLT, Nat.reduceAdd, Nat.reduceMul, Nat.reduceLeDiff, Nat.reduceEqDiff, reduceIte, Int.reduceBEq, Int.reduceBNe, Int.reduceLT, Int.reduceLE, Int.reduceGT, Int.reduceGE, Int.reduceNeg, reduceCtorEq, hl]
end Go.Proofs.Ythanlobfjpjegaa.Abs
