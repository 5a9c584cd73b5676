/- Caches of the same ways are one. -/
import Derived.Test.YthanlobfjpjegaaSame2
namespace Go.Proofs.Ythanlobfjpjegaa.Abs
open Go Go.RowKit Fn
set_option linter.unusedVariables false
set_option linter.unusedSimpArgs false
set_option linter.unnecessarySimpa false
set_option maxRecDepth 100000

/-- A tree of rows, whatever is known of their capacities. -/
def Tells (xs : List T) (R : List (List Way)) : Prop := xs.length = R.length ∧ ∀ i (h : i < R.length), ∃ f, xs[i * 1]? = some (.imm f R[i].length (R[i].flatMap Way.enc))
theorem same_out (fx fy : Bool) (R : List (List Way)) (xs ys : List T) (hx : Tells xs R) (hy : Tells ys R) (hR : R.length ≤ 1000) (hw : ∀ l ∈ R, l.length ≤ 1000 ∧ ∀ w ∈ l, w.wf) (Q : AExit → St → Prop)
    (hQe : ∀ st : St, st.s.length = 78 → Q (.exit 0) st) :
    ∀ (m : Nat) (st : St), (∃ i : Nat, st.s.length = 78 ∧ rho st.s (.tmp 2) = .ptr 0 0 ∧ rho st.s (.tmp 3) = .ptr 1 0 ∧ st.g 0 = some [.imm fx R.length xs] ∧ st.g 1 = some [.imm fy R.length ys] ∧ rho st.s (.tmp 5) = .int .i64 (i : Int) ∧ i ≤ R.length ∧ m = R.length - i) → W ap (.loop sameOut) st Q := by
  refine W_loop _ ?_
  rintro m st ⟨i, hl, h2, h3, hg0, hg1, h5, hi, hm⟩
  by_cases hend : i = R.length
  · have hlt : decide ((i : Int) < (R.length : Int)) = false := decide_eq_false (by omega)
    refine W_seq (W_seqn (W_region (fun k => by simp (decide := true) only [sims, evRegion, evOps, evOp, evG, evR, guardT, callee, opRes, pureR, binT, unT, T.cells, T.leaf, fillT, splice, Nat.reduceLT, Nat.reduceAdd, Nat.reduceMul, Nat.reduceLeDiff, Nat.reduceEqDiff, reduceIte, Int.reduceBEq, Int.reduceBNe, Int.reduceLT, Int.reduceLE, Int.reduceGT, Int.reduceGE, Int.reduceNeg, reduceCtorEq, hl, h2, h3, hg0, hg1, h5, hlt]; rfl) ⟨rfl, W_false (by simp (decide := true) only [sims, evRegion, evOps, evOp, evG, evR, guardT, callee, opRes, pureR, binT, unT, T.cells, T.leaf, fillT, splice, Nat.reduceLT, Nat.reduceAdd, Nat.reduceMul, Nat.reduceLeDiff, Nat.reduceEqDiff, reduceIte, Int.reduceBEq, Int.reduceBNe, Int.reduceLT, Int.reduceLE, Int.reduceGT, Int.reduceGE, Int.reduceNeg, reduceCtorEq, hl] <;> rfl) (W_exit (.inr ⟨by simp, .inr ⟨by simp, hQe _ ?_⟩⟩))⟩))
    simp (decide := true) only [sims, evRegion, evOps, evOp, evG, evR, guardT, callee, opRes, pureR, binT, unT, T.cells, T.leaf, fillT, splice, Nat.reduceLT, Nat.reduceAdd, Nat.reduceMul, Nat.reduceLeDiff, Nat.reduceEqDiff, reduceIte, Int.reduceBEq, Int.reduceBNe, Int.reduceLT, Int.reduceLE, Int.reduceGT, Int.reduceGE, Int.reduceNeg, reduceCtorEq, hl]
  · have hlt : decide ((i : Int) < (R.length : Int)) = true := decide_eq_true (by omega)
    have hil : i < R.length := by omega
    have hb : i * 1 + 1 ≤ R.length := by omega
    have hxl := hx.1
    have hyl := hy.1
    obtain ⟨f, hxi⟩ := hx.2 i hil
    obtain ⟨f', hyi⟩ := hy.2 i hil
    obtain ⟨hll, hlw⟩ := hw _ (List.getElem_mem hil)
    have hne : ((R[i].length : Int) != (R[i].length : Int)) = false := by simp
    have hw2 : IntKind.i64.wrap ((i : Int) + 1) = ((i + 1 : Nat) : Int) := by rw [wrap_id (by omega)]; omega
    refine W_seqn (W_seqn (W_region (fun k => by simp (decide := true) only [sims, evRegion, evOps, evOp, evG, evR, guardT, callee, opRes, pureR, binT, unT, T.cells, T.leaf, fillT, splice, Nat.reduceLT, Nat.reduceAdd, Nat.reduceMul, Nat.reduceLeDiff, Nat.reduceEqDiff, reduceIte, Int.reduceBEq, Int.reduceBNe, Int.reduceLT, Int.reduceLE, Int.reduceGT, Int.reduceGE, Int.reduceNeg, reduceCtorEq, hl, h2, h3, hg0, hg1, h5, hlt]; rfl) ⟨rfl, W_true (by simp (decide := true) only [sims, evRegion, evOps, evOp, evG, evR, guardT, callee, opRes, pureR, binT, unT, T.cells, T.leaf, fillT, splice, Nat.reduceLT, Nat.reduceAdd, Nat.reduceMul, Nat.reduceLeDiff, Nat.reduceEqDiff, reduceIte, Int.reduceBEq, Int.reduceBNe, Int.reduceLT, Int.reduceLE, Int.reduceGT, Int.reduceGE, Int.reduceNeg, reduceCtorEq, hl] <;> rfl) (W_skip ⟨rfl, ?_⟩)⟩))
    refine W_seqn (W_block ?_)
    refine W_seqn (W_seqn (W_region (fun k => by simp (decide := true) only [sims, evRegion, evOps, evOp, evG, evR, guardT, callee, opRes, pureR, binT, unT, T.cells, T.leaf, fillT, splice, Nat.reduceLT, Nat.reduceAdd, Nat.reduceMul, Nat.reduceLeDiff, Nat.reduceEqDiff, reduceIte, Int.reduceBEq, Int.reduceBNe, Int.reduceLT, Int.reduceLE, Int.reduceGT, Int.reduceGE, Int.reduceNeg, reduceCtorEq, hl, h2, h3, hg0, hg1, h5, hxl, hyl, hil, hb, hxi, hyi, hne]; rfl) ⟨rfl, W_false (by simp (decide := true) only [sims, evRegion, evOps, evOp, evG, evR, guardT, callee, opRes, pureR, binT, unT, T.cells, T.leaf, fillT, splice, Nat.reduceLT, Nat.reduceAdd, Nat.reduceMul, Nat.reduceLeDiff, Nat.reduceEqDiff, reduceIte, Int.reduceBEq, Int.reduceBNe, Int.reduceLT, Int.reduceLE, Int.reduceGT, Int.reduceGE, Int.reduceNeg, reduceCtorEq, hl] <;> rfl) (W_skip ⟨rfl, ?_⟩)⟩))
    refine W_seqn (W_region (fun k => by simp (decide := true) only [sims, evRegion, evOps, evOp, evG, evR, guardT, callee, opRes, pureR, binT, unT, T.cells, T.leaf, fillT, splice, Nat.reduceLT, Nat.reduceAdd, Nat.reduceMul, Nat.reduceLeDiff, Nat.reduceEqDiff, reduceIte, Int.reduceBEq, Int.reduceBNe, Int.reduceLT, Int.reduceLE, Int.reduceGT, Int.reduceGE, Int.reduceNeg, reduceCtorEq]; rfl) ⟨rfl, W_block ?_⟩)
    refine same_in fx fy R.length xs ys hxl hyl i hil f f' R[i] hlw hll hxi hyi _ (fun st hl h2 h3 hg0 hg1 h5 => ?_) (R[i].length - 0) _ ⟨0, ?_, ?_, ?_, ?_, ?_, ?_, ?_, by omega, rfl⟩
    · refine .inl ⟨rfl, .inr (.inl ⟨by simp, rfl, ?_⟩)⟩
      refine W_region (fun k => by simp (decide := true) only [sims, evRegion, evOps, evOp, evG, evR, guardT, callee, opRes, pureR, binT, unT, T.cells, T.leaf, fillT, splice, Nat.reduceLT, Nat.reduceAdd, Nat.reduceMul, Nat.reduceLeDiff, Nat.reduceEqDiff, reduceIte, Int.reduceBEq, Int.reduceBNe, Int.reduceLT, Int.reduceLE, Int.reduceGT, Int.reduceGE, Int.reduceNeg, reduceCtorEq, hl, h5, hw2]; rfl) (.inl ⟨rfl, R.length - (i + 1), by omega, i + 1, ?_, ?_, ?_, ?_, ?_, ?_, by omega, rfl⟩) <;> simp (decide := true) only [sims, evRegion, evOps, evOp, evG, evR, guardT, callee, opRes, pureR, binT, unT, T.cells, T.leaf, fillT, splice, Nat.reduceLT, Nat.reduceAdd, Nat.reduceMul, Nat.reduceLeDiff, Nat.reduceEqDiff, reduceIte, Int.reduceBEq, Int.reduceBNe, Int.reduceLT, Int.reduceLE, Int.reduceGT, Int.reduceGE, Int.reduceNeg, reduceCtorEq, hl, h2, h3, hg0, hg1]
    all_goals first | (simp (decide := true) only [sims, evRegion, evOps, evOp, evG, evR, guardT, callee, opRes, pureR, binT, unT, T.cells, T.leaf, fillT, splice, Nat.reduceLT, Nat.reduceAdd, Nat.reduceMul, Nat.reduceLeDiff, Nat.reduceEqDiff, reduceIte, Int.reduceBEq, Int.reduceBNe, Int.reduceLT, Int.reduceLE, Int.reduceGT, Int.reduceGE, Int.reduceNeg, reduceCtorEq, hl, h2, h3, hg0, hg1, h5]; done) | (simp (decide := true) only [sims, evRegion, evOps, evOp, evG, evR, guardT, callee, opRes, pureR, binT, unT, T.cells, T.leaf, fillT, splice, Nat.reduceLT, Nat.reduceAdd, Nat.reduceMul, Nat.reduceLeDiff, Nat.reduceEqDiff, reduceIte, Int.reduceBEq, Int.reduceBNe, Int.reduceLT, Int.reduceLE, Int.reduceGT, Int.reduceGE, Int.reduceNeg, reduceCtorEq, hl, h2, h3, hg0, hg1, h5]; rfl)
theorem same_cache (fx fy : Bool) (R : List (List Way)) (xs ys : List T) (hx : Tells xs R) (hy : Tells ys R) (hR : R.length ≤ 1000) (hw : ∀ l ∈ R, l.length ≤ 1000 ∧ ∀ w ∈ l, w.wf) : E ap 11 [.agg [.imm fx R.length xs], .agg [.imm fy R.length ys]] (.bool true) := by
  refine E_body (F := f11) rfl rfl rfl ?_
  generalize hs0 : (_ : List T) ++ List.replicate _ T.undef = s0
  have e0 : s0.length = 78 ∧ rho s0 (.tmp 0) = .agg [.imm fx R.length xs] ∧ rho s0 (.tmp 1) = .agg [.imm fy R.length ys] := by subst hs0; exact ⟨rfl, rfl, rfl⟩
  clear hs0
  obtain ⟨hl, h0, h1⟩ := e0
  have hl1 : allLeaf [T.imm fx R.length xs] = true := rfl
  have hl2 : allLeaf [T.imm fy R.length ys] = true := rfl
  have hne : ((R.length : Int) != (R.length : Int)) = false := by simp
  refine W_seqn (W_region (fun k => by simp (decide := true) only [sims, evRegion, evOps, evOp, evG, evR, guardT, callee, opRes, pureR, binT, unT, T.cells, T.leaf, fillT, splice, Nat.reduceLT, Nat.reduceAdd, Nat.reduceMul, Nat.reduceLeDiff, Nat.reduceEqDiff, reduceIte, Int.reduceBEq, Int.reduceBNe, Int.reduceLT, Int.reduceLE, Int.reduceGT, Int.reduceGE, Int.reduceNeg, reduceCtorEq, hl, h0, h1, hl1, hl2]; rfl) ⟨rfl, ?_⟩)
  refine W_seqn (W_seqn (W_region (fun k => by simp (decide := true) only [sims, evRegion, evOps, evOp, evG, evR, guardT, callee, opRes, pureR, binT, unT, T.cells, T.leaf, fillT, splice, Nat.reduceLT, Nat.reduceAdd, Nat.reduceMul, Nat.reduceLeDiff, Nat.reduceEqDiff, reduceIte, Int.reduceBEq, Int.reduceBNe, Int.reduceLT, Int.reduceLE, Int.reduceGT, Int.reduceGE, Int.reduceNeg, reduceCtorEq, hl, hne]; rfl) ⟨rfl, W_false (by simp (decide := true) only [sims, evRegion, evOps, evOp, evG, evR, guardT, callee, opRes, pureR, binT, unT, T.cells, T.leaf, fillT, splice, Nat.reduceLT, Nat.reduceAdd, Nat.reduceMul, Nat.reduceLeDiff, Nat.reduceEqDiff, reduceIte, Int.reduceBEq, Int.reduceBNe, Int.reduceLT, Int.reduceLE, Int.reduceGT, Int.reduceGE, Int.reduceNeg, reduceCtorEq, hl] <;> rfl) (W_skip ⟨rfl, ?_⟩)⟩))
  refine W_seq (W_seqn (W_region (fun k => by simp (decide := true) only [sims, evRegion, evOps, evOp, evG, evR, guardT, callee, opRes, pureR, binT, unT, T.cells, T.leaf, fillT, splice, Nat.reduceLT, Nat.reduceAdd, Nat.reduceMul, Nat.reduceLeDiff, Nat.reduceEqDiff, reduceIte, Int.reduceBEq, Int.reduceBNe, Int.reduceLT, Int.reduceLE, Int.reduceGT, Int.reduceGE, Int.reduceNeg, reduceCtorEq]; rfl) ⟨rfl, W_block ?_⟩))
  refine same_out fx fy R xs ys hx hy hR hw _ (fun st hst => ?_) (R.length - 0) _ ⟨0, ?_, ?_, ?_, ?_, ?_, ?_, by omega, rfl⟩
  · refine .inl ⟨rfl, .inl ⟨rfl, W_seqn (W_region (fun k => by simp (decide := true) only [sims, evRegion, evOps, evOp, evG, evR, guardT, callee, opRes, pureR, binT, unT, T.cells, T.leaf, fillT, splice, Nat.reduceLT, Nat.reduceAdd, Nat.reduceMul, Nat.reduceLeDiff, Nat.reduceEqDiff, reduceIte, Int.reduceBEq, Int.reduceBNe, Int.reduceLT, Int.reduceLE, Int.reduceGT, Int.reduceGE, Int.reduceNeg, reduceCtorEq]; rfl) ⟨rfl, W_ret ?_⟩)⟩⟩
    refine fin_of (F := f11) rfl (fun _ => rfl) ?_
    simp (decide := true) only [sims, evRegion, evOps, evOp, evG, evR, guardT, callee, opRes, pureR, binT, unT, T.cells, T.leaf, fillT, splice, Nat.reduceLT, Nat.reduceAdd, Nat.reduceMul, Nat.reduceLeDiff, Nat.reduceEqDiff, reduceIte, Int.reduceBEq, Int.reduceBNe, Int.reduceLT, Int.reduceLE, Int.reduceGT, Int.reduceGE, Int.reduceNeg, reduceCtorEq, hst]
  all_goals first | (simp (decide := true) only [sims, evRegion, evOps, evOp, evG, evR, guardT, callee, opRes, pureR, binT, unT, T.cells, T.leaf, fillT, splice, Nat.reduceLT, Nat.reduceAdd, Nat.reduceMul, Nat.reduceLeDiff, Nat.reduceEqDiff, reduceIte, Int.reduceBEq, Int.reduceBNe, Int.reduceLT, Int.reduceLE, Int.reduceGT, Int.reduceGE, Int.reduceNeg, reduceCtorEq, hl]; done) | (simp (decide := true) only [sims, evRegion, evOps, evOp, evG, evR, guardT, callee, opRes, pureR, binT, unT, T.cells, T.leaf, fillT, splice, Nat.reduceLT, Nat.reduceAdd, Nat.reduceMul, Nat.reduceLeDiff, Nat.reduceEqDiff, reduceIte, Int.reduceBEq, Int.reduceBNe, Int.reduceLT, Int.reduceLE, Int.reduceGT, Int.reduceGE, Int.reduceNeg, reduceCtorEq, hl]; rfl)
end Go.Proofs.Ythanlobfjpjegaa.Abs
