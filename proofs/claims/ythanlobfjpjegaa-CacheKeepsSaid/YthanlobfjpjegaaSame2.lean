/- Caches of the same ways are one: the comparison's inner walk. -/
import Derived.Test.YthanlobfjpjegaaSame
namespace Go.Proofs.Ythanlobfjpjegaa.Abs
open Go Go.RowKit Fn
set_option linter.unusedVariables false
set_option linter.unusedSimpArgs false
set_option linter.unnecessarySimpa false
set_option maxRecDepth 100000

def sameOut : ACode := match f11.body with | .seq _ (.seq _ (.seq (.seq _ (.block _ (.loop c))) _)) => c | _ => .skip
def sameIn : ACode := match sameOut with | .seq _ (.seq (.block _ (.seq _ (.seq _ (.block _ (.loop c))))) _) => c | _ => .skip
theorem same_in (fx fy : Bool) (n : Nat) (xs ys : List T) (hxl : xs.length = n) (hyl : ys.length = n) (i : Nat) (hi : i < n) (f f' : Bool) (l : List Way) (hw : ∀ w ∈ l, w.wf) (hll : l.length ≤ 1000) (hx : xs[i * 1]? = some (.imm f l.length (l.flatMap Way.enc))) (hy : ys[i * 1]? = some (.imm f' l.length (l.flatMap Way.enc))) (Q : AExit → St → Prop)
    (hQe : ∀ st : St, st.s.length = 78 → rho st.s (.tmp 2) = .ptr 0 0 → rho st.s (.tmp 3) = .ptr 1 0 → st.g 0 = some [.imm fx n xs] → st.g 1 = some [.imm fy n ys] → rho st.s (.tmp 5) = .int .i64 (i : Int) → Q (.exit 2) st) :
    ∀ (m : Nat) (st : St), (∃ k : Nat, st.s.length = 78 ∧ rho st.s (.tmp 2) = .ptr 0 0 ∧ rho st.s (.tmp 3) = .ptr 1 0 ∧ st.g 0 = some [.imm fx n xs] ∧ st.g 1 = some [.imm fy n ys] ∧ rho st.s (.tmp 5) = .int .i64 (i : Int) ∧ rho st.s (.tmp 6) = .int .i64 (k : Int) ∧ k ≤ l.length ∧ m = l.length - k) → W ap (.loop sameIn) st Q := by
  refine W_loop _ ?_
  rintro m st ⟨k, hl, h2, h3, hg0, hg1, h5, h6, hk, hm⟩
  have hb : i * 1 + 1 ≤ n := by omega
  by_cases hend : k = l.length
  · have hlt : decide ((k : Int) < (l.length : Int)) = false := decide_eq_false (by omega)
    refine W_seq (W_seqn (W_region (fun k => by simp (decide := true) only [sims, evRegion, evOps, evOp, evG, evR, guardT, callee, opRes, pureR, binT, unT, T.cells, T.leaf, fillT, splice, Nat.reduceLT, Nat.reduceAdd, Nat.reduceMul, Nat.reduceLeDiff, Nat.reduceEqDiff, reduceIte, Int.reduceBEq, Int.reduceBNe, Int.reduceLT, Int.reduceLE, Int.reduceGT, Int.reduceGE, Int.reduceNeg, reduceCtorEq, hl, h2, h3, hg0, hg1, h5, h6, hxl, hyl, hi, hb, hx, hy, hlt]; rfl) ⟨rfl, W_false (by simp (decide := true) only [sims, evRegion, evOps, evOp, evG, evR, guardT, callee, opRes, pureR, binT, unT, T.cells, T.leaf, fillT, splice, Nat.reduceLT, Nat.reduceAdd, Nat.reduceMul, Nat.reduceLeDiff, Nat.reduceEqDiff, reduceIte, Int.reduceBEq, Int.reduceBNe, Int.reduceLT, Int.reduceLE, Int.reduceGT, Int.reduceGE, Int.reduceNeg, reduceCtorEq, hl] <;> rfl) (W_exit (.inr ⟨by simp, .inr ⟨by simp, hQe _ ?_ ?_ ?_ ?_ ?_ ?_⟩⟩))⟩)) <;> simp (decide := true) only [sims, evRegion, evOps, evOp, evG, evR, guardT, callee, opRes, pureR, binT, unT, T.cells, T.leaf, fillT, splice, Nat.reduceLT, Nat.reduceAdd, Nat.reduceMul, Nat.reduceLeDiff, Nat.reduceEqDiff, reduceIte, Int.reduceBEq, Int.reduceBNe, Int.reduceLT, Int.reduceLE, Int.reduceGT, Int.reduceGE, Int.reduceNeg, reduceCtorEq, hl, h2, h3, hg0, hg1, h5]
  · have hlt : decide ((k : Int) < (l.length : Int)) = true := decide_eq_true (by omega)
    have hkl : k < l.length := by omega
    have hw2 : IntKind.i64.wrap ((k : Int) + 1) = ((k + 1 : Nat) : Int) := by rw [wrap_id (by omega)]; omega
    have hfl := flat_lenM (f := Way.enc) l (fun w h => way_len (hw w h))
    have hb2 : k * 19 + 19 ≤ (l.flatMap Way.enc).length := by omega
    have hcw : cut (l.flatMap Way.enc) (k * 19) 19 = (l[k]).enc := flat_cutM l (fun w h => way_len (hw w h)) k hkl
    have hcf := conf_way l[k] (hw _ (List.getElem_mem hkl))
    have heq := eq_way l[k]
    generalize (l[k]).enc = we at *
    generalize l.flatMap Way.enc = ws at *
    refine W_seqn (W_seqn (W_region (fun k => by simp (decide := true) only [sims, evRegion, evOps, evOp, evG, evR, guardT, callee, opRes, pureR, binT, unT, T.cells, T.leaf, fillT, splice, Nat.reduceLT, Nat.reduceAdd, Nat.reduceMul, Nat.reduceLeDiff, Nat.reduceEqDiff, reduceIte, Int.reduceBEq, Int.reduceBNe, Int.reduceLT, Int.reduceLE, Int.reduceGT, Int.reduceGE, Int.reduceNeg, reduceCtorEq, hl, h2, h3, hg0, hg1, h5, h6, hxl, hyl, hi, hb, hx, hy, hlt]; rfl) ⟨rfl, W_true (by simp (decide := true) only [sims, evRegion, evOps, evOp, evG, evR, guardT, callee, opRes, pureR, binT, unT, T.cells, T.leaf, fillT, splice, Nat.reduceLT, Nat.reduceAdd, Nat.reduceMul, Nat.reduceLeDiff, Nat.reduceEqDiff, reduceIte, Int.reduceBEq, Int.reduceBNe, Int.reduceLT, Int.reduceLE, Int.reduceGT, Int.reduceGE, Int.reduceNeg, reduceCtorEq, hl] <;> rfl) (W_skip ⟨rfl, ?_⟩)⟩))
    refine W_seqn (W_block (W_seqn (W_region (fun k => by simp (decide := true) only [sims, evRegion, evOps, evOp, evG, evR, guardT, callee, opRes, pureR, binT, unT, T.cells, T.leaf, fillT, splice, Nat.reduceLT, Nat.reduceAdd, Nat.reduceMul, Nat.reduceLeDiff, Nat.reduceEqDiff, reduceIte, Int.reduceBEq, Int.reduceBNe, Int.reduceLT, Int.reduceLE, Int.reduceGT, Int.reduceGE, Int.reduceNeg, reduceCtorEq, hl, h2, h3, hg0, hg1, h5, h6, hxl, hyl, hi, hb, hx, hy, hkl, hb2, hcw, hcf, heq]; rfl) ⟨rfl, W_false (by simp (decide := true) only [sims, evRegion, evOps, evOp, evG, evR, guardT, callee, opRes, pureR, binT, unT, T.cells, T.leaf, fillT, splice, Nat.reduceLT, Nat.reduceAdd, Nat.reduceMul, Nat.reduceLeDiff, Nat.reduceEqDiff, reduceIte, Int.reduceBEq, Int.reduceBNe, Int.reduceLT, Int.reduceLE, Int.reduceGT, Int.reduceGE, Int.reduceNeg, reduceCtorEq, hl] <;> rfl) (W_skip (.inr (.inl ⟨by simp, rfl, ?_⟩)))⟩)))
    refine W_region (fun k => by simp (decide := true) only [sims, evRegion, evOps, evOp, evG, evR, guardT, callee, opRes, pureR, binT, unT, T.cells, T.leaf, fillT, splice, Nat.reduceLT, Nat.reduceAdd, Nat.reduceMul, Nat.reduceLeDiff, Nat.reduceEqDiff, reduceIte, Int.reduceBEq, Int.reduceBNe, Int.reduceLT, Int.reduceLE, Int.reduceGT, Int.reduceGE, Int.reduceNeg, reduceCtorEq, hl, h6, hw2]; rfl) (.inl ⟨rfl, l.length - (k + 1), by omega, k + 1, ?_, ?_, ?_, ?_, ?_, ?_, ?_, by omega, rfl⟩) <;> simp (decide := true) only [sims, evRegion, evOps, evOp, evG, evR, guardT, callee, opRes, pureR, binT, unT, T.cells, T.leaf, fillT, splice, Nat.reduceLT, Nat.reduceAdd, Nat.reduceMul, Nat.reduceLeDiff, Nat.reduceEqDiff, reduceIte, Int.reduceBEq, Int.reduceBNe, Int.reduceLT, Int.reduceLE, Int.reduceGT, Int.reduceGE, Int.reduceNeg, reduceCtorEq, hl, h2, h3, hg0, hg1, h5]
end Go.Proofs.Ythanlobfjpjegaa.Abs
