/- A cache of which one set is in new memory: the program's 'with'. -/
import Derived.Test.YthanlobfjpjegaaSame3
import Derived.Test.YthanlobfjpjegaaC7
namespace Go.Proofs.Ythanlobfjpjegaa.Abs
open Go Go.RowKit Fn
set_option linter.unusedVariables false
set_option linter.unusedSimpArgs false
set_option linter.unnecessarySimpa false
set_option maxRecDepth 100000

theorem ap49 : ap 49 = some f49 := rfl
theorem n49 : f49.nat = some (1, 24) := rfl
theorem ap50 : ap 50 = some f50 := rfl
theorem n50 : f50.nat = some (19, 40) := rfl
theorem ap40 : ap 40 = some f40 := rfl
theorem p40 : f40.pure = false := rfl
theorem n40 : f40.nat = none := rfl
theorem tells_leaf {xs : List T} {R : List (List Way)} (h : Tells xs R) : allLeaf xs = true := by
  unfold allLeaf
  rw [List.all_eq_true]
  intro x hx
  obtain ⟨i, hi, rfl⟩ := List.getElem_of_mem hx
  obtain ⟨f, hf⟩ := h.2 i (by rw [← h.1]; exact hi)
  rw [Nat.mul_one, List.getElem?_eq_getElem hi] at hf
  rw [Option.some.inj hf]; rfl
/-- What 'with' leaves: the rows in new memory A, row i in new memory B. -/
def Withed (g : Mem) (nx : Nat) (n i wl : Nat) (xs ws : List T) (A B : Nat) (g' : Mem) (nx' : Nat) : Prop :=
  g' A = some (xs.set i (.own B 0 wl 19)) ∧ g' B = some ws ∧ nx ≤ A ∧ A < B ∧ B < nx' ∧ (∀ t, t < nx → g' t = g t)
theorem with_run (fx : Bool) (n : Nat) (xs : List T) (hxl : xs.length = n) (hxf : allLeaf xs = true) (hn : n ≤ 1000) (i : Nat) (hi : i < n) (f : Bool) (wl : Nat) (ws : List T) (hxi : xs[i * 1]? = some (.imm f wl ws)) (hwl : ws.length = wl * 19) (hwf : allLeaf ws = true) (hw0 : 0 < wl) (hw1 : wl ≤ 1000) (g : Mem) (nx : Nat) :
    ∃ N g' nx', (∀ k, N ≤ k → runBody (ev ap k) f40 [.agg [.imm fx n xs], .int .i64 (i : Int)] g nx = some (.agg [.own (nx + 2 + 2) 0 n 1], g', nx')) ∧ Withed g nx n i wl xs ws (nx + 2 + 2) (nx + 2 + 6 + 8) g' nx' := by
  refine EI_body (P := Withed g nx n i wl xs ws (nx + 2 + 2) (nx + 2 + 6 + 8)) ?_
  generalize hs0 : (_ : List T) ++ List.replicate _ T.undef = s0
  have e0 : s0.length = 21 ∧ rho s0 (.tmp 0) = .agg [.imm fx n xs] ∧ rho s0 (.tmp 1) = .int .i64 (i : Int) := by subst hs0; exact ⟨rfl, rfl, rfl⟩
  clear hs0
  obtain ⟨hl, h0, h1⟩ := e0
  have hleaf : allLeaf [T.imm fx n xs] = true := rfl
  have hn0 : (n = 0) = False := by simp; omega
  have hw00 : (wl = 0) = False := by simp; omega
  have hxl1 : (n = n * 1) = True := by simp
  have hr1 : n * 24 ≤ 549755813888 := by omega
  have hr2 : n ≤ 549755813888 := by omega
  have hr3 : wl * 40 ≤ 549755813888 := by omega
  have hr4 : wl ≤ 549755813888 := by omega
  have hb : i * 1 + 1 ≤ n := by omega
  have hi1 : 0 + i * 1 = i := by omega
  have hb2 : i + 1 ≤ n := by omega
  refine W_seqn (W_region (fun k => by simp (decide := true) (disch := first | omega | (simp (decide := true) only [List.length_set, hl]; done) | fail) only [sims, evRegion, evOps, evOp, evG, evR, guardT, callee, opRes, pureR, binT, unT, T.cells, T.leaf, fillT, splice, Nat.reduceLT, Nat.reduceAdd, Nat.reduceMul, Nat.reduceLeDiff, Nat.reduceEqDiff, reduceIte, Int.reduceBEq, Int.reduceBNe, Int.reduceLT, Int.reduceLE, Int.reduceGT, Int.reduceGE, Int.reduceNeg, reduceCtorEq, hps, h0, hleaf]; rfl) ⟨rfl, ?_⟩)
  refine W_seqn (W_region (fun k => by simp (decide := true) (disch := first | omega | (simp (decide := true) only [List.length_set, hl]; done) | fail) only [sims, evRegion, evOps, evOp, evG, evR, guardT, callee, opRes, pureR, binT, unT, T.cells, T.leaf, fillT, splice, Nat.reduceLT, Nat.reduceAdd, Nat.reduceMul, Nat.reduceLeDiff, Nat.reduceEqDiff, reduceIte, Int.reduceBEq, Int.reduceBNe, Int.reduceLT, Int.reduceLE, Int.reduceGT, Int.reduceGE, Int.reduceNeg, reduceCtorEq, hps, h0, ap49, n49, cloneRes, cellsOf, hxl, hxl1, hxf, hn0, hr1, hr2]; rfl) ⟨rfl, ?_⟩)
  refine W_seqn (W_region (fun k => by simp (decide := true) (disch := first | omega | (simp (decide := true) only [List.length_set, hl]; done) | fail) only [sims, evRegion, evOps, evOp, evG, evR, guardT, callee, opRes, pureR, binT, unT, T.cells, T.leaf, fillT, splice, Nat.reduceLT, Nat.reduceAdd, Nat.reduceMul, Nat.reduceLeDiff, Nat.reduceEqDiff, reduceIte, Int.reduceBEq, Int.reduceBNe, Int.reduceLT, Int.reduceLE, Int.reduceGT, Int.reduceGE, Int.reduceNeg, reduceCtorEq, hps, h1, ap50, n50, cloneRes, cellsOf, hxl, hwl, hwf, hw00, hr3, hr4, hi, hb, hxi, hi1, hb2]; rfl) ⟨rfl, ?_⟩)
  refine W_seqn (W_region (fun k => by simp (decide := true) (disch := first | omega | (simp (decide := true) only [List.length_set, hl]; done) | fail) only [sims, evRegion, evOps, evOp, evG, evR, guardT, callee, opRes, pureR, binT, unT, T.cells, T.leaf, fillT, splice, Nat.reduceLT, Nat.reduceAdd, Nat.reduceMul, Nat.reduceLeDiff, Nat.reduceEqDiff, reduceIte, Int.reduceBEq, Int.reduceBNe, Int.reduceLT, Int.reduceLE, Int.reduceGT, Int.reduceGE, Int.reduceNeg, reduceCtorEq, hps]; rfl) ⟨rfl, ?_⟩)
  refine W_ret ⟨rfl, ?_, ?_⟩
  · simp only [resT, resL, resOne, show f40.res = [.cell 4 false 1] from rfl]
    simp (decide := true) (disch := first | omega | (simp (decide := true) only [List.length_set, hl]; done) | fail) only [sims, evRegion, evOps, evOp, evG, evR, guardT, callee, opRes, pureR, binT, unT, T.cells, T.leaf, fillT, splice, Nat.reduceLT, Nat.reduceAdd, Nat.reduceMul, Nat.reduceLeDiff, Nat.reduceEqDiff, reduceIte, Int.reduceBEq, Int.reduceBNe, Int.reduceLT, Int.reduceLE, Int.reduceGT, Int.reduceGE, Int.reduceNeg, reduceCtorEq, hps]
    rfl
  · refine ⟨?_, ?_, ?_, ?_, ?_, ?_⟩
    · simp (decide := true) (disch := first | omega | (simp (decide := true) only [List.length_set, hl]; done) | fail) only [sims, evRegion, evOps, evOp, evG, evR, guardT, callee, opRes, pureR, binT, unT, T.cells, T.leaf, fillT, splice, Nat.reduceLT, Nat.reduceAdd, Nat.reduceMul, Nat.reduceLeDiff, Nat.reduceEqDiff, reduceIte, Int.reduceBEq, Int.reduceBNe, Int.reduceLT, Int.reduceLE, Int.reduceGT, Int.reduceGE, Int.reduceNeg, reduceCtorEq, hps]
    · simp (decide := true) (disch := first | omega | (simp (decide := true) only [List.length_set, hl]; done) | fail) only [sims, evRegion, evOps, evOp, evG, evR, guardT, callee, opRes, pureR, binT, unT, T.cells, T.leaf, fillT, splice, Nat.reduceLT, Nat.reduceAdd, Nat.reduceMul, Nat.reduceLeDiff, Nat.reduceEqDiff, reduceIte, Int.reduceBEq, Int.reduceBNe, Int.reduceLT, Int.reduceLE, Int.reduceGT, Int.reduceGE, Int.reduceNeg, reduceCtorEq, hps]
    · omega
    · omega
    · show nx + 2 + 6 + 8 < nx + 2 + 6 + 11 + 2; omega
    · intro t ht
      simp (decide := true) (disch := first | omega | (simp (decide := true) only [List.length_set, hl]; done) | fail) only [sims, evRegion, evOps, evOp, evG, evR, guardT, callee, opRes, pureR, binT, unT, T.cells, T.leaf, fillT, splice, Nat.reduceLT, Nat.reduceAdd, Nat.reduceMul, Nat.reduceLeDiff, Nat.reduceEqDiff, reduceIte, Int.reduceBEq, Int.reduceBNe, Int.reduceLT, Int.reduceLE, Int.reduceGT, Int.reduceGE, Int.reduceNeg, reduceCtorEq, hps]
end Go.Proofs.Ythanlobfjpjegaa.Abs
