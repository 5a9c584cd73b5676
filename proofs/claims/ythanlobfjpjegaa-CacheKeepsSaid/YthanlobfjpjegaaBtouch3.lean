/- A way is used, by any numbers: the program's function. -/
import Derived.Test.YthanlobfjpjegaaBtouch2
namespace Go.Proofs.Ythanlobfjpjegaa.Abs
open Go Go.RowKit Fn
set_option linter.unusedVariables false
set_option linter.unusedSimpArgs false
set_option linter.unnecessarySimpa false
set_option maxRecDepth 100000

def Bad (R : List (List Way)) (a b : Int) : Prop := ¬ (0 ≤ a ∧ a < R.length ∧ 0 ≤ b ∧ b < ((R[a.toNat]?).getD []).length)
theorem touch_bad {R : List (List Way)} {a b : Int} (h : Bad R a b) : touchR R a b = R := by unfold touchR; exact if_neg h
theorem bad_cases {R : List (List Way)} {a b : Int} (h : Bad R a b) : a < 0 ∨ (0 ≤ a ∧ a ≥ R.length) ∨ (∃ i : Nat, a = i ∧ i < R.length ∧ b < 0) ∨ (∃ (i : Nat) (hi : i < R.length), a = i ∧ 0 ≤ b ∧ b ≥ (R[i].length : Int)) := by
  by_cases h1 : a < 0
  · exact .inl h1
  · by_cases h2 : a ≥ R.length
    · exact .inr (.inl ⟨by omega, h2⟩)
    · obtain ⟨i, rfl⟩ : ∃ i : Nat, a = i := ⟨a.toNat, by omega⟩
      have hi : i < R.length := by omega
      by_cases h3 : b < 0
      · exact .inr (.inr (.inl ⟨i, rfl, hi, h3⟩))
      · refine .inr (.inr (.inr ⟨i, hi, rfl, by omega, ?_⟩))
        unfold Bad at h
        rw [Int.toNat_natCast, List.getElem?_eq_getElem hi, Option.getD_some] at h
        omega
theorem fin_cell_true {F : AFun} {t p : Nat} {x : T} (hF : F.res = [.cell t false 1]) (hv : ∀ h : Hp, frz h frzDepth (.agg [x]) = some (.agg [x], [])) {s : List T} {g : Mem} {nx : Nat} (hs : rho s (.tmp t) = .ptr p 0) (hg : g p = some [x]) : AExit.ret.leaves = true ∧ ∃ u ids, resT s g F.res = some u ∧ frz ⟨g, nx⟩ frzDepth u = some (.agg [x], ids) := fin_cell hF hv hs hg rfl
theorem bus_touch_bad (fx : Bool) (R : List (List Way)) (xs : List T) (hx : Tells xs R) (a b : Int) (h : Bad R a b) :
    E ap 19 [.agg [.imm fx R.length xs], .int .i64 a, .int .i64 b] (.agg [.imm fx R.length xs]) := by
  refine E_body (F := f19) rfl rfl rfl ?_
  generalize hs0 : (_ : List T) ++ List.replicate _ T.undef = s0
  have e0 : s0.length = 86 ∧ rho s0 (.tmp 0) = .agg [.imm fx R.length xs] ∧ rho s0 (.tmp 1) = .int .i64 a ∧ rho s0 (.tmp 2) = .int .i64 b := by subst hs0; exact ⟨rfl, rfl, rfl, rfl⟩
  clear hs0
  obtain ⟨hl, h0, h1, h2⟩ := e0
  have hxl := hx.1
  have hleaf : allLeaf [T.imm fx R.length xs] = true := rfl
  have hc1 : cut [T.imm fx R.length xs] 0 1 = [T.imm fx R.length xs] := rfl
  refine W_seqn (W_region (fun k => by simp (decide := true) (disch := first | omega | (simp (decide := true) only [List.length_set, hl]; done) | fail) only [sims, evRegion, evOps, evOp, evG, evR, guardT, callee, opRes, pureR, binT, unT, T.cells, T.leaf, fillT, splice, Nat.reduceLT, Nat.reduceAdd, Nat.reduceMul, Nat.reduceLeDiff, Nat.reduceEqDiff, reduceIte, Int.reduceBEq, Int.reduceBNe, Int.reduceLT, Int.reduceLE, Int.reduceGT, Int.reduceGE, Int.reduceNeg, reduceCtorEq, hps, h0, hleaf]; rfl) ⟨rfl, ?_⟩)
  rcases bad_cases h with hb | ⟨ha, hb⟩ | ⟨i, rfl, hi, hb⟩ | ⟨i, hi, rfl, hb0, hb⟩
  · have d1 : decide (a < 0) = true := decide_eq_true hb
    refine W_seq (W_seqn (W_region (fun k => by simp (decide := true) (disch := first | omega | (simp (decide := true) only [List.length_set, hl]; done) | fail) only [sims, evRegion, evOps, evOp, evG, evR, guardT, callee, opRes, pureR, binT, unT, T.cells, T.leaf, fillT, splice, Nat.reduceLT, Nat.reduceAdd, Nat.reduceMul, Nat.reduceLeDiff, Nat.reduceEqDiff, reduceIte, Int.reduceBEq, Int.reduceBNe, Int.reduceLT, Int.reduceLE, Int.reduceGT, Int.reduceGE, Int.reduceNeg, reduceCtorEq, hps, h1, h2, d1]; rfl) ⟨rfl, W_true (by simp (decide := true) (disch := first | omega | (simp (decide := true) only [List.length_set, hl]; done) | fail) only [sims, evRegion, evOps, evOp, evG, evR, guardT, callee, opRes, pureR, binT, unT, T.cells, T.leaf, fillT, splice, Nat.reduceLT, Nat.reduceAdd, Nat.reduceMul, Nat.reduceLeDiff, Nat.reduceEqDiff, reduceIte, Int.reduceBEq, Int.reduceBNe, Int.reduceLT, Int.reduceLE, Int.reduceGT, Int.reduceGE, Int.reduceNeg, reduceCtorEq] <;> rfl) ?_⟩))
    refine W_seqn (W_region (fun k => by simp (decide := true) (disch := first | omega | (simp (decide := true) only [List.length_set, hl]; done) | fail) only [sims, evRegion, evOps, evOp, evG, evR, guardT, callee, opRes, pureR, binT, unT, T.cells, T.leaf, fillT, splice, Nat.reduceLT, Nat.reduceAdd, Nat.reduceMul, Nat.reduceLeDiff, Nat.reduceEqDiff, reduceIte, Int.reduceBEq, Int.reduceBNe, Int.reduceLT, Int.reduceLE, Int.reduceGT, Int.reduceGE, Int.reduceNeg, reduceCtorEq, hps, hc1]; rfl) ⟨rfl, W_ret ?_⟩)
    simp only [reduceCtorEq, false_and, false_or, or_false, exists_false, exists_const, ne_eq, not_false_eq_true, true_and, implies_true]
    refine fin_cell_true (F := f19) (p := 1) rfl (fun _ => rfl) ?_ ?_ <;> simp (decide := true) (disch := first | omega | (simp (decide := true) only [List.length_set, hl]; done) | fail) only [sims, evRegion, evOps, evOp, evG, evR, guardT, callee, opRes, pureR, binT, unT, T.cells, T.leaf, fillT, splice, Nat.reduceLT, Nat.reduceAdd, Nat.reduceMul, Nat.reduceLeDiff, Nat.reduceEqDiff, reduceIte, Int.reduceBEq, Int.reduceBNe, Int.reduceLT, Int.reduceLE, Int.reduceGT, Int.reduceGE, Int.reduceNeg, reduceCtorEq, hps]
  · have d1 : decide (a < 0) = false := decide_eq_false (by omega)
    have d2 : decide (a ≥ (R.length : Int)) = true := decide_eq_true hb
    refine W_seq (W_seqn (W_region (fun k => by simp (decide := true) (disch := first | omega | (simp (decide := true) only [List.length_set, hl]; done) | fail) only [sims, evRegion, evOps, evOp, evG, evR, guardT, callee, opRes, pureR, binT, unT, T.cells, T.leaf, fillT, splice, Nat.reduceLT, Nat.reduceAdd, Nat.reduceMul, Nat.reduceLeDiff, Nat.reduceEqDiff, reduceIte, Int.reduceBEq, Int.reduceBNe, Int.reduceLT, Int.reduceLE, Int.reduceGT, Int.reduceGE, Int.reduceNeg, reduceCtorEq, hps, h1, h2, d1, d2]; rfl) ⟨rfl, W_true (by simp (decide := true) (disch := first | omega | (simp (decide := true) only [List.length_set, hl]; done) | fail) only [sims, evRegion, evOps, evOp, evG, evR, guardT, callee, opRes, pureR, binT, unT, T.cells, T.leaf, fillT, splice, Nat.reduceLT, Nat.reduceAdd, Nat.reduceMul, Nat.reduceLeDiff, Nat.reduceEqDiff, reduceIte, Int.reduceBEq, Int.reduceBNe, Int.reduceLT, Int.reduceLE, Int.reduceGT, Int.reduceGE, Int.reduceNeg, reduceCtorEq] <;> rfl) ?_⟩))
    refine W_seqn (W_region (fun k => by simp (decide := true) (disch := first | omega | (simp (decide := true) only [List.length_set, hl]; done) | fail) only [sims, evRegion, evOps, evOp, evG, evR, guardT, callee, opRes, pureR, binT, unT, T.cells, T.leaf, fillT, splice, Nat.reduceLT, Nat.reduceAdd, Nat.reduceMul, Nat.reduceLeDiff, Nat.reduceEqDiff, reduceIte, Int.reduceBEq, Int.reduceBNe, Int.reduceLT, Int.reduceLE, Int.reduceGT, Int.reduceGE, Int.reduceNeg, reduceCtorEq, hps, hc1]; rfl) ⟨rfl, W_ret ?_⟩)
    simp only [reduceCtorEq, false_and, false_or, or_false, exists_false, exists_const, ne_eq, not_false_eq_true, true_and, implies_true]
    refine fin_cell_true (F := f19) (p := 1) rfl (fun _ => rfl) ?_ ?_ <;> simp (decide := true) (disch := first | omega | (simp (decide := true) only [List.length_set, hl]; done) | fail) only [sims, evRegion, evOps, evOp, evG, evR, guardT, callee, opRes, pureR, binT, unT, T.cells, T.leaf, fillT, splice, Nat.reduceLT, Nat.reduceAdd, Nat.reduceMul, Nat.reduceLeDiff, Nat.reduceEqDiff, reduceIte, Int.reduceBEq, Int.reduceBNe, Int.reduceLT, Int.reduceLE, Int.reduceGT, Int.reduceGE, Int.reduceNeg, reduceCtorEq, hps]
  · have d1 : decide ((i : Int) < 0) = false := decide_eq_false (by omega)
    have d2 : decide ((i : Int) ≥ (R.length : Int)) = false := decide_eq_false (by omega)
    have d3 : decide (b < 0) = true := decide_eq_true hb
    refine W_seq (W_seqn (W_region (fun k => by simp (decide := true) (disch := first | omega | (simp (decide := true) only [List.length_set, hl]; done) | fail) only [sims, evRegion, evOps, evOp, evG, evR, guardT, callee, opRes, pureR, binT, unT, T.cells, T.leaf, fillT, splice, Nat.reduceLT, Nat.reduceAdd, Nat.reduceMul, Nat.reduceLeDiff, Nat.reduceEqDiff, reduceIte, Int.reduceBEq, Int.reduceBNe, Int.reduceLT, Int.reduceLE, Int.reduceGT, Int.reduceGE, Int.reduceNeg, reduceCtorEq, hps, h1, h2, d1, d2, d3]; rfl) ⟨rfl, W_true (by simp (decide := true) (disch := first | omega | (simp (decide := true) only [List.length_set, hl]; done) | fail) only [sims, evRegion, evOps, evOp, evG, evR, guardT, callee, opRes, pureR, binT, unT, T.cells, T.leaf, fillT, splice, Nat.reduceLT, Nat.reduceAdd, Nat.reduceMul, Nat.reduceLeDiff, Nat.reduceEqDiff, reduceIte, Int.reduceBEq, Int.reduceBNe, Int.reduceLT, Int.reduceLE, Int.reduceGT, Int.reduceGE, Int.reduceNeg, reduceCtorEq] <;> rfl) ?_⟩))
    refine W_seqn (W_region (fun k => by simp (decide := true) (disch := first | omega | (simp (decide := true) only [List.length_set, hl]; done) | fail) only [sims, evRegion, evOps, evOp, evG, evR, guardT, callee, opRes, pureR, binT, unT, T.cells, T.leaf, fillT, splice, Nat.reduceLT, Nat.reduceAdd, Nat.reduceMul, Nat.reduceLeDiff, Nat.reduceEqDiff, reduceIte, Int.reduceBEq, Int.reduceBNe, Int.reduceLT, Int.reduceLE, Int.reduceGT, Int.reduceGE, Int.reduceNeg, reduceCtorEq, hps, hc1]; rfl) ⟨rfl, W_ret ?_⟩)
    simp only [reduceCtorEq, false_and, false_or, or_false, exists_false, exists_const, ne_eq, not_false_eq_true, true_and, implies_true]
    refine fin_cell_true (F := f19) (p := 1) rfl (fun _ => rfl) ?_ ?_ <;> simp (decide := true) (disch := first | omega | (simp (decide := true) only [List.length_set, hl]; done) | fail) only [sims, evRegion, evOps, evOp, evG, evR, guardT, callee, opRes, pureR, binT, unT, T.cells, T.leaf, fillT, splice, Nat.reduceLT, Nat.reduceAdd, Nat.reduceMul, Nat.reduceLeDiff, Nat.reduceEqDiff, reduceIte, Int.reduceBEq, Int.reduceBNe, Int.reduceLT, Int.reduceLE, Int.reduceGT, Int.reduceGE, Int.reduceNeg, reduceCtorEq, hps]
  · have d1 : decide ((i : Int) < 0) = false := decide_eq_false (by omega)
    have d2 : decide ((i : Int) ≥ (R.length : Int)) = false := decide_eq_false (by omega)
    have d3 : decide (b < 0) = false := decide_eq_false (by omega)
    have d4 : decide (b ≥ (R[i].length : Int)) = true := decide_eq_true hb
    obtain ⟨f, hxi⟩ := hx.2 i hi
    have hbb : i * 1 + 1 ≤ R.length := by omega
    refine W_seq (W_seqn (W_region (fun k => by simp (decide := true) (disch := first | omega | (simp (decide := true) only [List.length_set, hl]; done) | fail) only [sims, evRegion, evOps, evOp, evG, evR, guardT, callee, opRes, pureR, binT, unT, T.cells, T.leaf, fillT, splice, Nat.reduceLT, Nat.reduceAdd, Nat.reduceMul, Nat.reduceLeDiff, Nat.reduceEqDiff, reduceIte, Int.reduceBEq, Int.reduceBNe, Int.reduceLT, Int.reduceLE, Int.reduceGT, Int.reduceGE, Int.reduceNeg, reduceCtorEq, hps, h1, h2, d1, d2, d3, d4, hxl, hi, hbb, hxi]; rfl) ⟨rfl, W_true (by simp (decide := true) (disch := first | omega | (simp (decide := true) only [List.length_set, hl]; done) | fail) only [sims, evRegion, evOps, evOp, evG, evR, guardT, callee, opRes, pureR, binT, unT, T.cells, T.leaf, fillT, splice, Nat.reduceLT, Nat.reduceAdd, Nat.reduceMul, Nat.reduceLeDiff, Nat.reduceEqDiff, reduceIte, Int.reduceBEq, Int.reduceBNe, Int.reduceLT, Int.reduceLE, Int.reduceGT, Int.reduceGE, Int.reduceNeg, reduceCtorEq] <;> rfl) ?_⟩))
    refine W_seqn (W_region (fun k => by simp (decide := true) (disch := first | omega | (simp (decide := true) only [List.length_set, hl]; done) | fail) only [sims, evRegion, evOps, evOp, evG, evR, guardT, callee, opRes, pureR, binT, unT, T.cells, T.leaf, fillT, splice, Nat.reduceLT, Nat.reduceAdd, Nat.reduceMul, Nat.reduceLeDiff, Nat.reduceEqDiff, reduceIte, Int.reduceBEq, Int.reduceBNe, Int.reduceLT, Int.reduceLE, Int.reduceGT, Int.reduceGE, Int.reduceNeg, reduceCtorEq, hps, hc1]; rfl) ⟨rfl, W_ret ?_⟩)
    simp only [reduceCtorEq, false_and, false_or, or_false, exists_false, exists_const, ne_eq, not_false_eq_true, true_and, implies_true]
    refine fin_cell_true (F := f19) (p := 1) rfl (fun _ => rfl) ?_ ?_ <;> simp (decide := true) (disch := first | omega | (simp (decide := true) only [List.length_set, hl]; done) | fail) only [sims, evRegion, evOps, evOp, evG, evR, guardT, callee, opRes, pureR, binT, unT, T.cells, T.leaf, fillT, splice, Nat.reduceLT, Nat.reduceAdd, Nat.reduceMul, Nat.reduceLeDiff, Nat.reduceEqDiff, reduceIte, Int.reduceBEq, Int.reduceBNe, Int.reduceLT, Int.reduceLE, Int.reduceGT, Int.reduceGE, Int.reduceNeg, reduceCtorEq, hps]
theorem not_bad {R : List (List Way)} {a b : Int} (h : ¬ Bad R a b) : ∃ (i w : Nat) (hi : i < R.length), a = i ∧ b = w ∧ w < R[i].length := by
  unfold Bad at h
  have h' : 0 ≤ a ∧ a < R.length ∧ 0 ≤ b ∧ b < ((R[a.toNat]?).getD []).length := Classical.not_not.mp h
  obtain ⟨h1, h2, h3, h4⟩ := h'
  have hi : a.toNat < R.length := by omega
  rw [List.getElem?_eq_getElem hi, Option.getD_some] at h4
  exact ⟨a.toNat, b.toNat, hi, by omega, by omega, by omega⟩
theorem bus_touch (fx : Bool) (R : List (List Way)) (xs : List T) (hx : Tells xs R) (hR : R.length ≤ 1000) (hw : ∀ l ∈ R, l.length ≤ 1000 ∧ ∀ w ∈ l, w.wf) (a b : Int) :
    ∃ fx' ys, E ap 19 [.agg [.imm fx R.length xs], .int .i64 a, .int .i64 b] (.agg [.imm fx' R.length ys]) ∧ Tells ys (touchR R a b) := by
  by_cases hbad : Bad R a b
  · exact ⟨fx, xs, bus_touch_bad fx R xs hx a b hbad, by rw [touch_bad hbad]; exact hx⟩
  · obtain ⟨i, w, hi, rfl, rfl, hwl⟩ := not_bad hbad
    refine ⟨_, _, bus_touch_ok fx R xs hx hR hw i w hi hwl, ?_⟩
    rw [touch_some R i w hi hwl]
    exact tells_set hx i false _ _ rfl
end Go.Proofs.Ythanlobfjpjegaa.Abs
