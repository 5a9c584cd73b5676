/- A way is used: the program's function, whole. -/
import Derived.Test.YthanlobfjpjegaaBtouch
namespace Go.Proofs.Ythanlobfjpjegaa.Abs
open Go Go.RowKit Fn
set_option linter.unusedVariables false
set_option linter.unusedSimpArgs false
set_option linter.unnecessarySimpa false
set_option maxRecDepth 100000

theorem touch_some (R : List (List Way)) (i w : Nat) (hi : i < R.length) (hwl : w < R[i].length) : touchR R i w = R.set i (touchL R[i] w) := by
  unfold touchR
  rw [Int.toNat_natCast, Int.toNat_natCast, List.getElem?_eq_getElem hi, Option.getD_some, if_pos (by omega)]
theorem bus_touch_ok (fx : Bool) (R : List (List Way)) (xs : List T) (hx : Tells xs R) (hR : R.length ≤ 1000) (hw : ∀ l ∈ R, l.length ≤ 1000 ∧ ∀ w ∈ l, w.wf) (i w : Nat) (hi : i < R.length) (hwl : w < R[i].length) :
    E ap 19 [.agg [.imm fx R.length xs], .int .i64 (i : Int), .int .i64 (w : Int)] (.agg [.imm false R.length (xs.set i (.imm false (touchL R[i] w).length ((touchL R[i] w).flatMap Way.enc)))]) := by
  refine E_body (F := f19) rfl rfl rfl ?_
  generalize hs0 : (_ : List T) ++ List.replicate _ T.undef = s0
  have e0 : s0.length = 86 ∧ rho s0 (.tmp 0) = .agg [.imm fx R.length xs] ∧ rho s0 (.tmp 1) = .int .i64 (i : Int) ∧ rho s0 (.tmp 2) = .int .i64 (w : Int) := by subst hs0; exact ⟨rfl, rfl, rfl, rfl⟩
  clear hs0
  obtain ⟨hl, h0, h1, h2⟩ := e0
  obtain ⟨hrl, hrw⟩ := hw _ (List.getElem_mem hi)
  obtain ⟨f, hxi⟩ := hx.2 i hi
  have hxl := hx.1
  have hxf := tells_leaf hx
  have hn0 : R.length ≤ 1000 := hR
  have hiR := hi
  generalize hL : R[i] = l at *
  clear hL
  generalize hn : R.length = n at hi hR hn0 hxl h0 ⊢
  have hcl := enc_len l hrw
  have hag := age_at l hrw w hwl
  have htl := touch_len l w
  have htw := touch_wf hrw w hwl
  have hcl2 := enc_len _ (mem_bump (a := (wayN l w).age) (k := l.length) hrw (wf_i64 (wayN_wf hrw hwl).2.2.2).2)
  have hset := set_age (bumpK (wayN l w).age l.length l) (mem_bump hrw (wf_i64 (wayN_wf hrw hwl).2.2.2).2) w (by rw [bump_len]; exact hwl) 0
  rw [bump_len] at hcl2
  have hloop := bt_loop n i w (wayN l w).age (xs.set i (.own 46 0 l.length 19)) (by rw [List.length_set]; exact hxl) hi l hrw hrl (wf_i64 (wayN_wf hrw hwl).2.2.2).2 (by rw [Nat.mul_one, List.getElem?_set, if_pos rfl, if_pos (by omega)])
  have hbz := bump_zero (wayN l w).age l
  have htd : touchL l w = (bumpK (wayN l w).age l.length l).set w (aged (wayN (bumpK (wayN l w).age l.length l) w) 0) := rfl
  rw [← htd] at hset
  obtain ⟨tl, htl'⟩ : ∃ tl, tl = touchL l w := ⟨_, rfl⟩
  rw [← htl'] at htl htw hset ⊢
  clear htd htl'
  have hd1 : decide ((i : Int) < 0) = false := decide_eq_false (by omega)
  have hd2 : decide ((i : Int) ≥ (n : Int)) = false := decide_eq_false (by omega)
  have hd3 : decide ((w : Int) < 0) = false := decide_eq_false (by omega)
  have hd4 : decide ((w : Int) ≥ (l.length : Int)) = false := decide_eq_false (by omega)
  have hb : i * 1 + 1 ≤ n := by omega
  have hb2 : w * 19 + 18 + 1 ≤ l.length * 19 := by omega
  have hleaf : allLeaf [T.imm fx n xs] = true := rfl
  have hi1 : 0 + i * 1 = i := by omega
  have hxs2 : (xs.set i (.own 46 0 l.length 19))[i * 1]? = some (.own 46 0 l.length 19) := by rw [Nat.mul_one, List.getElem?_set, if_pos rfl, if_pos (by omega)]
  have hc1 : cut [T.imm fx n xs] 0 1 = [T.imm fx n xs] := rfl
  have hc2 : cut [T.own 34 0 n 1] 0 1 = [T.own 34 0 n 1] := rfl
  refine W_seqn (W_region (fun k => by simp (decide := true) (disch := first | omega | (simp (decide := true) only [List.length_set, hl]; done) | fail) only [sims, evRegion, evOps, evOp, evG, evR, guardT, callee, opRes, pureR, binT, unT, T.cells, T.leaf, fillT, splice, Nat.reduceLT, Nat.reduceAdd, Nat.reduceMul, Nat.reduceLeDiff, Nat.reduceEqDiff, reduceIte, Int.reduceBEq, Int.reduceBNe, Int.reduceLT, Int.reduceLE, Int.reduceGT, Int.reduceGE, Int.reduceNeg, reduceCtorEq, hps, h0, hleaf]; rfl) ⟨rfl, ?_⟩)
  generalize hws : l.flatMap Way.enc = ws at *
  refine W_seqn (W_seqn (W_region (fun k => by simp (decide := true) (disch := first | omega | (simp (decide := true) only [List.length_set, hl]; done) | fail) only [sims, evRegion, evOps, evOp, evG, evR, guardT, callee, opRes, pureR, binT, unT, T.cells, T.leaf, fillT, splice, Nat.reduceLT, Nat.reduceAdd, Nat.reduceMul, Nat.reduceLeDiff, Nat.reduceEqDiff, reduceIte, Int.reduceBEq, Int.reduceBNe, Int.reduceLT, Int.reduceLE, Int.reduceGT, Int.reduceGE, Int.reduceNeg, reduceCtorEq, hps, h1, h2, hd1, hd2, hd3, hd4, hxl, hi, hb, hxi]; rfl) ⟨rfl, W_false (by simp (decide := true) (disch := first | omega | (simp (decide := true) only [List.length_set, hl]; done) | fail) only [sims, evRegion, evOps, evOp, evG, evR, guardT, callee, opRes, pureR, binT, unT, T.cells, T.leaf, fillT, splice, Nat.reduceLT, Nat.reduceAdd, Nat.reduceMul, Nat.reduceLeDiff, Nat.reduceEqDiff, reduceIte, Int.reduceBEq, Int.reduceBNe, Int.reduceLT, Int.reduceLE, Int.reduceGT, Int.reduceGE, Int.reduceNeg, reduceCtorEq] <;> rfl) (W_skip ⟨rfl, ?_⟩)⟩))
  refine W_abs (fun st => st.s.length = 86 ∧ rho st.s (.tmp 1) = .int .i64 (i : Int) ∧ rho st.s (.tmp 2) = .int .i64 (w : Int) ∧ rho st.s (.tmp 3) = .ptr 0 0 ∧ rho st.s (.tmp 6) = .ptr 1 0 ∧ st.g 0 = some [.imm fx n xs] ∧ st.g 1 = some [.imm true 0 []] ∧ st.nx = 25) ?_ ?_
  · refine ⟨?_, ?_, ?_, ?_, ?_, ?_, ?_, ?_⟩
    · simp (decide := true) (disch := first | omega | (simp (decide := true) only [List.length_set, hl]; done) | fail) only [sims, evRegion, evOps, evOp, evG, evR, guardT, callee, opRes, pureR, binT, unT, T.cells, T.leaf, fillT, splice, Nat.reduceLT, Nat.reduceAdd, Nat.reduceMul, Nat.reduceLeDiff, Nat.reduceEqDiff, reduceIte, Int.reduceBEq, Int.reduceBNe, Int.reduceLT, Int.reduceLE, Int.reduceGT, Int.reduceGE, Int.reduceNeg, reduceCtorEq, hps, hl]
    · simp (decide := true) (disch := first | omega | (simp (decide := true) only [List.length_set, hl]; done) | fail) only [sims, evRegion, evOps, evOp, evG, evR, guardT, callee, opRes, pureR, binT, unT, T.cells, T.leaf, fillT, splice, Nat.reduceLT, Nat.reduceAdd, Nat.reduceMul, Nat.reduceLeDiff, Nat.reduceEqDiff, reduceIte, Int.reduceBEq, Int.reduceBNe, Int.reduceLT, Int.reduceLE, Int.reduceGT, Int.reduceGE, Int.reduceNeg, reduceCtorEq, hps, h1]
    · simp (decide := true) (disch := first | omega | (simp (decide := true) only [List.length_set, hl]; done) | fail) only [sims, evRegion, evOps, evOp, evG, evR, guardT, callee, opRes, pureR, binT, unT, T.cells, T.leaf, fillT, splice, Nat.reduceLT, Nat.reduceAdd, Nat.reduceMul, Nat.reduceLeDiff, Nat.reduceEqDiff, reduceIte, Int.reduceBEq, Int.reduceBNe, Int.reduceLT, Int.reduceLE, Int.reduceGT, Int.reduceGE, Int.reduceNeg, reduceCtorEq, hps, h2]
    · simp (decide := true) (disch := first | omega | (simp (decide := true) only [List.length_set, hl]; done) | fail) only [sims, evRegion, evOps, evOp, evG, evR, guardT, callee, opRes, pureR, binT, unT, T.cells, T.leaf, fillT, splice, Nat.reduceLT, Nat.reduceAdd, Nat.reduceMul, Nat.reduceLeDiff, Nat.reduceEqDiff, reduceIte, Int.reduceBEq, Int.reduceBNe, Int.reduceLT, Int.reduceLE, Int.reduceGT, Int.reduceGE, Int.reduceNeg, reduceCtorEq, hps]
    · simp (decide := true) (disch := first | omega | (simp (decide := true) only [List.length_set, hl]; done) | fail) only [sims, evRegion, evOps, evOp, evG, evR, guardT, callee, opRes, pureR, binT, unT, T.cells, T.leaf, fillT, splice, Nat.reduceLT, Nat.reduceAdd, Nat.reduceMul, Nat.reduceLeDiff, Nat.reduceEqDiff, reduceIte, Int.reduceBEq, Int.reduceBNe, Int.reduceLT, Int.reduceLE, Int.reduceGT, Int.reduceGE, Int.reduceNeg, reduceCtorEq, hps]
    · simp (decide := true) (disch := first | omega | (simp (decide := true) only [List.length_set, hl]; done) | fail) only [sims, evRegion, evOps, evOp, evG, evR, guardT, callee, opRes, pureR, binT, unT, T.cells, T.leaf, fillT, splice, Nat.reduceLT, Nat.reduceAdd, Nat.reduceMul, Nat.reduceLeDiff, Nat.reduceEqDiff, reduceIte, Int.reduceBEq, Int.reduceBNe, Int.reduceLT, Int.reduceLE, Int.reduceGT, Int.reduceGE, Int.reduceNeg, reduceCtorEq, hps]
    · simp (decide := true) (disch := first | omega | (simp (decide := true) only [List.length_set, hl]; done) | fail) only [sims, evRegion, evOps, evOp, evG, evR, guardT, callee, opRes, pureR, binT, unT, T.cells, T.leaf, fillT, splice, Nat.reduceLT, Nat.reduceAdd, Nat.reduceMul, Nat.reduceLeDiff, Nat.reduceEqDiff, reduceIte, Int.reduceBEq, Int.reduceBNe, Int.reduceLT, Int.reduceLE, Int.reduceGT, Int.reduceGE, Int.reduceNeg, reduceCtorEq, hps]
    · show (0 + 2 + 23 : Nat) = 25; rfl
  clear hl h0 h1 h2
  rintro ⟨s, g, nx⟩ ⟨hl, h1, h2, h3, h6, g0, g1, hnx⟩
  simp only at hl h1 h2 h3 h6 g0 g1 hnx
  subst hnx
  obtain ⟨N, g', nx', hN, hW⟩ := with_run fx n xs hxl hxf hn0 i hi f l.length ws hxi hcl (by rw [← hws]; exact enc_leaf l) (by omega) hrl g (25 + 5)
  obtain ⟨w1, w2, w3, w4, w5, w6⟩ := hW
  have q40 := hN N (Nat.le_refl _)
  have w0' : g' 0 = some [.imm fx n xs] := by rw [w6 0 (by omega)]; exact g0
  have w1' : g' 1 = some [.imm true 0 []] := by rw [w6 1 (by omega)]; exact g1
  refine W_seqn (W_regionN ⟨N, by simp (decide := true) (disch := first | omega | (simp (decide := true) only [List.length_set, hl]; done) | fail) only [sims, evRegion, evOps, evOp, evG, evR, guardT, callee, opRes, pureR, binT, unT, T.cells, T.leaf, fillT, splice, Nat.reduceLT, Nat.reduceAdd, Nat.reduceMul, Nat.reduceLeDiff, Nat.reduceEqDiff, reduceIte, Int.reduceBEq, Int.reduceBNe, Int.reduceLT, Int.reduceLE, Int.reduceGT, Int.reduceGE, Int.reduceNeg, reduceCtorEq, hps, evI, h3, h1, g0, hc1, ap40, p40, n40, q40]; rfl⟩ ⟨rfl, ?_⟩)
  refine W_abs (fun st => st.s.length = 86 ∧ rho st.s (.tmp 1) = .int .i64 (i : Int) ∧ rho st.s (.tmp 2) = .int .i64 (w : Int) ∧ rho st.s (.tmp 3) = .ptr 0 0 ∧ rho st.s (.tmp 6) = .ptr 1 0 ∧ rho st.s (.tmp 7) = .ptr 28 0 ∧ st.g 1 = some [.imm true 0 []] ∧ st.g 28 = some [.own 34 0 n 1] ∧ st.g 34 = some (xs.set i (.own 46 0 l.length 19)) ∧ st.g 46 = some ws) ?_ ?_
  · refine ⟨?_, ?_, ?_, ?_, ?_, ?_, ?_, ?_, ?_, ?_⟩
    all_goals first | (simp (decide := true) (disch := first | omega | (simp (decide := true) only [List.length_set, hl]; done) | fail) only [sims, evRegion, evOps, evOp, evG, evR, guardT, callee, opRes, pureR, binT, unT, T.cells, T.leaf, fillT, splice, Nat.reduceLT, Nat.reduceAdd, Nat.reduceMul, Nat.reduceLeDiff, Nat.reduceEqDiff, reduceIte, Int.reduceBEq, Int.reduceBNe, Int.reduceLT, Int.reduceLE, Int.reduceGT, Int.reduceGE, Int.reduceNeg, reduceCtorEq, hps, hl, h1, h2, h3, h6]; done) | (simp (decide := true) only [sims, evRegion, evOps, evOp, evG, evR, guardT, callee, opRes, pureR, binT, unT, T.cells, T.leaf, fillT, splice, Nat.reduceLT, Nat.reduceAdd, Nat.reduceMul, Nat.reduceLeDiff, Nat.reduceEqDiff, reduceIte, Int.reduceBEq, Int.reduceBNe, Int.reduceLT, Int.reduceLE, Int.reduceGT, Int.reduceGE, Int.reduceNeg, reduceCtorEq, hps, w1', w1, w2]; done) | (simp (decide := true) only [sims, evRegion, evOps, evOp, evG, evR, guardT, callee, opRes, pureR, binT, unT, T.cells, T.leaf, fillT, splice, Nat.reduceLT, Nat.reduceAdd, Nat.reduceMul, Nat.reduceLeDiff, Nat.reduceEqDiff, reduceIte, Int.reduceBEq, Int.reduceBNe, Int.reduceLT, Int.reduceLE, Int.reduceGT, Int.reduceGE, Int.reduceNeg, reduceCtorEq, hps, w1', w1, w2]; rfl)
  clear hl h1 h2 h3 h6 g0 g1 w0' w1' w1 w2 w3 w4 w5 w6
  rintro ⟨s, g, nx⟩ ⟨hl, h1, h2, h3, h6, h7, g1, g28, g34, g46⟩
  simp only at hl h1 h2 h3 h6 h7 g1 g28 g34 g46
  generalize hxs3 : xs.set i (.own 46 0 l.length 19) = xs3 at *
  have hx3l : xs3.length = n := by rw [← hxs3, List.length_set]; exact hxl
  refine W_seqn (W_region (fun k => by simp (decide := true) (disch := first | omega | (simp (decide := true) only [List.length_set, hl]; done) | fail) only [sims, evRegion, evOps, evOp, evG, evR, guardT, callee, opRes, pureR, binT, unT, T.cells, T.leaf, fillT, splice, Nat.reduceLT, Nat.reduceAdd, Nat.reduceMul, Nat.reduceLeDiff, Nat.reduceEqDiff, reduceIte, Int.reduceBEq, Int.reduceBNe, Int.reduceLT, Int.reduceLE, Int.reduceGT, Int.reduceGE, Int.reduceNeg, reduceCtorEq, hps, h7, h1, h2, g28, g34, g46, hx3l, hi, hb, hxs2, hwl, hcl, hb2, hag]; rfl) ⟨rfl, ?_⟩)
  refine W_seq (W_seqn (W_region (fun k => by simp (decide := true) (disch := first | omega | (simp (decide := true) only [List.length_set, hl]; done) | fail) only [sims, evRegion, evOps, evOp, evG, evR, guardT, callee, opRes, pureR, binT, unT, T.cells, T.leaf, fillT, splice, Nat.reduceLT, Nat.reduceAdd, Nat.reduceMul, Nat.reduceLeDiff, Nat.reduceEqDiff, reduceIte, Int.reduceBEq, Int.reduceBNe, Int.reduceLT, Int.reduceLE, Int.reduceGT, Int.reduceGE, Int.reduceNeg, reduceCtorEq, hps, h7, h1, h2, g28, g34, g46, hx3l, hi, hb, hxs2]; rfl) ⟨rfl, W_block ?_⟩))
  refine hloop _ (fun st hB hg => ?_) (l.length - 0) _ ⟨0, ⟨?_, ?_, ?_, ?_, ?_, ?_, ?_, g1, g28, g34⟩, (by rw [hbz, hws]; exact g46), ?_, by omega, rfl⟩
  · obtain ⟨hl, h1, h2, h6, h7, h8, h52, g1, g28, g34⟩ := hB
    generalize hbc : (bumpK (wayN l w).age l.length l).flatMap Way.enc = bc at *
    refine .inl ⟨rfl, .inl ⟨rfl, ?_⟩⟩
    refine W_seqn (W_region (fun k => by simp (decide := true) (disch := first | omega | (simp (decide := true) only [List.length_set, hl]; done) | fail) only [sims, evRegion, evOps, evOp, evG, evR, guardT, callee, opRes, pureR, binT, unT, T.cells, T.leaf, fillT, splice, Nat.reduceLT, Nat.reduceAdd, Nat.reduceMul, Nat.reduceLeDiff, Nat.reduceEqDiff, reduceIte, Int.reduceBEq, Int.reduceBNe, Int.reduceLT, Int.reduceLE, Int.reduceGT, Int.reduceGE, Int.reduceNeg, reduceCtorEq, hps, h7, h1, h2, g28, g34, hg, hx3l, hi, hb, hxs2, hwl, hcl2, hb2]; rfl) ⟨rfl, ?_⟩)
    refine W_seqn (W_region (fun k => by simp (decide := true) (disch := first | omega | (simp (decide := true) only [List.length_set, hl]; done) | fail) only [sims, evRegion, evOps, evOp, evG, evR, guardT, callee, opRes, pureR, binT, unT, T.cells, T.leaf, fillT, splice, Nat.reduceLT, Nat.reduceAdd, Nat.reduceMul, Nat.reduceLeDiff, Nat.reduceEqDiff, reduceIte, Int.reduceBEq, Int.reduceBNe, Int.reduceLT, Int.reduceLE, Int.reduceGT, Int.reduceGE, Int.reduceNeg, reduceCtorEq, hps, h7, h6, g28, g1, hc2]; rfl) ⟨rfl, W_ret ?_⟩)
    refine fin_rowset (F := f19) (p := 1) (A := 34) (B := 46) rfl hx hn.symm hiR htw ?_ ?_ ?_ ?_
    · simp (decide := true) (disch := first | omega | (simp (decide := true) only [List.length_set, hl]; done) | fail) only [sims, evRegion, evOps, evOp, evG, evR, guardT, callee, opRes, pureR, binT, unT, T.cells, T.leaf, fillT, splice, Nat.reduceLT, Nat.reduceAdd, Nat.reduceMul, Nat.reduceLeDiff, Nat.reduceEqDiff, reduceIte, Int.reduceBEq, Int.reduceBNe, Int.reduceLT, Int.reduceLE, Int.reduceGT, Int.reduceGE, Int.reduceNeg, reduceCtorEq, h6]
    · simp (decide := true) (disch := first | omega | (simp (decide := true) only [List.length_set, hl]; done) | fail) only [sims, evRegion, evOps, evOp, evG, evR, guardT, callee, opRes, pureR, binT, unT, T.cells, T.leaf, fillT, splice, Nat.reduceLT, Nat.reduceAdd, Nat.reduceMul, Nat.reduceLeDiff, Nat.reduceEqDiff, reduceIte, Int.reduceBEq, Int.reduceBNe, Int.reduceLT, Int.reduceLE, Int.reduceGT, Int.reduceGE, Int.reduceNeg, reduceCtorEq, hps]
    · simp (decide := true) (disch := first | omega | (simp (decide := true) only [List.length_set, hl]; done) | fail) only [sims, evRegion, evOps, evOp, evG, evR, guardT, callee, opRes, pureR, binT, unT, T.cells, T.leaf, fillT, splice, Nat.reduceLT, Nat.reduceAdd, Nat.reduceMul, Nat.reduceLeDiff, Nat.reduceEqDiff, reduceIte, Int.reduceBEq, Int.reduceBNe, Int.reduceLT, Int.reduceLE, Int.reduceGT, Int.reduceGE, Int.reduceNeg, reduceCtorEq, hps, g34]
      rw [← hxs3, htl]
    · simp (decide := true) (disch := first | omega | (simp (decide := true) only [List.length_set, hl]; done) | fail) only [sims, evRegion, evOps, evOp, evG, evR, guardT, callee, opRes, pureR, binT, unT, T.cells, T.leaf, fillT, splice, Nat.reduceLT, Nat.reduceAdd, Nat.reduceMul, Nat.reduceLeDiff, Nat.reduceEqDiff, reduceIte, Int.reduceBEq, Int.reduceBNe, Int.reduceLT, Int.reduceLE, Int.reduceGT, Int.reduceGE, Int.reduceNeg, reduceCtorEq, hps, hset]
  all_goals first | (simp (decide := true) (disch := first | omega | (simp (decide := true) only [List.length_set, hl]; done) | fail) only [sims, evRegion, evOps, evOp, evG, evR, guardT, callee, opRes, pureR, binT, unT, T.cells, T.leaf, fillT, splice, Nat.reduceLT, Nat.reduceAdd, Nat.reduceMul, Nat.reduceLeDiff, Nat.reduceEqDiff, reduceIte, Int.reduceBEq, Int.reduceBNe, Int.reduceLT, Int.reduceLE, Int.reduceGT, Int.reduceGE, Int.reduceNeg, reduceCtorEq, hl, h1, h2, h6, h7]; done) | (simp (decide := true) (disch := first | omega | (simp (decide := true) only [List.length_set, hl]; done) | fail) only [sims, evRegion, evOps, evOp, evG, evR, guardT, callee, opRes, pureR, binT, unT, T.cells, T.leaf, fillT, splice, Nat.reduceLT, Nat.reduceAdd, Nat.reduceMul, Nat.reduceLeDiff, Nat.reduceEqDiff, reduceIte, Int.reduceBEq, Int.reduceBNe, Int.reduceLT, Int.reduceLE, Int.reduceGT, Int.reduceGE, Int.reduceNeg, reduceCtorEq, hl, h1, h2, h6, h7]; rfl)
end Go.Proofs.Ythanlobfjpjegaa.Abs
