/- The law that written bytes are read until they are evicted. -/
import Derived.Test.YthanlobfjpjegaaKeep
namespace Go.Proofs.Ythanlobfjpjegaa.Abs
open Go Go.RowKit Fn
set_option linter.unusedVariables false
set_option linter.unusedSimpArgs false
set_option linter.unnecessarySimpa false
set_option maxRecDepth 100000
set_option maxHeartbeats 4000000

theorem Pure.CacheKeeps (a0 : Cache) (a1 : Line) (a2 : Place) (h0 : Cache.wf a0) (h1 : Line.wf a1) (h2 : Place.wf a2) :
    ∃ k, evF ap k 7 [T.agg (a0.enc), T.agg (a1.enc), T.agg (a2.enc)] = some (.bool true) := by
  refine E.get ?_
  obtain ⟨line, st, data⟩ := a1
  obtain ⟨hw1, hw2, hd⟩ := h1
  simp only at hw1 hw2 hd
  have hln := wf_u32 hw1
  obtain ⟨ln, rfl⟩ : ∃ ln : Nat, line = (ln : Int) := ⟨line.toNat, by omega⟩
  have hln : ln ≤ 4294967295 := by omega
  obtain ⟨addr, size⟩ := a2
  obtain ⟨hp1, hp2⟩ := h2
  simp only at hp1 hp2
  have had := wf_u32 hp1
  have hsz := wf_i64 hp2
  obtain ⟨ad, rfl⟩ : ∃ ad : Nat, addr = (ad : Int) := ⟨addr.toNat, by omega⟩
  have ha : ad ≤ 4294967295 := by omega
  rw [cache_enc, show Line.enc ⟨(ln : Int), st, data⟩ = T.int .u32 (ln : Int) :: T.int .i64 st :: dataT data from rfl, show Place.enc ⟨(ad : Int), size⟩ = [T.int .u32 (ad : Int), T.int .i64 size] from rfl]
  refine E_body (F := f7) rfl rfl rfl ?_
  generalize hs0 : (_ : List T) ++ List.replicate _ T.undef = s0
  have e0 : s0.length = 220 ∧ rho s0 (.tmp 0) = .agg [setsT a0] ∧ rho s0 (.tmp 1) = .agg (T.int .u32 (ln : Int) :: T.int .i64 st :: dataT data) ∧ rho s0 (.tmp 2) = .agg [T.int .u32 (ad : Int), T.int .i64 size] := by subst hs0; exact ⟨rfl, rfl, rfl, rfl⟩
  clear hs0
  obtain ⟨hl, e0, e1, e2⟩ := e0
  have hcut : cut [setsT a0] 0 1 = [setsT a0] := rfl
  have hleaf : allLeaf [setsT a0] = true := rfl
  have hleafp : allLeaf [T.int .u32 (ad : Int), T.int .i64 size] = true := rfl
  have hpl : [T.int .u32 (ad : Int), T.int .i64 size].length = 2 := rfl
  have hp0 : [T.int .u32 (ad : Int), T.int .i64 size][0]? = some (.int .u32 (ad : Int)) := rfl
  have hp1' : [T.int .u32 (ad : Int), T.int .i64 size][1]? = some (.int .i64 size) := rfl
  generalize [T.int .u32 (ad : Int), T.int .i64 size] = pe at *
  have hdl : (dataT data).length = 16 := by rw [data_len]; exact hd.1
  have hleaf2 : allLeaf (T.int .u32 (ln : Int) :: T.int .i64 st :: dataT data) = true := leaf_ints _ (fun x hx => by
    rcases List.mem_cons.mp hx with rfl | hx
    · exact ⟨_, _, rfl⟩
    rcases List.mem_cons.mp hx with rfl | hx
    · exact ⟨_, _, rfl⟩
    exact data_ints data x hx)
  have hlen2 : (T.int .u32 (ln : Int) :: T.int .i64 st :: dataT data).length = 18 := by rw [List.length_cons, List.length_cons, hdl]
  have hg0 : (T.int .u32 (ln : Int) :: T.int .i64 st :: dataT data)[0]? = some (.int .u32 (ln : Int)) := rfl
  have hg1 : (T.int .u32 (ln : Int) :: T.int .i64 st :: dataT data)[1]? = some (.int .i64 st) := rfl
  have hg2 : cut (T.int .u32 (ln : Int) :: T.int .i64 st :: dataT data) 2 16 = dataT data := by
    show (dataT data).take 16 = _
    rw [List.take_of_length_le (by omega)]
  generalize hle : (T.int .u32 (ln : Int) :: T.int .i64 st :: dataT data) = le at *
  obtain ⟨b, h8, hb⟩ := law_light a0 h0
  obtain ⟨n8', c8⟩ := h8.call ap8 (fun g => rfl)
  obtain ⟨n9', c9⟩ := (E_of awake_runs).call ap9 (fun g => rfl)
  have q8 := c8 n8' (Nat.le_refl _)
  have q9 := c9 n9' (Nat.le_refl _)
  refine W_seqn (W_region (fun k => by simp (decide := true) (disch := first | omega | (simp (decide := true) only [List.length_set, hl]; done) | fail) only [sims, evRegion, evOps, evOp, evG, evR, guardT, callee, opRes, pureR, binT, unT, T.cells, T.leaf, fillT, splice, Nat.reduceLT, Nat.reduceAdd, Nat.reduceMul, Nat.reduceLeDiff, Nat.reduceEqDiff, reduceIte, Int.reduceBEq, Int.reduceBNe, Int.reduceLT, Int.reduceLE, Int.reduceGT, Int.reduceGE, Int.reduceNeg, reduceCtorEq, hps, e0, e1, e2, hleaf, hleaf2, hleafp]; rfl) ⟨rfl, ?_⟩)
  cases b with
  | false =>
    refine W_seq (W_seqn (W_regionN ⟨n8', by simp (decide := true) (disch := first | omega | (simp (decide := true) only [List.length_set, hl]; done) | fail) only [sims, evRegion, evOps, evOp, evG, evR, guardT, callee, opRes, pureR, binT, unT, T.cells, T.leaf, fillT, splice, Nat.reduceLT, Nat.reduceAdd, Nat.reduceMul, Nat.reduceLeDiff, Nat.reduceEqDiff, reduceIte, Int.reduceBEq, Int.reduceBNe, Int.reduceLT, Int.reduceLE, Int.reduceGT, Int.reduceGE, Int.reduceNeg, reduceCtorEq, hps, hcut, ap8, p8, n8, q8]; rfl⟩ ⟨rfl, W_true (by simp (decide := true) (disch := first | omega | (simp (decide := true) only [List.length_set, hl]; done) | fail) only [sims, evRegion, evOps, evOp, evG, evR, guardT, callee, opRes, pureR, binT, unT, T.cells, T.leaf, fillT, splice, Nat.reduceLT, Nat.reduceAdd, Nat.reduceMul, Nat.reduceLeDiff, Nat.reduceEqDiff, reduceIte, Int.reduceBEq, Int.reduceBNe, Int.reduceLT, Int.reduceLE, Int.reduceGT, Int.reduceGE, Int.reduceNeg, reduceCtorEq] <;> rfl) ?_⟩))
    refine W_seqn (W_regionN ⟨n9', by simp (decide := true) (disch := first | omega | (simp (decide := true) only [List.length_set, hl]; done) | fail) only [sims, evRegion, evOps, evOp, evG, evR, guardT, callee, opRes, pureR, binT, unT, T.cells, T.leaf, fillT, splice, Nat.reduceLT, Nat.reduceAdd, Nat.reduceMul, Nat.reduceLeDiff, Nat.reduceEqDiff, reduceIte, Int.reduceBEq, Int.reduceBNe, Int.reduceLT, Int.reduceLE, Int.reduceGT, Int.reduceGE, Int.reduceNeg, reduceCtorEq, ap9, p9, n9, q9]; rfl⟩ ⟨rfl, W_ret ?_⟩)
    simp only [reduceCtorEq, false_and, false_or, or_false, exists_false, exists_const, ne_eq, not_false_eq_true, true_and, implies_true]
    refine fin_of (F := f7) rfl (fun _ => rfl) ?_
    simp (decide := true) (disch := first | omega | (simp (decide := true) only [List.length_set, hl]; done) | fail) only [sims, evRegion, evOps, evOp, evG, evR, guardT, callee, opRes, pureR, binT, unT, T.cells, T.leaf, fillT, splice, Nat.reduceLT, Nat.reduceAdd, Nat.reduceMul, Nat.reduceLeDiff, Nat.reduceEqDiff, reduceIte, Int.reduceBEq, Int.reduceBNe, Int.reduceLT, Int.reduceLE, Int.reduceGT, Int.reduceGE, Int.reduceNeg, reduceCtorEq]
  | true =>
    have hfit := fit_cache h0 (hb rfl)
    obtain ⟨v3, hv3, b3, rfl, i3⟩ := ref_right a0 h0 hfit
    obtain ⟨n14', c14⟩ := hv3.call ap14 (fun g => rfl)
    have r8 := c8 (n8' + n14') (by omega)
    have r14 := c14 (n8' + n14') (by omega)
    cases b3 with
    | false =>
      refine W_seq (W_seqn (W_regionN ⟨n8' + n14', by simp (decide := true) (disch := first | omega | (simp (decide := true) only [List.length_set, hl]; done) | fail) only [sims, evRegion, evOps, evOp, evG, evR, guardT, callee, opRes, pureR, binT, unT, T.cells, T.leaf, fillT, splice, Nat.reduceLT, Nat.reduceAdd, Nat.reduceMul, Nat.reduceLeDiff, Nat.reduceEqDiff, reduceIte, Int.reduceBEq, Int.reduceBNe, Int.reduceLT, Int.reduceLE, Int.reduceGT, Int.reduceGE, Int.reduceNeg, reduceCtorEq, hps, hcut, ap8, p8, n8, r8, ap14, p14, n14, r14]; rfl⟩ ⟨rfl, W_true (by simp (decide := true) (disch := first | omega | (simp (decide := true) only [List.length_set, hl]; done) | fail) only [sims, evRegion, evOps, evOp, evG, evR, guardT, callee, opRes, pureR, binT, unT, T.cells, T.leaf, fillT, splice, Nat.reduceLT, Nat.reduceAdd, Nat.reduceMul, Nat.reduceLeDiff, Nat.reduceEqDiff, reduceIte, Int.reduceBEq, Int.reduceBNe, Int.reduceLT, Int.reduceLE, Int.reduceGT, Int.reduceGE, Int.reduceNeg, reduceCtorEq] <;> rfl) ?_⟩))
      refine W_seqn (W_regionN ⟨n9', by simp (decide := true) (disch := first | omega | (simp (decide := true) only [List.length_set, hl]; done) | fail) only [sims, evRegion, evOps, evOp, evG, evR, guardT, callee, opRes, pureR, binT, unT, T.cells, T.leaf, fillT, splice, Nat.reduceLT, Nat.reduceAdd, Nat.reduceMul, Nat.reduceLeDiff, Nat.reduceEqDiff, reduceIte, Int.reduceBEq, Int.reduceBNe, Int.reduceLT, Int.reduceLE, Int.reduceGT, Int.reduceGE, Int.reduceNeg, reduceCtorEq, ap9, p9, n9, q9]; rfl⟩ ⟨rfl, W_ret ?_⟩)
      simp only [reduceCtorEq, false_and, false_or, or_false, exists_false, exists_const, ne_eq, not_false_eq_true, true_and, implies_true]
      refine fin_of (F := f7) rfl (fun _ => rfl) ?_
      simp (decide := true) (disch := first | omega | (simp (decide := true) only [List.length_set, hl]; done) | fail) only [sims, evRegion, evOps, evOp, evG, evR, guardT, callee, opRes, pureR, binT, unT, T.cells, T.leaf, fillT, splice, Nat.reduceLT, Nat.reduceAdd, Nat.reduceMul, Nat.reduceLeDiff, Nat.reduceEqDiff, reduceIte, Int.reduceBEq, Int.reduceBNe, Int.reduceLT, Int.reduceLE, Int.reduceGT, Int.reduceGE, Int.reduceNeg, reduceCtorEq]
    | true =>
      by_cases hs1 : st < 1
      · have d1 : decide (st < 1) = true := decide_eq_true hs1
        refine W_seq (W_seqn (W_regionN ⟨n8' + n14', by simp (decide := true) (disch := first | omega | (simp (decide := true) only [List.length_set, hl]; done) | fail) only [sims, evRegion, evOps, evOp, evG, evR, guardT, callee, opRes, pureR, binT, unT, T.cells, T.leaf, fillT, splice, Nat.reduceLT, Nat.reduceAdd, Nat.reduceMul, Nat.reduceLeDiff, Nat.reduceEqDiff, reduceIte, Int.reduceBEq, Int.reduceBNe, Int.reduceLT, Int.reduceLE, Int.reduceGT, Int.reduceGE, Int.reduceNeg, reduceCtorEq, hps, hcut, hlen2, hg1, d1, ap8, p8, n8, r8, ap14, p14, n14, r14]; rfl⟩ ⟨rfl, W_true (by simp (decide := true) (disch := first | omega | (simp (decide := true) only [List.length_set, hl]; done) | fail) only [sims, evRegion, evOps, evOp, evG, evR, guardT, callee, opRes, pureR, binT, unT, T.cells, T.leaf, fillT, splice, Nat.reduceLT, Nat.reduceAdd, Nat.reduceMul, Nat.reduceLeDiff, Nat.reduceEqDiff, reduceIte, Int.reduceBEq, Int.reduceBNe, Int.reduceLT, Int.reduceLE, Int.reduceGT, Int.reduceGE, Int.reduceNeg, reduceCtorEq] <;> rfl) ?_⟩))
        refine W_seqn (W_regionN ⟨n9', by simp (decide := true) (disch := first | omega | (simp (decide := true) only [List.length_set, hl]; done) | fail) only [sims, evRegion, evOps, evOp, evG, evR, guardT, callee, opRes, pureR, binT, unT, T.cells, T.leaf, fillT, splice, Nat.reduceLT, Nat.reduceAdd, Nat.reduceMul, Nat.reduceLeDiff, Nat.reduceEqDiff, reduceIte, Int.reduceBEq, Int.reduceBNe, Int.reduceLT, Int.reduceLE, Int.reduceGT, Int.reduceGE, Int.reduceNeg, reduceCtorEq, ap9, p9, n9, q9]; rfl⟩ ⟨rfl, W_ret ?_⟩)
        simp only [reduceCtorEq, false_and, false_or, or_false, exists_false, exists_const, ne_eq, not_false_eq_true, true_and, implies_true]
        refine fin_of (F := f7) rfl (fun _ => rfl) ?_
        simp (decide := true) (disch := first | omega | (simp (decide := true) only [List.length_set, hl]; done) | fail) only [sims, evRegion, evOps, evOp, evG, evR, guardT, callee, opRes, pureR, binT, unT, T.cells, T.leaf, fillT, splice, Nat.reduceLT, Nat.reduceAdd, Nat.reduceMul, Nat.reduceLeDiff, Nat.reduceEqDiff, reduceIte, Int.reduceBEq, Int.reduceBNe, Int.reduceLT, Int.reduceLE, Int.reduceGT, Int.reduceGE, Int.reduceNeg, reduceCtorEq]
      have d1 : decide (st < 1) = false := decide_eq_false hs1
      by_cases hs3 : st > 3
      · have d3 : decide (st > 3) = true := decide_eq_true hs3
        refine W_seq (W_seqn (W_regionN ⟨n8' + n14', by simp (decide := true) (disch := first | omega | (simp (decide := true) only [List.length_set, hl]; done) | fail) only [sims, evRegion, evOps, evOp, evG, evR, guardT, callee, opRes, pureR, binT, unT, T.cells, T.leaf, fillT, splice, Nat.reduceLT, Nat.reduceAdd, Nat.reduceMul, Nat.reduceLeDiff, Nat.reduceEqDiff, reduceIte, Int.reduceBEq, Int.reduceBNe, Int.reduceLT, Int.reduceLE, Int.reduceGT, Int.reduceGE, Int.reduceNeg, reduceCtorEq, hps, hcut, hlen2, hg1, d1, d3, ap8, p8, n8, r8, ap14, p14, n14, r14]; rfl⟩ ⟨rfl, W_true (by simp (decide := true) (disch := first | omega | (simp (decide := true) only [List.length_set, hl]; done) | fail) only [sims, evRegion, evOps, evOp, evG, evR, guardT, callee, opRes, pureR, binT, unT, T.cells, T.leaf, fillT, splice, Nat.reduceLT, Nat.reduceAdd, Nat.reduceMul, Nat.reduceLeDiff, Nat.reduceEqDiff, reduceIte, Int.reduceBEq, Int.reduceBNe, Int.reduceLT, Int.reduceLE, Int.reduceGT, Int.reduceGE, Int.reduceNeg, reduceCtorEq] <;> rfl) ?_⟩))
        refine W_seqn (W_regionN ⟨n9', by simp (decide := true) (disch := first | omega | (simp (decide := true) only [List.length_set, hl]; done) | fail) only [sims, evRegion, evOps, evOp, evG, evR, guardT, callee, opRes, pureR, binT, unT, T.cells, T.leaf, fillT, splice, Nat.reduceLT, Nat.reduceAdd, Nat.reduceMul, Nat.reduceLeDiff, Nat.reduceEqDiff, reduceIte, Int.reduceBEq, Int.reduceBNe, Int.reduceLT, Int.reduceLE, Int.reduceGT, Int.reduceGE, Int.reduceNeg, reduceCtorEq, ap9, p9, n9, q9]; rfl⟩ ⟨rfl, W_ret ?_⟩)
        simp only [reduceCtorEq, false_and, false_or, or_false, exists_false, exists_const, ne_eq, not_false_eq_true, true_and, implies_true]
        refine fin_of (F := f7) rfl (fun _ => rfl) ?_
        simp (decide := true) (disch := first | omega | (simp (decide := true) only [List.length_set, hl]; done) | fail) only [sims, evRegion, evOps, evOp, evG, evR, guardT, callee, opRes, pureR, binT, unT, T.cells, T.leaf, fillT, splice, Nat.reduceLT, Nat.reduceAdd, Nat.reduceMul, Nat.reduceLeDiff, Nat.reduceEqDiff, reduceIte, Int.reduceBEq, Int.reduceBNe, Int.reduceLT, Int.reduceLE, Int.reduceGT, Int.reduceGE, Int.reduceNeg, reduceCtorEq]
      have d3 : decide (st > 3) = false := decide_eq_false hs3
      have hst : 1 ≤ st ∧ st ≤ 3 := by omega
      obtain ⟨m, hq⟩ := (right_q a0 h0).mp (i3.mp rfl)
      obtain ⟨kk, hkm, hin, hfe, hqF, hfd, _⟩ := fill_is hq ln st hst data
      obtain ⟨_, hage, hdat, hsta⟩ := fill_way hq ln st hst data hfd
      have hstill := fun a ha b hb => fill_still h0 hq ln st hst data a b ha hb
      obtain ⟨hfF, hgw⟩ := fit_fillR hfit ln hln st data hd
      obtain ⟨u1, hu1, x1⟩ := bus_fill a0 h0 hfit ln hln st data hd
      generalize hRR : (fillR a0 ln st data).1 = R at *
      generalize hGG : (fillR a0 ln st data).2 = gone at *
      have hx1 : u1 = _ := x1
      subst hx1
      have hwfR := fit_wf hfF
      have hsd := sets_rows R
      have hf15 := bus_find ⟨R⟩ hwfR ln hln
      rw [findT_is ⟨R⟩ ln kk hfd, hsd] at hf15
      have hsi : seti ⟨R⟩ ln = ln % a0.sets.length := by unfold seti; rw [hqF.1]
      rw [hsi] at hf15
      generalize hii : ln % a0.sets.length = i at *
      obtain ⟨M1, k1⟩ := hu1.call ap25 (frzL_fill a0 _ st data)
      obtain ⟨M2, k2⟩ := hf15.call ap15 (fun g => rfl)
      obtain ⟨M3, k3⟩ := (right_call hfF hqF).call ap13 (fun g => rfl)
      have hwl := way_len hgw
      have hwlf := leaf_ints _ (way_ints gone)
      have hzl : zeroW.enc.length = 19 := rfl
      have hzleaf := zenc_leaf
      have hzs : splice zeroW.enc 0 gone.enc = gone.enc := splice_all (by rw [hwl]; rfl)
      have hzu : [T.int .i64 0, T.int .u32 0, T.int .u8 0, T.int .u8 0, T.int .u8 0, T.int .u8 0, T.int .u8 0, T.int .u8 0, T.int .u8 0, T.int .u8 0, T.int .u8 0, T.int .u8 0, T.int .u8 0, T.int .u8 0, T.int .u8 0, T.int .u8 0, T.int .u8 0, T.int .u8 0, T.int .i64 0] = zeroW.enc := rfl
      have hrow : RowOK a0.sets.length m i (row ⟨R⟩ i) := hqF.2.2.2.2.2 i hin
      have hil : i < R.length := by rw [hqF.1]; exact hin
      have hra := rows_at R i hil
      have hrl := rows_leng R
      have hrw := (fit_row (c := ⟨R⟩) hfF i hil).2
      have hkl : kk < (row ⟨R⟩ i).length := by rw [hrow.1]; exact hkm
      have hcl := enc_len _ hrw
      have hag := age_at _ hrw kk hkl
      have hbc := bytes_cut _ hrw kk hkl 0 16 (by omega)
      have hwk := wayN_wf hrw hkl
      have hba : bytesAt (wayN (row ⟨R⟩ i) kk) 0 16 = data := by
        unfold bytesAt; rw [List.drop_zero, List.take_of_length_le (by rw [hwk.2.2.1.1]; omega)]; exact hdat
      have hdc := data_conf hwk
      rw [hba, Nat.zero_mul, Nat.add_zero, Nat.mul_one] at hbc
      rw [hdat] at hdc
      rw [hage] at hag
      rw [hrow.1] at hcl hra
      have heq : eqL (dataT data) (dataT data) = true := eqL_ints _ (data_ints data)
      generalize row ⟨R⟩ i = lr at *
      generalize hce : lr.flatMap Way.enc = cells at *
      have hb1 : i * 1 + 1 ≤ R.length := by omega
      have hb2 : kk * 19 + 19 ≤ m * 19 := by omega
      have hb3 : kk * 19 + 18 + 1 ≤ m * 19 := by omega
      have hb4 : kk * 19 + 2 + 16 ≤ m * 19 := by omega
      have d4 : decide ((i : Int) < 0) = false := decide_eq_false (by omega)
      have d5 : decide ((i : Int) ≥ (R.length : Int)) = false := decide_eq_false (by omega)
      have d6 : decide ((kk : Int) < 0) = false := decide_eq_false (by omega)
      have d7 : decide ((kk : Int) ≥ (m : Int)) = false := decide_eq_false (by omega)
      have hcd : cut [T.imm false R.length (rowsT R)] 0 1 = [T.imm false R.length (rowsT R)] := rfl
      have hsc : setsT a0 = .imm false a0.sets.length (rowsT a0.sets) := sets_rows a0.sets
      have hld : allLeaf [T.imm false R.length (rowsT R)] = true := rfl
      have r1 := k1 M1 (Nat.le_refl _)
      have r2 := k2 M2 (Nat.le_refl _)
      have r3 := k3 M3 (Nat.le_refl _)
      refine W_seqn (W_seqn (W_regionN ⟨n8' + n14', by simp (decide := true) (disch := first | omega | (simp (decide := true) only [List.length_set, hl]; done) | fail) only [sims, evRegion, evOps, evOp, evG, evR, guardT, callee, opRes, pureR, binT, unT, T.cells, T.leaf, fillT, splice, Nat.reduceLT, Nat.reduceAdd, Nat.reduceMul, Nat.reduceLeDiff, Nat.reduceEqDiff, reduceIte, Int.reduceBEq, Int.reduceBNe, Int.reduceLT, Int.reduceLE, Int.reduceGT, Int.reduceGE, Int.reduceNeg, reduceCtorEq, hps, hcut, hlen2, hg1, d1, d3, ap8, p8, n8, r8, ap14, p14, n14, r14]; rfl⟩ ⟨rfl, W_false (by simp (decide := true) (disch := first | omega | (simp (decide := true) only [List.length_set, hl]; done) | fail) only [sims, evRegion, evOps, evOp, evG, evR, guardT, callee, opRes, pureR, binT, unT, T.cells, T.leaf, fillT, splice, Nat.reduceLT, Nat.reduceAdd, Nat.reduceMul, Nat.reduceLeDiff, Nat.reduceEqDiff, reduceIte, Int.reduceBEq, Int.reduceBNe, Int.reduceLT, Int.reduceLE, Int.reduceGT, Int.reduceGE, Int.reduceNeg, reduceCtorEq] <;> rfl) (W_skip ⟨rfl, ?_⟩)⟩))
      refine W_seqn (W_regionN ⟨M1, by simp (decide := true) (disch := first | omega | (simp (decide := true) only [List.length_set, hl]; done) | fail) only [sims, evRegion, evOps, evOp, evG, evR, guardT, callee, opRes, pureR, binT, unT, T.cells, T.leaf, fillT, splice, Nat.reduceLT, Nat.reduceAdd, Nat.reduceMul, Nat.reduceLeDiff, Nat.reduceEqDiff, reduceIte, Int.reduceBEq, Int.reduceBNe, Int.reduceLT, Int.reduceLE, Int.reduceGT, Int.reduceGE, Int.reduceNeg, reduceCtorEq, hps, hzu, hcut, hlen2, hg0, hg1, hg2, ap25, p25, n25, r1, hzleaf, hzl, hwl, hwlf, hzs, hld]; rfl⟩ ⟨rfl, ?_⟩)
      refine W_abs (fun st => st.s.length = 220 ∧ rho st.s (.tmp 3) = .ptr 0 0 ∧ rho st.s (.tmp 4) = .ptr 1 0 ∧ rho st.s (.tmp 5) = .ptr 2 0 ∧ rho st.s (.tmp 7) = .ptr 33 0 ∧ rho st.s (.tmp 8) = .ptr 34 0 ∧ st.g 0 = some [setsT a0] ∧ st.g 1 = some le ∧ st.g 2 = some pe ∧ st.g 33 = some [T.imm false R.length (rowsT R)] ∧ st.g 34 = some gone.enc ∧ 35 ≤ st.nx) ⟨by simp (decide := true) (disch := first | omega | (simp (decide := true) only [List.length_set, hl]; done) | fail) only [sims, evRegion, evOps, evOp, evG, evR, guardT, callee, opRes, pureR, binT, unT, T.cells, T.leaf, fillT, splice, Nat.reduceLT, Nat.reduceAdd, Nat.reduceMul, Nat.reduceLeDiff, Nat.reduceEqDiff, reduceIte, Int.reduceBEq, Int.reduceBNe, Int.reduceLT, Int.reduceLE, Int.reduceGT, Int.reduceGE, Int.reduceNeg, reduceCtorEq, hps, hl], by simp (decide := true) (disch := first | omega | (simp (decide := true) only [List.length_set, hl]; done) | fail) only [sims, evRegion, evOps, evOp, evG, evR, guardT, callee, opRes, pureR, binT, unT, T.cells, T.leaf, fillT, splice, Nat.reduceLT, Nat.reduceAdd, Nat.reduceMul, Nat.reduceLeDiff, Nat.reduceEqDiff, reduceIte, Int.reduceBEq, Int.reduceBNe, Int.reduceLT, Int.reduceLE, Int.reduceGT, Int.reduceGE, Int.reduceNeg, reduceCtorEq, hps], by simp (decide := true) (disch := first | omega | (simp (decide := true) only [List.length_set, hl]; done) | fail) only [sims, evRegion, evOps, evOp, evG, evR, guardT, callee, opRes, pureR, binT, unT, T.cells, T.leaf, fillT, splice, Nat.reduceLT, Nat.reduceAdd, Nat.reduceMul, Nat.reduceLeDiff, Nat.reduceEqDiff, reduceIte, Int.reduceBEq, Int.reduceBNe, Int.reduceLT, Int.reduceLE, Int.reduceGT, Int.reduceGE, Int.reduceNeg, reduceCtorEq, hps], by simp (decide := true) (disch := first | omega | (simp (decide := true) only [List.length_set, hl]; done) | fail) only [sims, evRegion, evOps, evOp, evG, evR, guardT, callee, opRes, pureR, binT, unT, T.cells, T.leaf, fillT, splice, Nat.reduceLT, Nat.reduceAdd, Nat.reduceMul, Nat.reduceLeDiff, Nat.reduceEqDiff, reduceIte, Int.reduceBEq, Int.reduceBNe, Int.reduceLT, Int.reduceLE, Int.reduceGT, Int.reduceGE, Int.reduceNeg, reduceCtorEq, hps], by simp (decide := true) (disch := first | omega | (simp (decide := true) only [List.length_set, hl]; done) | fail) only [sims, evRegion, evOps, evOp, evG, evR, guardT, callee, opRes, pureR, binT, unT, T.cells, T.leaf, fillT, splice, Nat.reduceLT, Nat.reduceAdd, Nat.reduceMul, Nat.reduceLeDiff, Nat.reduceEqDiff, reduceIte, Int.reduceBEq, Int.reduceBNe, Int.reduceLT, Int.reduceLE, Int.reduceGT, Int.reduceGE, Int.reduceNeg, reduceCtorEq, hps], by simp (decide := true) (disch := first | omega | (simp (decide := true) only [List.length_set, hl]; done) | fail) only [sims, evRegion, evOps, evOp, evG, evR, guardT, callee, opRes, pureR, binT, unT, T.cells, T.leaf, fillT, splice, Nat.reduceLT, Nat.reduceAdd, Nat.reduceMul, Nat.reduceLeDiff, Nat.reduceEqDiff, reduceIte, Int.reduceBEq, Int.reduceBNe, Int.reduceLT, Int.reduceLE, Int.reduceGT, Int.reduceGE, Int.reduceNeg, reduceCtorEq, hps], by simp (decide := true) (disch := first | omega | (simp (decide := true) only [List.length_set, hl]; done) | fail) only [sims, evRegion, evOps, evOp, evG, evR, guardT, callee, opRes, pureR, binT, unT, T.cells, T.leaf, fillT, splice, Nat.reduceLT, Nat.reduceAdd, Nat.reduceMul, Nat.reduceLeDiff, Nat.reduceEqDiff, reduceIte, Int.reduceBEq, Int.reduceBNe, Int.reduceLT, Int.reduceLE, Int.reduceGT, Int.reduceGE, Int.reduceNeg, reduceCtorEq, hps], by simp (decide := true) (disch := first | omega | (simp (decide := true) only [List.length_set, hl]; done) | fail) only [sims, evRegion, evOps, evOp, evG, evR, guardT, callee, opRes, pureR, binT, unT, T.cells, T.leaf, fillT, splice, Nat.reduceLT, Nat.reduceAdd, Nat.reduceMul, Nat.reduceLeDiff, Nat.reduceEqDiff, reduceIte, Int.reduceBEq, Int.reduceBNe, Int.reduceLT, Int.reduceLE, Int.reduceGT, Int.reduceGE, Int.reduceNeg, reduceCtorEq, hps], by simp (decide := true) (disch := first | omega | (simp (decide := true) only [List.length_set, hl]; done) | fail) only [sims, evRegion, evOps, evOp, evG, evR, guardT, callee, opRes, pureR, binT, unT, T.cells, T.leaf, fillT, splice, Nat.reduceLT, Nat.reduceAdd, Nat.reduceMul, Nat.reduceLeDiff, Nat.reduceEqDiff, reduceIte, Int.reduceBEq, Int.reduceBNe, Int.reduceLT, Int.reduceLE, Int.reduceGT, Int.reduceGE, Int.reduceNeg, reduceCtorEq, hps], by simp (decide := true) (disch := first | omega | (simp (decide := true) only [List.length_set, hl]; done) | fail) only [sims, evRegion, evOps, evOp, evG, evR, guardT, callee, opRes, pureR, binT, unT, T.cells, T.leaf, fillT, splice, Nat.reduceLT, Nat.reduceAdd, Nat.reduceMul, Nat.reduceLeDiff, Nat.reduceEqDiff, reduceIte, Int.reduceBEq, Int.reduceBNe, Int.reduceLT, Int.reduceLE, Int.reduceGT, Int.reduceGE, Int.reduceNeg, reduceCtorEq, hps], by simp (decide := true) (disch := first | omega | (simp (decide := true) only [List.length_set, hl]; done) | fail) only [sims, evRegion, evOps, evOp, evG, evR, guardT, callee, opRes, pureR, binT, unT, T.cells, T.leaf, fillT, splice, Nat.reduceLT, Nat.reduceAdd, Nat.reduceMul, Nat.reduceLeDiff, Nat.reduceEqDiff, reduceIte, Int.reduceBEq, Int.reduceBNe, Int.reduceLT, Int.reduceLE, Int.reduceGT, Int.reduceGE, Int.reduceNeg, reduceCtorEq, hps], by show 35 ≤ 0 + 4 + 18 + 15; omega⟩ ?_
      clear hl e0 e1 e2
      rintro ⟨sl, g, nx⟩ ⟨hl, h3, h4, h5, h7, h8', g0, g1, g2, g33, g34, hnx⟩
      simp only at hl h3 h4 h5 h7 h8' g0 g1 g2 g33 g34 hnx
      refine W_seqn (W_regionN ⟨M2, by simp (decide := true) (disch := first | omega | (simp (decide := true) only [List.length_set, hl]; done) | fail) only [sims, evRegion, evOps, evOp, evG, evR, guardT, callee, opRes, pureR, binT, unT, T.cells, T.leaf, fillT, splice, Nat.reduceLT, Nat.reduceAdd, Nat.reduceMul, Nat.reduceLeDiff, Nat.reduceEqDiff, reduceIte, Int.reduceBEq, Int.reduceBNe, Int.reduceLT, Int.reduceLE, Int.reduceGT, Int.reduceGE, Int.reduceNeg, reduceCtorEq, hps, h4, h7, g1, g33, hcd, hlen2, hg0, ap15, p15, n15, r2]; rfl⟩ ⟨rfl, ?_⟩)
      refine W_seqn (W_seqn (W_regionN ⟨M3, by simp (decide := true) (disch := first | omega | (simp (decide := true) only [List.length_set, hl]; done) | fail) only [sims, evRegion, evOps, evOp, evG, evR, guardT, callee, opRes, pureR, binT, unT, T.cells, T.leaf, fillT, splice, Nat.reduceLT, Nat.reduceAdd, Nat.reduceMul, Nat.reduceLeDiff, Nat.reduceEqDiff, reduceIte, Int.reduceBEq, Int.reduceBNe, Int.reduceLT, Int.reduceLE, Int.reduceGT, Int.reduceGE, Int.reduceNeg, reduceCtorEq, hps, h4, h7, g1, g33, hcd, hlen2, hg2, hrl, hil, hb1, hra, hkm, hcl, hb2, hb3, hb4, hag, hbc, hdc, heq, d4, d5, d6, d7, ap13, p13, n13, r3]; rfl⟩ ⟨rfl, W_false (by simp (decide := true) (disch := first | omega | (simp (decide := true) only [List.length_set, hl]; done) | fail) only [sims, evRegion, evOps, evOp, evG, evR, guardT, callee, opRes, pureR, binT, unT, T.cells, T.leaf, fillT, splice, Nat.reduceLT, Nat.reduceAdd, Nat.reduceMul, Nat.reduceLeDiff, Nat.reduceEqDiff, reduceIte, Int.reduceBEq, Int.reduceBNe, Int.reduceLT, Int.reduceLE, Int.reduceGT, Int.reduceGE, Int.reduceNeg, reduceCtorEq] <;> rfl) (W_skip ⟨rfl, ?_⟩)⟩))
      refine W_seq (W_seqn (W_region (fun k => by simp (decide := true) (disch := first | omega | (simp (decide := true) only [List.length_set, hl]; done) | fail) only [sims, evRegion, evOps, evOp, evG, evR, guardT, callee, opRes, pureR, binT, unT, T.cells, T.leaf, fillT, splice, Nat.reduceLT, Nat.reduceAdd, Nat.reduceMul, Nat.reduceLeDiff, Nat.reduceEqDiff, reduceIte, Int.reduceBEq, Int.reduceBNe, Int.reduceLT, Int.reduceLE, Int.reduceGT, Int.reduceGE, Int.reduceNeg, reduceCtorEq]; rfl) ⟨rfl, W_block ?_⟩))
      have hmrow : ∀ a, a < a0.sets.length → (row a0 a).length = m := fun a ha => (hq.2.2.2.2.2 a ha).1
      refine kp_out a0 h0 hfit (rowsT a0.sets) rfl R hwfR (.imm false R.length (rowsT R)) hsd.symm gone hgw le pe gone.enc rfl i kk (fun a ha b hb => hstill a ha b (by rw [← hmrow a ha]; exact hb)) _ (fun st' hK => ?_) (a0.sets.length - 0) _ ⟨0, ⟨?_, ?_, ?_, ?_, ?_, ?_, ?_, ?_, ?_, g1, g2, g33, g34, ?_⟩, ?_, by omega, rfl⟩
      · refine .inl ⟨rfl, .inl ⟨rfl, ?_⟩⟩
        refine (kp_tail a0.sets.length m R hfF hqF _ le pe gone.enc i kk hin ln hln ad ha size hsz hlen2 hg0 hpl hp0 hp1' st' hK).mono ?_
        rintro e s ⟨rfl, h6⟩
        exact fin_of (F := f7) rfl (fun _ => rfl) h6
      all_goals first | (show 35 ≤ nx + 11 + 58 + 1; omega) | (simp (decide := true) (disch := first | omega | (simp (decide := true) only [List.length_set, hl]; done) | fail) only [sims, evRegion, evOps, evOp, evG, evR, guardT, callee, opRes, pureR, binT, unT, T.cells, T.leaf, fillT, splice, Nat.reduceLT, Nat.reduceAdd, Nat.reduceMul, Nat.reduceLeDiff, Nat.reduceEqDiff, reduceIte, Int.reduceBEq, Int.reduceBNe, Int.reduceLT, Int.reduceLE, Int.reduceGT, Int.reduceGE, Int.reduceNeg, reduceCtorEq, hl, h3, h4, h5, h7, h8']; done) | (simp (decide := true) (disch := first | omega | (simp (decide := true) only [List.length_set, hl]; done) | fail) only [sims, evRegion, evOps, evOp, evG, evR, guardT, callee, opRes, pureR, binT, unT, T.cells, T.leaf, fillT, splice, Nat.reduceLT, Nat.reduceAdd, Nat.reduceMul, Nat.reduceLeDiff, Nat.reduceEqDiff, reduceIte, Int.reduceBEq, Int.reduceBNe, Int.reduceLT, Int.reduceLE, Int.reduceGT, Int.reduceGE, Int.reduceNeg, reduceCtorEq, hl, h3, h4, h5, h7, h8']; rfl) | (rw [← hsc]; exact g0)
end Go.Proofs.Ythanlobfjpjegaa.Abs
