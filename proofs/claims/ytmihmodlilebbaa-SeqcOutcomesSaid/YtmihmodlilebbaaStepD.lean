/- A step of the given threads, whole. -/
import Derived.Test.YtmihmodlilebbaaStepC
namespace Go.Proofs.Ytmihmodlilebbaa.Abs
open Go Go.RowKit Fn
set_option linter.unusedVariables false
set_option linter.unusedSimpArgs false
set_option linter.unnecessarySimpa false
set_option maxRecDepth 100000
set_option maxHeartbeats 2000000

theorem ref_step (p : List (List Op)) (hR : RightP p) (s : PS) (hG : Good p s) (t : T) (hT : RefS s t) (w : Nat) (hw : w < p.length) (hlf : farN s w < (thr p w).length) : ∃ v, E ap 26 [pT p, t, .int .i64 (w : Int)] v ∧ ∃ u, v = .tup [u, .bool true] ∧ RefS (stepS p s w) u := by
  obtain ⟨fm, fa, fs, cs, rfl, hS⟩ := hT
  refine E_bodyV (F := f26) rfl rfl rfl (P := fun v => ∃ u, v = .tup [u, .bool true] ∧ RefS (stepS p s w) u) ?_
  generalize hs0 : (_ : List T) ++ List.replicate _ T.undef = s0
  have e0 : s0.length = 141 ∧ rho s0 (.tmp 0) = pT p ∧ rho s0 (.tmp 1) = .agg [.imm fm s.mem.length (wordsT s.mem), .imm fa s.far.length (intsT s.far), .imm fs s.seen.length cs] ∧ rho s0 (.tmp 2) = .int .i64 (w : Int) := by subst hs0; exact ⟨rfl, rfl, rfl, rfl⟩
  clear hs0
  obtain ⟨hl, h0, h1, h2⟩ := e0
  have hpt : pT p = .imm false p.length (p.flatMap (fun l => [rowT l])) := rfl
  have hpl := p_len p
  have hn2 := hR.1
  have hm8 := hG.1
  have hfn := hG.2.1
  have hsn := hG.2.2.1
  obtain ⟨hgf, hgs⟩ := hG.2.2.2 w hw
  have hpT : thr p w = p[w] := thr_eq hw
  have hthr8 : (thr p w).length ≤ 8 := by rw [hpT]; exact hR.2 w hw
  have h8 : ∀ j, j < p.length → (seenN s j).length ≤ 8 := fun j hj => by
    obtain ⟨a1, a2⟩ := hG.2.2.2 j hj
    have := hR.2 j hj
    rw [thr_eq hj] at a1
    omega
  have hpr := p_row p w hw
  rw [← hpT] at hpr
  rw [show rowT (thr p w) = .imm false (thr p w).length ((thr p w).flatMap Op.enc) from rfl] at hpr
  have hwfl : w < s.far.length := by omega
  have hfi : (intsT s.far)[w * 1]? = some (.int .i64 (farN s w : Int)) := by rw [Nat.mul_one]; exact ints_get' (far_get hG hw)
  have hfl := ints_len s.far
  have hwl := words_len s.mem
  have hflf := leaf_still (ints_still s.far)
  have hwlf := leaf_still (words_still s.mem)
  have hol := ops_len (thr p w)
  have hoc := op_cut (thr p w) (farN s w) hlf
  have hoN : opN p s w = (thr p w)[farN s w] := by unfold opN; rw [List.getElem?_eq_getElem hlf]; rfl
  rw [← hoN] at hoc
  have hstep : stepS p s w = ⟨memS s (opN p s w), s.far.set w (farN s w + 1), seenS s w (opN p s w)⟩ := rfl
  generalize hoE : opN p s w = o at *
  have hoel : o.enc.length = 3 := rfl
  have hoelf : allLeaf o.enc = true := rfl
  have hok : o.enc[0]? = some (.int .i64 o.kind) := rfl
  have holc : o.enc[1]? = some (.int .i64 o.loc) := rfl
  have hov : o.enc[2]? = some (.int .u32 o.val) := rfl
  have hosp : splice [T.int .i64 0, T.int .i64 0, T.int .u32 0] 0 o.enc = o.enc := splice_all rfl
  have hb1 : w * 1 + 1 ≤ p.length := by omega
  have hb2 : w * 1 + 1 ≤ s.far.length := by omega
  have hb3 : farN s w * 3 + 3 ≤ (thr p w).length * 3 := by omega
  have d1 : decide ((w : Int) < 0) = false := decide_eq_false (by omega)
  have d2 : decide ((w : Int) ≥ (p.length : Int)) = false := decide_eq_false (by omega)
  have d3 : decide ((farN s w : Int) ≥ ((thr p w).length : Int)) = false := decide_eq_false (by omega)
  have hadd : IntKind.i64.wrap ((farN s w : Int) + 1) = ((farN s w + 1 : Nat) : Int) := by rw [wrap_id (by omega)]; omega
  have hlf3 : allLeaf [T.imm fm s.mem.length (wordsT s.mem), .imm fa s.far.length (intsT s.far), .imm fs s.seen.length cs] = true := rfl
  have hz3 : allLeaf [T.imm true 0 [], T.imm true 0 [], T.imm true 0 []] = true := rfl
  have hle : allLeaf ([] : List T) = true := rfl
  have hc0 : cut ([] : List T) 0 0 = [] := rfl
  have hz0 : 0 * 1 = 0 := rfl
  rw [hpt] at h0
  generalize hoe : o.enc = oe at *
  refine W_seqn (W_region (fun k => by simp (decide := true) (disch := first | omega | (simp (decide := true) only [List.length_set, hl]; done) | fail) only [sims, evRegion, evOps, evOp, evG, evR, guardT, callee, opRes, pureR, binT, unT, T.cells, T.leaf, fillT, splice, Nat.reduceLT, Nat.reduceAdd, Nat.reduceMul, Nat.reduceLeDiff, Nat.reduceEqDiff, reduceIte, Int.reduceBEq, Int.reduceBNe, Int.reduceLT, Int.reduceLE, Int.reduceGT, Int.reduceGE, Int.reduceNeg, reduceCtorEq, hps, h1, hlf3, hz3]; rfl) ⟨rfl, ?_⟩)
  refine W_seqn (W_seqn (W_region (fun k => by simp (decide := true) (disch := first | omega | (simp (decide := true) only [List.length_set, hl]; done) | fail) only [sims, evRegion, evOps, evOp, evG, evR, guardT, callee, opRes, pureR, binT, unT, T.cells, T.leaf, fillT, splice, Nat.reduceLT, Nat.reduceAdd, Nat.reduceMul, Nat.reduceLeDiff, Nat.reduceEqDiff, reduceIte, Int.reduceBEq, Int.reduceBNe, Int.reduceLT, Int.reduceLE, Int.reduceGT, Int.reduceGE, Int.reduceNeg, reduceCtorEq, hps, h0, h2, d1, d2, d3, hpl, hw, hwfl, hb1, hb2, hpr, hfl, hfi]; rfl) ⟨rfl, W_false (by simp (decide := true) (disch := first | omega | (simp (decide := true) only [List.length_set, hl]; done) | fail) only [sims, evRegion, evOps, evOp, evG, evR, guardT, callee, opRes, pureR, binT, unT, T.cells, T.leaf, fillT, splice, Nat.reduceLT, Nat.reduceAdd, Nat.reduceMul, Nat.reduceLeDiff, Nat.reduceEqDiff, reduceIte, Int.reduceBEq, Int.reduceBNe, Int.reduceLT, Int.reduceLE, Int.reduceGT, Int.reduceGE, Int.reduceNeg, reduceCtorEq] <;> rfl) (W_skip ⟨rfl, ?_⟩)⟩))
  refine W_seqn (W_region (fun k => by simp (decide := true) (disch := first | omega | (simp (decide := true) only [List.length_set, hl]; done) | fail) only [sims, evRegion, evOps, evOp, evG, evR, guardT, callee, opRes, pureR, binT, unT, T.cells, T.leaf, fillT, splice, Nat.reduceLT, Nat.reduceAdd, Nat.reduceMul, Nat.reduceLeDiff, Nat.reduceEqDiff, reduceIte, Int.reduceBEq, Int.reduceBNe, Int.reduceLT, Int.reduceLE, Int.reduceGT, Int.reduceGE, Int.reduceNeg, reduceCtorEq, hps, h0, h2, hpl, hw, hwfl, hb1, hb2, hpr, hfl, hfi, hlf, hol, hb3, hoc, hoel, hoelf, hosp]; rfl) ⟨rfl, ?_⟩)
  refine W_cut (fun st => Slots (pT p) (w : Int) st ∧ st.g 0 = some [.imm fm s.mem.length (wordsT s.mem), .imm fa s.far.length (intsT s.far), .imm fs s.seen.length cs] ∧ st.g 1 = some [.imm true 0 [], .imm true 0 [], .imm true 0 []] ∧ st.g 35 = some oe ∧ (∃ bm, (bm = 37 ∨ bm = 40) ∧ st.g 46 = some [.own bm 0 s.mem.length 1, .own 44 0 s.far.length 1, .imm true 0 []] ∧ st.g bm = some (wordsT s.mem)) ∧ st.g 44 = some (intsT s.far) ∧ 48 ≤ st.nx) ?_ ?_
  · have hf0 : (s.far.length = 0) = False := eq_false (by omega)
    have hr1 : (0 + s.far.length) * 8 ≤ 549755813888 := by omega
    have hr1' : s.far.length * 8 ≤ 549755813888 := by omega
    have hr2 : s.far.length ≤ 549755813888 := by omega
    have hmo : (s.far.length = s.far.length * 1) = True := by simp
    by_cases hm0 : s.mem.length = 0
    · have hme : s.mem = [] := List.length_eq_zero_iff.mp hm0
      have hwe : wordsT s.mem = [] := by rw [hme]; rfl
      have em0 : (s.mem.length = 0) = True := by simp [hm0]
      rw [hwe]
      rw [hwe] at h1 hlf3 hwl
      refine W_region (fun k => by simp (decide := true) (disch := first | omega | (simp (decide := true) only [List.length_set, hl]; done) | fail) only [sims, evRegion, evOps, evOp, evG, evR, guardT, callee, opRes, pureR, binT, unT, T.cells, T.leaf, fillT, splice, Nat.reduceLT, Nat.reduceAdd, Nat.reduceMul, Nat.reduceLeDiff, Nat.reduceEqDiff, reduceIte, Int.reduceBEq, Int.reduceBNe, Int.reduceLT, Int.reduceLE, Int.reduceGT, Int.reduceGE, Int.reduceNeg, reduceCtorEq, hps, cellsOf, hle, em0, hwe, hf0, hr1, hr1', hr2, hmo, hfl, hflf, hc0, hz0]; rfl) ⟨rfl, ?_⟩
      refine ⟨⟨?_, ?_, ?_, ?_, ?_, ?_, ?_⟩, ?_, ?_, ?_, ⟨37, .inl rfl, ?_, ?_⟩, ?_, by show 48 ≤ 0 + 3 + 21 + 13 + 11; omega⟩
      all_goals first | (simp (decide := true) (disch := first | omega | (simp (decide := true) only [List.length_set, hl]; done) | fail) only [sims, evRegion, evOps, evOp, evG, evR, guardT, callee, opRes, pureR, binT, unT, T.cells, T.leaf, fillT, splice, Nat.reduceLT, Nat.reduceAdd, Nat.reduceMul, Nat.reduceLeDiff, Nat.reduceEqDiff, reduceIte, Int.reduceBEq, Int.reduceBNe, Int.reduceLT, Int.reduceLE, Int.reduceGT, Int.reduceGE, Int.reduceNeg, reduceCtorEq, hps, hl, h0, h2, hpt, hm0]; done) | (simp (decide := true) (disch := first | omega | (simp (decide := true) only [List.length_set, hl]; done) | fail) only [sims, evRegion, evOps, evOp, evG, evR, guardT, callee, opRes, pureR, binT, unT, T.cells, T.leaf, fillT, splice, Nat.reduceLT, Nat.reduceAdd, Nat.reduceMul, Nat.reduceLeDiff, Nat.reduceEqDiff, reduceIte, Int.reduceBEq, Int.reduceBNe, Int.reduceLT, Int.reduceLE, Int.reduceGT, Int.reduceGE, Int.reduceNeg, reduceCtorEq, hps, hl, h0, h2, hpt, hm0]; rfl)
    · have em0 : (s.mem.length = 0) = False := by simp [hm0]
      have hq1 : (0 + s.mem.length) * 4 ≤ 549755813888 := by omega
      have hq1' : s.mem.length * 4 ≤ 549755813888 := by omega
      have hq2 : s.mem.length ≤ 549755813888 := by omega
      have hmo2 : (s.mem.length = s.mem.length * 1) = True := by simp
      refine W_region (fun k => by simp (decide := true) (disch := first | omega | (simp (decide := true) only [List.length_set, hl]; done) | fail) only [sims, evRegion, evOps, evOp, evG, evR, guardT, callee, opRes, pureR, binT, unT, T.cells, T.leaf, fillT, splice, Nat.reduceLT, Nat.reduceAdd, Nat.reduceMul, Nat.reduceLeDiff, Nat.reduceEqDiff, reduceIte, Int.reduceBEq, Int.reduceBNe, Int.reduceLT, Int.reduceLE, Int.reduceGT, Int.reduceGE, Int.reduceNeg, reduceCtorEq, hps, cellsOf, hle, em0, hf0, hr1, hr1', hr2, hmo, hfl, hflf, hq1, hq1', hq2, hmo2, hwl, hwlf, hc0, hz0]; rfl) ⟨rfl, ?_⟩
      refine ⟨⟨?_, ?_, ?_, ?_, ?_, ?_, ?_⟩, ?_, ?_, ?_, ⟨40, .inr rfl, ?_, ?_⟩, ?_, by show 48 ≤ 0 + 3 + 21 + 13 + 11; omega⟩
      all_goals first | (simp (decide := true) (disch := first | omega | (simp (decide := true) only [List.length_set, hl]; done) | fail) only [sims, evRegion, evOps, evOp, evG, evR, guardT, callee, opRes, pureR, binT, unT, T.cells, T.leaf, fillT, splice, Nat.reduceLT, Nat.reduceAdd, Nat.reduceMul, Nat.reduceLeDiff, Nat.reduceEqDiff, reduceIte, Int.reduceBEq, Int.reduceBNe, Int.reduceLT, Int.reduceLE, Int.reduceGT, Int.reduceGE, Int.reduceNeg, reduceCtorEq, hps, hl, h0, h2, hpt]; done) | (simp (decide := true) (disch := first | omega | (simp (decide := true) only [List.length_set, hl]; done) | fail) only [sims, evRegion, evOps, evOp, evG, evR, guardT, callee, opRes, pureR, binT, unT, T.cells, T.leaf, fillT, splice, Nat.reduceLT, Nat.reduceAdd, Nat.reduceMul, Nat.reduceLeDiff, Nat.reduceEqDiff, reduceIte, Int.reduceBEq, Int.reduceBNe, Int.reduceLT, Int.reduceLE, Int.reduceGT, Int.reduceGE, Int.reduceNeg, reduceCtorEq, hps, hl, h0, h2, hpt]; rfl)
  clear hl h0 h1 h2
  rintro ⟨sl, g, nx⟩ ⟨⟨hl, h0, h2, h4, h6, h8s, h9⟩, g0, g1, g35, ⟨bm, hbm, g46, gbm⟩, g44, hnx⟩
  simp only at hl h0 h2 h4 h6 h8s h9 g0 g1 g35 g46 gbm g44 hnx
  refine W_seq (W_seqn (W_region (fun k => by simp (decide := true) (disch := first | omega | (simp (decide := true) only [List.length_set, hl]; done) | fail) only [sims, evRegion, evOps, evOp, evG, evR, guardT, callee, opRes, pureR, binT, unT, T.cells, T.leaf, fillT, splice, Nat.reduceLT, Nat.reduceAdd, Nat.reduceMul, Nat.reduceLeDiff, Nat.reduceEqDiff, reduceIte, Int.reduceBEq, Int.reduceBNe, Int.reduceLT, Int.reduceLE, Int.reduceGT, Int.reduceGE, Int.reduceNeg, reduceCtorEq, hps]; rfl) ⟨rfl, W_block ?_⟩))
  refine cw_loop (pT p) (w : Int) (.imm fm s.mem.length (wordsT s.mem)) (.imm fa s.far.length (intsT s.far)) (.own bm 0 s.mem.length 1) (.own 44 0 s.far.length 1) rfl rfl fs s p.length hn2 hsn cs hS h8 g _ (fun st v hSl k46 hC hg hnx2 => ?_) (by rw [← hsn]; exact g0) (p.length - 0) _ ⟨0, .imm true 0 [], ⟨?_, ?_, ?_, ?_, ?_, ?_, ?_⟩, ?_, g46, .inl ⟨rfl, rfl⟩, fun t _ _ => rfl, Nat.le_add_right_of_le hnx, by omega, rfl⟩
  · refine .inl ⟨rfl, .inl ⟨rfl, ?_⟩⟩
    clear hl h0 h2 h4 h6 h8s h9
    obtain ⟨hl, h0, h2, h4, h6, h8s, h9⟩ := hSl
    have k0 := hg 0 (by omega) (by omega)
    have k1 := hg 1 (by omega) (by omega)
    have k35 := hg 35 (by omega) (by omega)
    have k44 := hg 44 (by omega) (by omega)
    have kbm := hg bm (by omega) (by omega)
    rw [g0] at k0
    rw [g1] at k1
    rw [g35] at k35
    rw [g44] at k44
    rw [gbm] at kbm
    rcases hC with ⟨hz, _⟩ | ⟨_, A, els, bf, rfl, kA, hel, hA, hrest⟩
    · omega
    have hA48 : 48 < A := by obtain ⟨_, _, a, b, _⟩ := hrest w hw; omega
    have hfset : (intsT s.far).set (w * 1) (.int .i64 ((farN s w + 1 : Nat) : Int)) = intsT (s.far.set w (farN s w + 1)) := by rw [Nat.mul_one, ints_set]
    refine W_seqn (W_region (fun k => by simp (decide := true) (disch := first | omega | (simp (decide := true) only [List.length_set, hl]; done) | fail) only [sims, evRegion, evOps, evOp, evG, evR, guardT, callee, opRes, pureR, binT, unT, T.cells, T.leaf, fillT, splice, Nat.reduceLT, Nat.reduceAdd, Nat.reduceMul, Nat.reduceLeDiff, Nat.reduceEqDiff, reduceIte, Int.reduceBEq, Int.reduceBNe, Int.reduceLT, Int.reduceLE, Int.reduceGT, Int.reduceGE, Int.reduceNeg, reduceCtorEq, hps, h2, h9, k46, k44, hwfl, hb2, hfl, hfi, hadd, hfset]; rfl) ⟨rfl, ?_⟩)
    have hrows : ∀ (g' : Mem), (∀ t, 48 ≤ t → g' t = st.g t) → ∀ j, j < p.length → els[j]? = some (.own (bf j) 0 (seenN s j).length 1) ∧ g' (bf j) = some (wordsT (seenN s j)) ∧ 48 ≤ bf j ∧ bf j < A ∧ ∀ k, k < p.length → j ≠ k → bf j ≠ bf k := by
      intro g' hg' j hj
      obtain ⟨a, b, c, d, e⟩ := hrest j hj
      refine ⟨a, by rw [hg' _ c]; exact b, c, d, fun k hk hjk => ?_⟩
      rcases Nat.lt_or_gt_of_ne hjk with h | h
      · have := e k h hk; omega
      · have := (hrest k hk).2.2.2.2 j h hj; omega
    refine W_cut (fun s' => Slots (pT p) (w : Int) s' ∧ rho s'.s (.tmp 11) = .bool (decide (isL s o)) ∧ Mid s o p.length w bm A (s.far.set w (farN s w + 1)) (.imm fm s.mem.length (wordsT s.mem)) (.imm fa s.far.length (intsT s.far)) (.imm fs s.seen.length cs) (.own bm 0 s.mem.length 1) (.own 44 0 s.far.length 1) s'.g ∧ s'.g A = some els ∧ A < s'.nx ∧ (∀ j, j < p.length → els[j]? = some (.own (bf j) 0 (seenN s j).length 1) ∧ s'.g (bf j) = some (wordsT (seenN s j)) ∧ 48 ≤ bf j ∧ bf j < A ∧ ∀ k, k < p.length → j ≠ k → bf j ≠ bf k)) ?_ ?_
    · by_cases hl0 : o.loc ≥ 0
      · have e1 : decide (o.loc ≥ 0) = true := decide_eq_true hl0
        have hd : decide (o.loc < (s.mem.length : Int)) = decide (isL s o) := decide_eq_decide.mpr ⟨fun h => ⟨hl0, h⟩, fun h => h.2⟩
        refine W_region (fun k => by simp (decide := true) (disch := first | omega | (simp (decide := true) only [List.length_set, hl]; done) | fail) only [sims, evRegion, evOps, evOp, evG, evR, guardT, callee, opRes, pureR, binT, unT, T.cells, T.leaf, fillT, splice, Nat.reduceLT, Nat.reduceAdd, Nat.reduceMul, Nat.reduceLeDiff, Nat.reduceEqDiff, reduceIte, Int.reduceBEq, Int.reduceBNe, Int.reduceLT, Int.reduceLE, Int.reduceGT, Int.reduceGE, Int.reduceNeg, reduceCtorEq, hps, h4, h8s, k0, k35, hoel, holc, e1, hd]; rfl) ⟨rfl, ?_⟩
        refine ⟨⟨?_, ?_, ?_, ?_, ?_, ?_, ?_⟩, ?_, ⟨?_, ?_, ?_, ?_, ?_, ?_⟩, ?_, Nat.lt_add_right _ (Nat.lt_add_right _ hA), hrows _ (fun t ht => by simp (decide := true) (disch := first | omega | (simp (decide := true) only [List.length_set, hl]; done) | fail) only [sims, evRegion, evOps, evOp, evG, evR, guardT, callee, opRes, pureR, binT, unT, T.cells, T.leaf, fillT, splice, Nat.reduceLT, Nat.reduceAdd, Nat.reduceMul, Nat.reduceLeDiff, Nat.reduceEqDiff, reduceIte, Int.reduceBEq, Int.reduceBNe, Int.reduceLT, Int.reduceLE, Int.reduceGT, Int.reduceGE, Int.reduceNeg, reduceCtorEq, hps])⟩
        all_goals simp (decide := true) (disch := first | omega | (simp (decide := true) only [List.length_set, hl]; done) | fail) only [sims, evRegion, evOps, evOp, evG, evR, guardT, callee, opRes, pureR, binT, unT, T.cells, T.leaf, fillT, splice, Nat.reduceLT, Nat.reduceAdd, Nat.reduceMul, Nat.reduceLeDiff, Nat.reduceEqDiff, reduceIte, Int.reduceBEq, Int.reduceBNe, Int.reduceLT, Int.reduceLE, Int.reduceGT, Int.reduceGE, Int.reduceNeg, reduceCtorEq, hps, hl, h0, h2, h4, h6, h8s, h9, k0, k1, k35, k46, kbm, kA, hoe]
      · have e1 : decide (o.loc ≥ 0) = false := decide_eq_false hl0
        have hd : decide (isL s o) = false := decide_eq_false (fun h => hl0 h.1)
        rw [hd]
        refine W_region (fun k => by simp (decide := true) (disch := first | omega | (simp (decide := true) only [List.length_set, hl]; done) | fail) only [sims, evRegion, evOps, evOp, evG, evR, guardT, callee, opRes, pureR, binT, unT, T.cells, T.leaf, fillT, splice, Nat.reduceLT, Nat.reduceAdd, Nat.reduceMul, Nat.reduceLeDiff, Nat.reduceEqDiff, reduceIte, Int.reduceBEq, Int.reduceBNe, Int.reduceLT, Int.reduceLE, Int.reduceGT, Int.reduceGE, Int.reduceNeg, reduceCtorEq, hps, h4, h8s, k0, k35, hoel, holc, e1]; rfl) ⟨rfl, ?_⟩
        refine ⟨⟨?_, ?_, ?_, ?_, ?_, ?_, ?_⟩, ?_, ⟨?_, ?_, ?_, ?_, ?_, ?_⟩, ?_, Nat.lt_add_right _ (Nat.lt_add_right _ hA), hrows _ (fun t ht => by simp (decide := true) (disch := first | omega | (simp (decide := true) only [List.length_set, hl]; done) | fail) only [sims, evRegion, evOps, evOp, evG, evR, guardT, callee, opRes, pureR, binT, unT, T.cells, T.leaf, fillT, splice, Nat.reduceLT, Nat.reduceAdd, Nat.reduceMul, Nat.reduceLeDiff, Nat.reduceEqDiff, reduceIte, Int.reduceBEq, Int.reduceBNe, Int.reduceLT, Int.reduceLE, Int.reduceGT, Int.reduceGE, Int.reduceNeg, reduceCtorEq, hps])⟩
        all_goals simp (decide := true) (disch := first | omega | (simp (decide := true) only [List.length_set, hl]; done) | fail) only [sims, evRegion, evOps, evOp, evG, evR, guardT, callee, opRes, pureR, binT, unT, T.cells, T.leaf, fillT, splice, Nat.reduceLT, Nat.reduceAdd, Nat.reduceMul, Nat.reduceLeDiff, Nat.reduceEqDiff, reduceIte, Int.reduceBEq, Int.reduceBNe, Int.reduceLT, Int.reduceLE, Int.reduceGT, Int.reduceGE, Int.reduceNeg, reduceCtorEq, hps, hl, h0, h2, h4, h6, h8s, h9, k0, k1, k35, k46, kbm, kA, hoe]
    clear hl h0 h2 h4 h6 h8s h9 hrows
    rintro ⟨sl, g', nx'⟩ ⟨hSl, h11, hM, kA, hA, hrows⟩
    simp only at h11 hM kA hA hrows
    refine W_cut (fun s' => Slots (pT p) (w : Int) s' ∧ rho s'.s (.tmp 11) = .bool (decide (isL s o)) ∧ Mid s o p.length w bm A (s.far.set w (farN s w + 1)) (.imm fm s.mem.length (wordsT s.mem)) (.imm fa s.far.length (intsT s.far)) (.imm fs s.seen.length cs) (.own bm 0 s.mem.length 1) (.own 44 0 s.far.length 1) s'.g ∧ ∃ els', s'.g A = some els' ∧ RowsW s'.g els' (seenS s w o)) ?_ ?_
    · have hSl' := hSl
      have hM' := hM
      obtain ⟨hl, h0, h2, h4, h6, h8s, h9⟩ := hSl'
      obtain ⟨m0, m1, m35, m46, mbm, m44⟩ := hM'
      simp only at hl h0 h2 h4 h6 h8s h9
      rw [hoe] at m35
      have read : rds o → ∀ sl2 nx2, (Slots (pT p) (w : Int) ⟨sl2, g', nx2⟩ ∧ rho sl2 (.tmp 11) = .bool (decide (isL s o)) ∧ nx' ≤ nx2) → _ := fun hrd sl2 nx2 h => step_read s p.length w bm A o (s.far.set w (farN s w + 1)) (pT p) (.imm fm s.mem.length (wordsT s.mem)) (.imm fa s.far.length (intsT s.far)) (.imm fs s.seen.length cs) (.own bm 0 s.mem.length 1) (.own 44 0 s.far.length 1) fm rfl hm8 hsn hw hn2 (h8 w hw) hbm hA48 els hel bf ⟨sl2, g', nx2⟩ h.1 h.2.1 hM kA (Nat.lt_of_lt_of_le hA h.2.2) hrows hrd
      by_cases k1' : o.kind = 1
      · have e1 : (o.kind == 1) = true := by simp [k1']
        refine W_seqn (W_region (fun k => by simp (decide := true) (disch := first | omega | (simp (decide := true) only [List.length_set, hl]; done) | fail) only [sims, evRegion, evOps, evOp, evG, evR, guardT, callee, opRes, pureR, binT, unT, T.cells, T.leaf, fillT, splice, Nat.reduceLT, Nat.reduceAdd, Nat.reduceMul, Nat.reduceLeDiff, Nat.reduceEqDiff, reduceIte, Int.reduceBEq, Int.reduceBNe, Int.reduceLT, Int.reduceLE, Int.reduceGT, Int.reduceGE, Int.reduceNeg, reduceCtorEq, hps, h8s, m35, hoel, hok, e1]; rfl) ⟨rfl, W_true (by simp (decide := true) (disch := first | omega | (simp (decide := true) only [List.length_set, hl]; done) | fail) only [sims, evRegion, evOps, evOp, evG, evR, guardT, callee, opRes, pureR, binT, unT, T.cells, T.leaf, fillT, splice, Nat.reduceLT, Nat.reduceAdd, Nat.reduceMul, Nat.reduceLeDiff, Nat.reduceEqDiff, reduceIte, Int.reduceBEq, Int.reduceBNe, Int.reduceLT, Int.reduceLE, Int.reduceGT, Int.reduceGE, Int.reduceNeg, reduceCtorEq] <;> rfl) ?_⟩)
        refine read (.inl k1') _ _ ⟨⟨?_, ?_, ?_, ?_, ?_, ?_, ?_⟩, ?_, Nat.le_add_right _ _⟩
        all_goals simp (decide := true) (disch := first | omega | (simp (decide := true) only [List.length_set, hl]; done) | fail) only [sims, evRegion, evOps, evOp, evG, evR, guardT, callee, opRes, pureR, binT, unT, T.cells, T.leaf, fillT, splice, Nat.reduceLT, Nat.reduceAdd, Nat.reduceMul, Nat.reduceLeDiff, Nat.reduceEqDiff, reduceIte, Int.reduceBEq, Int.reduceBNe, Int.reduceLT, Int.reduceLE, Int.reduceGT, Int.reduceGE, Int.reduceNeg, reduceCtorEq, hps, hl, h0, h2, h4, h6, h8s, h9, h11]
      have e1 : (o.kind == 1) = false := beq_eq_false_iff_ne.mpr k1'
      by_cases k4 : o.kind = 4
      · have e4 : (o.kind == 4) = true := by simp [k4]
        refine W_seqn (W_region (fun k => by simp (decide := true) (disch := first | omega | (simp (decide := true) only [List.length_set, hl]; done) | fail) only [sims, evRegion, evOps, evOp, evG, evR, guardT, callee, opRes, pureR, binT, unT, T.cells, T.leaf, fillT, splice, Nat.reduceLT, Nat.reduceAdd, Nat.reduceMul, Nat.reduceLeDiff, Nat.reduceEqDiff, reduceIte, Int.reduceBEq, Int.reduceBNe, Int.reduceLT, Int.reduceLE, Int.reduceGT, Int.reduceGE, Int.reduceNeg, reduceCtorEq, hps, h8s, m35, hoel, hok, e1, e4]; rfl) ⟨rfl, W_true (by simp (decide := true) (disch := first | omega | (simp (decide := true) only [List.length_set, hl]; done) | fail) only [sims, evRegion, evOps, evOp, evG, evR, guardT, callee, opRes, pureR, binT, unT, T.cells, T.leaf, fillT, splice, Nat.reduceLT, Nat.reduceAdd, Nat.reduceMul, Nat.reduceLeDiff, Nat.reduceEqDiff, reduceIte, Int.reduceBEq, Int.reduceBNe, Int.reduceLT, Int.reduceLE, Int.reduceGT, Int.reduceGE, Int.reduceNeg, reduceCtorEq] <;> rfl) ?_⟩)
        refine read (.inr k4) _ _ ⟨⟨?_, ?_, ?_, ?_, ?_, ?_, ?_⟩, ?_, Nat.le_add_right _ _⟩
        all_goals simp (decide := true) (disch := first | omega | (simp (decide := true) only [List.length_set, hl]; done) | fail) only [sims, evRegion, evOps, evOp, evG, evR, guardT, callee, opRes, pureR, binT, unT, T.cells, T.leaf, fillT, splice, Nat.reduceLT, Nat.reduceAdd, Nat.reduceMul, Nat.reduceLeDiff, Nat.reduceEqDiff, reduceIte, Int.reduceBEq, Int.reduceBNe, Int.reduceLT, Int.reduceLE, Int.reduceGT, Int.reduceGE, Int.reduceNeg, reduceCtorEq, hps, hl, h0, h2, h4, h6, h8s, h9, h11]
      · have e4 : (o.kind == 4) = false := beq_eq_false_iff_ne.mpr k4
        refine W_seqn (W_region (fun k => by simp (decide := true) (disch := first | omega | (simp (decide := true) only [List.length_set, hl]; done) | fail) only [sims, evRegion, evOps, evOp, evG, evR, guardT, callee, opRes, pureR, binT, unT, T.cells, T.leaf, fillT, splice, Nat.reduceLT, Nat.reduceAdd, Nat.reduceMul, Nat.reduceLeDiff, Nat.reduceEqDiff, reduceIte, Int.reduceBEq, Int.reduceBNe, Int.reduceLT, Int.reduceLE, Int.reduceGT, Int.reduceGE, Int.reduceNeg, reduceCtorEq, hps, h8s, m35, hoel, hok, e1, e4]; rfl) ⟨rfl, W_false (by simp (decide := true) (disch := first | omega | (simp (decide := true) only [List.length_set, hl]; done) | fail) only [sims, evRegion, evOps, evOp, evG, evR, guardT, callee, opRes, pureR, binT, unT, T.cells, T.leaf, fillT, splice, Nat.reduceLT, Nat.reduceAdd, Nat.reduceMul, Nat.reduceLeDiff, Nat.reduceEqDiff, reduceIte, Int.reduceBEq, Int.reduceBNe, Int.reduceLT, Int.reduceLE, Int.reduceGT, Int.reduceGE, Int.reduceNeg, reduceCtorEq] <;> rfl) (W_skip ⟨rfl, ?_⟩)⟩)
        have hse : seenS s w o = s.seen := by unfold seenS; exact if_neg (fun h => by rcases h with h | h; exact k1' h; exact k4 h)
        refine ⟨⟨?_, ?_, ?_, ?_, ?_, ?_, ?_⟩, ?_, hM, els, kA, ?_⟩
        rotate_right 1
        · rw [hse]
          refine ⟨by rw [hel, hsn], fun j hj => ?_⟩
          obtain ⟨a1, a2, a3, a4, a5⟩ := hrows j (by omega)
          have hsj : seenN s j = s.seen[j] := by unfold seenN; rw [List.getElem?_eq_getElem hj]; rfl
          rw [hsj] at a1 a2
          exact ⟨bf j, a3, a1, a2⟩
        all_goals simp (decide := true) (disch := first | omega | (simp (decide := true) only [List.length_set, hl]; done) | fail) only [sims, evRegion, evOps, evOp, evG, evR, guardT, callee, opRes, pureR, binT, unT, T.cells, T.leaf, fillT, splice, Nat.reduceLT, Nat.reduceAdd, Nat.reduceMul, Nat.reduceLeDiff, Nat.reduceEqDiff, reduceIte, Int.reduceBEq, Int.reduceBNe, Int.reduceLT, Int.reduceLE, Int.reduceGT, Int.reduceGE, Int.reduceNeg, reduceCtorEq, hps, hl, h0, h2, h4, h6, h8s, h9, h11]
    clear hSl h11 hM kA hrows
    rintro ⟨sl, g3, nx3⟩ ⟨⟨hl, h0, h2, h4, h6, h8s, h9⟩, h11, ⟨m0, m1, m35, m46, mbm, m44⟩, els', kA, hRW⟩
    simp only at hl h0 h2 h4 h6 h8s h9 h11 m0 m1 m35 m46 mbm m44 kA hRW
    rw [hoe] at m35
    refine W_cut (fun s' => s'.s.length = 141 ∧ rho s'.s (.tmp 6) = .ptr 1 0 ∧ rho s'.s (.tmp 9) = .ptr 46 0 ∧ s'.g 1 = some [.imm true 0 [], .imm true 0 [], .imm true 0 []] ∧ s'.g 46 = some [.own bm 0 s.mem.length 1, .own 44 0 s.far.length 1, .own A 0 p.length 1] ∧ s'.g bm = some (wordsT (memS s o)) ∧ s'.g 44 = some (intsT (s.far.set w (farN s w + 1))) ∧ s'.g A = some els' ∧ RowsW s'.g els' (seenS s w o)) ?_ ?_
    · have skip : ¬ (isL s o ∧ wrs o) → ∀ s' : St, (s'.s.length = 141 ∧ rho s'.s (.tmp 6) = .ptr 1 0 ∧ rho s'.s (.tmp 9) = .ptr 46 0 ∧ s'.g = g3) → (s'.s.length = 141 ∧ rho s'.s (.tmp 6) = .ptr 1 0 ∧ rho s'.s (.tmp 9) = .ptr 46 0 ∧ s'.g 1 = some [.imm true 0 [], .imm true 0 [], .imm true 0 []] ∧ s'.g 46 = some [.own bm 0 s.mem.length 1, .own 44 0 s.far.length 1, .own A 0 p.length 1] ∧ s'.g bm = some (wordsT (memS s o)) ∧ s'.g 44 = some (intsT (s.far.set w (farN s w + 1))) ∧ s'.g A = some els' ∧ RowsW s'.g els' (seenS s w o)) := by
        rintro hno s' ⟨a, b, c, d⟩
        have hms : memS s o = s.mem := by unfold memS; exact if_neg hno
        rw [d, hms]
        exact ⟨a, b, c, m1, m46, mbm, m44, kA, hRW⟩
      have write : (isL s o ∧ wrs o) → ∀ s' : St, (s'.s.length = 141 ∧ rho s'.s (.tmp 6) = .ptr 1 0 ∧ rho s'.s (.tmp 8) = .ptr 35 0 ∧ rho s'.s (.tmp 9) = .ptr 46 0 ∧ s'.g = g3) → W ap (.region [⟨some 133, .faddr (.tmp 9) 0, none⟩, ⟨some 134, .load true 1 (.tmp 133), none⟩, ⟨some 135, .faddr (.tmp 8) 1, none⟩, ⟨some 136, .load true 1 (.tmp 135), none⟩, ⟨some 137, .faddr (.tmp 8) 2, none⟩, ⟨some 138, .load true 1 (.tmp 137), none⟩, ⟨some 139, .isl 1 (.tmp 134) (.tmp 136), none⟩, ⟨none, .store 1 (.tmp 139) (.tmp 138), none⟩] []) s' (fun e s' => e = .normal ∧ (s'.s.length = 141 ∧ rho s'.s (.tmp 6) = .ptr 1 0 ∧ rho s'.s (.tmp 9) = .ptr 46 0 ∧ s'.g 1 = some [.imm true 0 [], .imm true 0 [], .imm true 0 []] ∧ s'.g 46 = some [.own bm 0 s.mem.length 1, .own 44 0 s.far.length 1, .own A 0 p.length 1] ∧ s'.g bm = some (wordsT (memS s o)) ∧ s'.g 44 = some (intsT (s.far.set w (farN s w + 1))) ∧ s'.g A = some els' ∧ RowsW s'.g els' (seenS s w o))) := by
        rintro hyes ⟨sl, g5, nx⟩ ⟨hl, h6, h8s, h9, hgg⟩
        simp only at hl h6 h8s h9 hgg
        subst hgg
        have his := hyes.1
        obtain ⟨j, hj⟩ : ∃ j : Nat, o.loc = j := ⟨o.loc.toNat, by have := his.1; omega⟩
        have hjm : j < s.mem.length := by have := his.2; omega
        have hms : memS s o = s.mem.set j o.val := by unfold memS; rw [if_pos hyes, hj, Int.toNat_natCast]
        have hset : (wordsT s.mem).set (j * 1) (.int .u32 o.val) = wordsT (memS s o) := by rw [Nat.mul_one, hms, words_set]
        rw [hj] at holc
        have hb4 : j * 1 + 1 ≤ s.mem.length := by omega
        refine W_region (fun k => by simp (decide := true) (disch := first | omega | (simp (decide := true) only [List.length_set, hl]; done) | fail) only [sims, evRegion, evOps, evOp, evG, evR, guardT, callee, opRes, pureR, binT, unT, T.cells, T.leaf, fillT, splice, Nat.reduceLT, Nat.reduceAdd, Nat.reduceMul, Nat.reduceLeDiff, Nat.reduceEqDiff, reduceIte, Int.reduceBEq, Int.reduceBNe, Int.reduceLT, Int.reduceLE, Int.reduceGT, Int.reduceGE, Int.reduceNeg, reduceCtorEq, hps, h8s, h9, m46, m35, mbm, hoel, holc, hov, hwl, hjm, hb4, hset]; rfl) ⟨rfl, ?_⟩
        refine ⟨?_, ?_, ?_, ?_, ?_, ?_, ?_, ?_, hRW.mono (fun t ht => put1_ne (by omega))⟩
        all_goals first | (simp (decide := true) (disch := first | omega | (simp (decide := true) only [List.length_set, hl]; done) | fail) only [sims, evRegion, evOps, evOp, evG, evR, guardT, callee, opRes, pureR, binT, unT, T.cells, T.leaf, fillT, splice, Nat.reduceLT, Nat.reduceAdd, Nat.reduceMul, Nat.reduceLeDiff, Nat.reduceEqDiff, reduceIte, Int.reduceBEq, Int.reduceBNe, Int.reduceLT, Int.reduceLE, Int.reduceGT, Int.reduceGE, Int.reduceNeg, reduceCtorEq, hps, hl, h6, h9, m1, m46, m44, kA]; done) | (simp (decide := true) (disch := first | omega | (simp (decide := true) only [List.length_set, hl]; done) | fail) only [sims, evRegion, evOps, evOp, evG, evR, guardT, callee, opRes, pureR, binT, unT, T.cells, T.leaf, fillT, splice, Nat.reduceLT, Nat.reduceAdd, Nat.reduceMul, Nat.reduceLeDiff, Nat.reduceEqDiff, reduceIte, Int.reduceBEq, Int.reduceBNe, Int.reduceLT, Int.reduceLE, Int.reduceGT, Int.reduceGE, Int.reduceNeg, reduceCtorEq, hps, hl, h6, h9, m1, m46, m44, kA]; rfl)
      by_cases his : isL s o
      · rw [decide_eq_true his] at h11
        by_cases k2 : o.kind = 2
        · have e2 : (o.kind == 2) = true := by simp [k2]
          refine W_seqn (W_region (fun k => by simp (decide := true) (disch := first | omega | (simp (decide := true) only [List.length_set, hl]; done) | fail) only [sims, evRegion, evOps, evOp, evG, evR, guardT, callee, opRes, pureR, binT, unT, T.cells, T.leaf, fillT, splice, Nat.reduceLT, Nat.reduceAdd, Nat.reduceMul, Nat.reduceLeDiff, Nat.reduceEqDiff, reduceIte, Int.reduceBEq, Int.reduceBNe, Int.reduceLT, Int.reduceLE, Int.reduceGT, Int.reduceGE, Int.reduceNeg, reduceCtorEq, hps, h8s, h11, m35, hoel, hok, e2]; rfl) ⟨rfl, W_true (by simp (decide := true) (disch := first | omega | (simp (decide := true) only [List.length_set, hl]; done) | fail) only [sims, evRegion, evOps, evOp, evG, evR, guardT, callee, opRes, pureR, binT, unT, T.cells, T.leaf, fillT, splice, Nat.reduceLT, Nat.reduceAdd, Nat.reduceMul, Nat.reduceLeDiff, Nat.reduceEqDiff, reduceIte, Int.reduceBEq, Int.reduceBNe, Int.reduceLT, Int.reduceLE, Int.reduceGT, Int.reduceGE, Int.reduceNeg, reduceCtorEq] <;> rfl) ?_⟩)
          refine write ⟨his, .inl k2⟩ _ ⟨?_, ?_, ?_, ?_, rfl⟩
          all_goals simp (decide := true) (disch := first | omega | (simp (decide := true) only [List.length_set, hl]; done) | fail) only [sims, evRegion, evOps, evOp, evG, evR, guardT, callee, opRes, pureR, binT, unT, T.cells, T.leaf, fillT, splice, Nat.reduceLT, Nat.reduceAdd, Nat.reduceMul, Nat.reduceLeDiff, Nat.reduceEqDiff, reduceIte, Int.reduceBEq, Int.reduceBNe, Int.reduceLT, Int.reduceLE, Int.reduceGT, Int.reduceGE, Int.reduceNeg, reduceCtorEq, hps, hl, h6, h8s, h9]
        have e2 : (o.kind == 2) = false := beq_eq_false_iff_ne.mpr k2
        by_cases k4 : o.kind = 4
        · have e4 : (o.kind == 4) = true := by simp [k4]
          refine W_seqn (W_region (fun k => by simp (decide := true) (disch := first | omega | (simp (decide := true) only [List.length_set, hl]; done) | fail) only [sims, evRegion, evOps, evOp, evG, evR, guardT, callee, opRes, pureR, binT, unT, T.cells, T.leaf, fillT, splice, Nat.reduceLT, Nat.reduceAdd, Nat.reduceMul, Nat.reduceLeDiff, Nat.reduceEqDiff, reduceIte, Int.reduceBEq, Int.reduceBNe, Int.reduceLT, Int.reduceLE, Int.reduceGT, Int.reduceGE, Int.reduceNeg, reduceCtorEq, hps, h8s, h11, m35, hoel, hok, e2, e4]; rfl) ⟨rfl, W_true (by simp (decide := true) (disch := first | omega | (simp (decide := true) only [List.length_set, hl]; done) | fail) only [sims, evRegion, evOps, evOp, evG, evR, guardT, callee, opRes, pureR, binT, unT, T.cells, T.leaf, fillT, splice, Nat.reduceLT, Nat.reduceAdd, Nat.reduceMul, Nat.reduceLeDiff, Nat.reduceEqDiff, reduceIte, Int.reduceBEq, Int.reduceBNe, Int.reduceLT, Int.reduceLE, Int.reduceGT, Int.reduceGE, Int.reduceNeg, reduceCtorEq] <;> rfl) ?_⟩)
          refine write ⟨his, .inr k4⟩ _ ⟨?_, ?_, ?_, ?_, rfl⟩
          all_goals simp (decide := true) (disch := first | omega | (simp (decide := true) only [List.length_set, hl]; done) | fail) only [sims, evRegion, evOps, evOp, evG, evR, guardT, callee, opRes, pureR, binT, unT, T.cells, T.leaf, fillT, splice, Nat.reduceLT, Nat.reduceAdd, Nat.reduceMul, Nat.reduceLeDiff, Nat.reduceEqDiff, reduceIte, Int.reduceBEq, Int.reduceBNe, Int.reduceLT, Int.reduceLE, Int.reduceGT, Int.reduceGE, Int.reduceNeg, reduceCtorEq, hps, hl, h6, h8s, h9]
        · have e4 : (o.kind == 4) = false := beq_eq_false_iff_ne.mpr k4
          refine W_seqn (W_region (fun k => by simp (decide := true) (disch := first | omega | (simp (decide := true) only [List.length_set, hl]; done) | fail) only [sims, evRegion, evOps, evOp, evG, evR, guardT, callee, opRes, pureR, binT, unT, T.cells, T.leaf, fillT, splice, Nat.reduceLT, Nat.reduceAdd, Nat.reduceMul, Nat.reduceLeDiff, Nat.reduceEqDiff, reduceIte, Int.reduceBEq, Int.reduceBNe, Int.reduceLT, Int.reduceLE, Int.reduceGT, Int.reduceGE, Int.reduceNeg, reduceCtorEq, hps, h8s, h11, m35, hoel, hok, e2, e4]; rfl) ⟨rfl, W_false (by simp (decide := true) (disch := first | omega | (simp (decide := true) only [List.length_set, hl]; done) | fail) only [sims, evRegion, evOps, evOp, evG, evR, guardT, callee, opRes, pureR, binT, unT, T.cells, T.leaf, fillT, splice, Nat.reduceLT, Nat.reduceAdd, Nat.reduceMul, Nat.reduceLeDiff, Nat.reduceEqDiff, reduceIte, Int.reduceBEq, Int.reduceBNe, Int.reduceLT, Int.reduceLE, Int.reduceGT, Int.reduceGE, Int.reduceNeg, reduceCtorEq] <;> rfl) (W_skip ⟨rfl, ?_⟩)⟩)
          refine skip (fun h => by rcases h.2 with h | h; exact k2 h; exact k4 h) _ ⟨?_, ?_, ?_, rfl⟩
          all_goals simp (decide := true) (disch := first | omega | (simp (decide := true) only [List.length_set, hl]; done) | fail) only [sims, evRegion, evOps, evOp, evG, evR, guardT, callee, opRes, pureR, binT, unT, T.cells, T.leaf, fillT, splice, Nat.reduceLT, Nat.reduceAdd, Nat.reduceMul, Nat.reduceLeDiff, Nat.reduceEqDiff, reduceIte, Int.reduceBEq, Int.reduceBNe, Int.reduceLT, Int.reduceLE, Int.reduceGT, Int.reduceGE, Int.reduceNeg, reduceCtorEq, hps, hl, h6, h9]
      · rw [decide_eq_false his] at h11
        refine W_seqn (W_region (fun k => by simp (decide := true) (disch := first | omega | (simp (decide := true) only [List.length_set, hl]; done) | fail) only [sims, evRegion, evOps, evOp, evG, evR, guardT, callee, opRes, pureR, binT, unT, T.cells, T.leaf, fillT, splice, Nat.reduceLT, Nat.reduceAdd, Nat.reduceMul, Nat.reduceLeDiff, Nat.reduceEqDiff, reduceIte, Int.reduceBEq, Int.reduceBNe, Int.reduceLT, Int.reduceLE, Int.reduceGT, Int.reduceGE, Int.reduceNeg, reduceCtorEq, hps, h8s, h11, m35, hoel, hok]; rfl) ⟨rfl, W_false (by simp (decide := true) (disch := first | omega | (simp (decide := true) only [List.length_set, hl]; done) | fail) only [sims, evRegion, evOps, evOp, evG, evR, guardT, callee, opRes, pureR, binT, unT, T.cells, T.leaf, fillT, splice, Nat.reduceLT, Nat.reduceAdd, Nat.reduceMul, Nat.reduceLeDiff, Nat.reduceEqDiff, reduceIte, Int.reduceBEq, Int.reduceBNe, Int.reduceLT, Int.reduceLE, Int.reduceGT, Int.reduceGE, Int.reduceNeg, reduceCtorEq] <;> rfl) (W_skip ⟨rfl, ?_⟩)⟩)
        refine skip (fun h => his h.1) _ ⟨?_, ?_, ?_, rfl⟩
        all_goals simp (decide := true) (disch := first | omega | (simp (decide := true) only [List.length_set, hl]; done) | fail) only [sims, evRegion, evOps, evOp, evG, evR, guardT, callee, opRes, pureR, binT, unT, T.cells, T.leaf, fillT, splice, Nat.reduceLT, Nat.reduceAdd, Nat.reduceMul, Nat.reduceLeDiff, Nat.reduceEqDiff, reduceIte, Int.reduceBEq, Int.reduceBNe, Int.reduceLT, Int.reduceLE, Int.reduceGT, Int.reduceGE, Int.reduceNeg, reduceCtorEq, hps, hl, h6, h9]
    clear hl h0 h2 h4 h6 h8s h9 h11 m0 m1 m35 m46 mbm m44 kA hRW
    rintro ⟨sl, g4, nx4⟩ ⟨hl, h6, h9, m1, m46, mbm, m44, kA, hRW⟩
    simp only at hl h6 h9 m1 m46 mbm m44 kA hRW
    have hcut3 : cut [T.own bm 0 s.mem.length 1, .own 44 0 s.far.length 1, .own A 0 p.length 1] 0 3 = [T.own bm 0 s.mem.length 1, .own 44 0 s.far.length 1, .own A 0 p.length 1] := rfl
    have hlf4 : allLeaf [T.own bm 0 s.mem.length 1, .own 44 0 s.far.length 1, .own A 0 p.length 1] = true := rfl
    refine W_seqn (W_region (fun k => by simp (decide := true) (disch := first | omega | (simp (decide := true) only [List.length_set, hl]; done) | fail) only [sims, evRegion, evOps, evOp, evG, evR, guardT, callee, opRes, pureR, binT, unT, T.cells, T.leaf, fillT, splice, Nat.reduceLT, Nat.reduceAdd, Nat.reduceMul, Nat.reduceLeDiff, Nat.reduceEqDiff, reduceIte, Int.reduceBEq, Int.reduceBNe, Int.reduceLT, Int.reduceLE, Int.reduceGT, Int.reduceGE, Int.reduceNeg, reduceCtorEq, hps, h6, h9, m1, m46, hcut3, hlf4]; rfl) ⟨rfl, W_ret ?_⟩)
    have hg' : ∀ t, 2 ≤ t → put1 g4 (1, some [T.own bm 0 s.mem.length 1, .own 44 0 s.far.length 1, .own A 0 p.length 1]) t = g4 t := fun t ht => put1_ne (by omega)
    obtain ⟨i1, e1⟩ := frz_own (h := ⟨put1 g4 (1, some [T.own bm 0 s.mem.length 1, .own 44 0 s.far.length 1, .own A 0 p.length 1]), nx4 + 3⟩) (d := 9) (t := bm) (n := s.mem.length) (es := 1) (c := wordsT (memS s o)) ((hg' bm (by omega)).trans mbm) (by rw [words_len, memS_len]; omega) (frzAll_still (d := 8) (words_still _))
    obtain ⟨i2, e2⟩ := frz_own (h := ⟨put1 g4 (1, some [T.own bm 0 s.mem.length 1, .own 44 0 s.far.length 1, .own A 0 p.length 1]), nx4 + 3⟩) (d := 9) (t := 44) (n := s.far.length) (es := 1) (c := intsT (s.far.set w (farN s w + 1))) ((hg' 44 (by omega)).trans m44) (by rw [ints_len, List.length_set]; omega) (frzAll_still (d := 8) (ints_still _))
    obtain ⟨cs', hcs', i3, e3⟩ := frz_rowsW (nx := nx4 + 3) (d := 7) (A := A) (show put1 g4 (1, some [T.own bm 0 s.mem.length 1, .own 44 0 s.far.length 1, .own A 0 p.length 1]) A = some els' by rw [hg' A (by omega)]; exact kA) (hRW.mono (fun t ht => hg' t (by omega)))
    rw [seenS_len, hsn] at e3
    have hfz : ∃ ids, frz ⟨put1 g4 (1, some [T.own bm 0 s.mem.length 1, .own 44 0 s.far.length 1, .own A 0 p.length 1]), nx4 + 3⟩ 11 (.agg [T.own bm 0 s.mem.length 1, .own 44 0 s.far.length 1, .own A 0 p.length 1]) = some (.agg [.imm false s.mem.length (wordsT (memS s o)), .imm false s.far.length (intsT (s.far.set w (farN s w + 1))), .imm false p.length cs'], ids) := by
      refine ⟨i1 ++ (i2 ++ (i3 ++ [])), ?_⟩
      show frz _ (10 + 1) _ = _
      rw [frz]
      simp only [frzAll, e1, e2, e3]
    refine ⟨rfl, _, ⟨_, rfl, ?_⟩, fin_step (F := f26) (b := true) rfl hfz ?_ ?_ ?_ rfl⟩
    · refine ⟨false, false, false, cs', ?_, ?_⟩
      · rw [hstep]
        show _ = T.agg [.imm false (memS s o).length (wordsT (memS s o)), .imm false (s.far.set w (farN s w + 1)).length (intsT (s.far.set w (farN s w + 1))), .imm false (seenS s w o).length cs']
        rw [memS_len, List.length_set, seenS_len, hsn]
      · rw [hstep]; exact hcs'
    · simp (decide := true) (disch := first | omega | (simp (decide := true) only [List.length_set, hl]; done) | fail) only [sims, evRegion, evOps, evOp, evG, evR, guardT, callee, opRes, pureR, binT, unT, T.cells, T.leaf, fillT, splice, Nat.reduceLT, Nat.reduceAdd, Nat.reduceMul, Nat.reduceLeDiff, Nat.reduceEqDiff, reduceIte, Int.reduceBEq, Int.reduceBNe, Int.reduceLT, Int.reduceLE, Int.reduceGT, Int.reduceGE, Int.reduceNeg, reduceCtorEq, h6]
    · simp (decide := true) (disch := first | omega | (simp (decide := true) only [List.length_set, hl]; done) | fail) only [sims, evRegion, evOps, evOp, evG, evR, guardT, callee, opRes, pureR, binT, unT, T.cells, T.leaf, fillT, splice, Nat.reduceLT, Nat.reduceAdd, Nat.reduceMul, Nat.reduceLeDiff, Nat.reduceEqDiff, reduceIte, Int.reduceBEq, Int.reduceBNe, Int.reduceLT, Int.reduceLE, Int.reduceGT, Int.reduceGE, Int.reduceNeg, reduceCtorEq]
    · simp (decide := true) (disch := first | omega | (simp (decide := true) only [List.length_set, hl]; done) | fail) only [sims, evRegion, evOps, evOp, evG, evR, guardT, callee, opRes, pureR, binT, unT, T.cells, T.leaf, fillT, splice, Nat.reduceLT, Nat.reduceAdd, Nat.reduceMul, Nat.reduceLeDiff, Nat.reduceEqDiff, reduceIte, Int.reduceBEq, Int.reduceBNe, Int.reduceLT, Int.reduceLE, Int.reduceGT, Int.reduceGE, Int.reduceNeg, reduceCtorEq, hps]
  all_goals first | (simp (decide := true) (disch := first | omega | (simp (decide := true) only [List.length_set, hl]; done) | fail) only [sims, evRegion, evOps, evOp, evG, evR, guardT, callee, opRes, pureR, binT, unT, T.cells, T.leaf, fillT, splice, Nat.reduceLT, Nat.reduceAdd, Nat.reduceMul, Nat.reduceLeDiff, Nat.reduceEqDiff, reduceIte, Int.reduceBEq, Int.reduceBNe, Int.reduceLT, Int.reduceLE, Int.reduceGT, Int.reduceGE, Int.reduceNeg, reduceCtorEq, hps, hl, h0, h2, h4, h6, h8s, h9]; done) | (simp (decide := true) (disch := first | omega | (simp (decide := true) only [List.length_set, hl]; done) | fail) only [sims, evRegion, evOps, evOp, evG, evR, guardT, callee, opRes, pureR, binT, unT, T.cells, T.leaf, fillT, splice, Nat.reduceLT, Nat.reduceAdd, Nat.reduceMul, Nat.reduceLeDiff, Nat.reduceEqDiff, reduceIte, Int.reduceBEq, Int.reduceBNe, Int.reduceLT, Int.reduceLE, Int.reduceGT, Int.reduceGE, Int.reduceNeg, reduceCtorEq, hps, hl, h0, h2, h4, h6, h8s, h9]; rfl)
end Go.Proofs.Ytmihmodlilebbaa.Abs
