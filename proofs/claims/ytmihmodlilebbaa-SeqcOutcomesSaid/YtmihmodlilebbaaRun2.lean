/- What is seen in an order: the program's function, whole. -/
import Derived.Test.YtmihmodlilebbaaRun
namespace Go.Proofs.Ytmihmodlilebbaa.Abs
open Go Go.RowKit Fn
set_option linter.unusedVariables false
set_option linter.unusedSimpArgs false
set_option linter.unnecessarySimpa false
set_option maxRecDepth 100000
set_option maxHeartbeats 1000000

def OutS (S : List (List Int)) (M : List Int) (v : T) : Prop := ∃ f cs f', v = .tup [.imm f S.length cs, .imm f' M.length (wordsT M)] ∧ SeenT cs S
theorem out_nil : OutS [] [] (.tup [.imm true 0 [], .imm true 0 []]) := ⟨true, [], true, rfl, rfl, fun j h => by simp at h⟩
theorem fin_two {F : AFun} {t1 t2 : Nat} {a b c d : T} {is js : List Nat} (hF : F.res = [.tmp t1, .tmp t2]) {s : List T} {g : Mem} {nx : Nat} (ha : frz ⟨g, nx⟩ 11 a = some (c, is)) (hb : frz ⟨g, nx⟩ 11 b = some (d, js)) (h1 : rho s (.tmp t1) = a) (h2 : rho s (.tmp t2) = b) : ∃ u ids, resT s g F.res = some u ∧ frz ⟨g, nx⟩ frzDepth u = some (.tup [c, d], ids) := by
  refine ⟨.tup [a, b], is ++ (js ++ []), by rw [hF]; simp only [resT, resL, resOne, h1, h2], ?_⟩
  show frz ⟨g, nx⟩ (11 + 1) _ = _
  rw [frz]
  simp only [frzAll, ha, hb]
theorem fin_twoE {F : AFun} {t1 t2 : Nat} {a b c d : T} (hF : F.res = [.tmp t1, .tmp t2]) {s : List T} {g : Mem} {nx : Nat} (ha : ∃ is, frz ⟨g, nx⟩ 11 a = some (c, is)) (hb : ∃ js, frz ⟨g, nx⟩ 11 b = some (d, js)) (h1 : rho s (.tmp t1) = a) (h2 : rho s (.tmp t2) = b) : ∃ u ids, resT s g F.res = some u ∧ frz ⟨g, nx⟩ frzDepth u = some (.tup [c, d], ids) := by
  obtain ⟨is, ha⟩ := ha
  obtain ⟨js, hb⟩ := hb
  exact fin_two hF ha hb h1 h2
theorem bus_run_bad (p : List (List Op)) (hR : ¬ RightP p) (locs : Int) (o : T) : E ap 11 [pT p, .int .i64 locs, o] (.tup [.imm true 0 [], .imm true 0 []]) := by
  refine E_body (F := f11) rfl rfl rfl ?_
  generalize hs0 : (_ : List T) ++ List.replicate _ T.undef = s0
  have e0 : s0.length = 37 ∧ rho s0 (.tmp 0) = pT p := by subst hs0; exact ⟨rfl, rfl⟩
  clear hs0
  obtain ⟨hl, h0⟩ := e0
  obtain ⟨v, hv, b, rfl, hb⟩ := bus_right p
  have hbf : b = false := by cases b; rfl; exact absurd (hb.mp rfl) hR
  subst hbf
  obtain ⟨N, c17⟩ := hv.call ap17 (fun g => rfl)
  have q17 := c17 N (Nat.le_refl _)
  refine W_seqn (W_region (fun k => by simp (decide := true) (disch := first | omega | (simp (decide := true) only [List.length_set, hl]; done) | fail) only [sims, evRegion, evOps, evOp, evG, evR, guardT, callee, opRes, pureR, binT, unT, T.cells, T.leaf, fillT, splice, Nat.reduceLT, Nat.reduceAdd, Nat.reduceMul, Nat.reduceLeDiff, Nat.reduceEqDiff, reduceIte, Int.reduceBEq, Int.reduceBNe, Int.reduceLT, Int.reduceLE, Int.reduceGT, Int.reduceGE, Int.reduceNeg, reduceCtorEq]; rfl) ⟨rfl, ?_⟩)
  refine W_seq (W_seqn (W_regionN ⟨N, by simp (decide := true) (disch := first | omega | (simp (decide := true) only [List.length_set, hl]; done) | fail) only [sims, evRegion, evOps, evOp, evG, evR, guardT, callee, opRes, pureR, binT, unT, T.cells, T.leaf, fillT, splice, Nat.reduceLT, Nat.reduceAdd, Nat.reduceMul, Nat.reduceLeDiff, Nat.reduceEqDiff, reduceIte, Int.reduceBEq, Int.reduceBNe, Int.reduceLT, Int.reduceLE, Int.reduceGT, Int.reduceGE, Int.reduceNeg, reduceCtorEq, h0, ap17, p17, n17, q17]; rfl⟩ ⟨rfl, W_true (by simp (decide := true) (disch := first | omega | (simp (decide := true) only [List.length_set, hl]; done) | fail) only [sims, evRegion, evOps, evOp, evG, evR, guardT, callee, opRes, pureR, binT, unT, T.cells, T.leaf, fillT, splice, Nat.reduceLT, Nat.reduceAdd, Nat.reduceMul, Nat.reduceLeDiff, Nat.reduceEqDiff, reduceIte, Int.reduceBEq, Int.reduceBNe, Int.reduceLT, Int.reduceLE, Int.reduceGT, Int.reduceGE, Int.reduceNeg, reduceCtorEq] <;> rfl) ?_⟩))
  refine W_seqn (W_region (fun k => by simp (decide := true) (disch := first | omega | (simp (decide := true) only [List.length_set, hl]; done) | fail) only [sims, evRegion, evOps, evOp, evG, evR, guardT, callee, opRes, pureR, binT, unT, T.cells, T.leaf, fillT, splice, Nat.reduceLT, Nat.reduceAdd, Nat.reduceMul, Nat.reduceLeDiff, Nat.reduceEqDiff, reduceIte, Int.reduceBEq, Int.reduceBNe, Int.reduceLT, Int.reduceLE, Int.reduceGT, Int.reduceGE, Int.reduceNeg, reduceCtorEq]; rfl) ⟨rfl, W_ret ?_⟩)
  simp only [reduceCtorEq, false_and, false_or, or_false, exists_false, exists_const, ne_eq, not_false_eq_true, true_and, implies_true]
  refine ⟨rfl, fin_two (F := f11) (t1 := 6) (t2 := 7) (a := .imm true 0 []) (b := .imm true 0 []) (is := []) (js := []) rfl rfl rfl ?_ ?_⟩ <;> simp (decide := true) (disch := first | omega | (simp (decide := true) only [List.length_set, hl]; done) | fail) only [sims, evRegion, evOps, evOp, evG, evR, guardT, callee, opRes, pureR, binT, unT, T.cells, T.leaf, fillT, splice, Nat.reduceLT, Nat.reduceAdd, Nat.reduceMul, Nat.reduceLeDiff, Nat.reduceEqDiff, reduceIte, Int.reduceBEq, Int.reduceBNe, Int.reduceLT, Int.reduceLE, Int.reduceGT, Int.reduceGE, Int.reduceNeg, reduceCtorEq]
theorem bus_run (p : List (List Op)) (hR : RightP p) (locs : Int) (ord : List Int) (hord : ord.length ≤ 200) (oc : List T) (hoc : ∀ i (h : i < ord.length), oc[i * 1]? = some (.int .i64 ord[i])) (hol : oc.length = ord.length) :
    ∃ v, E ap 11 [pT p, .int .i64 locs, .imm false ord.length oc] v ∧ OutS (runS p (beginS p locs) ord).seen (runS p (beginS p locs) ord).mem v := by
  refine E_bodyV (F := f11) rfl rfl rfl (P := OutS (runS p (beginS p locs) ord).seen (runS p (beginS p locs) ord).mem) ?_
  generalize hs0 : (_ : List T) ++ List.replicate _ T.undef = s0
  have e0 : s0.length = 37 ∧ rho s0 (.tmp 0) = pT p ∧ rho s0 (.tmp 1) = .int .i64 locs ∧ rho s0 (.tmp 2) = .imm false ord.length oc := by subst hs0; exact ⟨rfl, rfl, rfl, rfl⟩
  clear hs0
  obtain ⟨hl, h0, h1, h2⟩ := e0
  obtain ⟨v, hv, b, rfl, hb⟩ := bus_right p
  have hbt : b = true := hb.mpr hR
  subst hbt
  obtain ⟨N, c17⟩ := hv.call ap17 (fun g => rfl)
  have q17 := c17 N (Nat.le_refl _)
  obtain ⟨u, hu, hB⟩ := bus_begin p hR.1 locs
  obtain ⟨N2, c18⟩ := hu.call ap18 (fun g => rfl)
  have q18 := c18 N2 (Nat.le_refl _)
  have hG0 := good_begin p locs
  have hGn := good_run p ord _ hG0
  obtain ⟨ss, rfl, hS⟩ := id hB
  obtain ⟨hcl, hst, _, _⟩ := bus_cells hR hG0 hB
  have hlf := leaf_still hst
  generalize hC : busC (pT p) (wordsT (padM (beginS p locs).mem)) (.int .i64 ((beginS p locs).mem.length : Int)) (intsT (padF (beginS p locs).far)) ss = C at *
  have hz : allLeaf z14 = true := rfl
  have hzu : [(T.imm true 0 []), (.int .u32 0), (.int .u32 0), (.int .u32 0), (.int .u32 0), (.int .u32 0), (.int .u32 0), (.int .u32 0), (.int .u32 0), (.int .i64 0), (.int .i64 0), (.int .i64 0), (.imm true 0 []), (.imm true 0 [])] = z14 := rfl
  have hzl : z14.length = 14 := rfl
  have hspl : splice z14 0 C = C := splice_all (by rw [hcl, hzl])
  generalize z14 = zz at *
  refine W_seqn (W_region (fun k => by simp (decide := true) (disch := first | omega | (simp (decide := true) only [List.length_set, hl]; done) | fail) only [sims, evRegion, evOps, evOp, evG, evR, guardT, callee, opRes, pureR, binT, unT, T.cells, T.leaf, fillT, splice, Nat.reduceLT, Nat.reduceAdd, Nat.reduceMul, Nat.reduceLeDiff, Nat.reduceEqDiff, reduceIte, Int.reduceBEq, Int.reduceBNe, Int.reduceLT, Int.reduceLE, Int.reduceGT, Int.reduceGE, Int.reduceNeg, reduceCtorEq]; rfl) ⟨rfl, ?_⟩)
  refine W_seqn (W_seqn (W_regionN ⟨N, by simp (decide := true) (disch := first | omega | (simp (decide := true) only [List.length_set, hl]; done) | fail) only [sims, evRegion, evOps, evOp, evG, evR, guardT, callee, opRes, pureR, binT, unT, T.cells, T.leaf, fillT, splice, Nat.reduceLT, Nat.reduceAdd, Nat.reduceMul, Nat.reduceLeDiff, Nat.reduceEqDiff, reduceIte, Int.reduceBEq, Int.reduceBNe, Int.reduceLT, Int.reduceLE, Int.reduceGT, Int.reduceGE, Int.reduceNeg, reduceCtorEq, h0, ap17, p17, n17, q17]; rfl⟩ ⟨rfl, W_false (by simp (decide := true) (disch := first | omega | (simp (decide := true) only [List.length_set, hl]; done) | fail) only [sims, evRegion, evOps, evOp, evG, evR, guardT, callee, opRes, pureR, binT, unT, T.cells, T.leaf, fillT, splice, Nat.reduceLT, Nat.reduceAdd, Nat.reduceMul, Nat.reduceLeDiff, Nat.reduceEqDiff, reduceIte, Int.reduceBEq, Int.reduceBNe, Int.reduceLT, Int.reduceLE, Int.reduceGT, Int.reduceGE, Int.reduceNeg, reduceCtorEq] <;> rfl) (W_skip ⟨rfl, ?_⟩)⟩))
  refine W_seqn (W_regionN ⟨N2, by simp (decide := true) (disch := first | omega | (simp (decide := true) only [List.length_set, hl]; done) | fail) only [sims, evRegion, evOps, evOp, evG, evR, guardT, callee, opRes, pureR, binT, unT, T.cells, T.leaf, fillT, splice, Nat.reduceLT, Nat.reduceAdd, Nat.reduceMul, Nat.reduceLeDiff, Nat.reduceEqDiff, reduceIte, Int.reduceBEq, Int.reduceBNe, Int.reduceLT, Int.reduceLE, Int.reduceGT, Int.reduceGE, Int.reduceNeg, reduceCtorEq, hps, hzu, h0, h1, ap18, p18, n18, q18, hz, hzl, hcl, hlf, hspl]; rfl⟩ ⟨rfl, ?_⟩)
  refine W_seq (W_seqn (W_region (fun k => by simp (decide := true) (disch := first | omega | (simp (decide := true) only [List.length_set, hl]; done) | fail) only [sims, evRegion, evOps, evOp, evG, evR, guardT, callee, opRes, pureR, binT, unT, T.cells, T.leaf, fillT, splice, Nat.reduceLT, Nat.reduceAdd, Nat.reduceMul, Nat.reduceLeDiff, Nat.reduceEqDiff, reduceIte, Int.reduceBEq, Int.reduceBNe, Int.reduceLT, Int.reduceLE, Int.reduceGT, Int.reduceGE, Int.reduceNeg, reduceCtorEq, h2]; rfl) ⟨rfl, W_block ?_⟩))
  refine rn_loop p hR (beginS p locs) hG0 ord hord oc hoc hol _ (fun st hex => ?_) (ord.length - 0) _ ⟨0, C, ?_, ?_, ?_, ?_, ?_, ?_, hB, ?_, by omega, rfl⟩
  · obtain ⟨C2, hl, h8, g8, hB2, hnx⟩ := hex
    generalize hsE : runS p (beginS p locs) ord = s at *
    obtain ⟨hcl2, hst2, hc9, hcm⟩ := bus_cells hR hGn hB2
    have hcut2 : cut C2 0 14 = C2 := cut_all hcl2
    obtain ⟨v, hv, f, cs, rfl, hcs⟩ := bus_told p hR s hGn _ hB2
    obtain ⟨N3, c25⟩ := hv.call ap25 (frzL_agg hst2)
    have q25 := c25 N3 (Nat.le_refl _)
    have hL := hGn.1
    have hle0 : 0 ≤ s.mem.length := Nat.zero_le _
    have hsub : s.mem.length - 0 = s.mem.length := rfl
    have hz0 : 0 * 1 = 0 := rfl
    have hwl := words_len s.mem
    have hwlf := leaf_still (words_still s.mem)
    have hb1 : 1 + 8 * 1 ≤ 14 := by omega
    have hb2 : 1 + s.mem.length * 1 ≤ 14 := by omega
    have hr1 : (0 + s.mem.length) * 4 ≤ 549755813888 := by omega
    have hr1' : s.mem.length * 4 ≤ 549755813888 := by omega
    have hr2 : s.mem.length ≤ 549755813888 := by omega
    have hmo : (s.mem.length = s.mem.length * 1) = True := by simp
    refine .inl ⟨rfl, .inl ⟨rfl, ?_⟩⟩
    by_cases hm0 : s.mem.length = 0
    · have hme : s.mem = [] := List.length_eq_zero_iff.mp hm0
      have e0 : (s.mem.length = 0) = True := by simp [hm0]
      have e1 : ((wordsT s.mem).length = 0) = True := by rw [hwl]; exact e0
      refine W_seqn (W_regionN ⟨N3, by simp (decide := true) (disch := first | omega | (simp (decide := true) only [List.length_set, hl]; done) | fail) only [sims, evRegion, evOps, evOp, evG, evR, guardT, callee, opRes, pureR, binT, unT, T.cells, T.leaf, fillT, splice, Nat.reduceLT, Nat.reduceAdd, Nat.reduceMul, Nat.reduceLeDiff, Nat.reduceEqDiff, reduceIte, Int.reduceBEq, Int.reduceBNe, Int.reduceLT, Int.reduceLE, Int.reduceGT, Int.reduceGE, Int.reduceNeg, reduceCtorEq, hps, cellsOf, h8, g8, hcl2, hcut2, hc9, hcm, ap25, p25, n25, q25, Option.map_none, Option.map_some, hle0, hL, hsub, hz0, hb1, hb2, e0, hwl]; rfl⟩ ⟨rfl, W_ret ?_⟩)
      refine ⟨rfl, .tup [.imm f s.seen.length cs, .imm true 0 []], ⟨f, cs, true, by rw [hme]; rfl, hcs⟩, fin_two (F := f11) (t1 := 6) (t2 := 7) (a := .imm f s.seen.length cs) (b := .imm true 0 []) (is := []) (js := []) rfl rfl rfl ?_ ?_⟩ <;> simp (decide := true) (disch := first | omega | (simp (decide := true) only [List.length_set, hl]; done) | fail) only [sims, evRegion, evOps, evOp, evG, evR, guardT, callee, opRes, pureR, binT, unT, T.cells, T.leaf, fillT, splice, Nat.reduceLT, Nat.reduceAdd, Nat.reduceMul, Nat.reduceLeDiff, Nat.reduceEqDiff, reduceIte, Int.reduceBEq, Int.reduceBNe, Int.reduceLT, Int.reduceLE, Int.reduceGT, Int.reduceGE, Int.reduceNeg, reduceCtorEq]
    · have e0 : (s.mem.length = 0) = False := by simp [hm0]
      refine W_seqn (W_regionN ⟨N3, by simp (decide := true) (disch := first | omega | (simp (decide := true) only [List.length_set, hl]; done) | fail) only [sims, evRegion, evOps, evOp, evG, evR, guardT, callee, opRes, pureR, binT, unT, T.cells, T.leaf, fillT, splice, Nat.reduceLT, Nat.reduceAdd, Nat.reduceMul, Nat.reduceLeDiff, Nat.reduceEqDiff, reduceIte, Int.reduceBEq, Int.reduceBNe, Int.reduceLT, Int.reduceLE, Int.reduceGT, Int.reduceGE, Int.reduceNeg, reduceCtorEq, hps, cellsOf, h8, g8, hcl2, hcut2, hc9, hcm, ap25, p25, n25, q25, Option.map_none, Option.map_some, hle0, hL, hsub, hz0, hb1, hb2, e0, hwl, hwlf, hr1, hr1', hr2, hmo, List.all]; rfl⟩ ⟨rfl, W_ret ?_⟩)
      refine ⟨rfl, _, ⟨f, cs, false, rfl, hcs⟩, fin_twoE (F := f11) (t1 := 6) (t2 := 7) (a := .imm f s.seen.length cs) (b := .own (st.nx + 6) 0 s.mem.length 1) rfl ⟨[], rfl⟩ ?_ ?_ ?_⟩
      · refine frz_own (d := 10) (c := wordsT s.mem) ?_ (by rw [hwl]; omega) (frzAll_still (d := 9) (words_still _))
        simp (decide := true) (disch := first | omega | (simp (decide := true) only [List.length_set, hl]; done) | fail) only [sims, evRegion, evOps, evOp, evG, evR, guardT, callee, opRes, pureR, binT, unT, T.cells, T.leaf, fillT, splice, Nat.reduceLT, Nat.reduceAdd, Nat.reduceMul, Nat.reduceLeDiff, Nat.reduceEqDiff, reduceIte, Int.reduceBEq, Int.reduceBNe, Int.reduceLT, Int.reduceLE, Int.reduceGT, Int.reduceGE, Int.reduceNeg, reduceCtorEq, hps]
      · simp (decide := true) (disch := first | omega | (simp (decide := true) only [List.length_set, hl]; done) | fail) only [sims, evRegion, evOps, evOp, evG, evR, guardT, callee, opRes, pureR, binT, unT, T.cells, T.leaf, fillT, splice, Nat.reduceLT, Nat.reduceAdd, Nat.reduceMul, Nat.reduceLeDiff, Nat.reduceEqDiff, reduceIte, Int.reduceBEq, Int.reduceBNe, Int.reduceLT, Int.reduceLE, Int.reduceGT, Int.reduceGE, Int.reduceNeg, reduceCtorEq]
      · simp (decide := true) (disch := first | omega | (simp (decide := true) only [List.length_set, hl]; done) | fail) only [sims, evRegion, evOps, evOp, evG, evR, guardT, callee, opRes, pureR, binT, unT, T.cells, T.leaf, fillT, splice, Nat.reduceLT, Nat.reduceAdd, Nat.reduceMul, Nat.reduceLeDiff, Nat.reduceEqDiff, reduceIte, Int.reduceBEq, Int.reduceBNe, Int.reduceLT, Int.reduceLE, Int.reduceGT, Int.reduceGE, Int.reduceNeg, reduceCtorEq]
  rotate_right 1
  · show 9 ≤ 0 + 2 + 3 + 5 + 3; omega
  all_goals first | (simp (decide := true) (disch := first | omega | (simp (decide := true) only [List.length_set, hl]; done) | fail) only [sims, evRegion, evOps, evOp, evG, evR, guardT, callee, opRes, pureR, binT, unT, T.cells, T.leaf, fillT, splice, Nat.reduceLT, Nat.reduceAdd, Nat.reduceMul, Nat.reduceLeDiff, Nat.reduceEqDiff, reduceIte, Int.reduceBEq, Int.reduceBNe, Int.reduceLT, Int.reduceLE, Int.reduceGT, Int.reduceGE, Int.reduceNeg, reduceCtorEq, hps, hl, h2]; done) | (simp (decide := true) (disch := first | omega | (simp (decide := true) only [List.length_set, hl]; done) | fail) only [sims, evRegion, evOps, evOp, evG, evR, guardT, callee, opRes, pureR, binT, unT, T.cells, T.leaf, fillT, splice, Nat.reduceLT, Nat.reduceAdd, Nat.reduceMul, Nat.reduceLeDiff, Nat.reduceEqDiff, reduceIte, Int.reduceBEq, Int.reduceBNe, Int.reduceLT, Int.reduceLE, Int.reduceGT, Int.reduceGE, Int.reduceNeg, reduceCtorEq, hps, hl, h2]; rfl)
end Go.Proofs.Ytmihmodlilebbaa.Abs
