/- All that may be seen: the given ends. -/
import Derived.Test.YtmihmodlilebbaaEnds3
namespace Go.Proofs.Ytmihmodlilebbaa.Abs
open Go Go.RowKit Fn
set_option linter.unusedVariables false
set_option linter.unusedSimpArgs false
set_option linter.unnecessarySimpa false
set_option maxRecDepth 100000
set_option maxHeartbeats 2000000

theorem ap21 : ap 21 = some f21 := rfl
theorem p21 : f21.pure = false := rfl
theorem n21 : f21.nat = none := rfl
theorem ap28 : ap 28 = some f28 := rfl
theorem p28 : f28.pure = true := rfl
theorem n28 : f28.nat = none := rfl
def reLoop : ACode := match f21.body with | .seq _ (.seq _ (.seq (.seq _ (.block _ (.loop c))) _)) => c | _ => .skip
def ReI (p : List (List Op)) (s : PS) (C : List T) (g0 : Mem) (nx0 : Nat) (v0 : T) (k : Nat) (L : Outs) (v : T) (st : St) : Prop := st.s.length = 43 ∧ rho st.s (.tmp 0) = .imm false p.length (p.flatMap (fun l => [rowT l])) ∧ rho st.s (.tmp 2) = v ∧ rho st.s (.tmp 4) = .ptr nx0 0 ∧ rho st.s (.tmp 7) = .bool (!anyL p s k) ∧ st.g nx0 = some C ∧ OutA st.g v L st.nx ∧ (∀ u, u < nx0 → (∀ n, v0 ≠ .own u 0 n 1) → st.g u = g0 u) ∧ (∀ u n, v = .own u 0 n 1 → nx0 < u ∨ ∃ m, v0 = .own u 0 m 1) ∧ nx0 < st.nx
theorem re_loop (p : List (List Op)) (hR : RightP p) (s : PS) (hG : Good p s) (C : List T) (hB : RefS s (.agg C)) (F : Nat → Outs → Outs) (hF : ∀ j acc, j < p.length → ¬ leftS p s (j : Int) → F j acc = acc) (L : Outs) (g0 : Mem) (nx0 : Nat) (v0 : T) (hv0 : ∀ u n, v0 = .own u 0 n 1 → u < nx0)
    (hcall : ∀ j, j < p.length → leftS p s (j : Int) → ∀ t', RefS (stepS p s j) t' → ∀ v' g' nx', OutA g' v' (foldW F j L) nx' → ∃ N v'' g'' nx'', (∀ k, N ≤ k → runBody (ev ap k) f21 [pT p, t', v'] g' nx' = some (v'', g'', nx'')) ∧ EndP g' nx' v' v'' g'' nx'' (F j (foldW F j L)))
    (Q : AExit → St → Prop) (hQe : ∀ st v, ReI p s C g0 nx0 v0 p.length (foldW F p.length L) v st → Q (.exit 0) st) :
    ∀ (d : Nat) (st : St), (∃ (k : Nat) (v : T), ReI p s C g0 nx0 v0 k (foldW F k L) v st ∧ rho st.s (.tmp 8) = .int .i64 (k : Int) ∧ k ≤ p.length ∧ d = p.length - k) → W ap (.loop reLoop) st Q := by
  obtain ⟨hcl, hst⟩ := ref_cells hB
  have hcut : cut C 0 3 = C := cut_all hcl
  have hn2 := hR.1
  have hpt : pT p = .imm false p.length (p.flatMap (fun l => [rowT l])) := rfl
  have hz3 : allLeaf [T.imm true 0 [], T.imm true 0 [], T.imm true 0 []] = true := rfl
  refine W_loop _ ?_
  rintro d ⟨sl, g, nx⟩ ⟨k, v, ⟨hl, h0, h2, h4, h7, gC, hO, hfr, hpv, hnx⟩, h8, hk, hd⟩
  simp only at hl h0 h2 h4 h7 gC hO hfr hpv hnx h8
  have hvl := out_lt hO
  by_cases hend : k = p.length
  · have hlt : decide ((k : Int) < (p.length : Int)) = false := decide_eq_false (by omega)
    refine W_seq (W_seqn (W_region (fun k => by simp (decide := true) (disch := first | omega | (simp (decide := true) only [List.length_set, hl]; done) | fail) only [sims, evRegion, evOps, evOp, evG, evR, guardT, callee, opRes, pureR, binT, unT, T.cells, T.leaf, fillT, splice, Nat.reduceLT, Nat.reduceAdd, Nat.reduceMul, Nat.reduceLeDiff, Nat.reduceEqDiff, reduceIte, Int.reduceBEq, Int.reduceBNe, Int.reduceLT, Int.reduceLE, Int.reduceGT, Int.reduceGE, Int.reduceNeg, reduceCtorEq, h0, h8, hlt]; rfl) ⟨rfl, W_false (by simp (decide := true) (disch := first | omega | (simp (decide := true) only [List.length_set, hl]; done) | fail) only [sims, evRegion, evOps, evOp, evG, evR, guardT, callee, opRes, pureR, binT, unT, T.cells, T.leaf, fillT, splice, Nat.reduceLT, Nat.reduceAdd, Nat.reduceMul, Nat.reduceLeDiff, Nat.reduceEqDiff, reduceIte, Int.reduceBEq, Int.reduceBNe, Int.reduceLT, Int.reduceLE, Int.reduceGT, Int.reduceGE, Int.reduceNeg, reduceCtorEq] <;> rfl) (W_exit ?_)⟩))
    refine (.inr ⟨by simp, .inr ⟨by simp, hQe _ v ⟨?_, ?_, ?_, ?_, ?_, gC, ?_, hfr, hpv, Nat.lt_add_right _ hnx⟩⟩⟩)
    · simp (decide := true) (disch := first | omega | (simp (decide := true) only [List.length_set, hl]; done) | fail) only [sims, evRegion, evOps, evOp, evG, evR, guardT, callee, opRes, pureR, binT, unT, T.cells, T.leaf, fillT, splice, Nat.reduceLT, Nat.reduceAdd, Nat.reduceMul, Nat.reduceLeDiff, Nat.reduceEqDiff, reduceIte, Int.reduceBEq, Int.reduceBNe, Int.reduceLT, Int.reduceLE, Int.reduceGT, Int.reduceGE, Int.reduceNeg, reduceCtorEq, hl]
    · simp (decide := true) (disch := first | omega | (simp (decide := true) only [List.length_set, hl]; done) | fail) only [sims, evRegion, evOps, evOp, evG, evR, guardT, callee, opRes, pureR, binT, unT, T.cells, T.leaf, fillT, splice, Nat.reduceLT, Nat.reduceAdd, Nat.reduceMul, Nat.reduceLeDiff, Nat.reduceEqDiff, reduceIte, Int.reduceBEq, Int.reduceBNe, Int.reduceLT, Int.reduceLE, Int.reduceGT, Int.reduceGE, Int.reduceNeg, reduceCtorEq, h0]
    · simp (decide := true) (disch := first | omega | (simp (decide := true) only [List.length_set, hl]; done) | fail) only [sims, evRegion, evOps, evOp, evG, evR, guardT, callee, opRes, pureR, binT, unT, T.cells, T.leaf, fillT, splice, Nat.reduceLT, Nat.reduceAdd, Nat.reduceMul, Nat.reduceLeDiff, Nat.reduceEqDiff, reduceIte, Int.reduceBEq, Int.reduceBNe, Int.reduceLT, Int.reduceLE, Int.reduceGT, Int.reduceGE, Int.reduceNeg, reduceCtorEq, h2]
    · simp (decide := true) (disch := first | omega | (simp (decide := true) only [List.length_set, hl]; done) | fail) only [sims, evRegion, evOps, evOp, evG, evR, guardT, callee, opRes, pureR, binT, unT, T.cells, T.leaf, fillT, splice, Nat.reduceLT, Nat.reduceAdd, Nat.reduceMul, Nat.reduceLeDiff, Nat.reduceEqDiff, reduceIte, Int.reduceBEq, Int.reduceBNe, Int.reduceLT, Int.reduceLE, Int.reduceGT, Int.reduceGE, Int.reduceNeg, reduceCtorEq, h4]
    · rw [← hend]; simp (decide := true) (disch := first | omega | (simp (decide := true) only [List.length_set, hl]; done) | fail) only [sims, evRegion, evOps, evOp, evG, evR, guardT, callee, opRes, pureR, binT, unT, T.cells, T.leaf, fillT, splice, Nat.reduceLT, Nat.reduceAdd, Nat.reduceMul, Nat.reduceLeDiff, Nat.reduceEqDiff, reduceIte, Int.reduceBEq, Int.reduceBNe, Int.reduceLT, Int.reduceLE, Int.reduceGT, Int.reduceGE, Int.reduceNeg, reduceCtorEq, h7]
    · rw [← hend]; exact hO.mono (Nat.le_add_right _ _) (fun _ _ _ => rfl)
  have hlt : decide ((k : Int) < (p.length : Int)) = true := decide_eq_true (by omega)
  have hkl : k < p.length := by omega
  have hw2 : IntKind.i64.wrap ((k : Int) + 1) = ((k + 1 : Nat) : Int) := by rw [wrap_id (by omega)]; omega
  refine W_seqn (W_seqn (W_region (fun k => by simp (decide := true) (disch := first | omega | (simp (decide := true) only [List.length_set, hl]; done) | fail) only [sims, evRegion, evOps, evOp, evG, evR, guardT, callee, opRes, pureR, binT, unT, T.cells, T.leaf, fillT, splice, Nat.reduceLT, Nat.reduceAdd, Nat.reduceMul, Nat.reduceLeDiff, Nat.reduceEqDiff, reduceIte, Int.reduceBEq, Int.reduceBNe, Int.reduceLT, Int.reduceLE, Int.reduceGT, Int.reduceGE, Int.reduceNeg, reduceCtorEq, h0, h8, hlt]; rfl) ⟨rfl, W_true (by simp (decide := true) (disch := first | omega | (simp (decide := true) only [List.length_set, hl]; done) | fail) only [sims, evRegion, evOps, evOp, evG, evR, guardT, callee, opRes, pureR, binT, unT, T.cells, T.leaf, fillT, splice, Nat.reduceLT, Nat.reduceAdd, Nat.reduceMul, Nat.reduceLeDiff, Nat.reduceEqDiff, reduceIte, Int.reduceBEq, Int.reduceBNe, Int.reduceLT, Int.reduceLE, Int.reduceGT, Int.reduceGE, Int.reduceNeg, reduceCtorEq] <;> rfl) (W_skip ⟨rfl, ?_⟩)⟩))
  by_cases hlf : leftS p s (k : Int)
  · have hany : anyL p s (k + 1) = true := by rw [anyL, decide_eq_true hlf, Bool.or_true]
    obtain ⟨w, hv, t', rfl, hB2⟩ := ref_step p hR s hG (.agg C) hB k hkl (by have := hlf.2.2; rw [Int.toNat_natCast] at this; exact this)
    obtain ⟨N1, c26⟩ := hv.call ap26 (frzL_step hst _)
    have q26 := c26 N1 (Nat.le_refl _)
    rw [hpt] at q26
    obtain ⟨fm, fa, fs, cs, ht, hS⟩ := id hB2
    subst ht
    obtain ⟨hcl2, hst2⟩ := ref_cells hB2
    have hlf2 := leaf_still hst2
    generalize hC2 : [T.imm fm (stepS p s k).mem.length (wordsT (stepS p s k).mem), T.imm fa (stepS p s k).far.length (intsT (stepS p s k).far), T.imm fs (stepS p s k).seen.length cs] = C2 at *
    have hspl : splice [T.imm true 0 [], T.imm true 0 [], T.imm true 0 []] 0 C2 = C2 := splice_all (by rw [hcl2]; rfl)
    have hcut2 : cut C2 0 3 = C2 := cut_all hcl2
    refine W_seqn (W_block (W_seqn (W_regionN ⟨N1, by simp (decide := true) (disch := first | omega | (simp (decide := true) only [List.length_set, hl]; done) | fail) only [sims, evRegion, evOps, evOp, evG, evR, guardT, callee, opRes, pureR, binT, unT, T.cells, T.leaf, fillT, splice, Nat.reduceLT, Nat.reduceAdd, Nat.reduceMul, Nat.reduceLeDiff, Nat.reduceEqDiff, reduceIte, Int.reduceBEq, Int.reduceBNe, Int.reduceLT, Int.reduceLE, Int.reduceGT, Int.reduceGE, Int.reduceNeg, reduceCtorEq, hps, h0, h4, h8, gC, hcl, hcut, hz3, ap26, p26, n26, q26, hcl2, hlf2, hspl]; rfl⟩ ⟨rfl, ?_⟩)))
    refine W_seqn (W_region (fun k => by simp (decide := true) (disch := first | omega | (simp (decide := true) only [List.length_set, hl]; done) | fail) only [sims, evRegion, evOps, evOp, evG, evR, guardT, callee, opRes, pureR, binT, unT, T.cells, T.leaf, fillT, splice, Nat.reduceLT, Nat.reduceAdd, Nat.reduceMul, Nat.reduceLeDiff, Nat.reduceEqDiff, reduceIte, Int.reduceBEq, Int.reduceBNe, Int.reduceLT, Int.reduceLE, Int.reduceGT, Int.reduceGE, Int.reduceNeg, reduceCtorEq]; rfl) ⟨rfl, W_true (by simp (decide := true) (disch := first | omega | (simp (decide := true) only [List.length_set, hl]; done) | fail) only [sims, evRegion, evOps, evOp, evG, evR, guardT, callee, opRes, pureR, binT, unT, T.cells, T.leaf, fillT, splice, Nat.reduceLT, Nat.reduceAdd, Nat.reduceMul, Nat.reduceLeDiff, Nat.reduceEqDiff, reduceIte, Int.reduceBEq, Int.reduceBNe, Int.reduceLT, Int.reduceLE, Int.reduceGT, Int.reduceGE, Int.reduceNeg, reduceCtorEq] <;> rfl) ?_⟩)
    refine W_seqn (W_region (fun k => by simp (decide := true) (disch := first | omega | (simp (decide := true) only [List.length_set, hl]; done) | fail) only [sims, evRegion, evOps, evOp, evG, evR, guardT, callee, opRes, pureR, binT, unT, T.cells, T.leaf, fillT, splice, Nat.reduceLT, Nat.reduceAdd, Nat.reduceMul, Nat.reduceLeDiff, Nat.reduceEqDiff, reduceIte, Int.reduceBEq, Int.reduceBNe, Int.reduceLT, Int.reduceLE, Int.reduceGT, Int.reduceGE, Int.reduceNeg, reduceCtorEq]; rfl) ⟨rfl, ?_⟩)
    generalize hg1 : put1 (put1 g (nx + 4 + 7, some [T.imm true 0 [], T.imm true 0 [], T.imm true 0 []])) (nx + 4 + 7, some C2) = g1
    have hg1u : ∀ u, u ≠ nx + 4 + 7 → g1 u = g u := fun u hu => by rw [← hg1, put1_ne hu, put1_ne hu]
    have hg1b : g1 (nx + 4 + 7) = some C2 := by rw [← hg1]; exact put1_eq
    have hO1 : OutA g1 v (foldW F k L) (nx + 4 + 10 + 1 + 1 + 5) := hO.mono (by omega) (fun u n e => hg1u u (by have := hvl u n e; omega))
    obtain ⟨N3, v2, g2, nx2, hrun, hO2, hfr2, hpv2, hnx2⟩ := hcall k hkl hlf _ hB2 v g1 (nx + 4 + 10 + 1 + 1 + 5) hO1
    have q21 := hrun N3 (by omega)
    rw [hpt] at q21
    have hg1' := hg1
    rw [show nx + 4 + 7 = nx + 4 + 1 + 1 + 1 + 1 + 1 + 1 + 1 from by omega] at hg1' hg1b
    refine W_regionN ⟨N3, by simp (decide := true) (disch := first | omega | (simp (decide := true) only [List.length_set, hl]; done) | fail) only [sims, evRegion, evOps, evOp, evG, evR, guardT, callee, opRes, pureR, binT, unT, T.cells, T.leaf, fillT, splice, Nat.reduceLT, Nat.reduceAdd, Nat.reduceMul, Nat.reduceLeDiff, Nat.reduceEqDiff, reduceIte, Int.reduceBEq, Int.reduceBNe, Int.reduceLT, Int.reduceLE, Int.reduceGT, Int.reduceGE, Int.reduceNeg, reduceCtorEq, hps, evI, h0, h2, hg1', hg1b, hcl2, hcut2, ap21, p21, n21, q21]; rfl⟩ (.inr (.inl ⟨by simp, rfl, ?_⟩))
    refine W_region (fun k => by simp (decide := true) (disch := first | omega | (simp (decide := true) only [List.length_set, hl]; done) | fail) only [sims, evRegion, evOps, evOp, evG, evR, guardT, callee, opRes, pureR, binT, unT, T.cells, T.leaf, fillT, splice, Nat.reduceLT, Nat.reduceAdd, Nat.reduceMul, Nat.reduceLeDiff, Nat.reduceEqDiff, reduceIte, Int.reduceBEq, Int.reduceBNe, Int.reduceLT, Int.reduceLE, Int.reduceGT, Int.reduceGE, Int.reduceNeg, reduceCtorEq, h8, hw2]; rfl) ?_
    refine (.inl ⟨rfl, p.length - (k + 1), by omega, k + 1, v2, ⟨?_, ?_, ?_, ?_, ?_, ?_, ?_, ?_, ?_, ?_⟩, ?_, by omega, rfl⟩)
    · simp (decide := true) (disch := first | omega | (simp (decide := true) only [List.length_set, hl]; done) | fail) only [sims, evRegion, evOps, evOp, evG, evR, guardT, callee, opRes, pureR, binT, unT, T.cells, T.leaf, fillT, splice, Nat.reduceLT, Nat.reduceAdd, Nat.reduceMul, Nat.reduceLeDiff, Nat.reduceEqDiff, reduceIte, Int.reduceBEq, Int.reduceBNe, Int.reduceLT, Int.reduceLE, Int.reduceGT, Int.reduceGE, Int.reduceNeg, reduceCtorEq, hl]
    · simp (decide := true) (disch := first | omega | (simp (decide := true) only [List.length_set, hl]; done) | fail) only [sims, evRegion, evOps, evOp, evG, evR, guardT, callee, opRes, pureR, binT, unT, T.cells, T.leaf, fillT, splice, Nat.reduceLT, Nat.reduceAdd, Nat.reduceMul, Nat.reduceLeDiff, Nat.reduceEqDiff, reduceIte, Int.reduceBEq, Int.reduceBNe, Int.reduceLT, Int.reduceLE, Int.reduceGT, Int.reduceGE, Int.reduceNeg, reduceCtorEq, h0]
    · simp (decide := true) (disch := first | omega | (simp (decide := true) only [List.length_set, hl]; done) | fail) only [sims, evRegion, evOps, evOp, evG, evR, guardT, callee, opRes, pureR, binT, unT, T.cells, T.leaf, fillT, splice, Nat.reduceLT, Nat.reduceAdd, Nat.reduceMul, Nat.reduceLeDiff, Nat.reduceEqDiff, reduceIte, Int.reduceBEq, Int.reduceBNe, Int.reduceLT, Int.reduceLE, Int.reduceGT, Int.reduceGE, Int.reduceNeg, reduceCtorEq]
    · simp (decide := true) (disch := first | omega | (simp (decide := true) only [List.length_set, hl]; done) | fail) only [sims, evRegion, evOps, evOp, evG, evR, guardT, callee, opRes, pureR, binT, unT, T.cells, T.leaf, fillT, splice, Nat.reduceLT, Nat.reduceAdd, Nat.reduceMul, Nat.reduceLeDiff, Nat.reduceEqDiff, reduceIte, Int.reduceBEq, Int.reduceBNe, Int.reduceLT, Int.reduceLE, Int.reduceGT, Int.reduceGE, Int.reduceNeg, reduceCtorEq, h4]
    · rw [hany]; simp (decide := true) (disch := first | omega | (simp (decide := true) only [List.length_set, hl]; done) | fail) only [sims, evRegion, evOps, evOp, evG, evR, guardT, callee, opRes, pureR, binT, unT, T.cells, T.leaf, fillT, splice, Nat.reduceLT, Nat.reduceAdd, Nat.reduceMul, Nat.reduceLeDiff, Nat.reduceEqDiff, reduceIte, Int.reduceBEq, Int.reduceBNe, Int.reduceLT, Int.reduceLE, Int.reduceGT, Int.reduceGE, Int.reduceNeg, reduceCtorEq]
    · show g2 nx0 = some C
      rw [hfr2 nx0 (by omega) (fun n e => by rcases hpv _ _ e with h | ⟨m, h⟩; omega; have := hv0 _ _ h; omega), hg1u _ (by omega)]
      exact gC
    · exact hO2.mono (Nat.le_add_right _ _) (fun _ _ _ => rfl)
    · intro u hu hno
      show g2 u = g0 u
      rw [hfr2 u (by omega) (fun n e => by rcases hpv _ _ e with h | ⟨m, h⟩; omega; exact hno _ h), hg1u _ (by omega)]
      exact hfr u hu hno
    · intro u n e
      rcases hpv2 u n e with h | ⟨m, h⟩
      · exact .inl (by omega)
      · exact hpv _ _ h
    · show nx0 < nx2 + 3; omega
    · simp (decide := true) (disch := first | omega | (simp (decide := true) only [List.length_set, hl]; done) | fail) only [sims, evRegion, evOps, evOp, evG, evR, guardT, callee, opRes, pureR, binT, unT, T.cells, T.leaf, fillT, splice, Nat.reduceLT, Nat.reduceAdd, Nat.reduceMul, Nat.reduceLeDiff, Nat.reduceEqDiff, reduceIte, Int.reduceBEq, Int.reduceBNe, Int.reduceLT, Int.reduceLE, Int.reduceGT, Int.reduceGE, Int.reduceNeg, reduceCtorEq]
  · have hany : anyL p s (k + 1) = anyL p s k := by rw [anyL, decide_eq_false hlf, Bool.or_false]
    obtain ⟨N1, c26⟩ := (ref_step_bad p s hG (.agg C) hB (k : Int) hlf).call ap26 (frzL_step hst _)
    have q26 := c26 N1 (Nat.le_refl _)
    rw [hpt] at q26
    have hclf := leaf_still hst
    have hspl : splice [T.imm true 0 [], T.imm true 0 [], T.imm true 0 []] 0 C = C := splice_all (by rw [hcl]; rfl)
    refine W_seqn (W_block (W_seqn (W_regionN ⟨N1, by simp (decide := true) (disch := first | omega | (simp (decide := true) only [List.length_set, hl]; done) | fail) only [sims, evRegion, evOps, evOp, evG, evR, guardT, callee, opRes, pureR, binT, unT, T.cells, T.leaf, fillT, splice, Nat.reduceLT, Nat.reduceAdd, Nat.reduceMul, Nat.reduceLeDiff, Nat.reduceEqDiff, reduceIte, Int.reduceBEq, Int.reduceBNe, Int.reduceLT, Int.reduceLE, Int.reduceGT, Int.reduceGE, Int.reduceNeg, reduceCtorEq, hps, h0, h4, h8, gC, hcl, hcut, hz3, ap26, p26, n26, q26, hclf, hspl]; rfl⟩ ⟨rfl, ?_⟩)))
    refine W_seqn (W_region (fun k => by simp (decide := true) (disch := first | omega | (simp (decide := true) only [List.length_set, hl]; done) | fail) only [sims, evRegion, evOps, evOp, evG, evR, guardT, callee, opRes, pureR, binT, unT, T.cells, T.leaf, fillT, splice, Nat.reduceLT, Nat.reduceAdd, Nat.reduceMul, Nat.reduceLeDiff, Nat.reduceEqDiff, reduceIte, Int.reduceBEq, Int.reduceBNe, Int.reduceLT, Int.reduceLE, Int.reduceGT, Int.reduceGE, Int.reduceNeg, reduceCtorEq]; rfl) ⟨rfl, W_false (by simp (decide := true) (disch := first | omega | (simp (decide := true) only [List.length_set, hl]; done) | fail) only [sims, evRegion, evOps, evOp, evG, evR, guardT, callee, opRes, pureR, binT, unT, T.cells, T.leaf, fillT, splice, Nat.reduceLT, Nat.reduceAdd, Nat.reduceMul, Nat.reduceLeDiff, Nat.reduceEqDiff, reduceIte, Int.reduceBEq, Int.reduceBNe, Int.reduceLT, Int.reduceLE, Int.reduceGT, Int.reduceGE, Int.reduceNeg, reduceCtorEq] <;> rfl) (W_skip (.inr (.inl ⟨by simp, rfl, ?_⟩)))⟩)
    generalize hg1 : put1 (put1 g (nx + 4 + 7, some [T.imm true 0 [], T.imm true 0 [], T.imm true 0 []])) (nx + 4 + 7, some C) = g1
    have hg1u : ∀ u, u ≠ nx + 4 + 7 → g1 u = g u := fun u hu => by rw [← hg1, put1_ne hu, put1_ne hu]
    refine W_region (fun k => by simp (decide := true) (disch := first | omega | (simp (decide := true) only [List.length_set, hl]; done) | fail) only [sims, evRegion, evOps, evOp, evG, evR, guardT, callee, opRes, pureR, binT, unT, T.cells, T.leaf, fillT, splice, Nat.reduceLT, Nat.reduceAdd, Nat.reduceMul, Nat.reduceLeDiff, Nat.reduceEqDiff, reduceIte, Int.reduceBEq, Int.reduceBNe, Int.reduceLT, Int.reduceLE, Int.reduceGT, Int.reduceGE, Int.reduceNeg, reduceCtorEq, h8, hw2]; rfl) ?_
    refine (.inl ⟨rfl, p.length - (k + 1), by omega, k + 1, v, ⟨?_, ?_, ?_, ?_, ?_, ?_, ?_, ?_, hpv, ?_⟩, ?_, by omega, rfl⟩)
    · simp (decide := true) (disch := first | omega | (simp (decide := true) only [List.length_set, hl]; done) | fail) only [sims, evRegion, evOps, evOp, evG, evR, guardT, callee, opRes, pureR, binT, unT, T.cells, T.leaf, fillT, splice, Nat.reduceLT, Nat.reduceAdd, Nat.reduceMul, Nat.reduceLeDiff, Nat.reduceEqDiff, reduceIte, Int.reduceBEq, Int.reduceBNe, Int.reduceLT, Int.reduceLE, Int.reduceGT, Int.reduceGE, Int.reduceNeg, reduceCtorEq, hl]
    · simp (decide := true) (disch := first | omega | (simp (decide := true) only [List.length_set, hl]; done) | fail) only [sims, evRegion, evOps, evOp, evG, evR, guardT, callee, opRes, pureR, binT, unT, T.cells, T.leaf, fillT, splice, Nat.reduceLT, Nat.reduceAdd, Nat.reduceMul, Nat.reduceLeDiff, Nat.reduceEqDiff, reduceIte, Int.reduceBEq, Int.reduceBNe, Int.reduceLT, Int.reduceLE, Int.reduceGT, Int.reduceGE, Int.reduceNeg, reduceCtorEq, h0]
    · simp (decide := true) (disch := first | omega | (simp (decide := true) only [List.length_set, hl]; done) | fail) only [sims, evRegion, evOps, evOp, evG, evR, guardT, callee, opRes, pureR, binT, unT, T.cells, T.leaf, fillT, splice, Nat.reduceLT, Nat.reduceAdd, Nat.reduceMul, Nat.reduceLeDiff, Nat.reduceEqDiff, reduceIte, Int.reduceBEq, Int.reduceBNe, Int.reduceLT, Int.reduceLE, Int.reduceGT, Int.reduceGE, Int.reduceNeg, reduceCtorEq, h2]
    · simp (decide := true) (disch := first | omega | (simp (decide := true) only [List.length_set, hl]; done) | fail) only [sims, evRegion, evOps, evOp, evG, evR, guardT, callee, opRes, pureR, binT, unT, T.cells, T.leaf, fillT, splice, Nat.reduceLT, Nat.reduceAdd, Nat.reduceMul, Nat.reduceLeDiff, Nat.reduceEqDiff, reduceIte, Int.reduceBEq, Int.reduceBNe, Int.reduceLT, Int.reduceLE, Int.reduceGT, Int.reduceGE, Int.reduceNeg, reduceCtorEq, h4]
    · rw [hany]; simp (decide := true) (disch := first | omega | (simp (decide := true) only [List.length_set, hl]; done) | fail) only [sims, evRegion, evOps, evOp, evG, evR, guardT, callee, opRes, pureR, binT, unT, T.cells, T.leaf, fillT, splice, Nat.reduceLT, Nat.reduceAdd, Nat.reduceMul, Nat.reduceLeDiff, Nat.reduceEqDiff, reduceIte, Int.reduceBEq, Int.reduceBNe, Int.reduceLT, Int.reduceLE, Int.reduceGT, Int.reduceGE, Int.reduceNeg, reduceCtorEq, h7]
    · show g1 nx0 = some C
      rw [hg1u _ (by omega)]; exact gC
    · rw [foldW, hF _ _ hkl hlf]
      refine hO.mono ?_ (fun u n e => hg1u u (by have := hvl u n e; omega))
      show nx ≤ nx + 4 + 10 + 1 + 3; omega
    · intro u hu hno
      show g1 u = g0 u
      rw [hg1u u (by omega)]
      exact hfr u hu hno
    · show nx0 < nx + 4 + 10 + 1 + 3; omega
    · simp (decide := true) (disch := first | omega | (simp (decide := true) only [List.length_set, hl]; done) | fail) only [sims, evRegion, evOps, evOp, evG, evR, guardT, callee, opRes, pureR, binT, unT, T.cells, T.leaf, fillT, splice, Nat.reduceLT, Nat.reduceAdd, Nat.reduceMul, Nat.reduceLeDiff, Nat.reduceEqDiff, reduceIte, Int.reduceBEq, Int.reduceBNe, Int.reduceLT, Int.reduceLE, Int.reduceGT, Int.reduceGE, Int.reduceNeg, reduceCtorEq]
end Go.Proofs.Ytmihmodlilebbaa.Abs
