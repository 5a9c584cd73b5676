/- The beginning, by the given function, whole. -/
import Derived.Test.YtmihmodlilebbaaRefBegin
namespace Go.Proofs.Ytmihmodlilebbaa.Abs
open Go Go.RowKit Fn
set_option linter.unusedVariables false
set_option linter.unusedSimpArgs false
set_option linter.unnecessarySimpa false
set_option maxRecDepth 100000
set_option maxHeartbeats 1000000

def PairAcc (g : Mem) (va vs : T) (i lo hi : Nat) : Prop := (i = 0 ∧ va = .imm true 0 [] ∧ vs = .imm true 0 []) ∨ (0 < i ∧ ∃ ba bs, lo ≤ ba ∧ ba < hi ∧ lo ≤ bs ∧ bs < hi ∧ ba ≠ bs ∧ va = .own ba 0 i 1 ∧ vs = .own bs 0 i 1 ∧ g ba = some (List.replicate i (.int .i64 0)) ∧ g bs = some (List.replicate i (.imm true 0 [])))
theorem PairAcc.mono {g g' : Mem} {va vs : T} {i lo hi hi' : Nat} (h : PairAcc g va vs i lo hi) (hh : hi ≤ hi') (hg : ∀ t, lo ≤ t → t < hi → g' t = g t) : PairAcc g' va vs i lo hi' := by
  rcases h with h | ⟨h0, ba, bs, a1, a2, a3, a4, a5, a6, a7, a8, a9⟩
  · exact .inl h
  · exact .inr ⟨h0, ba, bs, a1, by omega, a3, by omega, a5, a6, a7, by rw [hg _ a1 a2]; exact a8, by rw [hg _ a3 a4]; exact a9⟩
theorem rb_l2 (p : List (List Op)) (hp : p.length ≤ 2) (vm : T) (mc : List T) (lo : Nat) (hlo : 2 ≤ lo) (Q : AExit → St → Prop)
    (hQe : ∀ st : St, (∃ va vs, st.s.length = 39 ∧ rho st.s (.tmp 4) = .ptr 0 0 ∧ rho st.s (.tmp 5) = .ptr 1 0 ∧ st.g 0 = some [.imm true 0 [], .imm true 0 [], .imm true 0 []] ∧ st.g 1 = some [vm, va, vs] ∧ AccW st.g vm mc 2 lo ∧ PairAcc st.g va vs p.length lo st.nx ∧ lo ≤ st.nx) → Q (.exit 2) st) :
    ∀ (d : Nat) (st : St), (∃ (i : Nat) (va vs : T), st.s.length = 39 ∧ rho st.s (.tmp 0) = pT p ∧ rho st.s (.tmp 4) = .ptr 0 0 ∧ rho st.s (.tmp 5) = .ptr 1 0 ∧ rho st.s (.tmp 7) = .int .i64 (i : Int) ∧ st.g 0 = some [.imm true 0 [], .imm true 0 [], .imm true 0 []] ∧ st.g 1 = some [vm, va, vs] ∧ AccW st.g vm mc 2 lo ∧ PairAcc st.g va vs i lo st.nx ∧ lo ≤ st.nx ∧ i ≤ p.length ∧ d = p.length - i) → W ap (.loop rbL2) st Q := by
  refine W_loop _ ?_
  rintro d st ⟨i, va, vs, hl, h0, h4, h5, h7, g0, g1, hM, hA, hnx, hi, hd⟩
  have hpt : pT p = .imm false p.length (p.flatMap (fun l => [rowT l])) := rfl
  by_cases hend : i = p.length
  · have hlt : decide ((i : Int) < (p.length : Int)) = false := decide_eq_false (by omega)
    rw [hpt] at h0
    refine W_seq (W_seqn (W_region (fun k => by simp (decide := true) (disch := first | omega | (simp (decide := true) only [List.length_set, hl]; done) | fail) only [sims, evRegion, evOps, evOp, evG, evR, guardT, callee, opRes, pureR, binT, unT, T.cells, T.leaf, fillT, splice, Nat.reduceLT, Nat.reduceAdd, Nat.reduceMul, Nat.reduceLeDiff, Nat.reduceEqDiff, reduceIte, Int.reduceBEq, Int.reduceBNe, Int.reduceLT, Int.reduceLE, Int.reduceGT, Int.reduceGE, Int.reduceNeg, reduceCtorEq, h0, h7, hlt]; rfl) ⟨rfl, W_false (by simp (decide := true) (disch := first | omega | (simp (decide := true) only [List.length_set, hl]; done) | fail) only [sims, evRegion, evOps, evOp, evG, evR, guardT, callee, opRes, pureR, binT, unT, T.cells, T.leaf, fillT, splice, Nat.reduceLT, Nat.reduceAdd, Nat.reduceMul, Nat.reduceLeDiff, Nat.reduceEqDiff, reduceIte, Int.reduceBEq, Int.reduceBNe, Int.reduceLT, Int.reduceLE, Int.reduceGT, Int.reduceGE, Int.reduceNeg, reduceCtorEq] <;> rfl) (W_exit ?_)⟩))
    refine (.inr ⟨by simp, .inr ⟨by simp, hQe _ ⟨va, vs, ?_, ?_, ?_, g0, g1, hM, ?_, Nat.le_add_right_of_le hnx⟩⟩⟩)
    rotate_right 1
    · rw [hend] at hA
      exact hA.mono (Nat.le_add_right _ _) (fun t _ _ => rfl)
    all_goals simp (decide := true) (disch := first | omega | (simp (decide := true) only [List.length_set, hl]; done) | fail) only [sims, evRegion, evOps, evOp, evG, evR, guardT, callee, opRes, pureR, binT, unT, T.cells, T.leaf, fillT, splice, Nat.reduceLT, Nat.reduceAdd, Nat.reduceMul, Nat.reduceLeDiff, Nat.reduceEqDiff, reduceIte, Int.reduceBEq, Int.reduceBNe, Int.reduceLT, Int.reduceLE, Int.reduceGT, Int.reduceGE, Int.reduceNeg, reduceCtorEq, hl, h4, h5]
  have hlt : decide ((i : Int) < (p.length : Int)) = true := decide_eq_true (by omega)
  have hw2 : IntKind.i64.wrap ((i : Int) + 1) = ((i + 1 : Nat) : Int) := by rw [wrap_id (by omega)]; omega
  have hc1 : cut [T.int .i64 0] 0 1 = [T.int .i64 0] := rfl
  have hc2 : cut [T.imm true 0 []] 0 1 = [T.imm true 0 []] := rfl
  have hr1 : (0 + 1) * 8 ≤ 549755813888 := by omega
  have hr2 : (0 + 1) * 24 ≤ 549755813888 := by omega
  have hrs : List.replicate (i + 1) (T.int .i64 0) = List.replicate i (.int .i64 0) ++ [.int .i64 0] := List.replicate_succ'
  have hrs2 : List.replicate (i + 1) (T.imm true 0 []) = List.replicate i (.imm true 0 []) ++ [.imm true 0 []] := List.replicate_succ'
  rw [hpt] at h0
  refine W_seqn (W_seqn (W_region (fun k => by simp (decide := true) (disch := first | omega | (simp (decide := true) only [List.length_set, hl]; done) | fail) only [sims, evRegion, evOps, evOp, evG, evR, guardT, callee, opRes, pureR, binT, unT, T.cells, T.leaf, fillT, splice, Nat.reduceLT, Nat.reduceAdd, Nat.reduceMul, Nat.reduceLeDiff, Nat.reduceEqDiff, reduceIte, Int.reduceBEq, Int.reduceBNe, Int.reduceLT, Int.reduceLE, Int.reduceGT, Int.reduceGE, Int.reduceNeg, reduceCtorEq, h0, h7, hlt]; rfl) ⟨rfl, W_true (by simp (decide := true) (disch := first | omega | (simp (decide := true) only [List.length_set, hl]; done) | fail) only [sims, evRegion, evOps, evOp, evG, evR, guardT, callee, opRes, pureR, binT, unT, T.cells, T.leaf, fillT, splice, Nat.reduceLT, Nat.reduceAdd, Nat.reduceMul, Nat.reduceLeDiff, Nat.reduceEqDiff, reduceIte, Int.reduceBEq, Int.reduceBNe, Int.reduceLT, Int.reduceLE, Int.reduceGT, Int.reduceGE, Int.reduceNeg, reduceCtorEq] <;> rfl) (W_skip ⟨rfl, ?_⟩)⟩))
  have hvml := hM.leaf
  have next : ∀ (st' : St) (va' vs' : T), (st'.s.length = 39 ∧ rho st'.s (.tmp 0) = pT p ∧ rho st'.s (.tmp 4) = .ptr 0 0 ∧ rho st'.s (.tmp 5) = .ptr 1 0 ∧ rho st'.s (.tmp 7) = .int .i64 (i : Int) ∧ st'.g 0 = some [.imm true 0 [], .imm true 0 [], .imm true 0 []] ∧ st'.g 1 = some [vm, va', vs'] ∧ AccW st'.g vm mc 2 lo ∧ PairAcc st'.g va' vs' (i + 1) lo st'.nx ∧ lo ≤ st'.nx) → W ap (.region [⟨some 26, .mv (.tmp 7), none⟩, ⟨some 27, .bin .add (.tmp 26) (.con (.int .i64 1)), none⟩, ⟨some 7, .mv (.tmp 27), none⟩] []) st' (fun e s' => (e = .normal ∧ ∃ d', d' < d ∧ ∃ (i : Nat) (va vs : T), s'.s.length = 39 ∧ rho s'.s (.tmp 0) = pT p ∧ rho s'.s (.tmp 4) = .ptr 0 0 ∧ rho s'.s (.tmp 5) = .ptr 1 0 ∧ rho s'.s (.tmp 7) = .int .i64 (i : Int) ∧ s'.g 0 = some [.imm true 0 [], .imm true 0 [], .imm true 0 []] ∧ s'.g 1 = some [vm, va, vs] ∧ AccW s'.g vm mc 2 lo ∧ PairAcc s'.g va vs i lo s'.nx ∧ lo ≤ s'.nx ∧ i ≤ p.length ∧ d' = p.length - i) ∨ (e ≠ .normal ∧ Q e s')) := by
    rintro ⟨sl, g, nx⟩ va' vs' ⟨hl, h0, h4, h5, h7, g0, g1, hM, hA, hnx⟩
    simp only at hl h0 h4 h5 h7 g0 g1 hM hA hnx
    refine W_region (fun k => by simp (decide := true) (disch := first | omega | (simp (decide := true) only [List.length_set, hl]; done) | fail) only [sims, evRegion, evOps, evOp, evG, evR, guardT, callee, opRes, pureR, binT, unT, T.cells, T.leaf, fillT, splice, Nat.reduceLT, Nat.reduceAdd, Nat.reduceMul, Nat.reduceLeDiff, Nat.reduceEqDiff, reduceIte, Int.reduceBEq, Int.reduceBNe, Int.reduceLT, Int.reduceLE, Int.reduceGT, Int.reduceGE, Int.reduceNeg, reduceCtorEq, h7, hw2]; rfl) ?_
    refine .inl ⟨rfl, p.length - (i + 1), by omega, i + 1, va', vs', ?_, ?_, ?_, ?_, ?_, g0, g1, hM, hA.mono (Nat.le_add_right _ _) (fun t _ _ => rfl), Nat.le_add_right_of_le hnx, by omega, rfl⟩
    all_goals simp (decide := true) (disch := first | omega | (simp (decide := true) only [List.length_set, hl]; done) | fail) only [sims, evRegion, evOps, evOp, evG, evR, guardT, callee, opRes, pureR, binT, unT, T.cells, T.leaf, fillT, splice, Nat.reduceLT, Nat.reduceAdd, Nat.reduceMul, Nat.reduceLeDiff, Nat.reduceEqDiff, reduceIte, Int.reduceBEq, Int.reduceBNe, Int.reduceLT, Int.reduceLE, Int.reduceGT, Int.reduceGE, Int.reduceNeg, reduceCtorEq, hl, h0, h4, h5]
  refine W_seqn (W_block ?_)
  rcases hA with ⟨hi0, rfl, rfl⟩ | ⟨hi0, ba, bs, a1, a2, a3, a4, a5, rfl, rfl, a8, a9⟩
  · subst hi0
    refine W_seqn (W_region (fun k => by simp (decide := true) (disch := first | omega | (simp (decide := true) only [List.length_set, hl]; done) | fail) only [sims, evRegion, evOps, evOp, evG, evR, guardT, callee, opRes, pureR, binT, unT, T.cells, T.leaf, fillT, splice, Nat.reduceLT, Nat.reduceAdd, Nat.reduceMul, Nat.reduceLeDiff, Nat.reduceEqDiff, reduceIte, Int.reduceBEq, Int.reduceBNe, Int.reduceLT, Int.reduceLE, Int.reduceGT, Int.reduceGE, Int.reduceNeg, reduceCtorEq, hps, cellsOf, h5, g1, hc1, hr1, hvml, List.all]; rfl) ⟨rfl, ?_⟩)
    refine W_region (fun k => by simp (decide := true) (disch := first | omega | (simp (decide := true) only [List.length_set, hl]; done) | fail) only [sims, evRegion, evOps, evOp, evG, evR, guardT, callee, opRes, pureR, binT, unT, T.cells, T.leaf, fillT, splice, Nat.reduceLT, Nat.reduceAdd, Nat.reduceMul, Nat.reduceLeDiff, Nat.reduceEqDiff, reduceIte, Int.reduceBEq, Int.reduceBNe, Int.reduceLT, Int.reduceLE, Int.reduceGT, Int.reduceGE, Int.reduceNeg, reduceCtorEq, hps, cellsOf, h5, g1, hc2, hr2, hvml, List.all]; rfl) (.inr (.inl ⟨by simp, rfl, ?_⟩))
    refine next _ (.own (st.nx + 4 + 3) 0 1 1) (.own (st.nx + 4 + 6 + 3) 0 1 1) ⟨?_, ?_, ?_, ?_, ?_, ?_, ?_, hM.mono (Nat.le_refl _) (Nat.le_refl _) (fun t ht1 ht2 => ?_), .inr ⟨by omega, st.nx + 4 + 3, st.nx + 4 + 6 + 3, by omega, by show st.nx + 4 + 3 < st.nx + 4 + 6 + 6; omega, by omega, by show st.nx + 4 + 6 + 3 < st.nx + 4 + 6 + 6; omega, by omega, rfl, rfl, ?_, ?_⟩, ?_⟩
    rotate_left 10
    · show lo ≤ st.nx + 4 + 6 + 6; omega
    all_goals first | (simp (decide := true) (disch := first | omega | (simp (decide := true) only [List.length_set, hl]; done) | fail) only [sims, evRegion, evOps, evOp, evG, evR, guardT, callee, opRes, pureR, binT, unT, T.cells, T.leaf, fillT, splice, Nat.reduceLT, Nat.reduceAdd, Nat.reduceMul, Nat.reduceLeDiff, Nat.reduceEqDiff, reduceIte, Int.reduceBEq, Int.reduceBNe, Int.reduceLT, Int.reduceLE, Int.reduceGT, Int.reduceGE, Int.reduceNeg, reduceCtorEq, hps, hl, h0, h4, h5, h7, g0, hpt]; done) | (simp (decide := true) (disch := first | omega | (simp (decide := true) only [List.length_set, hl]; done) | fail) only [sims, evRegion, evOps, evOp, evG, evR, guardT, callee, opRes, pureR, binT, unT, T.cells, T.leaf, fillT, splice, Nat.reduceLT, Nat.reduceAdd, Nat.reduceMul, Nat.reduceLeDiff, Nat.reduceEqDiff, reduceIte, Int.reduceBEq, Int.reduceBNe, Int.reduceLT, Int.reduceLE, Int.reduceGT, Int.reduceGE, Int.reduceNeg, reduceCtorEq, hps, hl, h0, h4, h5, h7, g0, hpt]; rfl)
  · have hcl : (List.replicate i (T.int .i64 0)).length = i := List.length_replicate
    have hcl2 : (List.replicate i (T.imm true 0 [])).length = i := List.length_replicate
    have hcb : cut (List.replicate i (T.int .i64 0)) 0 (i * 1) = List.replicate i (T.int .i64 0) := cut_all (by rw [hcl]; omega)
    have hcb2 : cut (List.replicate i (T.imm true 0 [])) 0 (i * 1) = List.replicate i (T.imm true 0 []) := cut_all (by rw [hcl2]; omega)
    have hr4 : (i + 1) * 8 ≤ 549755813888 := by omega
    have hr6 : (i + 1) * 24 ≤ 549755813888 := by omega
    have hr5 : i + 1 ≤ 549755813888 := by omega
    have hle : i * 1 ≤ i := by omega
    have hbs1 : bs ≠ ba := fun e => a5 e.symm
    generalize hri : List.replicate i (T.int .i64 0) = ri at *
    generalize hri2 : List.replicate i (T.imm true 0 []) = ri2 at *
    refine W_seqn (W_region (fun k => by simp (decide := true) (disch := first | omega | (simp (decide := true) only [List.length_set, hl]; done) | fail) only [sims, evRegion, evOps, evOp, evG, evR, guardT, callee, opRes, pureR, binT, unT, T.cells, T.leaf, fillT, splice, Nat.reduceLT, Nat.reduceAdd, Nat.reduceMul, Nat.reduceLeDiff, Nat.reduceEqDiff, reduceIte, Int.reduceBEq, Int.reduceBNe, Int.reduceLT, Int.reduceLE, Int.reduceGT, Int.reduceGE, Int.reduceNeg, reduceCtorEq, hps, cellsOf, h5, g1, a8, hcl, hcb, hle, hc1, hr4, hr5, hvml, List.all]; rfl) ⟨rfl, ?_⟩)
    refine W_region (fun k => by simp (decide := true) (disch := first | omega | (simp (decide := true) only [List.length_set, hl]; done) | fail) only [sims, evRegion, evOps, evOp, evG, evR, guardT, callee, opRes, pureR, binT, unT, T.cells, T.leaf, fillT, splice, Nat.reduceLT, Nat.reduceAdd, Nat.reduceMul, Nat.reduceLeDiff, Nat.reduceEqDiff, reduceIte, Int.reduceBEq, Int.reduceBNe, Int.reduceLT, Int.reduceLE, Int.reduceGT, Int.reduceGE, Int.reduceNeg, reduceCtorEq, hps, cellsOf, h5, g1, a9, hcl2, hcb2, hle, hc2, hr6, hr5, hvml, List.all]; rfl) (.inr (.inl ⟨by simp, rfl, ?_⟩))
    refine next _ (.own (st.nx + 4 + 3) 0 (i + 1) 1) (.own (st.nx + 4 + 6 + 3) 0 (i + 1) 1) ⟨?_, ?_, ?_, ?_, ?_, ?_, ?_, hM.mono (Nat.le_refl _) (Nat.le_refl _) (fun t ht1 ht2 => ?_), .inr ⟨by omega, st.nx + 4 + 3, st.nx + 4 + 6 + 3, by omega, by show st.nx + 4 + 3 < st.nx + 4 + 6 + 6; omega, by omega, by show st.nx + 4 + 6 + 3 < st.nx + 4 + 6 + 6; omega, by omega, rfl, rfl, ?_, ?_⟩, ?_⟩
    rotate_left 8
    · rw [hrs]
      simp (decide := true) (disch := first | omega | (simp (decide := true) only [List.length_set, hl]; done) | fail) only [sims, evRegion, evOps, evOp, evG, evR, guardT, callee, opRes, pureR, binT, unT, T.cells, T.leaf, fillT, splice, Nat.reduceLT, Nat.reduceAdd, Nat.reduceMul, Nat.reduceLeDiff, Nat.reduceEqDiff, reduceIte, Int.reduceBEq, Int.reduceBNe, Int.reduceLT, Int.reduceLE, Int.reduceGT, Int.reduceGE, Int.reduceNeg, reduceCtorEq, hps] <;> rfl
    · rw [hrs2]
      simp (decide := true) (disch := first | omega | (simp (decide := true) only [List.length_set, hl]; done) | fail) only [sims, evRegion, evOps, evOp, evG, evR, guardT, callee, opRes, pureR, binT, unT, T.cells, T.leaf, fillT, splice, Nat.reduceLT, Nat.reduceAdd, Nat.reduceMul, Nat.reduceLeDiff, Nat.reduceEqDiff, reduceIte, Int.reduceBEq, Int.reduceBNe, Int.reduceLT, Int.reduceLE, Int.reduceGT, Int.reduceGE, Int.reduceNeg, reduceCtorEq, hps] <;> rfl
    · show lo ≤ st.nx + 4 + 6 + 6; omega
    all_goals first | (simp (decide := true) (disch := first | omega | (simp (decide := true) only [List.length_set, hl]; done) | fail) only [sims, evRegion, evOps, evOp, evG, evR, guardT, callee, opRes, pureR, binT, unT, T.cells, T.leaf, fillT, splice, Nat.reduceLT, Nat.reduceAdd, Nat.reduceMul, Nat.reduceLeDiff, Nat.reduceEqDiff, reduceIte, Int.reduceBEq, Int.reduceBNe, Int.reduceLT, Int.reduceLE, Int.reduceGT, Int.reduceGE, Int.reduceNeg, reduceCtorEq, hps, hl, h0, h4, h5, h7, g0, hpt]; done) | (simp (decide := true) (disch := first | omega | (simp (decide := true) only [List.length_set, hl]; done) | fail) only [sims, evRegion, evOps, evOp, evG, evR, guardT, callee, opRes, pureR, binT, unT, T.cells, T.leaf, fillT, splice, Nat.reduceLT, Nat.reduceAdd, Nat.reduceMul, Nat.reduceLeDiff, Nat.reduceEqDiff, reduceIte, Int.reduceBEq, Int.reduceBNe, Int.reduceLT, Int.reduceLE, Int.reduceGT, Int.reduceGE, Int.reduceNeg, reduceCtorEq, hps, hl, h0, h4, h5, h7, g0, hpt]; rfl)
theorem ref_begin (p : List (List Op)) (hp : p.length ≤ 2) (locs : Int) : ∃ v, E ap 22 [pT p, .int .i64 locs] v ∧ RefS (beginS p locs) v := by
  refine E_bodyV (F := f22) rfl rfl rfl (P := RefS (beginS p locs)) ?_
  generalize hs0 : (_ : List T) ++ List.replicate _ T.undef = s0
  have e0 : s0.length = 39 ∧ rho s0 (.tmp 0) = pT p ∧ rho s0 (.tmp 1) = .int .i64 locs := by subst hs0; exact ⟨rfl, rfl, rfl⟩
  clear hs0
  obtain ⟨hl, h0, h1⟩ := e0
  have hz3 : allLeaf [T.imm true 0 [], T.imm true 0 [], T.imm true 0 []] = true := rfl
  refine W_seqn (W_region (fun k => by simp (decide := true) (disch := first | omega | (simp (decide := true) only [List.length_set, hl]; done) | fail) only [sims, evRegion, evOps, evOp, evG, evR, guardT, callee, opRes, pureR, binT, unT, T.cells, T.leaf, fillT, splice, Nat.reduceLT, Nat.reduceAdd, Nat.reduceMul, Nat.reduceLeDiff, Nat.reduceEqDiff, reduceIte, Int.reduceBEq, Int.reduceBNe, Int.reduceLT, Int.reduceLE, Int.reduceGT, Int.reduceGE, Int.reduceNeg, reduceCtorEq, hps, hz3]; rfl) ⟨rfl, ?_⟩)
  refine W_seqn (W_region (fun k => by simp (decide := true) (disch := first | omega | (simp (decide := true) only [List.length_set, hl]; done) | fail) only [sims, evRegion, evOps, evOp, evG, evR, guardT, callee, opRes, pureR, binT, unT, T.cells, T.leaf, fillT, splice, Nat.reduceLT, Nat.reduceAdd, Nat.reduceMul, Nat.reduceLeDiff, Nat.reduceEqDiff, reduceIte, Int.reduceBEq, Int.reduceBNe, Int.reduceLT, Int.reduceLE, Int.reduceGT, Int.reduceGE, Int.reduceNeg, reduceCtorEq, hps, hz3]; rfl) ⟨rfl, ?_⟩)
  refine W_seq (W_seqn (W_region (fun k => by simp (decide := true) (disch := first | omega | (simp (decide := true) only [List.length_set, hl]; done) | fail) only [sims, evRegion, evOps, evOp, evG, evR, guardT, callee, opRes, pureR, binT, unT, T.cells, T.leaf, fillT, splice, Nat.reduceLT, Nat.reduceAdd, Nat.reduceMul, Nat.reduceLeDiff, Nat.reduceEqDiff, reduceIte, Int.reduceBEq, Int.reduceBNe, Int.reduceLT, Int.reduceLE, Int.reduceGT, Int.reduceGE, Int.reduceNeg, reduceCtorEq, hps]; rfl) ⟨rfl, W_block ?_⟩))
  refine rb_l1 (pT p) locs (min locs.toNat 8) rfl _ (fun st hex => ?_) (min locs.toNat 8 - 0) _ ⟨0, .imm true 0 [], ?_, ?_, ?_, ?_, ?_, ?_, ?_, ?_, .inl ⟨rfl, rfl⟩, ?_, by omega, rfl⟩
  · obtain ⟨vm, hst, h0, h4, h5, g0, g1, hM, hnx⟩ := hex
    have hl := hst
    refine .inl ⟨rfl, .inl ⟨rfl, ?_⟩⟩
    refine W_seq (W_seqn (W_region (fun k => by simp (decide := true) (disch := first | omega | (simp (decide := true) only [List.length_set, hl]; done) | fail) only [sims, evRegion, evOps, evOp, evG, evR, guardT, callee, opRes, pureR, binT, unT, T.cells, T.leaf, fillT, splice, Nat.reduceLT, Nat.reduceAdd, Nat.reduceMul, Nat.reduceLeDiff, Nat.reduceEqDiff, reduceIte, Int.reduceBEq, Int.reduceBNe, Int.reduceLT, Int.reduceLE, Int.reduceGT, Int.reduceGE, Int.reduceNeg, reduceCtorEq, hps]; rfl) ⟨rfl, W_block ?_⟩))
    refine rb_l2 p hp vm _ (st.nx + 1) (by omega) _ (fun st2 hex2 => ?_) (p.length - 0) _ ⟨0, .imm true 0 [], .imm true 0 [], ?_, ?_, ?_, ?_, ?_, g0, g1, hM.mono (Nat.le_refl _) (Nat.le_add_right _ _) (fun t _ _ => rfl), .inl ⟨rfl, rfl, rfl⟩, Nat.le_refl _, by omega, rfl⟩
    · obtain ⟨va, vs, hst2, h4, h5, g0, g1, hM2, hA2, hnx2⟩ := hex2
      have hl := hst2
      have hcc : cut [vm, va, vs] 0 3 = [vm, va, vs] := rfl
      have hval : T.leaf va = true ∧ T.leaf vs = true := by
        rcases hA2 with ⟨_, rfl, rfl⟩ | ⟨_, ba, bs, _, _, _, _, _, rfl, rfl, _, _⟩ <;> exact ⟨rfl, rfl⟩
      have hlf : allLeaf [vm, va, vs] = true := by
        show (T.leaf vm && (T.leaf va && (T.leaf vs && true))) = true
        rw [hM2.leaf, hval.1, hval.2]; rfl
      refine .inl ⟨rfl, .inl ⟨rfl, ?_⟩⟩
      refine W_seqn (W_region (fun k => by simp (decide := true) (disch := first | omega | (simp (decide := true) only [List.length_set, hl]; done) | fail) only [sims, evRegion, evOps, evOp, evG, evR, guardT, callee, opRes, pureR, binT, unT, T.cells, T.leaf, fillT, splice, Nat.reduceLT, Nat.reduceAdd, Nat.reduceMul, Nat.reduceLeDiff, Nat.reduceEqDiff, reduceIte, Int.reduceBEq, Int.reduceBNe, Int.reduceLT, Int.reduceLE, Int.reduceGT, Int.reduceGE, Int.reduceNeg, reduceCtorEq, hps, h4, h5, g0, g1, hcc, hlf]; rfl) ⟨rfl, W_ret ?_⟩)
      have hg' : ∀ t, 2 ≤ t → put1 st2.g (0, some [vm, va, vs]) t = st2.g t := fun t ht => put1_ne (by omega)
      obtain ⟨fm, i1, e1⟩ := (hM2.mono (g' := put1 st2.g (0, some [vm, va, vs])) (Nat.le_refl _) (Nat.le_refl _) (fun t ht _ => hg' t ht)).frz (nx := st2.nx + 2) (d := 9) (fun x hx => by rw [List.mem_replicate] at hx; rw [hx.2]; trivial)
      have hpair : ∃ fa fs i2 i3, frz ⟨put1 st2.g (0, some [vm, va, vs]), st2.nx + 2⟩ 11 va = some (.imm fa p.length (List.replicate p.length (.int .i64 0)), i2) ∧ frz ⟨put1 st2.g (0, some [vm, va, vs]), st2.nx + 2⟩ 11 vs = some (.imm fs p.length (List.replicate p.length (.imm true 0 [])), i3) := by
        rcases hA2 with ⟨hz, rfl, rfl⟩ | ⟨_, ba, bs, b1, _, b3, _, _, rfl, rfl, b8, b9⟩
        · rw [hz]; exact ⟨true, true, [], [], rfl, rfl⟩
        · obtain ⟨i2, e2⟩ := frz_own (h := ⟨put1 st2.g (0, some [vm, .own ba 0 p.length 1, .own bs 0 p.length 1]), st2.nx + 2⟩) (d := 10) (t := ba) (n := p.length) (es := 1) (by show put1 st2.g _ ba = _; rw [hg' ba (by omega)]; exact b8) (by rw [List.length_replicate]; omega) (frzAll_still (d := 9) (fun x hx => by rw [List.mem_replicate] at hx; rw [hx.2]; trivial))
          obtain ⟨i3, e3⟩ := frz_own (h := ⟨put1 st2.g (0, some [vm, .own ba 0 p.length 1, .own bs 0 p.length 1]), st2.nx + 2⟩) (d := 10) (t := bs) (n := p.length) (es := 1) (by show put1 st2.g _ bs = _; rw [hg' bs (by omega)]; exact b9) (by rw [List.length_replicate]; omega) (frzAll_still (d := 9) (fun x hx => by rw [List.mem_replicate] at hx; rw [hx.2]; trivial))
          exact ⟨false, false, i2, i3, e2, e3⟩
      obtain ⟨fa, fs, i2, i3, e2, e3⟩ := hpair
      have hfz : frz ⟨put1 st2.g (0, some [vm, va, vs]), st2.nx + 2⟩ frzDepth (.agg [vm, va, vs]) = some (.agg [.imm fm (min locs.toNat 8) (List.replicate (min locs.toNat 8) (.int .u32 0)), .imm fa p.length (List.replicate p.length (.int .i64 0)), .imm fs p.length (List.replicate p.length (.imm true 0 []))], i1 ++ (i2 ++ (i3 ++ []))) := by
        show frz _ (11 + 1) _ = _
        rw [List.length_replicate] at e1
        rw [frz]
        simp only [frzAll, e1, e2, e3]
      refine ⟨rfl, _, ?_, fin_cells (F := f22) (p := 0) rfl hfz ?_ ?_ rfl⟩
      · refine ⟨fm, fa, fs, List.replicate p.length (.imm true 0 []), ?_, ?_⟩
        · show _ = T.agg [.imm fm (List.replicate (min locs.toNat 8) 0).length (wordsT (List.replicate (min locs.toNat 8) 0)), .imm fa (List.replicate p.length 0).length (intsT (List.replicate p.length 0)), .imm fs (List.replicate p.length ([] : List Int)).length (List.replicate p.length (.imm true 0 []))]
          rw [words_rep, ints_rep, List.length_replicate, List.length_replicate, List.length_replicate]
        · show SeenT (List.replicate p.length (.imm true 0 [])) (List.replicate p.length [])
          refine ⟨by rw [List.length_replicate, List.length_replicate], fun j hj => ⟨true, ?_⟩⟩
          rw [List.length_replicate] at hj
          rw [List.getElem?_replicate, if_pos hj, List.getElem_replicate]; rfl
      · simp (decide := true) (disch := first | omega | (simp (decide := true) only [List.length_set, hl]; done) | fail) only [sims, evRegion, evOps, evOp, evG, evR, guardT, callee, opRes, pureR, binT, unT, T.cells, T.leaf, fillT, splice, Nat.reduceLT, Nat.reduceAdd, Nat.reduceMul, Nat.reduceLeDiff, Nat.reduceEqDiff, reduceIte, Int.reduceBEq, Int.reduceBNe, Int.reduceLT, Int.reduceLE, Int.reduceGT, Int.reduceGE, Int.reduceNeg, reduceCtorEq, h4]
      · simp (decide := true) (disch := first | omega | (simp (decide := true) only [List.length_set, hl]; done) | fail) only [sims, evRegion, evOps, evOp, evG, evR, guardT, callee, opRes, pureR, binT, unT, T.cells, T.leaf, fillT, splice, Nat.reduceLT, Nat.reduceAdd, Nat.reduceMul, Nat.reduceLeDiff, Nat.reduceEqDiff, reduceIte, Int.reduceBEq, Int.reduceBNe, Int.reduceLT, Int.reduceLE, Int.reduceGT, Int.reduceGE, Int.reduceNeg, reduceCtorEq, hps]
    all_goals first | (simp (decide := true) (disch := first | omega | (simp (decide := true) only [List.length_set, hl]; done) | fail) only [sims, evRegion, evOps, evOp, evG, evR, guardT, callee, opRes, pureR, binT, unT, T.cells, T.leaf, fillT, splice, Nat.reduceLT, Nat.reduceAdd, Nat.reduceMul, Nat.reduceLeDiff, Nat.reduceEqDiff, reduceIte, Int.reduceBEq, Int.reduceBNe, Int.reduceLT, Int.reduceLE, Int.reduceGT, Int.reduceGE, Int.reduceNeg, reduceCtorEq, hps, hl, h0, h4, h5]; done) | (simp (decide := true) (disch := first | omega | (simp (decide := true) only [List.length_set, hl]; done) | fail) only [sims, evRegion, evOps, evOp, evG, evR, guardT, callee, opRes, pureR, binT, unT, T.cells, T.leaf, fillT, splice, Nat.reduceLT, Nat.reduceAdd, Nat.reduceMul, Nat.reduceLeDiff, Nat.reduceEqDiff, reduceIte, Int.reduceBEq, Int.reduceBNe, Int.reduceLT, Int.reduceLE, Int.reduceGT, Int.reduceGE, Int.reduceNeg, reduceCtorEq, hps, hl, h0, h4, h5]; rfl)
  rotate_right 1
  · show 2 ≤ 0 + 1 + 1 + 1; omega
  all_goals first | (simp (decide := true) (disch := first | omega | (simp (decide := true) only [List.length_set, hl]; done) | fail) only [sims, evRegion, evOps, evOp, evG, evR, guardT, callee, opRes, pureR, binT, unT, T.cells, T.leaf, fillT, splice, Nat.reduceLT, Nat.reduceAdd, Nat.reduceMul, Nat.reduceLeDiff, Nat.reduceEqDiff, reduceIte, Int.reduceBEq, Int.reduceBNe, Int.reduceLT, Int.reduceLE, Int.reduceGT, Int.reduceGE, Int.reduceNeg, reduceCtorEq, hps, hl, h0, h1]; done) | (simp (decide := true) (disch := first | omega | (simp (decide := true) only [List.length_set, hl]; done) | fail) only [sims, evRegion, evOps, evOp, evG, evR, guardT, callee, opRes, pureR, binT, unT, T.cells, T.leaf, fillT, splice, Nat.reduceLT, Nat.reduceAdd, Nat.reduceMul, Nat.reduceLeDiff, Nat.reduceEqDiff, reduceIte, Int.reduceBEq, Int.reduceBNe, Int.reduceLT, Int.reduceLE, Int.reduceGT, Int.reduceGE, Int.reduceNeg, reduceCtorEq, hps, hl, h0, h1]; rfl)
end Go.Proofs.Ytmihmodlilebbaa.Abs
