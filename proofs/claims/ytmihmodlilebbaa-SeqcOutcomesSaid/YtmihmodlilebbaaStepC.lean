/- A step of the given threads, where one is left. -/
import Derived.Test.YtmihmodlilebbaaStepB
namespace Go.Proofs.Ytmihmodlilebbaa.Abs
open Go Go.RowKit Fn
set_option linter.unusedVariables false
set_option linter.unusedSimpArgs false
set_option linter.unnecessarySimpa false
set_option maxRecDepth 100000
set_option maxHeartbeats 2000000

/-- Behind the copying: what lies where. -/
def Mid (s : PS) (o : Op) (n w bm A : Nat) (far' : List Nat) (tm ta ts vm va : T) (g : Mem) : Prop :=
  g 0 = some [tm, ta, ts] ∧ g 1 = some [.imm true 0 [], .imm true 0 [], .imm true 0 []] ∧ g 35 = some o.enc ∧ g 46 = some [vm, va, .own A 0 n 1] ∧ g bm = some (wordsT s.mem) ∧ g 44 = some (intsT far')
theorem step_read (s : PS) (n w bm A : Nat) (o : Op) (far' : List Nat) (pt tm ta ts vm va : T) (fm : Bool) (htm : tm = .imm fm s.mem.length (wordsT s.mem)) (hm8 : s.mem.length ≤ 8) (hsn : s.seen.length = n) (hw : w < n) (hw2 : n ≤ 2) (h8 : (seenN s w).length ≤ 8) (hbm : bm = 37 ∨ bm = 40) (hA : 48 < A) (els : List T) (hel : els.length = n) (bf : Nat → Nat) (st : St) (hS : Slots pt (w : Int) st) (h11 : rho st.s (.tmp 11) = .bool (decide (isL s o))) (hM : Mid s o n w bm A far' tm ta ts vm va st.g) (hgA : st.g A = some els) (hnx : A < st.nx) (hrows : ∀ j, j < n → els[j]? = some (.own (bf j) 0 (seenN s j).length 1) ∧ st.g (bf j) = some (wordsT (seenN s j)) ∧ 48 ≤ bf j ∧ bf j < A ∧ ∀ k, k < n → j ≠ k → bf j ≠ bf k) (hrd : rds o) :
    W ap (match f26.body with | .seq _ (.seq _ (.seq _ (.seq _ (.seq _ (.seq _ (.seq _ (.seq (.seq _ (.cond _ c _)) _))))))) => c | _ => .skip) st (fun e st' => e = .normal ∧ Slots pt (w : Int) st' ∧ rho st'.s (.tmp 11) = .bool (decide (isL s o)) ∧ Mid s o n w bm A far' tm ta ts vm va st'.g ∧ ∃ els', st'.g A = some els' ∧ RowsW st'.g els' (seenS s w o)) := by
  obtain ⟨hl, h0, h2, h4, h6, h8s, h9⟩ := hS
  obtain ⟨g0, g1, g35, g46, gbm, g44⟩ := hM
  have hoel : o.enc.length = 3 := rfl
  have holc : o.enc[1]? = some (.int .i64 o.loc) := rfl
  have hwl := words_len s.mem
  generalize hoe : o.enc = oe at *
  simp only [f26]
  refine W_seqn (W_region (fun k => by simp (decide := true) (disch := first | omega | (simp (decide := true) only [List.length_set, hl]; done) | fail) only [sims, evRegion, evOps, evOp, evG, evR, guardT, callee, opRes, pureR, binT, unT, T.cells, T.leaf, fillT, splice, Nat.reduceLT, Nat.reduceAdd, Nat.reduceMul, Nat.reduceLeDiff, Nat.reduceEqDiff, reduceIte, Int.reduceBEq, Int.reduceBNe, Int.reduceLT, Int.reduceLE, Int.reduceGT, Int.reduceGE, Int.reduceNeg, reduceCtorEq]; rfl) ⟨rfl, ?_⟩)
  refine W_cut (fun st' => Slots pt (w : Int) st' ∧ rho st'.s (.tmp 11) = .bool (decide (isL s o)) ∧ rho st'.s (.tmp 12) = .int .u32 (valL s o) ∧ st'.g = st.g ∧ st.nx ≤ st'.nx) ?_ ?_
  · by_cases his : isL s o
    · rw [decide_eq_true his] at h11 ⊢
      obtain ⟨j, hj⟩ : ∃ j : Nat, o.loc = j := ⟨o.loc.toNat, by have := his.1; omega⟩
      have hjm : j < s.mem.length := by have := his.2; omega
      have hv : valL s o = s.mem[j] := by unfold valL; rw [if_pos his, hj, Int.toNat_natCast, List.getElem?_eq_getElem hjm]; rfl
      have hg : (wordsT s.mem)[j * 1]? = some (.int .u32 s.mem[j]) := by rw [Nat.mul_one]; exact words_get s.mem j hjm
      rw [hj] at holc
      rw [hv]
      rw [htm] at g0
      have hb : j * 1 + 1 ≤ s.mem.length := by omega
      refine W_seqn (W_region (fun k => by simp (decide := true) (disch := first | omega | (simp (decide := true) only [List.length_set, hl]; done) | fail) only [sims, evRegion, evOps, evOp, evG, evR, guardT, callee, opRes, pureR, binT, unT, T.cells, T.leaf, fillT, splice, Nat.reduceLT, Nat.reduceAdd, Nat.reduceMul, Nat.reduceLeDiff, Nat.reduceEqDiff, reduceIte, Int.reduceBEq, Int.reduceBNe, Int.reduceLT, Int.reduceLE, Int.reduceGT, Int.reduceGE, Int.reduceNeg, reduceCtorEq, h11]; rfl) ⟨rfl, W_true (by simp (decide := true) (disch := first | omega | (simp (decide := true) only [List.length_set, hl]; done) | fail) only [sims, evRegion, evOps, evOp, evG, evR, guardT, callee, opRes, pureR, binT, unT, T.cells, T.leaf, fillT, splice, Nat.reduceLT, Nat.reduceAdd, Nat.reduceMul, Nat.reduceLeDiff, Nat.reduceEqDiff, reduceIte, Int.reduceBEq, Int.reduceBNe, Int.reduceLT, Int.reduceLE, Int.reduceGT, Int.reduceGE, Int.reduceNeg, reduceCtorEq] <;> rfl) ?_⟩)
      refine W_region (fun k => by simp (decide := true) (disch := first | omega | (simp (decide := true) only [List.length_set, hl]; done) | fail) only [sims, evRegion, evOps, evOp, evG, evR, guardT, callee, opRes, pureR, binT, unT, T.cells, T.leaf, fillT, splice, Nat.reduceLT, Nat.reduceAdd, Nat.reduceMul, Nat.reduceLeDiff, Nat.reduceEqDiff, reduceIte, Int.reduceBEq, Int.reduceBNe, Int.reduceLT, Int.reduceLE, Int.reduceGT, Int.reduceGE, Int.reduceNeg, reduceCtorEq, hps, h4, h8s, g0, g35, hoel, holc, hwl, hjm, hb, hg]; rfl) ⟨rfl, ?_⟩
      refine ⟨⟨?_, ?_, ?_, ?_, ?_, ?_, ?_⟩, ?_, ?_, rfl, by show st.nx ≤ st.nx + 1 + 1 + 7; omega⟩
      all_goals simp (decide := true) (disch := first | omega | (simp (decide := true) only [List.length_set, hl]; done) | fail) only [sims, evRegion, evOps, evOp, evG, evR, guardT, callee, opRes, pureR, binT, unT, T.cells, T.leaf, fillT, splice, Nat.reduceLT, Nat.reduceAdd, Nat.reduceMul, Nat.reduceLeDiff, Nat.reduceEqDiff, reduceIte, Int.reduceBEq, Int.reduceBNe, Int.reduceLT, Int.reduceLE, Int.reduceGT, Int.reduceGE, Int.reduceNeg, reduceCtorEq, hps, hl, h0, h2, h4, h6, h8s, h9, h11]
    · rw [decide_eq_false his] at h11 ⊢
      have hv : valL s o = 0 := by unfold valL; rw [if_neg his]
      rw [hv]
      refine W_seqn (W_region (fun k => by simp (decide := true) (disch := first | omega | (simp (decide := true) only [List.length_set, hl]; done) | fail) only [sims, evRegion, evOps, evOp, evG, evR, guardT, callee, opRes, pureR, binT, unT, T.cells, T.leaf, fillT, splice, Nat.reduceLT, Nat.reduceAdd, Nat.reduceMul, Nat.reduceLeDiff, Nat.reduceEqDiff, reduceIte, Int.reduceBEq, Int.reduceBNe, Int.reduceLT, Int.reduceLE, Int.reduceGT, Int.reduceGE, Int.reduceNeg, reduceCtorEq, h11]; rfl) ⟨rfl, W_false (by simp (decide := true) (disch := first | omega | (simp (decide := true) only [List.length_set, hl]; done) | fail) only [sims, evRegion, evOps, evOp, evG, evR, guardT, callee, opRes, pureR, binT, unT, T.cells, T.leaf, fillT, splice, Nat.reduceLT, Nat.reduceAdd, Nat.reduceMul, Nat.reduceLeDiff, Nat.reduceEqDiff, reduceIte, Int.reduceBEq, Int.reduceBNe, Int.reduceLT, Int.reduceLE, Int.reduceGT, Int.reduceGE, Int.reduceNeg, reduceCtorEq] <;> rfl) (W_skip ⟨rfl, ?_⟩)⟩)
      refine ⟨⟨?_, ?_, ?_, ?_, ?_, ?_, ?_⟩, ?_, ?_, rfl, by show st.nx ≤ st.nx + 1 + 1; omega⟩
      all_goals simp (decide := true) (disch := first | omega | (simp (decide := true) only [List.length_set, hl]; done) | fail) only [sims, evRegion, evOps, evOp, evG, evR, guardT, callee, opRes, pureR, binT, unT, T.cells, T.leaf, fillT, splice, Nat.reduceLT, Nat.reduceAdd, Nat.reduceMul, Nat.reduceLeDiff, Nat.reduceEqDiff, reduceIte, Int.reduceBEq, Int.reduceBNe, Int.reduceLT, Int.reduceLE, Int.reduceGT, Int.reduceGE, Int.reduceNeg, reduceCtorEq, hps, hl, h0, h2, h4, h6, h8s, h9, h11]
  clear hl h0 h2 h4 h6 h8s h9 h11
  rintro ⟨sl, g, nx⟩ ⟨⟨hl, h0, h2, h4, h6, h8s, h9⟩, h11, h12, hgg, hnx2⟩
  simp only at hl h0 h2 h4 h6 h8s h9 h11 h12 hgg hnx2
  subst hgg
  obtain ⟨hew, hgw, hb48, hbA, hbne⟩ := hrows w hw
  have hb : w + 1 ≤ n := by omega
  have hswl := words_len (seenN s w)
  have hcw : cut (wordsT (seenN s w)) 0 (seenN s w).length = wordsT (seenN s w) := cut_all (by rw [words_len])
  have hle : (seenN s w).length ≤ (seenN s w).length := Nat.le_refl _
  have hr1 : ((seenN s w).length + 1) * 4 ≤ 549755813888 := by omega
  have hr2 : (seenN s w).length + 1 ≤ 549755813888 := by omega
  have hc1 : cut [T.int .u32 (valL s o)] 0 1 = [T.int .u32 (valL s o)] := rfl
  have hwa : wordsT (seenN s w ++ [valL s o]) = wordsT (seenN s w) ++ [.int .u32 (valL s o)] := words_app _ _
  have hlap : (seenN s w ++ [valL s o]).length = (seenN s w).length + 1 := by rw [List.length_append]; rfl
  refine W_region (fun k => by simp (decide := true) (disch := first | omega | (simp (decide := true) only [List.length_set, hl]; done) | fail) only [sims, evRegion, evOps, evOp, evG, evR, guardT, callee, opRes, pureR, binT, unT, T.cells, T.leaf, fillT, splice, Nat.reduceLT, Nat.reduceAdd, Nat.reduceMul, Nat.reduceLeDiff, Nat.reduceEqDiff, reduceIte, Int.reduceBEq, Int.reduceBNe, Int.reduceLT, Int.reduceLE, Int.reduceGT, Int.reduceGE, Int.reduceNeg, reduceCtorEq, hps, cellsOf, h2, h9, h12, g46, hgA, hgw, hel, hw, hb, hew, hswl, hcw, hle, hr1, hr2, hc1, Nat.mul_one, List.all]; rfl) ⟨rfl, ?_⟩
  have hseen : seenS s w o = s.seen.set w (seenN s w ++ [valL s o]) := by unfold seenS; rw [if_pos hrd]
  refine ⟨⟨?_, ?_, ?_, ?_, ?_, ?_, ?_⟩, ?_, ⟨?_, ?_, ?_, ?_, ?_, ?_⟩, els.set w (.own (nx + 10) 0 ((seenN s w).length + 1) 1), ?_, ?_⟩
  rotate_right 1
  · rw [hseen]
    refine ⟨by rw [List.length_set, List.length_set, hel, hsn], fun j hj => ?_⟩
    rw [List.length_set, hsn] at hj
    by_cases hwj : w = j
    · subst hwj
      refine ⟨nx + 10, by omega, ?_, ?_⟩
      · rw [List.getElem?_set, if_pos rfl, if_pos (by omega), List.getElem_set_self, hlap]
      · rw [List.getElem_set_self, hwa]
        simp (decide := true) (disch := first | omega | (simp (decide := true) only [List.length_set, hl]; done) | fail) only [sims, evRegion, evOps, evOp, evG, evR, guardT, callee, opRes, pureR, binT, unT, T.cells, T.leaf, fillT, splice, Nat.reduceLT, Nat.reduceAdd, Nat.reduceMul, Nat.reduceLeDiff, Nat.reduceEqDiff, reduceIte, Int.reduceBEq, Int.reduceBNe, Int.reduceLT, Int.reduceLE, Int.reduceGT, Int.reduceGE, Int.reduceNeg, reduceCtorEq, hps] <;> rfl
    · obtain ⟨a1, a2, a3, a4, a5⟩ := hrows j hj
      have hsj : seenN s j = s.seen[j]'(by omega) := by unfold seenN; rw [List.getElem?_eq_getElem (by omega)]; rfl
      have hne := hbne j hj hwj
      refine ⟨bf j, a3, ?_, ?_⟩
      · rw [List.getElem?_set, if_neg hwj, a1, List.getElem_set_ne hwj, hsj]
      · rw [List.getElem_set_ne hwj, ← hsj, ← a2]
        simp (decide := true) (disch := first | omega | (simp (decide := true) only [List.length_set, hl]; done) | fail) only [sims, evRegion, evOps, evOp, evG, evR, guardT, callee, opRes, pureR, binT, unT, T.cells, T.leaf, fillT, splice, Nat.reduceLT, Nat.reduceAdd, Nat.reduceMul, Nat.reduceLeDiff, Nat.reduceEqDiff, reduceIte, Int.reduceBEq, Int.reduceBNe, Int.reduceLT, Int.reduceLE, Int.reduceGT, Int.reduceGE, Int.reduceNeg, reduceCtorEq, hps]
  all_goals first | (simp (decide := true) (disch := first | omega | (simp (decide := true) only [List.length_set, hl]; done) | fail) only [sims, evRegion, evOps, evOp, evG, evR, guardT, callee, opRes, pureR, binT, unT, T.cells, T.leaf, fillT, splice, Nat.reduceLT, Nat.reduceAdd, Nat.reduceMul, Nat.reduceLeDiff, Nat.reduceEqDiff, reduceIte, Int.reduceBEq, Int.reduceBNe, Int.reduceLT, Int.reduceLE, Int.reduceGT, Int.reduceGE, Int.reduceNeg, reduceCtorEq, hps, hl, h0, h2, h4, h6, h8s, h9, h11, g0, g1, g35, g46, gbm, g44, hoe]; done) | (simp (decide := true) (disch := first | omega | (simp (decide := true) only [List.length_set, hl]; done) | fail) only [sims, evRegion, evOps, evOp, evG, evR, guardT, callee, opRes, pureR, binT, unT, T.cells, T.leaf, fillT, splice, Nat.reduceLT, Nat.reduceAdd, Nat.reduceMul, Nat.reduceLeDiff, Nat.reduceEqDiff, reduceIte, Int.reduceBEq, Int.reduceBNe, Int.reduceLT, Int.reduceLE, Int.reduceGT, Int.reduceGE, Int.reduceNeg, reduceCtorEq, hps, hl, h0, h2, h4, h6, h8s, h9, h11, g0, g1, g35, g46, gbm, g44, hoe]; rfl)
end Go.Proofs.Ytmihmodlilebbaa.Abs
