/- An empty cache: the given function. -/
import Derived.Test.YthanlobfjpjegaaNew
namespace Go.Proofs.Ythanlobfjpjegaa.Abs
open Go Go.RowKit Fn
set_option linter.unusedVariables false
set_option linter.unusedSimpArgs false
set_option linter.unnecessarySimpa false
set_option maxRecDepth 100000
set_option maxHeartbeats 1000000

theorem newRow_succ (k : Nat) : newRow (k + 1) = newRow k ++ [aged zeroW (k : Int)] := by unfold newRow; rw [List.range_succ, List.map_append]; rfl
/-- A row that grows. -/
def RowAcc (g : Mem) (v : T) (k lo hi : Nat) : Prop := (k = 0 ∧ v = .imm true 0 []) ∨ (0 < k ∧ ∃ t, lo ≤ t ∧ t < hi ∧ v = .own t 0 k 19 ∧ g t = some ((newRow k).flatMap Way.enc))
def ngOut : ACode := match f12.body with | .seq _ (.seq _ (.seq (.seq _ (.block _ (.loop c))) _)) => c | _ => .skip
def ngIn : ACode := match ngOut with | .seq _ (.seq (.block _ (.seq _ (.seq (.seq _ (.block _ (.loop c))) _))) _) => c | _ => .skip
theorem mx_val (x : Int) (hi : Nat) (h : 1 ≤ hi) : (if ((hi : Nat) : Int) < (if (1 : Int) > x then (1 : Int) else x) then ((hi : Nat) : Int) else (if (1 : Int) > x then (1 : Int) else x)) = (clampN x hi : Int) := clamp_val x hi h
theorem ng_in (ways : Int) (m : Nat) (hm : m = clampN ways 4) (n0 : Nat) (g1 : Mem) (v0 v6 : T) (Q : AExit → St → Prop)
    (hQe : ∀ st : St, st.s.length = 35 → rho st.s (.tmp 0) = v0 → rho st.s (.tmp 1) = .int .i64 ways → rho st.s (.tmp 4) = .ptr 0 0 → rho st.s (.tmp 5) = .ptr 1 0 → rho st.s (.tmp 6) = v6 → (∀ t, t < n0 → st.g t = g1 t) → n0 ≤ st.nx → RowAcc st.g (rho st.s (.tmp 7)) m n0 st.nx → Q (.exit 2) st) :
    ∀ (d : Nat) (st : St), (∃ k : Nat, st.s.length = 35 ∧ rho st.s (.tmp 0) = v0 ∧ rho st.s (.tmp 1) = .int .i64 ways ∧ rho st.s (.tmp 4) = .ptr 0 0 ∧ rho st.s (.tmp 5) = .ptr 1 0 ∧ rho st.s (.tmp 6) = v6 ∧ (∀ t, t < n0 → st.g t = g1 t) ∧ n0 ≤ st.nx ∧ RowAcc st.g (rho st.s (.tmp 7)) k n0 st.nx ∧ rho st.s (.tmp 8) = .int .i64 (k : Int) ∧ k ≤ m ∧ d = m - k) → W ap (.loop ngIn) st Q := by
  have hmr := clampN_range ways 4 (by omega)
  have hmv := clamp_val ways 4 (by omega)
  rw [← hm] at hmr hmv
  rw [show (((4 : Nat) : Int)) = 4 from rfl] at hmv
  refine W_loop _ ?_
  rintro d st ⟨k, hl, h0, h1, h4, h5, h6, hg, hnx, hA, h8, hk, hd⟩
  generalize hmx : (if (1 : Int) > ways then (1 : Int) else ways) = y at *
  by_cases hend : k = m
  · have hlt : decide ((k : Int) < (m : Int)) = false := decide_eq_false (by omega)
    refine W_seq (W_seqn (W_region (fun k => by simp (decide := true) (disch := first | omega | (simp (decide := true) only [List.length_set, hl]; done) | fail) only [sims, evRegion, evOps, evOp, evG, evR, guardT, callee, opRes, pureR, binT, unT, T.cells, T.leaf, fillT, splice, Nat.reduceLT, Nat.reduceAdd, Nat.reduceMul, Nat.reduceLeDiff, Nat.reduceEqDiff, reduceIte, Int.reduceBEq, Int.reduceBNe, Int.reduceLT, Int.reduceLE, Int.reduceGT, Int.reduceGE, Int.reduceNeg, reduceCtorEq, h1, h8, minL, maxL, List.foldlM_cons, List.foldlM_nil, hmx, hmv, bind, Option.bind_some, pure, hlt]; rfl) ⟨rfl, W_false (by simp (decide := true) (disch := first | omega | (simp (decide := true) only [List.length_set, hl]; done) | fail) only [sims, evRegion, evOps, evOp, evG, evR, guardT, callee, opRes, pureR, binT, unT, T.cells, T.leaf, fillT, splice, Nat.reduceLT, Nat.reduceAdd, Nat.reduceMul, Nat.reduceLeDiff, Nat.reduceEqDiff, reduceIte, Int.reduceBEq, Int.reduceBNe, Int.reduceLT, Int.reduceLE, Int.reduceGT, Int.reduceGE, Int.reduceNeg, reduceCtorEq] <;> rfl) (W_exit ?_)⟩))
    refine (.inr ⟨by simp, .inr ⟨by simp, hQe _ ?_ ?_ ?_ ?_ ?_ ?_ hg (Nat.le_add_right_of_le hnx) ?_⟩⟩)
    rotate_right 1
    · rw [hend] at hA
      rcases hA with ⟨h, _⟩ | ⟨h, t, t1, t2, t3, t4⟩
      · omega
      · exact .inr ⟨h, t, t1, Nat.lt_add_right _ t2, by simp (decide := true) (disch := first | omega | (simp (decide := true) only [List.length_set, hl]; done) | fail) only [sims, evRegion, evOps, evOp, evG, evR, guardT, callee, opRes, pureR, binT, unT, T.cells, T.leaf, fillT, splice, Nat.reduceLT, Nat.reduceAdd, Nat.reduceMul, Nat.reduceLeDiff, Nat.reduceEqDiff, reduceIte, Int.reduceBEq, Int.reduceBNe, Int.reduceLT, Int.reduceLE, Int.reduceGT, Int.reduceGE, Int.reduceNeg, reduceCtorEq, t3], t4⟩
    all_goals simp (decide := true) (disch := first | omega | (simp (decide := true) only [List.length_set, hl]; done) | fail) only [sims, evRegion, evOps, evOp, evG, evR, guardT, callee, opRes, pureR, binT, unT, T.cells, T.leaf, fillT, splice, Nat.reduceLT, Nat.reduceAdd, Nat.reduceMul, Nat.reduceLeDiff, Nat.reduceEqDiff, reduceIte, Int.reduceBEq, Int.reduceBNe, Int.reduceLT, Int.reduceLE, Int.reduceGT, Int.reduceGE, Int.reduceNeg, reduceCtorEq, hl, h0, h1, h4, h5, h6]
  have hlt : decide ((k : Int) < (m : Int)) = true := decide_eq_true (by omega)
  have hkm : k < m := by omega
  have hw2 : IntKind.i64.wrap ((k : Int) + 1) = ((k + 1 : Nat) : Int) := by rw [wrap_id (by omega)]; omega
  have hzb := build_aged (k : Int)
  have hzal : (aged zeroW (k : Int)).enc.length = 19 := rfl
  have hzalf : allLeaf (aged zeroW (k : Int)).enc = true := leaf_ints _ (way_ints _)
  have hzall : (aged zeroW (k : Int)).enc.all T.leaf = true := hzalf
  have hsp : splice zeroW.enc 0 (aged zeroW (k : Int)).enc = (aged zeroW (k : Int)).enc := splice_all rfl
  have hce : cut (aged zeroW (k : Int)).enc 0 19 = (aged zeroW (k : Int)).enc := cut_all rfl
  have hzl : zeroW.enc.length = 19 := rfl
  have hrs : (newRow (k + 1)).flatMap Way.enc = (newRow k).flatMap Way.enc ++ (aged zeroW (k : Int)).enc := by rw [newRow_succ, List.flatMap_append]; simp
  have hcl := enc_len _ (newRow_wf k (by omega))
  have hclf := enc_leaf (newRow k)
  rw [newRow_len] at hcl
  have hin : ngIn = ngIn := rfl
  conv at hin => rhs; simp only [ngIn, ngOut, f12]
  have hzu : [T.int .i64 0, T.int .u32 0, T.int .u8 0, T.int .u8 0, T.int .u8 0, T.int .u8 0, T.int .u8 0, T.int .u8 0, T.int .u8 0, T.int .u8 0, T.int .u8 0, T.int .u8 0, T.int .u8 0, T.int .u8 0, T.int .u8 0, T.int .u8 0, T.int .u8 0, T.int .u8 0, T.int .i64 0] = zeroW.enc := rfl
  rw [hzu] at hin
  rw [hin]
  clear hin
  have hr1 : (k + 1) * 40 ≤ 549755813888 := by omega
  have hr2 : k + 1 ≤ 549755813888 := by omega
  have hr3 : (0 + 1) * 40 ≤ 549755813888 := by omega
  have hcr : cut ((newRow k).flatMap Way.enc) 0 (k * 19) = (newRow k).flatMap Way.enc := cut_all hcl
  have hr0 : (newRow 0).flatMap Way.enc = [] := rfl
  generalize zeroW.enc = zc at *
  generalize hza : (aged zeroW (k : Int)).enc = za at *
  generalize hrk1 : (newRow (k + 1)).flatMap Way.enc = rk1 at *
  refine W_seqn (W_seqn (W_region (fun k => by simp (decide := true) (disch := first | omega | (simp (decide := true) only [List.length_set, hl]; done) | fail) only [sims, evRegion, evOps, evOp, evG, evR, guardT, callee, opRes, pureR, binT, unT, T.cells, T.leaf, fillT, splice, Nat.reduceLT, Nat.reduceAdd, Nat.reduceMul, Nat.reduceLeDiff, Nat.reduceEqDiff, reduceIte, Int.reduceBEq, Int.reduceBNe, Int.reduceLT, Int.reduceLE, Int.reduceGT, Int.reduceGE, Int.reduceNeg, reduceCtorEq, h1, h8, minL, maxL, List.foldlM_cons, List.foldlM_nil, hmx, hmv, bind, Option.bind_some, pure, hlt]; rfl) ⟨rfl, W_true (by simp (decide := true) (disch := first | omega | (simp (decide := true) only [List.length_set, hl]; done) | fail) only [sims, evRegion, evOps, evOp, evG, evR, guardT, callee, opRes, pureR, binT, unT, T.cells, T.leaf, fillT, splice, Nat.reduceLT, Nat.reduceAdd, Nat.reduceMul, Nat.reduceLeDiff, Nat.reduceEqDiff, reduceIte, Int.reduceBEq, Int.reduceBNe, Int.reduceLT, Int.reduceLE, Int.reduceGT, Int.reduceGE, Int.reduceNeg, reduceCtorEq] <;> rfl) (W_skip ⟨rfl, ?_⟩)⟩))
  have next : ∀ st' : St, (st'.s.length = 35 ∧ rho st'.s (.tmp 0) = v0 ∧ rho st'.s (.tmp 1) = .int .i64 ways ∧ rho st'.s (.tmp 4) = .ptr 0 0 ∧ rho st'.s (.tmp 5) = .ptr 1 0 ∧ rho st'.s (.tmp 6) = v6 ∧ (∀ t, t < n0 → st'.g t = g1 t) ∧ n0 ≤ st'.nx ∧ RowAcc st'.g (rho st'.s (.tmp 7)) (k + 1) n0 st'.nx ∧ rho st'.s (.tmp 8) = .int .i64 (k : Int)) → W ap (.region [⟨some 21, .mv (.tmp 8), none⟩, ⟨some 22, .bin .add (.tmp 21) (.con (.int .i64 1)), none⟩, ⟨some 8, .mv (.tmp 22), none⟩] []) st' (fun e s' => (e = .normal ∧ ∃ d', d' < d ∧ ∃ k : Nat, s'.s.length = 35 ∧ rho s'.s (.tmp 0) = v0 ∧ rho s'.s (.tmp 1) = .int .i64 ways ∧ rho s'.s (.tmp 4) = .ptr 0 0 ∧ rho s'.s (.tmp 5) = .ptr 1 0 ∧ rho s'.s (.tmp 6) = v6 ∧ (∀ t, t < n0 → s'.g t = g1 t) ∧ n0 ≤ s'.nx ∧ RowAcc s'.g (rho s'.s (.tmp 7)) k n0 s'.nx ∧ rho s'.s (.tmp 8) = .int .i64 (k : Int) ∧ k ≤ m ∧ d' = m - k) ∨ (e ≠ .normal ∧ Q e s')) := by
    rintro ⟨sl, g, nx⟩ ⟨hl, h0, h1, h4, h5, h6, hg, hnx, hA, h8⟩
    simp only at hl h0 h1 h4 h5 h6 hg hnx hA h8
    refine W_region (fun k => by simp (decide := true) (disch := first | omega | (simp (decide := true) only [List.length_set, hl]; done) | fail) only [sims, evRegion, evOps, evOp, evG, evR, guardT, callee, opRes, pureR, binT, unT, T.cells, T.leaf, fillT, splice, Nat.reduceLT, Nat.reduceAdd, Nat.reduceMul, Nat.reduceLeDiff, Nat.reduceEqDiff, reduceIte, Int.reduceBEq, Int.reduceBNe, Int.reduceLT, Int.reduceLE, Int.reduceGT, Int.reduceGE, Int.reduceNeg, reduceCtorEq, h8, hw2]; rfl) ?_
    refine .inl ⟨rfl, m - (k + 1), by omega, k + 1, ?_, ?_, ?_, ?_, ?_, ?_, hg, Nat.le_add_right_of_le hnx, ?_, ?_, by omega, rfl⟩
    rotate_left 6
    · rcases hA with ⟨h, _⟩ | ⟨h, t, t1, t2, t3, t4⟩
      · omega
      · exact .inr ⟨h, t, t1, Nat.lt_add_right _ t2, by simp (decide := true) (disch := first | omega | (simp (decide := true) only [List.length_set, hl]; done) | fail) only [sims, evRegion, evOps, evOp, evG, evR, guardT, callee, opRes, pureR, binT, unT, T.cells, T.leaf, fillT, splice, Nat.reduceLT, Nat.reduceAdd, Nat.reduceMul, Nat.reduceLeDiff, Nat.reduceEqDiff, reduceIte, Int.reduceBEq, Int.reduceBNe, Int.reduceLT, Int.reduceLE, Int.reduceGT, Int.reduceGE, Int.reduceNeg, reduceCtorEq, t3], t4⟩
    all_goals simp (decide := true) (disch := first | omega | (simp (decide := true) only [List.length_set, hl]; done) | fail) only [sims, evRegion, evOps, evOp, evG, evR, guardT, callee, opRes, pureR, binT, unT, T.cells, T.leaf, fillT, splice, Nat.reduceLT, Nat.reduceAdd, Nat.reduceMul, Nat.reduceLeDiff, Nat.reduceEqDiff, reduceIte, Int.reduceBEq, Int.reduceBNe, Int.reduceLT, Int.reduceLE, Int.reduceGT, Int.reduceGE, Int.reduceNeg, reduceCtorEq, hl, h0, h1, h4, h5, h6]
  refine W_seqn (W_block ?_)
  rcases hA with ⟨hk0, h7⟩ | ⟨hk0, t, t1, t2, h7, gt⟩
  · subst hk0
    rw [hr0, List.nil_append] at hrs
    refine W_region (fun k => by simp (decide := true) (disch := first | omega | (simp (decide := true) only [List.length_set, hl]; done) | fail) only [sims, evRegion, evOps, evOp, evG, evR, guardT, callee, opRes, pureR, binT, unT, T.cells, T.leaf, fillT, splice, Nat.reduceLT, Nat.reduceAdd, Nat.reduceMul, Nat.reduceLeDiff, Nat.reduceEqDiff, reduceIte, Int.reduceBEq, Int.reduceBNe, Int.reduceLT, Int.reduceLE, Int.reduceGT, Int.reduceGE, Int.reduceNeg, reduceCtorEq, hps, cellsOf, h7, h8, hzl, hzb, hzal, hzalf, hzall, hsp, hce, hr3]; rfl) (.inr (.inl ⟨by simp, rfl, ?_⟩))
    refine next _ ⟨?_, ?_, ?_, ?_, ?_, ?_, fun t ht => ?_, ?_, .inr ⟨by omega, st.nx + 5 + 4, ?_, ?_, ?_, ?_⟩, ?_⟩
    rotate_left 6
    · rw [← hg t ht]
      simp (decide := true) (disch := first | omega | (simp (decide := true) only [List.length_set, hl]; done) | fail) only [sims, evRegion, evOps, evOp, evG, evR, guardT, callee, opRes, pureR, binT, unT, T.cells, T.leaf, fillT, splice, Nat.reduceLT, Nat.reduceAdd, Nat.reduceMul, Nat.reduceLeDiff, Nat.reduceEqDiff, reduceIte, Int.reduceBEq, Int.reduceBNe, Int.reduceLT, Int.reduceLE, Int.reduceGT, Int.reduceGE, Int.reduceNeg, reduceCtorEq, hps]
    · exact Nat.le_add_right_of_le (Nat.le_add_right_of_le hnx)
    · omega
    · show st.nx + 5 + 4 < st.nx + 5 + 6; omega
    · simp (decide := true) (disch := first | omega | (simp (decide := true) only [List.length_set, hl]; done) | fail) only [sims, evRegion, evOps, evOp, evG, evR, guardT, callee, opRes, pureR, binT, unT, T.cells, T.leaf, fillT, splice, Nat.reduceLT, Nat.reduceAdd, Nat.reduceMul, Nat.reduceLeDiff, Nat.reduceEqDiff, reduceIte, Int.reduceBEq, Int.reduceBNe, Int.reduceLT, Int.reduceLE, Int.reduceGT, Int.reduceGE, Int.reduceNeg, reduceCtorEq, hps] <;> rfl
    · rw [hrk1, hrs]
      simp (decide := true) (disch := first | omega | (simp (decide := true) only [List.length_set, hl]; done) | fail) only [sims, evRegion, evOps, evOp, evG, evR, guardT, callee, opRes, pureR, binT, unT, T.cells, T.leaf, fillT, splice, Nat.reduceLT, Nat.reduceAdd, Nat.reduceMul, Nat.reduceLeDiff, Nat.reduceEqDiff, reduceIte, Int.reduceBEq, Int.reduceBNe, Int.reduceLT, Int.reduceLE, Int.reduceGT, Int.reduceGE, Int.reduceNeg, reduceCtorEq, hps] <;> rfl
    all_goals simp (decide := true) (disch := first | omega | (simp (decide := true) only [List.length_set, hl]; done) | fail) only [sims, evRegion, evOps, evOp, evG, evR, guardT, callee, opRes, pureR, binT, unT, T.cells, T.leaf, fillT, splice, Nat.reduceLT, Nat.reduceAdd, Nat.reduceMul, Nat.reduceLeDiff, Nat.reduceEqDiff, reduceIte, Int.reduceBEq, Int.reduceBNe, Int.reduceLT, Int.reduceLE, Int.reduceGT, Int.reduceGE, Int.reduceNeg, reduceCtorEq, hps, hl, h0, h1, h4, h5, h6, h8]
  · have hkk : (k = 0) = False := by simp; omega
    have htn : t ≠ st.nx + 5 + 3 := by omega
    have hb : k * 19 ≤ k * 19 := Nat.le_refl _
    refine W_region (fun k => by simp (decide := true) (disch := first | omega | (simp (decide := true) only [List.length_set, hl]; done) | fail) only [sims, evRegion, evOps, evOp, evG, evR, guardT, callee, opRes, pureR, binT, unT, T.cells, T.leaf, fillT, splice, Nat.reduceLT, Nat.reduceAdd, Nat.reduceMul, Nat.reduceLeDiff, Nat.reduceEqDiff, reduceIte, Int.reduceBEq, Int.reduceBNe, Int.reduceLT, Int.reduceLE, Int.reduceGT, Int.reduceGE, Int.reduceNeg, reduceCtorEq, hps, cellsOf, h7, h8, gt, hzl, hzb, hzal, hzalf, hzall, hsp, hce, hr1, hr2, hcl, hcr, hb]; rfl) (.inr (.inl ⟨by simp, rfl, ?_⟩))
    refine next _ ⟨?_, ?_, ?_, ?_, ?_, ?_, fun t' ht => ?_, ?_, .inr ⟨by omega, st.nx + 5 + 4, ?_, ?_, ?_, ?_⟩, ?_⟩
    rotate_left 6
    · rw [← hg t' ht]
      simp (decide := true) (disch := first | omega | (simp (decide := true) only [List.length_set, hl]; done) | fail) only [sims, evRegion, evOps, evOp, evG, evR, guardT, callee, opRes, pureR, binT, unT, T.cells, T.leaf, fillT, splice, Nat.reduceLT, Nat.reduceAdd, Nat.reduceMul, Nat.reduceLeDiff, Nat.reduceEqDiff, reduceIte, Int.reduceBEq, Int.reduceBNe, Int.reduceLT, Int.reduceLE, Int.reduceGT, Int.reduceGE, Int.reduceNeg, reduceCtorEq, hps]
    · exact Nat.le_add_right_of_le (Nat.le_add_right_of_le hnx)
    · omega
    · show st.nx + 5 + 4 < st.nx + 5 + 6; omega
    · simp (decide := true) (disch := first | omega | (simp (decide := true) only [List.length_set, hl]; done) | fail) only [sims, evRegion, evOps, evOp, evG, evR, guardT, callee, opRes, pureR, binT, unT, T.cells, T.leaf, fillT, splice, Nat.reduceLT, Nat.reduceAdd, Nat.reduceMul, Nat.reduceLeDiff, Nat.reduceEqDiff, reduceIte, Int.reduceBEq, Int.reduceBNe, Int.reduceLT, Int.reduceLE, Int.reduceGT, Int.reduceGE, Int.reduceNeg, reduceCtorEq, hps] <;> rfl
    · rw [hrk1, hrs]
      simp (decide := true) (disch := first | omega | (simp (decide := true) only [List.length_set, hl]; done) | fail) only [sims, evRegion, evOps, evOp, evG, evR, guardT, callee, opRes, pureR, binT, unT, T.cells, T.leaf, fillT, splice, Nat.reduceLT, Nat.reduceAdd, Nat.reduceMul, Nat.reduceLeDiff, Nat.reduceEqDiff, reduceIte, Int.reduceBEq, Int.reduceBNe, Int.reduceLT, Int.reduceLE, Int.reduceGT, Int.reduceGE, Int.reduceNeg, reduceCtorEq, hps] <;> rfl
    all_goals simp (decide := true) (disch := first | omega | (simp (decide := true) only [List.length_set, hl]; done) | fail) only [sims, evRegion, evOps, evOp, evG, evR, guardT, callee, opRes, pureR, binT, unT, T.cells, T.leaf, fillT, splice, Nat.reduceLT, Nat.reduceAdd, Nat.reduceMul, Nat.reduceLeDiff, Nat.reduceEqDiff, reduceIte, Int.reduceBEq, Int.reduceBNe, Int.reduceLT, Int.reduceLE, Int.reduceGT, Int.reduceGE, Int.reduceNeg, reduceCtorEq, hps, hl, h0, h1, h4, h5, h6, h8]
end Go.Proofs.Ythanlobfjpjegaa.Abs
