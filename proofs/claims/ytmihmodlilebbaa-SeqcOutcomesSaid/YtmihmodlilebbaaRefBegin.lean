/- The beginning, by the given function. -/
import Derived.Test.YtmihmodlilebbaaRun2
namespace Go.Proofs.Ytmihmodlilebbaa.Abs
open Go Go.RowKit Fn
set_option linter.unusedVariables false
set_option linter.unusedSimpArgs false
set_option linter.unnecessarySimpa false
set_option maxRecDepth 100000
set_option maxHeartbeats 1000000

theorem ap20 : ap 20 = some f20 := rfl
theorem p20 : f20.pure = true := rfl
theorem n20 : f20.nat = none := rfl
theorem ap22 : ap 22 = some f22 := rfl
theorem p22 : f22.pure = true := rfl
theorem n22 : f22.nat = none := rfl
def RefS (s : PS) (t : T) : Prop := ∃ fm fa fs cs, t = .agg [.imm fm s.mem.length (wordsT s.mem), .imm fa s.far.length (intsT s.far), .imm fs s.seen.length cs] ∧ SeenT cs s.seen
/-- A slice of single cells that grows. -/
def AccW (g : Mem) (v : T) (cells : List T) (lo hi : Nat) : Prop := (cells = [] ∧ v = .imm true 0 []) ∨ (0 < cells.length ∧ ∃ b, lo ≤ b ∧ b < hi ∧ v = .own b 0 cells.length 1 ∧ g b = some cells)
theorem AccW.mono {g g' : Mem} {v : T} {cells : List T} {lo lo' hi hi' : Nat} (h : AccW g v cells lo hi) (hl : lo' ≤ lo) (hh : hi ≤ hi') (hg : ∀ t, lo ≤ t → t < hi → g' t = g t) : AccW g' v cells lo' hi' := by
  rcases h with h | ⟨h0, b, h1, h2, h3, h4⟩
  · exact .inl h
  · exact .inr ⟨h0, b, by omega, by omega, h3, by rw [hg b h1 h2]; exact h4⟩
theorem AccW.leaf {g : Mem} {v : T} {cells : List T} {lo hi : Nat} (h : AccW g v cells lo hi) : T.leaf v = true := by
  rcases h with ⟨_, rfl⟩ | ⟨_, b, _, _, rfl, _⟩ <;> rfl
theorem AccW.frz {g : Mem} {nx d : Nat} {v : T} {cells : List T} {lo hi : Nat} (h : AccW g v cells lo hi) (hs : ∀ x ∈ cells, Still x) : ∃ f, ∃ ids, frz ⟨g, nx⟩ (d + 2) v = some (.imm f cells.length cells, ids) := by
  rcases h with ⟨rfl, rfl⟩ | ⟨_, b, _, _, rfl, h4⟩
  · exact ⟨true, [], rfl⟩
  · exact ⟨false, frz_own h4 (by omega) (frzAll_still hs)⟩
theorem words_rep (n : Nat) : wordsT (List.replicate n 0) = List.replicate n (.int .u32 0) := by unfold wordsT; rw [List.map_replicate]
theorem ints_rep (n : Nat) : intsT (List.replicate n 0) = List.replicate n (.int .i64 0) := by unfold intsT; rw [List.map_replicate]; rfl
def rbL1 : ACode := match f22.body with | .seq _ (.seq _ (.seq (.seq _ (.block _ (.loop c))) _)) => c | _ => .skip
def rbL2 : ACode := match f22.body with | .seq _ (.seq _ (.seq _ (.seq (.seq _ (.block _ (.loop c))) _))) => c | _ => .skip
theorem rb_l1 (pt : T) (locs : Int) (m : Nat) (hm : m = min locs.toNat 8) (Q : AExit → St → Prop)
    (hQe : ∀ st : St, (∃ vm, st.s.length = 39 ∧ rho st.s (.tmp 0) = pt ∧ rho st.s (.tmp 4) = .ptr 0 0 ∧ rho st.s (.tmp 5) = .ptr 1 0 ∧ st.g 0 = some [.imm true 0 [], .imm true 0 [], .imm true 0 []] ∧ st.g 1 = some [vm, .imm true 0 [], .imm true 0 []] ∧ AccW st.g vm (List.replicate m (.int .u32 0)) 2 st.nx ∧ 2 ≤ st.nx) → Q (.exit 0) st) :
    ∀ (d : Nat) (st : St), (∃ (i : Nat) (vm : T), st.s.length = 39 ∧ rho st.s (.tmp 0) = pt ∧ rho st.s (.tmp 1) = .int .i64 locs ∧ rho st.s (.tmp 4) = .ptr 0 0 ∧ rho st.s (.tmp 5) = .ptr 1 0 ∧ rho st.s (.tmp 6) = .int .i64 (i : Int) ∧ st.g 0 = some [.imm true 0 [], .imm true 0 [], .imm true 0 []] ∧ st.g 1 = some [vm, .imm true 0 [], .imm true 0 []] ∧ AccW st.g vm (List.replicate i (.int .u32 0)) 2 st.nx ∧ 2 ≤ st.nx ∧ i ≤ m ∧ d = m - i) → W ap (.loop rbL1) st Q := by
  refine W_loop _ ?_
  rintro d st ⟨i, vm, hl, h0, h1, h4, h5, h6, g0, g1, hA, hnx, hi, hd⟩
  by_cases hend : i = m
  · have fin : ∀ st' : St, (st'.s.length = 39 ∧ rho st'.s (.tmp 0) = pt ∧ rho st'.s (.tmp 4) = .ptr 0 0 ∧ rho st'.s (.tmp 5) = .ptr 1 0 ∧ st'.g = st.g ∧ st.nx ≤ st'.nx) → Q (.exit 0) st' := by
      rintro st' ⟨a, b, c, e, f, h⟩
      refine hQe _ ⟨vm, a, b, c, e, by rw [f]; exact g0, by rw [f]; exact g1, ?_, by omega⟩
      rw [hend] at hA
      exact hA.mono (Nat.le_refl _) h (fun t _ _ => by rw [f])
    by_cases hlo : (i : Int) < locs
    · have d1 : decide ((i : Int) < locs) = true := decide_eq_true hlo
      have d2 : decide ((i : Int) < 8) = false := decide_eq_false (by omega)
      refine W_seq (W_seqn (W_region (fun k => by simp (decide := true) (disch := first | omega | (simp (decide := true) only [List.length_set, hl]; done) | fail) only [sims, evRegion, evOps, evOp, evG, evR, guardT, callee, opRes, pureR, binT, unT, T.cells, T.leaf, fillT, splice, Nat.reduceLT, Nat.reduceAdd, Nat.reduceMul, Nat.reduceLeDiff, Nat.reduceEqDiff, reduceIte, Int.reduceBEq, Int.reduceBNe, Int.reduceLT, Int.reduceLE, Int.reduceGT, Int.reduceGE, Int.reduceNeg, reduceCtorEq, h1, h6, d1, d2]; rfl) ⟨rfl, W_false (by simp (decide := true) (disch := first | omega | (simp (decide := true) only [List.length_set, hl]; done) | fail) only [sims, evRegion, evOps, evOp, evG, evR, guardT, callee, opRes, pureR, binT, unT, T.cells, T.leaf, fillT, splice, Nat.reduceLT, Nat.reduceAdd, Nat.reduceMul, Nat.reduceLeDiff, Nat.reduceEqDiff, reduceIte, Int.reduceBEq, Int.reduceBNe, Int.reduceLT, Int.reduceLE, Int.reduceGT, Int.reduceGE, Int.reduceNeg, reduceCtorEq] <;> rfl) (W_exit ?_)⟩))
      refine (.inr ⟨by simp, .inr ⟨by simp, fin _ ⟨?_, ?_, ?_, ?_, rfl, Nat.le_add_right _ _⟩⟩⟩)
      all_goals simp (decide := true) (disch := first | omega | (simp (decide := true) only [List.length_set, hl]; done) | fail) only [sims, evRegion, evOps, evOp, evG, evR, guardT, callee, opRes, pureR, binT, unT, T.cells, T.leaf, fillT, splice, Nat.reduceLT, Nat.reduceAdd, Nat.reduceMul, Nat.reduceLeDiff, Nat.reduceEqDiff, reduceIte, Int.reduceBEq, Int.reduceBNe, Int.reduceLT, Int.reduceLE, Int.reduceGT, Int.reduceGE, Int.reduceNeg, reduceCtorEq, hl, h0, h4, h5]
    · have d1 : decide ((i : Int) < locs) = false := decide_eq_false hlo
      refine W_seq (W_seqn (W_region (fun k => by simp (decide := true) (disch := first | omega | (simp (decide := true) only [List.length_set, hl]; done) | fail) only [sims, evRegion, evOps, evOp, evG, evR, guardT, callee, opRes, pureR, binT, unT, T.cells, T.leaf, fillT, splice, Nat.reduceLT, Nat.reduceAdd, Nat.reduceMul, Nat.reduceLeDiff, Nat.reduceEqDiff, reduceIte, Int.reduceBEq, Int.reduceBNe, Int.reduceLT, Int.reduceLE, Int.reduceGT, Int.reduceGE, Int.reduceNeg, reduceCtorEq, h1, h6, d1]; rfl) ⟨rfl, W_false (by simp (decide := true) (disch := first | omega | (simp (decide := true) only [List.length_set, hl]; done) | fail) only [sims, evRegion, evOps, evOp, evG, evR, guardT, callee, opRes, pureR, binT, unT, T.cells, T.leaf, fillT, splice, Nat.reduceLT, Nat.reduceAdd, Nat.reduceMul, Nat.reduceLeDiff, Nat.reduceEqDiff, reduceIte, Int.reduceBEq, Int.reduceBNe, Int.reduceLT, Int.reduceLE, Int.reduceGT, Int.reduceGE, Int.reduceNeg, reduceCtorEq] <;> rfl) (W_exit ?_)⟩))
      refine (.inr ⟨by simp, .inr ⟨by simp, fin _ ⟨?_, ?_, ?_, ?_, rfl, Nat.le_add_right _ _⟩⟩⟩)
      all_goals simp (decide := true) (disch := first | omega | (simp (decide := true) only [List.length_set, hl]; done) | fail) only [sims, evRegion, evOps, evOp, evG, evR, guardT, callee, opRes, pureR, binT, unT, T.cells, T.leaf, fillT, splice, Nat.reduceLT, Nat.reduceAdd, Nat.reduceMul, Nat.reduceLeDiff, Nat.reduceEqDiff, reduceIte, Int.reduceBEq, Int.reduceBNe, Int.reduceLT, Int.reduceLE, Int.reduceGT, Int.reduceGE, Int.reduceNeg, reduceCtorEq, hl, h0, h4, h5]
  have d1 : decide ((i : Int) < locs) = true := decide_eq_true (by omega)
  have d2 : decide ((i : Int) < 8) = true := decide_eq_true (by omega)
  have hw2 : IntKind.i64.wrap ((i : Int) + 1) = ((i + 1 : Nat) : Int) := by rw [wrap_id (by omega)]; omega
  have hc1 : cut [T.int .u32 0] 0 1 = [T.int .u32 0] := rfl
  have hr3 : (0 + 1) * 4 ≤ 549755813888 := by omega
  have hrs : List.replicate (i + 1) (T.int .u32 0) = List.replicate i (.int .u32 0) ++ [.int .u32 0] := List.replicate_succ'
  have hlr : (List.replicate (i + 1) (T.int .u32 0)).length = i + 1 := List.length_replicate
  refine W_seqn (W_seqn (W_region (fun k => by simp (decide := true) (disch := first | omega | (simp (decide := true) only [List.length_set, hl]; done) | fail) only [sims, evRegion, evOps, evOp, evG, evR, guardT, callee, opRes, pureR, binT, unT, T.cells, T.leaf, fillT, splice, Nat.reduceLT, Nat.reduceAdd, Nat.reduceMul, Nat.reduceLeDiff, Nat.reduceEqDiff, reduceIte, Int.reduceBEq, Int.reduceBNe, Int.reduceLT, Int.reduceLE, Int.reduceGT, Int.reduceGE, Int.reduceNeg, reduceCtorEq, h1, h6, d1, d2]; rfl) ⟨rfl, W_true (by simp (decide := true) (disch := first | omega | (simp (decide := true) only [List.length_set, hl]; done) | fail) only [sims, evRegion, evOps, evOp, evG, evR, guardT, callee, opRes, pureR, binT, unT, T.cells, T.leaf, fillT, splice, Nat.reduceLT, Nat.reduceAdd, Nat.reduceMul, Nat.reduceLeDiff, Nat.reduceEqDiff, reduceIte, Int.reduceBEq, Int.reduceBNe, Int.reduceLT, Int.reduceLE, Int.reduceGT, Int.reduceGE, Int.reduceNeg, reduceCtorEq] <;> rfl) (W_skip ⟨rfl, ?_⟩)⟩))
  have next : ∀ (st' : St) (vm' : T), (st'.s.length = 39 ∧ rho st'.s (.tmp 0) = pt ∧ rho st'.s (.tmp 1) = .int .i64 locs ∧ rho st'.s (.tmp 4) = .ptr 0 0 ∧ rho st'.s (.tmp 5) = .ptr 1 0 ∧ rho st'.s (.tmp 6) = .int .i64 (i : Int) ∧ st'.g 0 = some [.imm true 0 [], .imm true 0 [], .imm true 0 []] ∧ st'.g 1 = some [vm', .imm true 0 [], .imm true 0 []] ∧ AccW st'.g vm' (List.replicate (i + 1) (.int .u32 0)) 2 st'.nx ∧ 2 ≤ st'.nx) → W ap (.region [⟨some 15, .mv (.tmp 6), none⟩, ⟨some 16, .bin .add (.tmp 15) (.con (.int .i64 1)), none⟩, ⟨some 6, .mv (.tmp 16), none⟩] []) st' (fun e s' => (e = .normal ∧ ∃ d', d' < d ∧ ∃ (i : Nat) (vm : T), s'.s.length = 39 ∧ rho s'.s (.tmp 0) = pt ∧ rho s'.s (.tmp 1) = .int .i64 locs ∧ rho s'.s (.tmp 4) = .ptr 0 0 ∧ rho s'.s (.tmp 5) = .ptr 1 0 ∧ rho s'.s (.tmp 6) = .int .i64 (i : Int) ∧ s'.g 0 = some [.imm true 0 [], .imm true 0 [], .imm true 0 []] ∧ s'.g 1 = some [vm, .imm true 0 [], .imm true 0 []] ∧ AccW s'.g vm (List.replicate i (.int .u32 0)) 2 s'.nx ∧ 2 ≤ s'.nx ∧ i ≤ m ∧ d' = m - i) ∨ (e ≠ .normal ∧ Q e s')) := by
    rintro ⟨sl, g, nx⟩ vm' ⟨hl, h0, h1, h4, h5, h6, g0, g1, hA, hnx⟩
    simp only at hl h0 h1 h4 h5 h6 g0 g1 hA hnx
    refine W_region (fun k => by simp (decide := true) (disch := first | omega | (simp (decide := true) only [List.length_set, hl]; done) | fail) only [sims, evRegion, evOps, evOp, evG, evR, guardT, callee, opRes, pureR, binT, unT, T.cells, T.leaf, fillT, splice, Nat.reduceLT, Nat.reduceAdd, Nat.reduceMul, Nat.reduceLeDiff, Nat.reduceEqDiff, reduceIte, Int.reduceBEq, Int.reduceBNe, Int.reduceLT, Int.reduceLE, Int.reduceGT, Int.reduceGE, Int.reduceNeg, reduceCtorEq, h6, hw2]; rfl) ?_
    refine .inl ⟨rfl, m - (i + 1), by omega, i + 1, vm', ?_, ?_, ?_, ?_, ?_, ?_, g0, g1, hA.mono (Nat.le_refl _) (Nat.le_add_right _ _) (fun t _ _ => rfl), Nat.le_add_right_of_le hnx, by omega, rfl⟩
    all_goals simp (decide := true) (disch := first | omega | (simp (decide := true) only [List.length_set, hl]; done) | fail) only [sims, evRegion, evOps, evOp, evG, evR, guardT, callee, opRes, pureR, binT, unT, T.cells, T.leaf, fillT, splice, Nat.reduceLT, Nat.reduceAdd, Nat.reduceMul, Nat.reduceLeDiff, Nat.reduceEqDiff, reduceIte, Int.reduceBEq, Int.reduceBNe, Int.reduceLT, Int.reduceLE, Int.reduceGT, Int.reduceGE, Int.reduceNeg, reduceCtorEq, hl, h0, h1, h4, h5]
  refine W_seqn (W_block ?_)
  rcases hA with ⟨hz, hv⟩ | ⟨h0i, b, hb1, hb2, hv, gb⟩
  · have hi0 : i = 0 := by simpa using hz
    subst hi0
    subst hv
    refine W_region (fun k => by simp (decide := true) (disch := first | omega | (simp (decide := true) only [List.length_set, hl]; done) | fail) only [sims, evRegion, evOps, evOp, evG, evR, guardT, callee, opRes, pureR, binT, unT, T.cells, T.leaf, fillT, splice, Nat.reduceLT, Nat.reduceAdd, Nat.reduceMul, Nat.reduceLeDiff, Nat.reduceEqDiff, reduceIte, Int.reduceBEq, Int.reduceBNe, Int.reduceLT, Int.reduceLE, Int.reduceGT, Int.reduceGE, Int.reduceNeg, reduceCtorEq, hps, cellsOf, h5, g1, hc1, hr3, List.all]; rfl) (.inr (.inl ⟨by simp, rfl, ?_⟩))
    refine next _ (.own (st.nx + 7 + 3) 0 1 1) ⟨?_, ?_, ?_, ?_, ?_, ?_, ?_, ?_, .inr ⟨by rw [hlr]; omega, st.nx + 7 + 3, by omega, by show st.nx + 7 + 3 < st.nx + 7 + 6; omega, rfl, ?_⟩, Nat.le_add_right_of_le (Nat.le_add_right_of_le hnx)⟩
    all_goals first | (simp (decide := true) (disch := first | omega | (simp (decide := true) only [List.length_set, hl]; done) | fail) only [sims, evRegion, evOps, evOp, evG, evR, guardT, callee, opRes, pureR, binT, unT, T.cells, T.leaf, fillT, splice, Nat.reduceLT, Nat.reduceAdd, Nat.reduceMul, Nat.reduceLeDiff, Nat.reduceEqDiff, reduceIte, Int.reduceBEq, Int.reduceBNe, Int.reduceLT, Int.reduceLE, Int.reduceGT, Int.reduceGE, Int.reduceNeg, reduceCtorEq, hps, hl, h0, h1, h4, h5, h6, g0]; done) | (simp (decide := true) (disch := first | omega | (simp (decide := true) only [List.length_set, hl]; done) | fail) only [sims, evRegion, evOps, evOp, evG, evR, guardT, callee, opRes, pureR, binT, unT, T.cells, T.leaf, fillT, splice, Nat.reduceLT, Nat.reduceAdd, Nat.reduceMul, Nat.reduceLeDiff, Nat.reduceEqDiff, reduceIte, Int.reduceBEq, Int.reduceBNe, Int.reduceLT, Int.reduceLE, Int.reduceGT, Int.reduceGE, Int.reduceNeg, reduceCtorEq, hps, hl, h0, h1, h4, h5, h6, g0]; rfl)
  · rw [List.length_replicate] at h0i hv
    subst hv
    have hcl : (List.replicate i (T.int .u32 0)).length = i := List.length_replicate
    have hcb : cut (List.replicate i (T.int .u32 0)) 0 (i * 1) = List.replicate i (T.int .u32 0) := cut_all (by rw [hcl]; omega)
    have hr4 : (i + 1) * 4 ≤ 549755813888 := by omega
    have hr5 : i + 1 ≤ 549755813888 := by omega
    have hle : i * 1 ≤ i := by omega
    generalize hri : List.replicate i (T.int .u32 0) = ri at *
    refine W_region (fun k => by simp (decide := true) (disch := first | omega | (simp (decide := true) only [List.length_set, hl]; done) | fail) only [sims, evRegion, evOps, evOp, evG, evR, guardT, callee, opRes, pureR, binT, unT, T.cells, T.leaf, fillT, splice, Nat.reduceLT, Nat.reduceAdd, Nat.reduceMul, Nat.reduceLeDiff, Nat.reduceEqDiff, reduceIte, Int.reduceBEq, Int.reduceBNe, Int.reduceLT, Int.reduceLE, Int.reduceGT, Int.reduceGE, Int.reduceNeg, reduceCtorEq, hps, cellsOf, h5, g1, gb, hcl, hcb, hle, hc1, hr4, hr5, List.all]; rfl) (.inr (.inl ⟨by simp, rfl, ?_⟩))
    refine next _ (.own (st.nx + 7 + 3) 0 (i + 1) 1) ⟨?_, ?_, ?_, ?_, ?_, ?_, ?_, ?_, .inr ⟨by rw [hlr]; omega, st.nx + 7 + 3, by omega, by show st.nx + 7 + 3 < st.nx + 7 + 6; omega, by rw [hlr], ?_⟩, Nat.le_add_right_of_le (Nat.le_add_right_of_le hnx)⟩
    rotate_right 1
    · rw [hrs]
      simp (decide := true) (disch := first | omega | (simp (decide := true) only [List.length_set, hl]; done) | fail) only [sims, evRegion, evOps, evOp, evG, evR, guardT, callee, opRes, pureR, binT, unT, T.cells, T.leaf, fillT, splice, Nat.reduceLT, Nat.reduceAdd, Nat.reduceMul, Nat.reduceLeDiff, Nat.reduceEqDiff, reduceIte, Int.reduceBEq, Int.reduceBNe, Int.reduceLT, Int.reduceLE, Int.reduceGT, Int.reduceGE, Int.reduceNeg, reduceCtorEq, hps] <;> rfl
    all_goals first | (simp (decide := true) (disch := first | omega | (simp (decide := true) only [List.length_set, hl]; done) | fail) only [sims, evRegion, evOps, evOp, evG, evR, guardT, callee, opRes, pureR, binT, unT, T.cells, T.leaf, fillT, splice, Nat.reduceLT, Nat.reduceAdd, Nat.reduceMul, Nat.reduceLeDiff, Nat.reduceEqDiff, reduceIte, Int.reduceBEq, Int.reduceBNe, Int.reduceLT, Int.reduceLE, Int.reduceGT, Int.reduceGE, Int.reduceNeg, reduceCtorEq, hps, hl, h0, h1, h4, h5, h6, g0]; done) | (simp (decide := true) (disch := first | omega | (simp (decide := true) only [List.length_set, hl]; done) | fail) only [sims, evRegion, evOps, evOp, evG, evR, guardT, callee, opRes, pureR, binT, unT, T.cells, T.leaf, fillT, splice, Nat.reduceLT, Nat.reduceAdd, Nat.reduceMul, Nat.reduceLeDiff, Nat.reduceEqDiff, reduceIte, Int.reduceBEq, Int.reduceBNe, Int.reduceLT, Int.reduceLE, Int.reduceGT, Int.reduceGE, Int.reduceNeg, reduceCtorEq, hps, hl, h0, h1, h4, h5, h6, g0]; rfl)
end Go.Proofs.Ytmihmodlilebbaa.Abs
