/- A way is used: the given function, whole. -/
import Derived.Test.YthanlobfjpjegaaRtouch
namespace Go.Proofs.Ythanlobfjpjegaa.Abs
open Go Go.RowKit Fn
set_option linter.unusedVariables false
set_option linter.unusedSimpArgs false
set_option linter.unnecessarySimpa false
set_option maxRecDepth 100000

theorem rows_copy {g : Mem} {v : T} {R : List (List Way)} {lo hi : Nat} (h : CopyAt g v R lo hi R.length) (h0 : 0 < R.length) : ∃ A els, v = .own A 0 R.length 1 ∧ g A = some els ∧ lo < A ∧ RowsAt g els R := by
  rcases h with ⟨h, _⟩ | ⟨_, A, els, bf, h1, h2, h3, h4, h5, h6⟩
  · omega
  · refine ⟨A, els, h1, h2, by obtain ⟨_, _, a, b, _⟩ := h6 0 h0; omega, h3, fun j hj => ?_⟩
    obtain ⟨a, b, _⟩ := h6 j hj
    unfold rowN at a b
    rw [List.getElem?_eq_getElem hj, Option.getD_some] at a b
    exact ⟨bf j, a, b⟩
/-- A copy, frozen. -/
theorem frz_copy {g : Mem} {nx d lo hi : Nat} {v : T} {R : List (List Way)} (hw : ∀ l ∈ R, ∀ w ∈ l, w.wf) (h : CopyAt g v R lo hi R.length) : ∃ f ys ids, frz ⟨g, nx⟩ (d + 4) (.agg [v]) = some (.agg [.imm f R.length ys], ids) ∧ Tells ys R := by
  by_cases h0 : R.length = 0
  · rcases h with ⟨_, rfl⟩ | ⟨h1, _⟩
    · exact ⟨true, [], [], by rw [h0]; rfl, by rw [h0]; rfl, fun i hi => by omega⟩
    · omega
  · obtain ⟨A, els, rfl, h2, _, h3⟩ := rows_copy h (by omega)
    obtain ⟨ids, h4⟩ := frz_copied (nx := nx) (d := d) hw h2 h3
    exact ⟨false, _, ids, h4, tells_rows R⟩
theorem fin_cellV {F : AFun} {t p : Nat} {v w : T} (hF : F.res = [.cell t false 1]) {s : List T} {g : Mem} {nx : Nat} {ids : List Nat} (hv : frz ⟨g, nx⟩ frzDepth (.agg [v]) = some (w, ids)) (hs : rho s (.tmp t) = .ptr p 0) (hg : g p = some [v]) : AExit.ret.leaves = true ∧ ∃ u ids, resT s g F.res = some u ∧ frz ⟨g, nx⟩ frzDepth u = some (w, ids) := by
  refine ⟨rfl, .agg [v], ids, ?_, hv⟩
  rw [hF]
  simp only [resT, resL, resOne, opRes, hs, hg]
  rfl
theorem E_bodyV {AP : AProg} {f : Nat} {F : AFun} (hF : AP f = some F) (hp : F.pure = true) (hn : F.nat = none) {args : List T} {P : T → Prop} (h : W AP F.body ⟨args ++ List.replicate (F.ntmps - args.length) .undef, fun _ => none, 0⟩ (fun e st => e.leaves = true ∧ ∃ v, P v ∧ ∃ u ids, resT st.s st.g F.res = some u ∧ frz ⟨st.g, st.nx⟩ frzDepth u = some (v, ids))) : ∃ v, E AP f args v ∧ P v := by
  obtain ⟨k, e, st, h1, h2, v, hv, u, ids, h3, h4⟩ := h
  exact ⟨v, E_body hF hp hn ⟨k, e, st, h1, h2, u, ids, h3, h4⟩, hv⟩
/-- What a function gives that is a cache of rows R. -/
def CacheOf (R : List (List Way)) (v : T) : Prop := ∃ f ys, v = .agg [.imm f R.length ys] ∧ Tells ys R
theorem ref_touch (fx : Bool) (R : List (List Way)) (xs : List T) (hx : Tells xs R) (hR : R.length ≤ 1000) (hw : ∀ l ∈ R, l.length ≤ 1000 ∧ ∀ w ∈ l, w.wf) (a b : Int) :
    ∃ v, E ap 20 [.agg [.imm fx R.length xs], .int .i64 a, .int .i64 b] v ∧ CacheOf (touchR R a b) v := by
  refine E_bodyV (F := f20) rfl rfl rfl (P := CacheOf (touchR R a b)) ?_
  generalize hs0 : (_ : List T) ++ List.replicate _ T.undef = s0
  have e0 : s0.length = 73 ∧ rho s0 (.tmp 0) = .agg [.imm fx R.length xs] ∧ rho s0 (.tmp 1) = .int .i64 a ∧ rho s0 (.tmp 2) = .int .i64 b := by subst hs0; exact ⟨rfl, rfl, rfl, rfl⟩
  clear hs0
  obtain ⟨hl, h0, h1, h2⟩ := e0
  have hleaf : allLeaf [T.imm fx R.length xs] = true := rfl
  have hc1 : cut [T.imm fx R.length xs] 0 1 = [T.imm fx R.length xs] := rfl
  have hxl := hx.1
  refine W_seqn (W_region (fun k => by simp (decide := true) (disch := first | omega | (simp (decide := true) only [List.length_set, hl]; done) | fail) only [sims, evRegion, evOps, evOp, evG, evR, guardT, callee, opRes, pureR, binT, unT, T.cells, T.leaf, fillT, splice, Nat.reduceLT, Nat.reduceAdd, Nat.reduceMul, Nat.reduceLeDiff, Nat.reduceEqDiff, reduceIte, Int.reduceBEq, Int.reduceBNe, Int.reduceLT, Int.reduceLE, Int.reduceGT, Int.reduceGE, Int.reduceNeg, reduceCtorEq, hps, h0, hleaf]; rfl) ⟨rfl, ?_⟩)
  refine W_abs (fun st => st.s.length = 73 ∧ rho st.s (.tmp 1) = .int .i64 a ∧ rho st.s (.tmp 2) = .int .i64 b ∧ rho st.s (.tmp 3) = .ptr 0 0 ∧ rho st.s (.tmp 6) = .ptr 1 0 ∧ st.g 0 = some [.imm fx R.length xs] ∧ st.g 1 = some [.imm true 0 []] ∧ st.nx = 2) ⟨by simp (decide := true) (disch := first | omega | (simp (decide := true) only [List.length_set, hl]; done) | fail) only [sims, evRegion, evOps, evOp, evG, evR, guardT, callee, opRes, pureR, binT, unT, T.cells, T.leaf, fillT, splice, Nat.reduceLT, Nat.reduceAdd, Nat.reduceMul, Nat.reduceLeDiff, Nat.reduceEqDiff, reduceIte, Int.reduceBEq, Int.reduceBNe, Int.reduceLT, Int.reduceLE, Int.reduceGT, Int.reduceGE, Int.reduceNeg, reduceCtorEq, hps, hl], by simp (decide := true) (disch := first | omega | (simp (decide := true) only [List.length_set, hl]; done) | fail) only [sims, evRegion, evOps, evOp, evG, evR, guardT, callee, opRes, pureR, binT, unT, T.cells, T.leaf, fillT, splice, Nat.reduceLT, Nat.reduceAdd, Nat.reduceMul, Nat.reduceLeDiff, Nat.reduceEqDiff, reduceIte, Int.reduceBEq, Int.reduceBNe, Int.reduceLT, Int.reduceLE, Int.reduceGT, Int.reduceGE, Int.reduceNeg, reduceCtorEq, hps, h1], by simp (decide := true) (disch := first | omega | (simp (decide := true) only [List.length_set, hl]; done) | fail) only [sims, evRegion, evOps, evOp, evG, evR, guardT, callee, opRes, pureR, binT, unT, T.cells, T.leaf, fillT, splice, Nat.reduceLT, Nat.reduceAdd, Nat.reduceMul, Nat.reduceLeDiff, Nat.reduceEqDiff, reduceIte, Int.reduceBEq, Int.reduceBNe, Int.reduceLT, Int.reduceLE, Int.reduceGT, Int.reduceGE, Int.reduceNeg, reduceCtorEq, hps, h2], by simp (decide := true) (disch := first | omega | (simp (decide := true) only [List.length_set, hl]; done) | fail) only [sims, evRegion, evOps, evOp, evG, evR, guardT, callee, opRes, pureR, binT, unT, T.cells, T.leaf, fillT, splice, Nat.reduceLT, Nat.reduceAdd, Nat.reduceMul, Nat.reduceLeDiff, Nat.reduceEqDiff, reduceIte, Int.reduceBEq, Int.reduceBNe, Int.reduceLT, Int.reduceLE, Int.reduceGT, Int.reduceGE, Int.reduceNeg, reduceCtorEq, hps], by simp (decide := true) (disch := first | omega | (simp (decide := true) only [List.length_set, hl]; done) | fail) only [sims, evRegion, evOps, evOp, evG, evR, guardT, callee, opRes, pureR, binT, unT, T.cells, T.leaf, fillT, splice, Nat.reduceLT, Nat.reduceAdd, Nat.reduceMul, Nat.reduceLeDiff, Nat.reduceEqDiff, reduceIte, Int.reduceBEq, Int.reduceBNe, Int.reduceLT, Int.reduceLE, Int.reduceGT, Int.reduceGE, Int.reduceNeg, reduceCtorEq, hps], by simp (decide := true) (disch := first | omega | (simp (decide := true) only [List.length_set, hl]; done) | fail) only [sims, evRegion, evOps, evOp, evG, evR, guardT, callee, opRes, pureR, binT, unT, T.cells, T.leaf, fillT, splice, Nat.reduceLT, Nat.reduceAdd, Nat.reduceMul, Nat.reduceLeDiff, Nat.reduceEqDiff, reduceIte, Int.reduceBEq, Int.reduceBNe, Int.reduceLT, Int.reduceLE, Int.reduceGT, Int.reduceGE, Int.reduceNeg, reduceCtorEq, hps], by simp (decide := true) (disch := first | omega | (simp (decide := true) only [List.length_set, hl]; done) | fail) only [sims, evRegion, evOps, evOp, evG, evR, guardT, callee, opRes, pureR, binT, unT, T.cells, T.leaf, fillT, splice, Nat.reduceLT, Nat.reduceAdd, Nat.reduceMul, Nat.reduceLeDiff, Nat.reduceEqDiff, reduceIte, Int.reduceBEq, Int.reduceBNe, Int.reduceLT, Int.reduceLE, Int.reduceGT, Int.reduceGE, Int.reduceNeg, reduceCtorEq, hps], by show (0 + 2 : Nat) = 2; rfl⟩ ?_
  clear hl h0 h1 h2
  rintro ⟨s, g, nx⟩ ⟨hl, h1, h2, h3, h6, g0, g1, hnx⟩
  simp only at hl h1 h2 h3 h6 g0 g1 hnx
  subst hnx
  obtain ⟨N, v, g', nx', hN, c, rfl, hC, hg', hnx'⟩ := copied_run fx R xs hx hR hw g (2 + 4)
  have q41 := hN N (Nat.le_refl _)
  have w0' : g' 0 = some [.imm fx R.length xs] := by rw [hg' 0 (by omega)]; exact g0
  have w1' : g' 1 = some [.imm true 0 []] := by rw [hg' 1 (by omega)]; exact g1
  have hcl : allLeaf [c] = true := by
    rcases hC with ⟨_, e⟩ | ⟨_, A, _, _, e, _⟩ <;> (subst e; rfl)
  have hc2 : cut [c] 0 1 = [c] := rfl
  refine W_seqn (W_regionN ⟨N, by simp (decide := true) (disch := first | omega | (simp (decide := true) only [List.length_set, hl]; done) | fail) only [sims, evRegion, evOps, evOp, evG, evR, guardT, callee, opRes, pureR, binT, unT, T.cells, T.leaf, fillT, splice, Nat.reduceLT, Nat.reduceAdd, Nat.reduceMul, Nat.reduceLeDiff, Nat.reduceEqDiff, reduceIte, Int.reduceBEq, Int.reduceBNe, Int.reduceLT, Int.reduceLE, Int.reduceGT, Int.reduceGE, Int.reduceNeg, reduceCtorEq, hps, evI, h3, g0, hc1, ap41, p41, n41, q41, hcl]; rfl⟩ ⟨rfl, ?_⟩)
  refine W_abs (fun st => st.s.length = 73 ∧ rho st.s (.tmp 1) = .int .i64 a ∧ rho st.s (.tmp 2) = .int .i64 b ∧ rho st.s (.tmp 3) = .ptr 0 0 ∧ rho st.s (.tmp 6) = .ptr 1 0 ∧ rho st.s (.tmp 7) = .ptr 4 0 ∧ st.g 0 = some [.imm fx R.length xs] ∧ st.g 1 = some [.imm true 0 []] ∧ st.g 4 = some [c] ∧ CopyAt st.g c R 6 nx' R.length) ?_ ?_
  · refine ⟨?_, ?_, ?_, ?_, ?_, ?_, ?_, ?_, ?_, hC.mono (Nat.le_refl _) (fun t ht1 ht2 => ?_)⟩
    rotate_right 1
    · simp (decide := true) (disch := first | omega | (simp (decide := true) only [List.length_set, hl]; done) | fail) only [sims, evRegion, evOps, evOp, evG, evR, guardT, callee, opRes, pureR, binT, unT, T.cells, T.leaf, fillT, splice, Nat.reduceLT, Nat.reduceAdd, Nat.reduceMul, Nat.reduceLeDiff, Nat.reduceEqDiff, reduceIte, Int.reduceBEq, Int.reduceBNe, Int.reduceLT, Int.reduceLE, Int.reduceGT, Int.reduceGE, Int.reduceNeg, reduceCtorEq, hps]
    all_goals first | (simp (decide := true) (disch := first | omega | (simp (decide := true) only [List.length_set, hl]; done) | fail) only [sims, evRegion, evOps, evOp, evG, evR, guardT, callee, opRes, pureR, binT, unT, T.cells, T.leaf, fillT, splice, Nat.reduceLT, Nat.reduceAdd, Nat.reduceMul, Nat.reduceLeDiff, Nat.reduceEqDiff, reduceIte, Int.reduceBEq, Int.reduceBNe, Int.reduceLT, Int.reduceLE, Int.reduceGT, Int.reduceGE, Int.reduceNeg, reduceCtorEq, hps, hl, h1, h2, h3, h6, w0', w1']; done) | (simp (decide := true) (disch := first | omega | (simp (decide := true) only [List.length_set, hl]; done) | fail) only [sims, evRegion, evOps, evOp, evG, evR, guardT, callee, opRes, pureR, binT, unT, T.cells, T.leaf, fillT, splice, Nat.reduceLT, Nat.reduceAdd, Nat.reduceMul, Nat.reduceLeDiff, Nat.reduceEqDiff, reduceIte, Int.reduceBEq, Int.reduceBNe, Int.reduceLT, Int.reduceLE, Int.reduceGT, Int.reduceGE, Int.reduceNeg, reduceCtorEq, hps, hl, h1, h2, h3, h6, w0', w1']; rfl)
  clear hl h1 h2 h3 h6 g0 g1 w0' w1' hC hg'
  rintro ⟨s, g, nx⟩ ⟨hl, h1, h2, h3, h6, h7, g0, g1, g4, hC⟩
  simp only at hl h1 h2 h3 h6 h7 g0 g1 g4 hC
  by_cases hbad : Bad R a b
  · obtain ⟨N2, c42⟩ := (is_bad fx R xs hx a b hbad).call ap42 (fun g => rfl)
    have q42 := c42 N2 (Nat.le_refl _)
    refine W_seq (W_seqn (W_regionN ⟨N2, by simp (decide := true) (disch := first | omega | (simp (decide := true) only [List.length_set, hl]; done) | fail) only [sims, evRegion, evOps, evOp, evG, evR, guardT, callee, opRes, pureR, binT, unT, T.cells, T.leaf, fillT, splice, Nat.reduceLT, Nat.reduceAdd, Nat.reduceMul, Nat.reduceLeDiff, Nat.reduceEqDiff, reduceIte, Int.reduceBEq, Int.reduceBNe, Int.reduceLT, Int.reduceLE, Int.reduceGT, Int.reduceGE, Int.reduceNeg, reduceCtorEq, hps, h3, h1, h2, g0, hc1, ap42, p42, n42, q42]; rfl⟩ ⟨rfl, W_true (by simp (decide := true) (disch := first | omega | (simp (decide := true) only [List.length_set, hl]; done) | fail) only [sims, evRegion, evOps, evOp, evG, evR, guardT, callee, opRes, pureR, binT, unT, T.cells, T.leaf, fillT, splice, Nat.reduceLT, Nat.reduceAdd, Nat.reduceMul, Nat.reduceLeDiff, Nat.reduceEqDiff, reduceIte, Int.reduceBEq, Int.reduceBNe, Int.reduceLT, Int.reduceLE, Int.reduceGT, Int.reduceGE, Int.reduceNeg, reduceCtorEq] <;> rfl) ?_⟩))
    refine W_seqn (W_region (fun k => by simp (decide := true) (disch := first | omega | (simp (decide := true) only [List.length_set, hl]; done) | fail) only [sims, evRegion, evOps, evOp, evG, evR, guardT, callee, opRes, pureR, binT, unT, T.cells, T.leaf, fillT, splice, Nat.reduceLT, Nat.reduceAdd, Nat.reduceMul, Nat.reduceLeDiff, Nat.reduceEqDiff, reduceIte, Int.reduceBEq, Int.reduceBNe, Int.reduceLT, Int.reduceLE, Int.reduceGT, Int.reduceGE, Int.reduceNeg, reduceCtorEq, hps, h7, h6, g4, g1, hc2, hcl]; rfl) ⟨rfl, W_ret ?_⟩)
    simp only [reduceCtorEq, false_and, false_or, or_false, exists_false, exists_const, ne_eq, not_false_eq_true, true_and, implies_true]
    have hC2 : CopyAt (put1 g (1, some [c])) c R 6 nx' R.length := hC.mono (Nat.le_refl _) (fun t ht1 ht2 => put1_ne (by omega))
    obtain ⟨f, ys, ids, e1, e2⟩ := frz_copy (nx := nx + 5 + 2) (d := 8) (fun l h => (hw l h).2) hC2
    refine ⟨rfl, .agg [.imm f R.length ys], by rw [touch_bad hbad]; exact ⟨f, ys, rfl, e2⟩, (fin_cellV (F := f20) (t := 6) (p := 1) rfl e1 ?_ ?_).2⟩
    · simp (decide := true) (disch := first | omega | (simp (decide := true) only [List.length_set, hl]; done) | fail) only [sims, evRegion, evOps, evOp, evG, evR, guardT, callee, opRes, pureR, binT, unT, T.cells, T.leaf, fillT, splice, Nat.reduceLT, Nat.reduceAdd, Nat.reduceMul, Nat.reduceLeDiff, Nat.reduceEqDiff, reduceIte, Int.reduceBEq, Int.reduceBNe, Int.reduceLT, Int.reduceLE, Int.reduceGT, Int.reduceGE, Int.reduceNeg, reduceCtorEq, h6]
    · simp (decide := true) (disch := first | omega | (simp (decide := true) only [List.length_set, hl]; done) | fail) only [sims, evRegion, evOps, evOp, evG, evR, guardT, callee, opRes, pureR, binT, unT, T.cells, T.leaf, fillT, splice, Nat.reduceLT, Nat.reduceAdd, Nat.reduceMul, Nat.reduceLeDiff, Nat.reduceEqDiff, reduceIte, Int.reduceBEq, Int.reduceBNe, Int.reduceLT, Int.reduceLE, Int.reduceGT, Int.reduceGE, Int.reduceNeg, reduceCtorEq, hps]
  · obtain ⟨i, w, hi, rfl, rfl, hwl⟩ := not_bad hbad
    obtain ⟨N2, c42⟩ := (is_ok fx R xs hx i w hi hwl).call ap42 (fun g => rfl)
    have q42 := c42 N2 (Nat.le_refl _)
    obtain ⟨hrl, hrw⟩ := hw _ (List.getElem_mem hi)
    obtain ⟨f, hxi⟩ := hx.2 i hi
    rcases hC with ⟨hz, _⟩ | ⟨_, A, els, bf, rfl, gA, hel, helf, hA, hrest⟩
    · omega
    obtain ⟨hei, gB, hB1, hB2, _⟩ := hrest i hi
    have hrn : ∀ j (h : j < R.length), rowN R j = R[j] := fun j h => by unfold rowN; rw [List.getElem?_eq_getElem h]; rfl
    rw [hrn i hi] at hei gB
    refine W_seqn (W_seqn (W_regionN ⟨N2, by simp (decide := true) (disch := first | omega | (simp (decide := true) only [List.length_set, hl]; done) | fail) only [sims, evRegion, evOps, evOp, evG, evR, guardT, callee, opRes, pureR, binT, unT, T.cells, T.leaf, fillT, splice, Nat.reduceLT, Nat.reduceAdd, Nat.reduceMul, Nat.reduceLeDiff, Nat.reduceEqDiff, reduceIte, Int.reduceBEq, Int.reduceBNe, Int.reduceLT, Int.reduceLE, Int.reduceGT, Int.reduceGE, Int.reduceNeg, reduceCtorEq, hps, h3, h1, h2, g0, hc1, ap42, p42, n42, q42]; rfl⟩ ⟨rfl, W_false (by simp (decide := true) (disch := first | omega | (simp (decide := true) only [List.length_set, hl]; done) | fail) only [sims, evRegion, evOps, evOp, evG, evR, guardT, callee, opRes, pureR, binT, unT, T.cells, T.leaf, fillT, splice, Nat.reduceLT, Nat.reduceAdd, Nat.reduceMul, Nat.reduceLeDiff, Nat.reduceEqDiff, reduceIte, Int.reduceBEq, Int.reduceBNe, Int.reduceLT, Int.reduceLE, Int.reduceGT, Int.reduceGE, Int.reduceNeg, reduceCtorEq] <;> rfl) (W_skip ⟨rfl, ?_⟩)⟩))
    refine W_seq (W_seqn (W_region (fun k => by simp (decide := true) (disch := first | omega | (simp (decide := true) only [List.length_set, hl]; done) | fail) only [sims, evRegion, evOps, evOp, evG, evR, guardT, callee, opRes, pureR, binT, unT, T.cells, T.leaf, fillT, splice, Nat.reduceLT, Nat.reduceAdd, Nat.reduceMul, Nat.reduceLeDiff, Nat.reduceEqDiff, reduceIte, Int.reduceBEq, Int.reduceBNe, Int.reduceLT, Int.reduceLE, Int.reduceGT, Int.reduceGE, Int.reduceNeg, reduceCtorEq, hps]; rfl) ⟨rfl, W_block ?_⟩))
    refine rt_loop fx R.length i w A (bf i) _ xs els hxl hel hi f R[i] hrw hrl hwl rfl hxi (by rw [Nat.mul_one]; exact hei) g g0 g4 gA hB1 hB2 _ (fun st hst h1 h2 h6 h7 hg hgB => ?_) (R[i].length - 0) _ ⟨0, ?_, ?_, ?_, ?_, ?_, ?_, fun t ht => rfl, ?_, ?_, by omega, rfl⟩
    · have hl := hst
      have hb : i * 1 + 1 ≤ R.length := by omega
      have hei2 : els[i * 1]? = some (.own (bf i) 0 R[i].length 19) := by rw [Nat.mul_one]; exact hei
      have hbw := mem_bump (a := (wayN R[i] w).age) (k := R[i].length) hrw (wf_i64 (wayN_wf hrw hwl).2.2.2).2
      have hcl2 := enc_len _ hbw
      rw [bump_len] at hcl2
      have hb2 : w * 19 + 18 + 1 ≤ R[i].length * 19 := by omega
      have g4' := hg 4 (by omega)
      have gA' := hg A (by omega)
      have g1' := hg 1 (by omega)
      rw [g4] at g4'
      rw [gA] at gA'
      rw [g1] at g1'
      have hset := set_age (bumpK (wayN R[i] w).age R[i].length R[i]) hbw w (by rw [bump_len]; exact hwl) 0
      have htd : touchL R[i] w = (bumpK (wayN R[i] w).age R[i].length R[i]).set w (aged (wayN (bumpK (wayN R[i] w).age R[i].length R[i]) w) 0) := rfl
      have htw := touch_wf hrw w hwl
      have htl := touch_len R[i] w
      rw [← htd] at hset
      obtain ⟨tl, htl'⟩ : ∃ tl, tl = touchL R[i] w := ⟨_, rfl⟩
      rw [← htl'] at hset htw htl
      generalize hbc : (bumpK (wayN R[i] w).age R[i].length R[i]).flatMap Way.enc = bc at *
      have hc3 : cut [T.own A 0 R.length 1] 0 1 = [T.own A 0 R.length 1] := rfl
      refine .inl ⟨rfl, .inl ⟨rfl, ?_⟩⟩
      refine W_seqn (W_region (fun k => by simp (decide := true) (disch := first | omega | (simp (decide := true) only [List.length_set, hl]; done) | fail) only [sims, evRegion, evOps, evOp, evG, evR, guardT, callee, opRes, pureR, binT, unT, T.cells, T.leaf, fillT, splice, Nat.reduceLT, Nat.reduceAdd, Nat.reduceMul, Nat.reduceLeDiff, Nat.reduceEqDiff, reduceIte, Int.reduceBEq, Int.reduceBNe, Int.reduceLT, Int.reduceLE, Int.reduceGT, Int.reduceGE, Int.reduceNeg, reduceCtorEq, hps, h7, h1, h2, g4', gA', hgB, hel, hi, hb, hei2, hwl, hcl2, hb2]; rfl) ⟨rfl, ?_⟩)
      refine W_seqn (W_region (fun k => by simp (decide := true) (disch := first | omega | (simp (decide := true) only [List.length_set, hl]; done) | fail) only [sims, evRegion, evOps, evOp, evG, evR, guardT, callee, opRes, pureR, binT, unT, T.cells, T.leaf, fillT, splice, Nat.reduceLT, Nat.reduceAdd, Nat.reduceMul, Nat.reduceLeDiff, Nat.reduceEqDiff, reduceIte, Int.reduceBEq, Int.reduceBNe, Int.reduceLT, Int.reduceLE, Int.reduceGT, Int.reduceGE, Int.reduceNeg, reduceCtorEq, hps, h7, h6, g4', g1', hc3]; rfl) ⟨rfl, W_ret ?_⟩)
      have hL : ∀ l ∈ R.set i tl, ∀ w ∈ l, w.wf := by
        intro l hl
        rcases List.mem_or_eq_of_mem_set hl with h | rfl
        · exact (hw l h).2
        · exact htw
      have hgA3 : put1 (put1 st.g (bf i, some (bc.set (w * 19 + 18) (.int .i64 0)))) (1, some [.own A 0 R.length 1]) A = some els := by simp (decide := true) (disch := first | omega | (simp (decide := true) only [List.length_set, hl]; done) | fail) only [sims, evRegion, evOps, evOp, evG, evR, guardT, callee, opRes, pureR, binT, unT, T.cells, T.leaf, fillT, splice, Nat.reduceLT, Nat.reduceAdd, Nat.reduceMul, Nat.reduceLeDiff, Nat.reduceEqDiff, reduceIte, Int.reduceBEq, Int.reduceBNe, Int.reduceLT, Int.reduceLE, Int.reduceGT, Int.reduceGE, Int.reduceNeg, reduceCtorEq, hps, gA']
      have hrows : RowsAt (put1 (put1 st.g (bf i, some (bc.set (w * 19 + 18) (.int .i64 0)))) (1, some [.own A 0 R.length 1])) els (R.set i tl) := by
        refine ⟨by rw [List.length_set]; exact hel, fun j hj => ?_⟩
        rw [List.length_set] at hj
        by_cases hij : i = j
        · subst hij
          refine ⟨bf i, by rw [hei, List.getElem_set_self, htl], ?_⟩
          rw [List.getElem_set_self, hset]
          simp (decide := true) (disch := first | omega | (simp (decide := true) only [List.length_set, hl]; done) | fail) only [sims, evRegion, evOps, evOp, evG, evR, guardT, callee, opRes, pureR, binT, unT, T.cells, T.leaf, fillT, splice, Nat.reduceLT, Nat.reduceAdd, Nat.reduceMul, Nat.reduceLeDiff, Nat.reduceEqDiff, reduceIte, Int.reduceBEq, Int.reduceBNe, Int.reduceLT, Int.reduceLE, Int.reduceGT, Int.reduceGE, Int.reduceNeg, reduceCtorEq, hps]
        · obtain ⟨a1, a2, a3, a4, a5⟩ := hrest j hj
          rw [hrn j hj] at a1 a2
          have hbij : bf i ≠ bf j := by
            rcases Nat.lt_or_gt_of_ne hij with h | h
            · have := (hrest i hi).2.2.2.2 j h hj; omega
            · have := a5 i h hi; omega
          refine ⟨bf j, by rw [List.getElem_set_ne hij]; exact a1, ?_⟩
          rw [List.getElem_set_ne hij, ← a2, ← hg (bf j) (fun e => hbij e.symm)]
          simp (decide := true) (disch := first | omega | (simp (decide := true) only [List.length_set, hl]; done) | fail) only [sims, evRegion, evOps, evOp, evG, evR, guardT, callee, opRes, pureR, binT, unT, T.cells, T.leaf, fillT, splice, Nat.reduceLT, Nat.reduceAdd, Nat.reduceMul, Nat.reduceLeDiff, Nat.reduceEqDiff, reduceIte, Int.reduceBEq, Int.reduceBNe, Int.reduceLT, Int.reduceLE, Int.reduceGT, Int.reduceGE, Int.reduceNeg, reduceCtorEq, hps]
      have hlen : (R.set i tl).length = R.length := List.length_set
      obtain ⟨ids, e1⟩ := frz_copied (nx := st.nx + 9 + 2) (d := 8) hL hgA3 hrows
      rw [hlen] at e1
      refine ⟨rfl, .agg [.imm false R.length (rowsT (R.set i tl))], ?_, (fin_cellV (F := f20) (t := 6) (p := 1) rfl e1 ?_ ?_).2⟩
      · rw [touch_some R i w hi hwl, ← htl']
        exact ⟨false, rowsT (R.set i tl), by rw [hlen], tells_rows _⟩
      · simp (decide := true) (disch := first | omega | (simp (decide := true) only [List.length_set, hl]; done) | fail) only [sims, evRegion, evOps, evOp, evG, evR, guardT, callee, opRes, pureR, binT, unT, T.cells, T.leaf, fillT, splice, Nat.reduceLT, Nat.reduceAdd, Nat.reduceMul, Nat.reduceLeDiff, Nat.reduceEqDiff, reduceIte, Int.reduceBEq, Int.reduceBNe, Int.reduceLT, Int.reduceLE, Int.reduceGT, Int.reduceGE, Int.reduceNeg, reduceCtorEq, h6]
      · simp (decide := true) (disch := first | omega | (simp (decide := true) only [List.length_set, hl]; done) | fail) only [sims, evRegion, evOps, evOp, evG, evR, guardT, callee, opRes, pureR, binT, unT, T.cells, T.leaf, fillT, splice, Nat.reduceLT, Nat.reduceAdd, Nat.reduceMul, Nat.reduceLeDiff, Nat.reduceEqDiff, reduceIte, Int.reduceBEq, Int.reduceBNe, Int.reduceLT, Int.reduceLE, Int.reduceGT, Int.reduceGE, Int.reduceNeg, reduceCtorEq, hps]
    rotate_right 2
    · rw [bump_zero]; exact gB
    all_goals first | (simp (decide := true) (disch := first | omega | (simp (decide := true) only [List.length_set, hl]; done) | fail) only [sims, evRegion, evOps, evOp, evG, evR, guardT, callee, opRes, pureR, binT, unT, T.cells, T.leaf, fillT, splice, Nat.reduceLT, Nat.reduceAdd, Nat.reduceMul, Nat.reduceLeDiff, Nat.reduceEqDiff, reduceIte, Int.reduceBEq, Int.reduceBNe, Int.reduceLT, Int.reduceLE, Int.reduceGT, Int.reduceGE, Int.reduceNeg, reduceCtorEq, hl, h1, h2, h3, h6, h7]; done) | (simp (decide := true) (disch := first | omega | (simp (decide := true) only [List.length_set, hl]; done) | fail) only [sims, evRegion, evOps, evOp, evG, evR, guardT, callee, opRes, pureR, binT, unT, T.cells, T.leaf, fillT, splice, Nat.reduceLT, Nat.reduceAdd, Nat.reduceMul, Nat.reduceLeDiff, Nat.reduceEqDiff, reduceIte, Int.reduceBEq, Int.reduceBNe, Int.reduceLT, Int.reduceLE, Int.reduceGT, Int.reduceGE, Int.reduceNeg, reduceCtorEq, hl, h1, h2, h3, h6, h7]; rfl)
end Go.Proofs.Ythanlobfjpjegaa.Abs
