/- What all threads saw; what is seen in an order: the program's functions. -/
import Derived.Test.YtmihmodlilebbaaAfter2
namespace Go.Proofs.Ytmihmodlilebbaa.Abs
open Go Go.RowKit Fn
set_option linter.unusedVariables false
set_option linter.unusedSimpArgs false
set_option linter.unnecessarySimpa false
set_option maxRecDepth 100000
set_option maxHeartbeats 1000000

theorem ap11 : ap 11 = some f11 := rfl
theorem p11 : f11.pure = true := rfl
theorem n11 : f11.nat = none := rfl
theorem ap17 : ap 17 = some f17 := rfl
theorem p17 : f17.pure = true := rfl
theorem n17 : f17.nat = none := rfl
theorem ap18 : ap 18 = some f18 := rfl
theorem p18 : f18.pure = true := rfl
theorem n18 : f18.nat = none := rfl
theorem ap25 : ap 25 = some f25 := rfl
theorem p25 : f25.pure = true := rfl
theorem n25 : f25.nat = none := rfl
def tdLoop : ACode := match f25.body with | .seq _ (.seq _ (.seq (.seq _ (.block _ (.loop c))) _)) => c | _ => .skip
theorem td_loop (n : Nat) (hn2 : n ≤ 2) (C ss : List T) (hcl : C.length = 14) (hss : ∀ w, w < n → ∃ f m c, C[12 + w * 1]? = some (.imm f m c) ∧ ss[w]? = some (.imm f m c)) (Q : AExit → St → Prop)
    (hQe : ∀ st : St, (∃ b, st.s.length = 21 ∧ rho st.s (.tmp 3) = .own b 0 n 1 ∧ st.g b = some (ss.take n)) → Q (.exit 0) st) :
    ∀ (d : Nat) (st : St), (∃ (k b : Nat), st.s.length = 21 ∧ rho st.s (.tmp 1) = .ptr 0 0 ∧ rho st.s (.tmp 3) = .own b 0 k 1 ∧ rho st.s (.tmp 8) = .int .i64 (n : Int) ∧ rho st.s (.tmp 9) = .int .i64 (k : Int) ∧ st.g 0 = some C ∧ st.g b = some (ss.take k) ∧ 2 ≤ b ∧ b < st.nx ∧ k ≤ n ∧ d = n - k) → W ap (.loop tdLoop) st Q := by
  refine W_loop _ ?_
  rintro d st ⟨k, b, hl, h1, h3, h8, h9, g0, gb, hb2, hbx, hk, hd⟩
  by_cases hend : k = n
  · have hlt : decide ((k : Int) < (n : Int)) = false := decide_eq_false (by omega)
    refine W_seqn (W_region (fun k => by simp (decide := true) (disch := first | omega | (simp (decide := true) only [List.length_set, hl]; done) | fail) only [sims, evRegion, evOps, evOp, evG, evR, guardT, callee, opRes, pureR, binT, unT, T.cells, T.leaf, fillT, splice, Nat.reduceLT, Nat.reduceAdd, Nat.reduceMul, Nat.reduceLeDiff, Nat.reduceEqDiff, reduceIte, Int.reduceBEq, Int.reduceBNe, Int.reduceLT, Int.reduceLE, Int.reduceGT, Int.reduceGE, Int.reduceNeg, reduceCtorEq, h8, h9, hlt]; rfl) ⟨rfl, ?_⟩)
    refine W_seq (W_false (by simp (decide := true) (disch := first | omega | (simp (decide := true) only [List.length_set, hl]; done) | fail) only [sims, evRegion, evOps, evOp, evG, evR, guardT, callee, opRes, pureR, binT, unT, T.cells, T.leaf, fillT, splice, Nat.reduceLT, Nat.reduceAdd, Nat.reduceMul, Nat.reduceLeDiff, Nat.reduceEqDiff, reduceIte, Int.reduceBEq, Int.reduceBNe, Int.reduceLT, Int.reduceLE, Int.reduceGT, Int.reduceGE, Int.reduceNeg, reduceCtorEq] <;> rfl) (W_exit ?_))
    refine (.inr ⟨by simp, .inr ⟨by simp, hQe _ ⟨b, ?_, ?_, ?_⟩⟩⟩)
    · simp (decide := true) (disch := first | omega | (simp (decide := true) only [List.length_set, hl]; done) | fail) only [sims, evRegion, evOps, evOp, evG, evR, guardT, callee, opRes, pureR, binT, unT, T.cells, T.leaf, fillT, splice, Nat.reduceLT, Nat.reduceAdd, Nat.reduceMul, Nat.reduceLeDiff, Nat.reduceEqDiff, reduceIte, Int.reduceBEq, Int.reduceBNe, Int.reduceLT, Int.reduceLE, Int.reduceGT, Int.reduceGE, Int.reduceNeg, reduceCtorEq, hl]
    · rw [← hend]
      simp (decide := true) (disch := first | omega | (simp (decide := true) only [List.length_set, hl]; done) | fail) only [sims, evRegion, evOps, evOp, evG, evR, guardT, callee, opRes, pureR, binT, unT, T.cells, T.leaf, fillT, splice, Nat.reduceLT, Nat.reduceAdd, Nat.reduceMul, Nat.reduceLeDiff, Nat.reduceEqDiff, reduceIte, Int.reduceBEq, Int.reduceBNe, Int.reduceLT, Int.reduceLE, Int.reduceGT, Int.reduceGE, Int.reduceNeg, reduceCtorEq, h3]
    · rw [← hend]; exact gb
  have hlt : decide ((k : Int) < (n : Int)) = true := decide_eq_true (by omega)
  have hkn : k < n := by omega
  have hw2 : IntKind.i64.wrap ((k : Int) + 1) = ((k + 1 : Nat) : Int) := by rw [wrap_id (by omega)]; omega
  obtain ⟨f, m, c, hck, hsk⟩ := hss k hkn
  have hk2 : k < 2 := by omega
  have hb5 : 12 + k * 1 + 1 ≤ 14 := by omega
  have hkl : k < ss.length := by
    rcases Nat.lt_or_ge k ss.length with h | h
    · exact h
    · rw [List.getElem?_eq_none h] at hsk; cases hsk
  have htl : (ss.take k).length = k := by rw [List.length_take]; omega
  have hct : cut (ss.take k) 0 (k * 1) = ss.take k := cut_all (by omega)
  have htk : ss.take (k + 1) = ss.take k ++ [.imm f m c] := by rw [List.take_add_one, hsk]; rfl
  have hr1 : (k + 1) * 24 ≤ 549755813888 := by omega
  have hr2 : k + 1 ≤ 549755813888 := by omega
  have hle : k * 1 ≤ k := by omega
  have hci : cut [T.imm f m c] 0 1 = [T.imm f m c] := rfl
  generalize ss.take k = sk at *
  refine W_seqn (W_region (fun k => by simp (decide := true) (disch := first | omega | (simp (decide := true) only [List.length_set, hl]; done) | fail) only [sims, evRegion, evOps, evOp, evG, evR, guardT, callee, opRes, pureR, binT, unT, T.cells, T.leaf, fillT, splice, Nat.reduceLT, Nat.reduceAdd, Nat.reduceMul, Nat.reduceLeDiff, Nat.reduceEqDiff, reduceIte, Int.reduceBEq, Int.reduceBNe, Int.reduceLT, Int.reduceLE, Int.reduceGT, Int.reduceGE, Int.reduceNeg, reduceCtorEq, h8, h9, hlt]; rfl) ⟨rfl, ?_⟩)
  refine W_seqn (W_true (by simp (decide := true) (disch := first | omega | (simp (decide := true) only [List.length_set, hl]; done) | fail) only [sims, evRegion, evOps, evOp, evG, evR, guardT, callee, opRes, pureR, binT, unT, T.cells, T.leaf, fillT, splice, Nat.reduceLT, Nat.reduceAdd, Nat.reduceMul, Nat.reduceLeDiff, Nat.reduceEqDiff, reduceIte, Int.reduceBEq, Int.reduceBNe, Int.reduceLT, Int.reduceLE, Int.reduceGT, Int.reduceGE, Int.reduceNeg, reduceCtorEq] <;> rfl) (W_skip ⟨rfl, ?_⟩))
  refine W_seqn (W_block (W_seqn (W_region (fun k => by simp (decide := true) (disch := first | omega | (simp (decide := true) only [List.length_set, hl]; done) | fail) only [sims, evRegion, evOps, evOp, evG, evR, guardT, callee, opRes, pureR, binT, unT, T.cells, T.leaf, fillT, splice, Nat.reduceLT, Nat.reduceAdd, Nat.reduceMul, Nat.reduceLeDiff, Nat.reduceEqDiff, reduceIte, Int.reduceBEq, Int.reduceBNe, Int.reduceLT, Int.reduceLE, Int.reduceGT, Int.reduceGE, Int.reduceNeg, reduceCtorEq, h9]; rfl) ⟨rfl, ?_⟩)))
  refine W_region (fun k => by simp (decide := true) (disch := first | omega | (simp (decide := true) only [List.length_set, hl]; done) | fail) only [sims, evRegion, evOps, evOp, evG, evR, guardT, callee, opRes, pureR, binT, unT, T.cells, T.leaf, fillT, splice, Nat.reduceLT, Nat.reduceAdd, Nat.reduceMul, Nat.reduceLeDiff, Nat.reduceEqDiff, reduceIte, Int.reduceBEq, Int.reduceBNe, Int.reduceLT, Int.reduceLE, Int.reduceGT, Int.reduceGE, Int.reduceNeg, reduceCtorEq, hps, cellsOf, h1, h3, g0, gb, hcl, hk2, hb5, hck, htl, hct, hr1, hr2, hle, hci, List.all]; rfl) (.inr (.inl ⟨by simp, rfl, ?_⟩))
  refine W_region (fun k => by simp (decide := true) (disch := first | omega | (simp (decide := true) only [List.length_set, hl]; done) | fail) only [sims, evRegion, evOps, evOp, evG, evR, guardT, callee, opRes, pureR, binT, unT, T.cells, T.leaf, fillT, splice, Nat.reduceLT, Nat.reduceAdd, Nat.reduceMul, Nat.reduceLeDiff, Nat.reduceEqDiff, reduceIte, Int.reduceBEq, Int.reduceBNe, Int.reduceLT, Int.reduceLE, Int.reduceGT, Int.reduceGE, Int.reduceNeg, reduceCtorEq, h9, hw2]; rfl) ?_
  refine (.inl ⟨rfl, n - (k + 1), by omega, k + 1, st.nx + 1 + 2 + 6, ?_, ?_, ?_, ?_, ?_, ?_, ?_, ?_, ?_, by omega, rfl⟩)
  rotate_left 6
  · rw [htk]
    simp (decide := true) (disch := first | omega | (simp (decide := true) only [List.length_set, hl]; done) | fail) only [sims, evRegion, evOps, evOp, evG, evR, guardT, callee, opRes, pureR, binT, unT, T.cells, T.leaf, fillT, splice, Nat.reduceLT, Nat.reduceAdd, Nat.reduceMul, Nat.reduceLeDiff, Nat.reduceEqDiff, reduceIte, Int.reduceBEq, Int.reduceBNe, Int.reduceLT, Int.reduceLE, Int.reduceGT, Int.reduceGE, Int.reduceNeg, reduceCtorEq, hps] <;> rfl
  · omega
  · show st.nx + 1 + 2 + 6 < st.nx + 1 + 2 + 8 + 2; omega
  all_goals first | (simp (decide := true) (disch := first | omega | (simp (decide := true) only [List.length_set, hl]; done) | fail) only [sims, evRegion, evOps, evOp, evG, evR, guardT, callee, opRes, pureR, binT, unT, T.cells, T.leaf, fillT, splice, Nat.reduceLT, Nat.reduceAdd, Nat.reduceMul, Nat.reduceLeDiff, Nat.reduceEqDiff, reduceIte, Int.reduceBEq, Int.reduceBNe, Int.reduceLT, Int.reduceLE, Int.reduceGT, Int.reduceGE, Int.reduceNeg, reduceCtorEq, hps, hl, h1, h8, g0]; done) | (simp (decide := true) (disch := first | omega | (simp (decide := true) only [List.length_set, hl]; done) | fail) only [sims, evRegion, evOps, evOp, evG, evR, guardT, callee, opRes, pureR, binT, unT, T.cells, T.leaf, fillT, splice, Nat.reduceLT, Nat.reduceAdd, Nat.reduceMul, Nat.reduceLeDiff, Nat.reduceEqDiff, reduceIte, Int.reduceBEq, Int.reduceBNe, Int.reduceLT, Int.reduceLE, Int.reduceGT, Int.reduceGE, Int.reduceNeg, reduceCtorEq, hps, hl, h1, h8, g0]; rfl)
theorem bus_told (p : List (List Op)) (hR : RightP p) (s : PS) (hG : Good p s) (t : T) (hB : BusS p s t) : ∃ v, E ap 25 [t] v ∧ ∃ f cs, v = .imm f s.seen.length cs ∧ SeenT cs s.seen := by
  obtain ⟨ss, rfl, hS⟩ := hB
  refine E_bodyV (F := f25) rfl rfl rfl (P := fun v => ∃ f cs, v = .imm f s.seen.length cs ∧ SeenT cs s.seen) ?_
  have hm8 : (wordsT (padM s.mem)).length = 8 := by rw [words_len, padM_len hG.1]
  have hfl : (intsT (padF s.far)).length = 2 := by rw [ints_len, padF_len (by rw [hG.2.1]; exact hR.1)]
  have hsl : ss.length = 2 := by rw [hS.1, padS_len (by rw [hG.2.2.1]; exact hR.1)]
  have hcl := busC_len (pc := pT p) (lc := .int .i64 (s.mem.length : Int)) hm8 hfl hsl
  have hclf := leaf_still (bus_still (p := p) (m8 := padM s.mem) (n := (s.mem.length : Int)) (fs := padF s.far) hS)
  have hc0 : (busC (pT p) (wordsT (padM s.mem)) (.int .i64 (s.mem.length : Int)) (intsT (padF s.far)) ss)[0]? = some (pT p) := rfl
  have hcs := fun w => busC_seen (pc := pT p) (lc := .int .i64 (s.mem.length : Int)) (ss := ss) hm8 hfl w
  have hn2 := hR.1
  have hss : ∀ w, w < p.length → ∃ f m c, (busC (pT p) (wordsT (padM s.mem)) (.int .i64 (s.mem.length : Int)) (intsT (padF s.far)) ss)[12 + w * 1]? = some (.imm f m c) ∧ ss[w]? = some (.imm f m c) := by
    intro w hw
    obtain ⟨f, hf⟩ := seenT_get hS (by rw [padS_get _ _ (by rw [hG.2.2.1]; exact hw)]; exact seen_get hG hw : (padS s.seen)[w]? = some (seenN s w))
    exact ⟨f, _, _, by rw [hcs, hf], hf⟩
  have hfin : SeenT (ss.take p.length) s.seen := by
    refine ⟨by rw [List.length_take, hsl, hG.2.2.1]; omega, fun j hj => ?_⟩
    have hj2 : j < p.length := by rw [← hG.2.2.1]; exact hj
    obtain ⟨f, hf⟩ := seenT_get hS (by rw [padS_get _ _ hj]; exact List.getElem?_eq_getElem hj : (padS s.seen)[j]? = some s.seen[j])
    exact ⟨f, by rw [List.getElem?_take, if_pos hj2, hf]⟩
  generalize hs0 : (_ : List T) ++ List.replicate _ T.undef = s0
  have e0 : s0.length = 21 ∧ rho s0 (.tmp 0) = .agg (busC (pT p) (wordsT (padM s.mem)) (.int .i64 (s.mem.length : Int)) (intsT (padF s.far)) ss) := by subst hs0; exact ⟨rfl, rfl⟩
  clear hs0
  obtain ⟨hl, h0⟩ := e0
  have hpt : pT p = .imm false p.length (p.flatMap (fun l => [rowT l])) := rfl
  generalize busC (pT p) (wordsT (padM s.mem)) (.int .i64 (s.mem.length : Int)) (intsT (padF s.far)) ss = C at *
  rw [hpt] at hc0
  have hle : allLeaf ([] : List T) = true := rfl
  refine W_seqn (W_region (fun k => by simp (decide := true) (disch := first | omega | (simp (decide := true) only [List.length_set, hl]; done) | fail) only [sims, evRegion, evOps, evOp, evG, evR, guardT, callee, opRes, pureR, binT, unT, T.cells, T.leaf, fillT, splice, Nat.reduceLT, Nat.reduceAdd, Nat.reduceMul, Nat.reduceLeDiff, Nat.reduceEqDiff, reduceIte, Int.reduceBEq, Int.reduceBNe, Int.reduceLT, Int.reduceLE, Int.reduceGT, Int.reduceGE, Int.reduceNeg, reduceCtorEq, hps, h0, hclf]; rfl) ⟨rfl, ?_⟩)
  refine W_seqn (W_region (fun k => by simp (decide := true) (disch := first | omega | (simp (decide := true) only [List.length_set, hl]; done) | fail) only [sims, evRegion, evOps, evOp, evG, evR, guardT, callee, opRes, pureR, binT, unT, T.cells, T.leaf, fillT, splice, Nat.reduceLT, Nat.reduceAdd, Nat.reduceMul, Nat.reduceLeDiff, Nat.reduceEqDiff, reduceIte, Int.reduceBEq, Int.reduceBNe, Int.reduceLT, Int.reduceLE, Int.reduceGT, Int.reduceGE, Int.reduceNeg, reduceCtorEq, hps, hle]; rfl) ⟨rfl, ?_⟩)
  refine W_seq (W_seqn (W_region (fun k => by simp (decide := true) (disch := first | omega | (simp (decide := true) only [List.length_set, hl]; done) | fail) only [sims, evRegion, evOps, evOp, evG, evR, guardT, callee, opRes, pureR, binT, unT, T.cells, T.leaf, fillT, splice, Nat.reduceLT, Nat.reduceAdd, Nat.reduceMul, Nat.reduceLeDiff, Nat.reduceEqDiff, reduceIte, Int.reduceBEq, Int.reduceBNe, Int.reduceLT, Int.reduceLE, Int.reduceGT, Int.reduceGE, Int.reduceNeg, reduceCtorEq, hps, hcl, hc0]; rfl) ⟨rfl, W_block ?_⟩))
  refine td_loop p.length hn2 C ss hcl hss _ (fun st hex => ?_) (p.length - 0) _ ⟨0, 2, ?_, ?_, ?_, ?_, ?_, ?_, ?_, by omega, ?_, by omega, rfl⟩
  · obtain ⟨b, hst, h3, gb⟩ := hex
    have hl := hst
    refine .inl ⟨rfl, .inl ⟨rfl, W_seqn (W_region (fun k => by simp (decide := true) (disch := first | omega | (simp (decide := true) only [List.length_set, hl]; done) | fail) only [sims, evRegion, evOps, evOp, evG, evR, guardT, callee, opRes, pureR, binT, unT, T.cells, T.leaf, fillT, splice, Nat.reduceLT, Nat.reduceAdd, Nat.reduceMul, Nat.reduceLeDiff, Nat.reduceEqDiff, reduceIte, Int.reduceBEq, Int.reduceBNe, Int.reduceLT, Int.reduceLE, Int.reduceGT, Int.reduceGE, Int.reduceNeg, reduceCtorEq, h3]; rfl) ⟨rfl, W_ret ?_⟩)⟩⟩
    obtain ⟨ids, hfz⟩ := frz_own (h := ⟨st.g, st.nx + 2⟩) (d := 11) (n := p.length) (es := 1) gb (by rw [hfin.1, hG.2.2.1]; omega) (frzAll_still (d := 10) (seen_still hfin))
    refine ⟨rfl, _, ⟨false, _, by rw [hG.2.2.1], hfin⟩, .own b 0 p.length 1, ids, res_one (F := f25) rfl ?_, hfz⟩
    simp (decide := true) (disch := first | omega | (simp (decide := true) only [List.length_set, hl]; done) | fail) only [sims, evRegion, evOps, evOp, evG, evR, guardT, callee, opRes, pureR, binT, unT, T.cells, T.leaf, fillT, splice, Nat.reduceLT, Nat.reduceAdd, Nat.reduceMul, Nat.reduceLeDiff, Nat.reduceEqDiff, reduceIte, Int.reduceBEq, Int.reduceBNe, Int.reduceLT, Int.reduceLE, Int.reduceGT, Int.reduceGE, Int.reduceNeg, reduceCtorEq]
  rotate_right 1
  · show 2 < 0 + 2 + 2 + 4; omega
  all_goals first | (simp (decide := true) (disch := first | omega | (simp (decide := true) only [List.length_set, hl]; done) | fail) only [sims, evRegion, evOps, evOp, evG, evR, guardT, callee, opRes, pureR, binT, unT, T.cells, T.leaf, fillT, splice, Nat.reduceLT, Nat.reduceAdd, Nat.reduceMul, Nat.reduceLeDiff, Nat.reduceEqDiff, reduceIte, Int.reduceBEq, Int.reduceBNe, Int.reduceLT, Int.reduceLE, Int.reduceGT, Int.reduceGE, Int.reduceNeg, reduceCtorEq, hps, hl]; done) | (simp (decide := true) (disch := first | omega | (simp (decide := true) only [List.length_set, hl]; done) | fail) only [sims, evRegion, evOps, evOp, evG, evR, guardT, callee, opRes, pureR, binT, unT, T.cells, T.leaf, fillT, splice, Nat.reduceLT, Nat.reduceAdd, Nat.reduceMul, Nat.reduceLeDiff, Nat.reduceEqDiff, reduceIte, Int.reduceBEq, Int.reduceBNe, Int.reduceLT, Int.reduceLE, Int.reduceGT, Int.reduceGE, Int.reduceNeg, reduceCtorEq, hps, hl]; rfl)
theorem frzL_agg {C : List T} (hC : ∀ x ∈ C, Still x) (g : Mem) : frzL ⟨g, 0⟩ frzDepth [.agg C] = some ([.agg C], []) := by
  have e : frz ⟨g, 0⟩ frzDepth (.agg C) = some (.agg C, []) := by
    show frz ⟨g, 0⟩ (11 + 1) _ = _
    rw [frz]; simp only [frzL_still (d := 10) hC]
  unfold frzL; simp only [frzAll, e, List.append_nil]
theorem frzL_agg2 {C : List T} (hC : ∀ x ∈ C, Still x) (k : IntKind) (n : Int) (g : Mem) : frzL ⟨g, 0⟩ frzDepth [.agg C, .int k n] = some ([.agg C, .int k n], []) := by
  have e : frz ⟨g, 0⟩ frzDepth (.agg C) = some (.agg C, []) := by
    show frz ⟨g, 0⟩ (11 + 1) _ = _
    rw [frz]; simp only [frzL_still (d := 10) hC]
  have e2 : frz ⟨g, 0⟩ frzDepth (.int k n) = some (.int k n, []) := rfl
  unfold frzL; simp only [frzAll, e, e2, List.append_nil]
def oneS (p : List (List Op)) (s : PS) (w : Int) : PS := if leftS p s w then stepS p s w.toNat else s
def runS (p : List (List Op)) : PS → List Int → PS
  | s, [] => s
  | s, w :: r => runS p (oneS p s w) r
theorem runS_snoc (p : List (List Op)) : ∀ (l : List Int) (s : PS) (w : Int), runS p s (l ++ [w]) = oneS p (runS p s l) w
  | [], _, _ => rfl
  | x :: l, s, w => by rw [List.cons_append, runS, runS_snoc p l, runS]
theorem good_one {p : List (List Op)} {s : PS} (h : Good p s) (w : Int) : Good p (oneS p s w) := by
  unfold oneS
  split
  · rename_i hl
    exact good_step h (by have := hl.1; have := hl.2.1; omega) hl.2.2
  · exact h
theorem good_run (p : List (List Op)) : ∀ (l : List Int) (s : PS), Good p s → Good p (runS p s l)
  | [], _, h => h
  | w :: l, s, h => good_run p l _ (good_one h w)
theorem one_mem (p : List (List Op)) (s : PS) (w : Int) : (oneS p s w).mem.length = s.mem.length := by
  unfold oneS; split
  · exact memS_len _ _
  · rfl
def rnLoop : ACode := match f11.body with | .seq _ (.seq _ (.seq _ (.seq (.seq _ (.block _ (.loop c))) _))) => c | _ => .skip
theorem bus_cells {p : List (List Op)} (hR : RightP p) {s : PS} (hG : Good p s) {C : List T} (hB : BusS p s (.agg C)) : C.length = 14 ∧ (∀ x ∈ C, Still x) ∧ C[9]? = some (.int .i64 (s.mem.length : Int)) ∧ cut C 1 (s.mem.length * 1) = wordsT s.mem := by
  obtain ⟨ss, e, hS⟩ := hB
  injection e with e
  have hm8 : (wordsT (padM s.mem)).length = 8 := by rw [words_len, padM_len hG.1]
  have hfl : (intsT (padF s.far)).length = 2 := by rw [ints_len, padF_len (by rw [hG.2.1]; exact hR.1)]
  have hsl : ss.length = 2 := by rw [hS.1, padS_len (by rw [hG.2.2.1]; exact hR.1)]
  rw [e]
  refine ⟨busC_len hm8 hfl hsl, bus_still hS, busC_lc hm8, ?_⟩
  unfold busC cut
  rw [List.drop_succ_cons, List.drop_zero, Nat.mul_one, List.take_append_of_le_length (by rw [hm8]; exact hG.1)]
  unfold padM
  rw [words_app, List.take_left' (words_len _)]
theorem rn_loop (p : List (List Op)) (hR : RightP p) (s0 : PS) (hG0 : Good p s0) (ord : List Int) (hord : ord.length ≤ 200) (oc : List T) (hoc : ∀ i (h : i < ord.length), oc[i * 1]? = some (.int .i64 ord[i])) (hol : oc.length = ord.length) (Q : AExit → St → Prop)
    (hQe : ∀ st : St, (∃ C, st.s.length = 37 ∧ rho st.s (.tmp 8) = .ptr 8 0 ∧ st.g 8 = some C ∧ BusS p (runS p s0 ord) (.agg C) ∧ 9 ≤ st.nx) → Q (.exit 0) st) :
    ∀ (d : Nat) (st : St), (∃ (i : Nat) (C : List T), st.s.length = 37 ∧ rho st.s (.tmp 8) = .ptr 8 0 ∧ rho st.s (.tmp 17) = .imm false ord.length oc ∧ rho st.s (.tmp 18) = .int .i64 (ord.length : Int) ∧ rho st.s (.tmp 19) = .int .i64 (i : Int) ∧ st.g 8 = some C ∧ BusS p (runS p s0 (ord.take i)) (.agg C) ∧ 9 ≤ st.nx ∧ i ≤ ord.length ∧ d = ord.length - i) → W ap (.loop rnLoop) st Q := by
  refine W_loop _ ?_
  rintro d st ⟨i, C, hl, h8, h17, h18, h19, g8, hB, hnx, hi, hd⟩
  by_cases hend : i = ord.length
  · have hlt : decide ((i : Int) < (ord.length : Int)) = false := decide_eq_false (by omega)
    refine W_seqn (W_region (fun k => by simp (decide := true) (disch := first | omega | (simp (decide := true) only [List.length_set, hl]; done) | fail) only [sims, evRegion, evOps, evOp, evG, evR, guardT, callee, opRes, pureR, binT, unT, T.cells, T.leaf, fillT, splice, Nat.reduceLT, Nat.reduceAdd, Nat.reduceMul, Nat.reduceLeDiff, Nat.reduceEqDiff, reduceIte, Int.reduceBEq, Int.reduceBNe, Int.reduceLT, Int.reduceLE, Int.reduceGT, Int.reduceGE, Int.reduceNeg, reduceCtorEq, h18, h19, hlt]; rfl) ⟨rfl, ?_⟩)
    refine W_seq (W_false (by simp (decide := true) (disch := first | omega | (simp (decide := true) only [List.length_set, hl]; done) | fail) only [sims, evRegion, evOps, evOp, evG, evR, guardT, callee, opRes, pureR, binT, unT, T.cells, T.leaf, fillT, splice, Nat.reduceLT, Nat.reduceAdd, Nat.reduceMul, Nat.reduceLeDiff, Nat.reduceEqDiff, reduceIte, Int.reduceBEq, Int.reduceBNe, Int.reduceLT, Int.reduceLE, Int.reduceGT, Int.reduceGE, Int.reduceNeg, reduceCtorEq] <;> rfl) (W_exit ?_))
    refine (.inr ⟨by simp, .inr ⟨by simp, hQe _ ⟨C, ?_, ?_, g8, ?_, Nat.le_add_right_of_le hnx⟩⟩⟩)
    rotate_right 1
    · rw [hend, List.take_length] at hB; exact hB
    all_goals simp (decide := true) (disch := first | omega | (simp (decide := true) only [List.length_set, hl]; done) | fail) only [sims, evRegion, evOps, evOp, evG, evR, guardT, callee, opRes, pureR, binT, unT, T.cells, T.leaf, fillT, splice, Nat.reduceLT, Nat.reduceAdd, Nat.reduceMul, Nat.reduceLeDiff, Nat.reduceEqDiff, reduceIte, Int.reduceBEq, Int.reduceBNe, Int.reduceLT, Int.reduceLE, Int.reduceGT, Int.reduceGE, Int.reduceNeg, reduceCtorEq, hl, h8]
  have hlt : decide ((i : Int) < (ord.length : Int)) = true := decide_eq_true (by omega)
  have hil : i < ord.length := by omega
  have hw2 : IntKind.i64.wrap ((i : Int) + 1) = ((i + 1 : Nat) : Int) := by rw [wrap_id (by omega)]; omega
  have hoi := hoc i hil
  have hb : i * 1 + 1 ≤ ord.length := by omega
  have hGi := good_run p (ord.take i) s0 hG0
  have hsucc : runS p s0 (ord.take (i + 1)) = oneS p (runS p s0 (ord.take i)) ord[i] := by
    rw [List.take_add_one, List.getElem?_eq_getElem hil]; exact runS_snoc p _ _ _
  obtain ⟨hcl, hst, _, _⟩ := bus_cells hR hGi hB
  have hcut : cut C 0 14 = C := cut_all hcl
  generalize runS p s0 (ord.take i) = s at *
  generalize ord[i] = w at *
  obtain ⟨N1, c23⟩ := (bus_left p hR s hGi (.agg C) hB w).call ap23 (frzL_agg2 hst _ _)
  have q23 := c23 N1 (Nat.le_refl _)
  refine W_seqn (W_region (fun k => by simp (decide := true) (disch := first | omega | (simp (decide := true) only [List.length_set, hl]; done) | fail) only [sims, evRegion, evOps, evOp, evG, evR, guardT, callee, opRes, pureR, binT, unT, T.cells, T.leaf, fillT, splice, Nat.reduceLT, Nat.reduceAdd, Nat.reduceMul, Nat.reduceLeDiff, Nat.reduceEqDiff, reduceIte, Int.reduceBEq, Int.reduceBNe, Int.reduceLT, Int.reduceLE, Int.reduceGT, Int.reduceGE, Int.reduceNeg, reduceCtorEq, h18, h19, hlt]; rfl) ⟨rfl, ?_⟩)
  refine W_seqn (W_true (by simp (decide := true) (disch := first | omega | (simp (decide := true) only [List.length_set, hl]; done) | fail) only [sims, evRegion, evOps, evOp, evG, evR, guardT, callee, opRes, pureR, binT, unT, T.cells, T.leaf, fillT, splice, Nat.reduceLT, Nat.reduceAdd, Nat.reduceMul, Nat.reduceLeDiff, Nat.reduceEqDiff, reduceIte, Int.reduceBEq, Int.reduceBNe, Int.reduceLT, Int.reduceLE, Int.reduceGT, Int.reduceGE, Int.reduceNeg, reduceCtorEq] <;> rfl) (W_skip ⟨rfl, ?_⟩))
  refine W_seqn (W_block (W_seqn (W_region (fun k => by simp (decide := true) (disch := first | omega | (simp (decide := true) only [List.length_set, hl]; done) | fail) only [sims, evRegion, evOps, evOp, evG, evR, guardT, callee, opRes, pureR, binT, unT, T.cells, T.leaf, fillT, splice, Nat.reduceLT, Nat.reduceAdd, Nat.reduceMul, Nat.reduceLeDiff, Nat.reduceEqDiff, reduceIte, Int.reduceBEq, Int.reduceBNe, Int.reduceLT, Int.reduceLE, Int.reduceGT, Int.reduceGE, Int.reduceNeg, reduceCtorEq, h17, h19, hol, hil, hb, hoi]; rfl) ⟨rfl, ?_⟩)))
  by_cases hlf : leftS p s w
  · rw [decide_eq_true hlf] at q23
    have h1 : oneS p s w = stepS p s w.toNat := if_pos hlf
    obtain ⟨wn, rfl⟩ : ∃ wn : Nat, w = wn := ⟨w.toNat, by have := hlf.1; omega⟩
    rw [Int.toNat_natCast] at h1
    obtain ⟨v, hv, hB2⟩ := bus_after p hR s hGi (.agg C) hB wn (by have := hlf.2.1; omega) (by have := hlf.2.2; rw [Int.toNat_natCast] at this; exact this)
    obtain ⟨N2, c24⟩ := hv.call ap24 (frzL_agg2 hst _ _)
    have q24 := c24 N2 (Nat.le_refl _)
    obtain ⟨ss, rfl, hS⟩ := id hB2
    have hG2 := good_one hGi (wn : Int)
    rw [h1] at hG2
    obtain ⟨hcl2, hst2, _, _⟩ := bus_cells hR hG2 hB2
    have hlf2 := leaf_still hst2
    generalize hC2 : busC (pT p) (wordsT (padM (stepS p s wn).mem)) (.int .i64 ((stepS p s wn).mem.length : Int)) (intsT (padF (stepS p s wn).far)) ss = C2 at *
    have hspl : splice C 0 C2 = C2 := splice_all (by omega)
    refine W_seqn (W_regionN ⟨N1, by simp (decide := true) (disch := first | omega | (simp (decide := true) only [List.length_set, hl]; done) | fail) only [sims, evRegion, evOps, evOp, evG, evR, guardT, callee, opRes, pureR, binT, unT, T.cells, T.leaf, fillT, splice, Nat.reduceLT, Nat.reduceAdd, Nat.reduceMul, Nat.reduceLeDiff, Nat.reduceEqDiff, reduceIte, Int.reduceBEq, Int.reduceBNe, Int.reduceLT, Int.reduceLE, Int.reduceGT, Int.reduceGE, Int.reduceNeg, reduceCtorEq, hps, h8, g8, hcl, hcut, ap23, p23, n23, q23]; rfl⟩ ⟨rfl, W_true (by simp (decide := true) (disch := first | omega | (simp (decide := true) only [List.length_set, hl]; done) | fail) only [sims, evRegion, evOps, evOp, evG, evR, guardT, callee, opRes, pureR, binT, unT, T.cells, T.leaf, fillT, splice, Nat.reduceLT, Nat.reduceAdd, Nat.reduceMul, Nat.reduceLeDiff, Nat.reduceEqDiff, reduceIte, Int.reduceBEq, Int.reduceBNe, Int.reduceLT, Int.reduceLE, Int.reduceGT, Int.reduceGE, Int.reduceNeg, reduceCtorEq] <;> rfl) ?_⟩)
    refine W_regionN ⟨N2, by simp (decide := true) (disch := first | omega | (simp (decide := true) only [List.length_set, hl]; done) | fail) only [sims, evRegion, evOps, evOp, evG, evR, guardT, callee, opRes, pureR, binT, unT, T.cells, T.leaf, fillT, splice, Nat.reduceLT, Nat.reduceAdd, Nat.reduceMul, Nat.reduceLeDiff, Nat.reduceEqDiff, reduceIte, Int.reduceBEq, Int.reduceBNe, Int.reduceLT, Int.reduceLE, Int.reduceGT, Int.reduceGE, Int.reduceNeg, reduceCtorEq, hps, h8, g8, hcl, hcut, ap24, p24, n24, q24, hcl2, hlf2, hspl]; rfl⟩ (.inr (.inl ⟨by simp, rfl, ?_⟩))
    refine W_region (fun k => by simp (decide := true) (disch := first | omega | (simp (decide := true) only [List.length_set, hl]; done) | fail) only [sims, evRegion, evOps, evOp, evG, evR, guardT, callee, opRes, pureR, binT, unT, T.cells, T.leaf, fillT, splice, Nat.reduceLT, Nat.reduceAdd, Nat.reduceMul, Nat.reduceLeDiff, Nat.reduceEqDiff, reduceIte, Int.reduceBEq, Int.reduceBNe, Int.reduceLT, Int.reduceLE, Int.reduceGT, Int.reduceGE, Int.reduceNeg, reduceCtorEq, h19, hw2]; rfl) ?_
    refine (.inl ⟨rfl, ord.length - (i + 1), by omega, i + 1, C2, ?_, ?_, ?_, ?_, ?_, ?_, ?_, ?_, by omega, rfl⟩)
    rotate_left 6
    · rw [hsucc, h1]; exact hB2
    · exact Nat.le_add_right_of_le (Nat.le_add_right_of_le (Nat.le_add_right_of_le (Nat.le_add_right_of_le (Nat.le_add_right_of_le hnx))))
    all_goals simp (decide := true) (disch := first | omega | (simp (decide := true) only [List.length_set, hl]; done) | fail) only [sims, evRegion, evOps, evOp, evG, evR, guardT, callee, opRes, pureR, binT, unT, T.cells, T.leaf, fillT, splice, Nat.reduceLT, Nat.reduceAdd, Nat.reduceMul, Nat.reduceLeDiff, Nat.reduceEqDiff, reduceIte, Int.reduceBEq, Int.reduceBNe, Int.reduceLT, Int.reduceLE, Int.reduceGT, Int.reduceGE, Int.reduceNeg, reduceCtorEq, hps, hl, h8, h17, h18]
  · rw [decide_eq_false hlf] at q23
    have h1 : oneS p s w = s := if_neg hlf
    refine W_seqn (W_regionN ⟨N1, by simp (decide := true) (disch := first | omega | (simp (decide := true) only [List.length_set, hl]; done) | fail) only [sims, evRegion, evOps, evOp, evG, evR, guardT, callee, opRes, pureR, binT, unT, T.cells, T.leaf, fillT, splice, Nat.reduceLT, Nat.reduceAdd, Nat.reduceMul, Nat.reduceLeDiff, Nat.reduceEqDiff, reduceIte, Int.reduceBEq, Int.reduceBNe, Int.reduceLT, Int.reduceLE, Int.reduceGT, Int.reduceGE, Int.reduceNeg, reduceCtorEq, hps, h8, g8, hcl, hcut, ap23, p23, n23, q23]; rfl⟩ ⟨rfl, W_false (by simp (decide := true) (disch := first | omega | (simp (decide := true) only [List.length_set, hl]; done) | fail) only [sims, evRegion, evOps, evOp, evG, evR, guardT, callee, opRes, pureR, binT, unT, T.cells, T.leaf, fillT, splice, Nat.reduceLT, Nat.reduceAdd, Nat.reduceMul, Nat.reduceLeDiff, Nat.reduceEqDiff, reduceIte, Int.reduceBEq, Int.reduceBNe, Int.reduceLT, Int.reduceLE, Int.reduceGT, Int.reduceGE, Int.reduceNeg, reduceCtorEq] <;> rfl) (W_skip (.inr (.inl ⟨by simp, rfl, ?_⟩)))⟩)
    refine W_region (fun k => by simp (decide := true) (disch := first | omega | (simp (decide := true) only [List.length_set, hl]; done) | fail) only [sims, evRegion, evOps, evOp, evG, evR, guardT, callee, opRes, pureR, binT, unT, T.cells, T.leaf, fillT, splice, Nat.reduceLT, Nat.reduceAdd, Nat.reduceMul, Nat.reduceLeDiff, Nat.reduceEqDiff, reduceIte, Int.reduceBEq, Int.reduceBNe, Int.reduceLT, Int.reduceLE, Int.reduceGT, Int.reduceGE, Int.reduceNeg, reduceCtorEq, h19, hw2]; rfl) ?_
    refine (.inl ⟨rfl, ord.length - (i + 1), by omega, i + 1, C, ?_, ?_, ?_, ?_, ?_, g8, ?_, ?_, by omega, rfl⟩)
    rotate_left 5
    · rw [hsucc, h1]; exact hB
    · exact Nat.le_add_right_of_le (Nat.le_add_right_of_le (Nat.le_add_right_of_le (Nat.le_add_right_of_le hnx)))
    all_goals simp (decide := true) (disch := first | omega | (simp (decide := true) only [List.length_set, hl]; done) | fail) only [sims, evRegion, evOps, evOp, evG, evR, guardT, callee, opRes, pureR, binT, unT, T.cells, T.leaf, fillT, splice, Nat.reduceLT, Nat.reduceAdd, Nat.reduceMul, Nat.reduceLeDiff, Nat.reduceEqDiff, reduceIte, Int.reduceBEq, Int.reduceBNe, Int.reduceLT, Int.reduceLE, Int.reduceGT, Int.reduceGE, Int.reduceNeg, reduceCtorEq, hps, hl, h8, h17, h18]
end Go.Proofs.Ytmihmodlilebbaa.Abs
