/- All that may be seen: the program's ends, whole. -/
import Derived.Test.YtmihmodlilebbaaEnds2
namespace Go.Proofs.Ytmihmodlilebbaa.Abs
open Go Go.RowKit Fn
set_option linter.unusedVariables false
set_option linter.unusedSimpArgs false
set_option linter.unnecessarySimpa false
set_option maxRecDepth 100000
set_option maxHeartbeats 2000000

theorem ap27 : ap 27 = some f27 := rfl
theorem p27 : f27.pure = true := rfl
theorem n27 : f27.nat = none := rfl
theorem frzL_two {g : Mem} {a b a' b' : T} {i j : List Nat} (ha : frz ⟨g, 0⟩ frzDepth a = some (a', i)) (hb : frz ⟨g, 0⟩ frzDepth b = some (b', j)) : frzL ⟨g, 0⟩ frzDepth [a, b] = some ([a', b'], i ++ (j ++ [])) := by
  unfold frzL; simp only [frzAll, ha, hb]
/-- One more, in its place. -/
theorem outA_snoc {g' : Mem} {cells : List T} {L : Outs} (h3 : OutT cells L) {f : Bool} {S : List (List Int)} {cs : List T} (hS : SeenT cs S) {t hi : Nat} (ht : t < hi) (hg : g' t = some (cells ++ [.imm f S.length cs])) : OutA g' (.own t 0 (L.length + 1) 1) (L ++ [S]) hi := by
  refine .inr ⟨by rw [List.length_append]; simp, t, _, ht, ?_, hg, outT_snoc h3 hS⟩
  rw [List.length_append]; rfl
theorem bus_body (p : List (List Op)) (hR : RightP p) (s : PS) (hG : Good p s) (t : T) (hB : BusS p s t) (F : Nat → Outs → Outs) (hF : ∀ j acc, j < p.length → ¬ leftS p s (j : Int) → F j acc = acc) (L : Outs) (v : T) (g : Mem) (nx : Nat) (hLs : Shape p L) (hLl : L.length + 1 ≤ 100000) (hO : OutA g v L nx)
    (hfn : anyL p s p.length = false → foldW F p.length L = L)
    (hcall : ∀ j, j < p.length → leftS p s (j : Int) → ∀ t', BusS p (stepS p s j) t' → ∀ v' g' nx', OutA g' v' (foldW F j L) nx' → ∃ N v'' g'' nx'', (∀ k, N ≤ k → runBody (ev ap k) f19 [t', v'] g' nx' = some (v'', g'', nx'')) ∧ EndP g' nx' v' v'' g'' nx'' (F j (foldW F j L))) :
    ∃ N v' g' nx', (∀ k, N ≤ k → runBody (ev ap k) f19 [t, v] g nx = some (v', g', nx')) ∧ EndP g nx v v' g' nx' (if anyL p s p.length = true then foldW F p.length L else leafS L s.seen) := by
  refine EI_bodyV (P := fun v' g' nx' => EndP g nx v v' g' nx' (if anyL p s p.length = true then foldW F p.length L else leafS L s.seen)) ?_
  obtain ⟨ss, rfl, hS⟩ := id hB
  obtain ⟨hcl, hst, hc9, hcm⟩ := bus_cells hR hG hB
  have hclf := leaf_still hst
  have hpt : (busC (pT p) (wordsT (padM s.mem)) (.int .i64 (s.mem.length : Int)) (intsT (padF s.far)) ss)[0]? = some (.imm false p.length (p.flatMap (fun l => [rowT l]))) := rfl
  generalize busC (pT p) (wordsT (padM s.mem)) (.int .i64 (s.mem.length : Int)) (intsT (padF s.far)) ss = C at *
  have hcut : cut C 0 14 = C := cut_all hcl
  generalize hs0 : (_ : List T) ++ List.replicate _ T.undef = s0
  have e0 : s0.length = 37 ∧ rho s0 (.tmp 0) = .agg C ∧ rho s0 (.tmp 1) = v := by subst hs0; exact ⟨rfl, rfl, rfl⟩
  clear hs0
  obtain ⟨hl, h0, h1⟩ := e0
  refine W_seqn (W_region (fun k => by simp (decide := true) (disch := first | omega | (simp (decide := true) only [List.length_set, hl]; done) | fail) only [sims, evRegion, evOps, evOp, evG, evR, guardT, callee, opRes, pureR, binT, unT, T.cells, T.leaf, fillT, splice, Nat.reduceLT, Nat.reduceAdd, Nat.reduceMul, Nat.reduceLeDiff, Nat.reduceEqDiff, reduceIte, Int.reduceBEq, Int.reduceBNe, Int.reduceLT, Int.reduceLE, Int.reduceGT, Int.reduceGE, Int.reduceNeg, reduceCtorEq, hps, h0, hclf]; rfl) ⟨rfl, ?_⟩)
  refine W_seqn (W_region (fun k => by simp (decide := true) (disch := first | omega | (simp (decide := true) only [List.length_set, hl]; done) | fail) only [sims, evRegion, evOps, evOp, evG, evR, guardT, callee, opRes, pureR, binT, unT, T.cells, T.leaf, fillT, splice, Nat.reduceLT, Nat.reduceAdd, Nat.reduceMul, Nat.reduceLeDiff, Nat.reduceEqDiff, reduceIte, Int.reduceBEq, Int.reduceBNe, Int.reduceLT, Int.reduceLE, Int.reduceGT, Int.reduceGE, Int.reduceNeg, reduceCtorEq]; rfl) ⟨rfl, ?_⟩)
  refine W_seq (W_seqn (W_region (fun k => by simp (decide := true) (disch := first | omega | (simp (decide := true) only [List.length_set, hl]; done) | fail) only [sims, evRegion, evOps, evOp, evG, evR, guardT, callee, opRes, pureR, binT, unT, T.cells, T.leaf, fillT, splice, Nat.reduceLT, Nat.reduceAdd, Nat.reduceMul, Nat.reduceLeDiff, Nat.reduceEqDiff, reduceIte, Int.reduceBEq, Int.reduceBNe, Int.reduceLT, Int.reduceLE, Int.reduceGT, Int.reduceGE, Int.reduceNeg, reduceCtorEq, hps, hcl, hpt]; rfl) ⟨rfl, W_block ?_⟩))
  refine be_loop p hR s hG C hB F hF L g nx v (out_lt hO) hcall _ (fun st v1 hI => ?_) (p.length - 0) _ ⟨0, v, ⟨?_, ?_, ?_, ?_, ?_, ?_, ?_, ?_, ?_⟩, ?_, ?_, by omega, rfl⟩
  rotate_left 1
  · simp (decide := true) (disch := first | omega | (simp (decide := true) only [List.length_set, hl]; done) | fail) only [sims, evRegion, evOps, evOp, evG, evR, guardT, callee, opRes, pureR, binT, unT, T.cells, T.leaf, fillT, splice, Nat.reduceLT, Nat.reduceAdd, Nat.reduceMul, Nat.reduceLeDiff, Nat.reduceEqDiff, reduceIte, Int.reduceBEq, Int.reduceBNe, Int.reduceLT, Int.reduceLE, Int.reduceGT, Int.reduceGE, Int.reduceNeg, reduceCtorEq, hl]
  · simp (decide := true) (disch := first | omega | (simp (decide := true) only [List.length_set, hl]; done) | fail) only [sims, evRegion, evOps, evOp, evG, evR, guardT, callee, opRes, pureR, binT, unT, T.cells, T.leaf, fillT, splice, Nat.reduceLT, Nat.reduceAdd, Nat.reduceMul, Nat.reduceLeDiff, Nat.reduceEqDiff, reduceIte, Int.reduceBEq, Int.reduceBNe, Int.reduceLT, Int.reduceLE, Int.reduceGT, Int.reduceGE, Int.reduceNeg, reduceCtorEq, h1]
  · simp (decide := true) (disch := first | omega | (simp (decide := true) only [List.length_set, hl]; done) | fail) only [sims, evRegion, evOps, evOp, evG, evR, guardT, callee, opRes, pureR, binT, unT, T.cells, T.leaf, fillT, splice, Nat.reduceLT, Nat.reduceAdd, Nat.reduceMul, Nat.reduceLeDiff, Nat.reduceEqDiff, reduceIte, Int.reduceBEq, Int.reduceBNe, Int.reduceLT, Int.reduceLE, Int.reduceGT, Int.reduceGE, Int.reduceNeg, reduceCtorEq]
  · simp (decide := true) (disch := first | omega | (simp (decide := true) only [List.length_set, hl]; done) | fail) only [sims, evRegion, evOps, evOp, evG, evR, guardT, callee, opRes, pureR, binT, unT, T.cells, T.leaf, fillT, splice, Nat.reduceLT, Nat.reduceAdd, Nat.reduceMul, Nat.reduceLeDiff, Nat.reduceEqDiff, reduceIte, Int.reduceBEq, Int.reduceBNe, Int.reduceLT, Int.reduceLE, Int.reduceGT, Int.reduceGE, Int.reduceNeg, reduceCtorEq]; rfl
  · simp (decide := true) (disch := first | omega | (simp (decide := true) only [List.length_set, hl]; done) | fail) only [sims, evRegion, evOps, evOp, evG, evR, guardT, callee, opRes, pureR, binT, unT, T.cells, T.leaf, fillT, splice, Nat.reduceLT, Nat.reduceAdd, Nat.reduceMul, Nat.reduceLeDiff, Nat.reduceEqDiff, reduceIte, Int.reduceBEq, Int.reduceBNe, Int.reduceLT, Int.reduceLE, Int.reduceGT, Int.reduceGE, Int.reduceNeg, reduceCtorEq]
  · refine hO.mono ?_ (fun u n e => put1_ne (by have := out_lt hO u n e; omega))
    show nx ≤ nx + 2 + 1 + 4; omega
  · exact fun u hu _ => put1_ne (by omega)
  · exact fun u n e => .inr ⟨n, e⟩
  · show nx < nx + 2 + 1 + 4; omega
  · simp (decide := true) (disch := first | omega | (simp (decide := true) only [List.length_set, hl]; done) | fail) only [sims, evRegion, evOps, evOp, evG, evR, guardT, callee, opRes, pureR, binT, unT, T.cells, T.leaf, fillT, splice, Nat.reduceLT, Nat.reduceAdd, Nat.reduceMul, Nat.reduceLeDiff, Nat.reduceEqDiff, reduceIte, Int.reduceBEq, Int.reduceBNe, Int.reduceLT, Int.reduceLE, Int.reduceGT, Int.reduceGE, Int.reduceNeg, reduceCtorEq]
  · simp (decide := true) (disch := first | omega | (simp (decide := true) only [List.length_set, hl]; done) | fail) only [sims, evRegion, evOps, evOp, evG, evR, guardT, callee, opRes, pureR, binT, unT, T.cells, T.leaf, fillT, splice, Nat.reduceLT, Nat.reduceAdd, Nat.reduceMul, Nat.reduceLeDiff, Nat.reduceEqDiff, reduceIte, Int.reduceBEq, Int.reduceBNe, Int.reduceLT, Int.reduceLE, Int.reduceGT, Int.reduceGE, Int.reduceNeg, reduceCtorEq]; rfl
  obtain ⟨sl, g1, nx1⟩ := st
  obtain ⟨hl, h1, h2, h5, gC, hO1, hfr, hpv, hnx1⟩ := hI
  simp only at hl h1 h2 h5 gC hO1 hfr hpv hnx1
  have hv0 := out_lt hO
  refine .inl ⟨rfl, .inl ⟨rfl, ?_⟩⟩
  obtain ⟨w, hw, f, cs, rfl, hcs⟩ := bus_told p hR s hG _ hB
  obtain ⟨N1, c25⟩ := hw.call ap25 (frzL_agg hst)
  have q25 := c25 N1 (Nat.le_refl _)
  cases hany : anyL p s p.length with
  | true =>
    rw [hany] at h5
    rw [if_pos rfl]
    refine W_seqn (W_seqn (W_regionN ⟨N1, by simp (decide := true) (disch := first | omega | (simp (decide := true) only [List.length_set, hl]; done) | fail) only [sims, evRegion, evOps, evOp, evG, evR, guardT, callee, opRes, pureR, binT, unT, T.cells, T.leaf, fillT, splice, Nat.reduceLT, Nat.reduceAdd, Nat.reduceMul, Nat.reduceLeDiff, Nat.reduceEqDiff, reduceIte, Int.reduceBEq, Int.reduceBNe, Int.reduceLT, Int.reduceLE, Int.reduceGT, Int.reduceGE, Int.reduceNeg, reduceCtorEq, hps, h2, gC, hcl, hcut, ap25, p25, n25, q25]; rfl⟩ ⟨rfl, ?_⟩))
    refine W_seqn (W_region (fun k => by simp (decide := true) (disch := first | omega | (simp (decide := true) only [List.length_set, hl]; done) | fail) only [sims, evRegion, evOps, evOp, evG, evR, guardT, callee, opRes, pureR, binT, unT, T.cells, T.leaf, fillT, splice, Nat.reduceLT, Nat.reduceAdd, Nat.reduceMul, Nat.reduceLeDiff, Nat.reduceEqDiff, reduceIte, Int.reduceBEq, Int.reduceBNe, Int.reduceLT, Int.reduceLE, Int.reduceGT, Int.reduceGE, Int.reduceNeg, reduceCtorEq, h5]; rfl) ⟨rfl, W_false (by simp (decide := true) (disch := first | omega | (simp (decide := true) only [List.length_set, hl]; done) | fail) only [sims, evRegion, evOps, evOp, evG, evR, guardT, callee, opRes, pureR, binT, unT, T.cells, T.leaf, fillT, splice, Nat.reduceLT, Nat.reduceAdd, Nat.reduceMul, Nat.reduceLeDiff, Nat.reduceEqDiff, reduceIte, Int.reduceBEq, Int.reduceBNe, Int.reduceLT, Int.reduceLE, Int.reduceGT, Int.reduceGE, Int.reduceNeg, reduceCtorEq, Bool.not_true] <;> rfl) (W_skip ⟨rfl, ?_⟩)⟩)
    refine W_seqn (W_region (fun k => by simp (decide := true) (disch := first | omega | (simp (decide := true) only [List.length_set, hl]; done) | fail) only [sims, evRegion, evOps, evOp, evG, evR, guardT, callee, opRes, pureR, binT, unT, T.cells, T.leaf, fillT, splice, Nat.reduceLT, Nat.reduceAdd, Nat.reduceMul, Nat.reduceLeDiff, Nat.reduceEqDiff, reduceIte, Int.reduceBEq, Int.reduceBNe, Int.reduceLT, Int.reduceLE, Int.reduceGT, Int.reduceGE, Int.reduceNeg, reduceCtorEq, h1]; rfl) ⟨rfl, W_ret ?_⟩)
    refine ⟨rfl, v1, res_one (F := f19) rfl ?_, hO1.mono ?_ (fun _ _ _ => rfl), hfr, ?_, ?_⟩
    · simp (decide := true) (disch := first | omega | (simp (decide := true) only [List.length_set, hl]; done) | fail) only [sims, evRegion, evOps, evOp, evG, evR, guardT, callee, opRes, pureR, binT, unT, T.cells, T.leaf, fillT, splice, Nat.reduceLT, Nat.reduceAdd, Nat.reduceMul, Nat.reduceLeDiff, Nat.reduceEqDiff, reduceIte, Int.reduceBEq, Int.reduceBNe, Int.reduceLT, Int.reduceLE, Int.reduceGT, Int.reduceGE, Int.reduceNeg, reduceCtorEq]
    · show nx1 ≤ nx1 + 3 + 7 + 2; omega
    · intro u n e
      rcases hpv u n e with h | h
      · exact .inl (by omega)
      · exact .inr h
    · show nx ≤ nx1 + 3 + 7 + 2; omega
  | false =>
    rw [hany] at h5
    rw [if_neg (by simp)]
    rw [hfn hany] at hO1
    have hsh := good_shape hR hG
    have hn2 := hR.1
    have hn : ∀ R ∈ L, R.length = s.seen.length ∧ R.length ≤ 1000 ∧ ∀ l ∈ R, l.length ≤ 1000 := fun R hRl => by
      obtain ⟨a, b⟩ := hLs R hRl
      exact ⟨by rw [a, hsh.1], by omega, b⟩
    obtain ⟨fo, cells, ids, hfz, hOT⟩ := frz_out (g := g1) (nx := 0) (d := 10) hO1
    obtain ⟨w, hw, b, rfl, hb⟩ := bus_known fo f L cells hOT (by omega) s.seen cs hcs hn
    obtain ⟨N2, c27⟩ := hw.callB ap27
    have q27 := c27 N2 (Nat.le_refl _) g1 _ _ (frzL_two hfz (rfl : frz ⟨g1, 0⟩ frzDepth (.imm f s.seen.length cs) = some (.imm f s.seen.length cs, [])))
    refine W_seqn (W_seqn (W_regionN ⟨N1, by simp (decide := true) (disch := first | omega | (simp (decide := true) only [List.length_set, hl]; done) | fail) only [sims, evRegion, evOps, evOp, evG, evR, guardT, callee, opRes, pureR, binT, unT, T.cells, T.leaf, fillT, splice, Nat.reduceLT, Nat.reduceAdd, Nat.reduceMul, Nat.reduceLeDiff, Nat.reduceEqDiff, reduceIte, Int.reduceBEq, Int.reduceBNe, Int.reduceLT, Int.reduceLE, Int.reduceGT, Int.reduceGE, Int.reduceNeg, reduceCtorEq, hps, h2, gC, hcl, hcut, ap25, p25, n25, q25]; rfl⟩ ⟨rfl, ?_⟩))
    cases b with
    | true =>
      have hLf : leafS L s.seen = L := if_pos (hb.mp rfl)
      rw [hLf]
      refine W_seqn (W_regionN ⟨N2, by simp (decide := true) (disch := first | omega | (simp (decide := true) only [List.length_set, hl]; done) | fail) only [sims, evRegion, evOps, evOp, evG, evR, guardT, callee, opRes, pureR, binT, unT, T.cells, T.leaf, fillT, splice, Nat.reduceLT, Nat.reduceAdd, Nat.reduceMul, Nat.reduceLeDiff, Nat.reduceEqDiff, reduceIte, Int.reduceBEq, Int.reduceBNe, Int.reduceLT, Int.reduceLE, Int.reduceGT, Int.reduceGE, Int.reduceNeg, reduceCtorEq, h1, h5, ap27, p27, n27, q27]; rfl⟩ ⟨rfl, W_false (by simp (decide := true) (disch := first | omega | (simp (decide := true) only [List.length_set, hl]; done) | fail) only [sims, evRegion, evOps, evOp, evG, evR, guardT, callee, opRes, pureR, binT, unT, T.cells, T.leaf, fillT, splice, Nat.reduceLT, Nat.reduceAdd, Nat.reduceMul, Nat.reduceLeDiff, Nat.reduceEqDiff, reduceIte, Int.reduceBEq, Int.reduceBNe, Int.reduceLT, Int.reduceLE, Int.reduceGT, Int.reduceGE, Int.reduceNeg, reduceCtorEq] <;> rfl) (W_skip ⟨rfl, ?_⟩)⟩)
      refine W_seqn (W_region (fun k => by simp (decide := true) (disch := first | omega | (simp (decide := true) only [List.length_set, hl]; done) | fail) only [sims, evRegion, evOps, evOp, evG, evR, guardT, callee, opRes, pureR, binT, unT, T.cells, T.leaf, fillT, splice, Nat.reduceLT, Nat.reduceAdd, Nat.reduceMul, Nat.reduceLeDiff, Nat.reduceEqDiff, reduceIte, Int.reduceBEq, Int.reduceBNe, Int.reduceLT, Int.reduceLE, Int.reduceGT, Int.reduceGE, Int.reduceNeg, reduceCtorEq, h1]; rfl) ⟨rfl, W_ret ?_⟩)
      refine ⟨rfl, v1, res_one (F := f19) rfl ?_, hO1.mono ?_ (fun _ _ _ => rfl), hfr, ?_, ?_⟩
      · simp (decide := true) (disch := first | omega | (simp (decide := true) only [List.length_set, hl]; done) | fail) only [sims, evRegion, evOps, evOp, evG, evR, guardT, callee, opRes, pureR, binT, unT, T.cells, T.leaf, fillT, splice, Nat.reduceLT, Nat.reduceAdd, Nat.reduceMul, Nat.reduceLeDiff, Nat.reduceEqDiff, reduceIte, Int.reduceBEq, Int.reduceBNe, Int.reduceLT, Int.reduceLE, Int.reduceGT, Int.reduceGE, Int.reduceNeg, reduceCtorEq]
      · show nx1 ≤ nx1 + 3 + 7 + 2; omega
      · intro u n e
        rcases hpv u n e with h | h
        · exact .inl (by omega)
        · exact .inr h
      · show nx ≤ nx1 + 3 + 7 + 2; omega
    | false =>
      have hLf : leafS L s.seen = L ++ [s.seen] := if_neg (fun h => by have := hb.mpr h; cases this)
      rw [hLf]
      refine W_seqn (W_regionN ⟨N2, by simp (decide := true) (disch := first | omega | (simp (decide := true) only [List.length_set, hl]; done) | fail) only [sims, evRegion, evOps, evOp, evG, evR, guardT, callee, opRes, pureR, binT, unT, T.cells, T.leaf, fillT, splice, Nat.reduceLT, Nat.reduceAdd, Nat.reduceMul, Nat.reduceLeDiff, Nat.reduceEqDiff, reduceIte, Int.reduceBEq, Int.reduceBNe, Int.reduceLT, Int.reduceLE, Int.reduceGT, Int.reduceGE, Int.reduceNeg, reduceCtorEq, h1, h5, ap27, p27, n27, q27]; rfl⟩ ⟨rfl, W_true (by simp (decide := true) (disch := first | omega | (simp (decide := true) only [List.length_set, hl]; done) | fail) only [sims, evRegion, evOps, evOp, evG, evR, guardT, callee, opRes, pureR, binT, unT, T.cells, T.leaf, fillT, splice, Nat.reduceLT, Nat.reduceAdd, Nat.reduceMul, Nat.reduceLeDiff, Nat.reduceEqDiff, reduceIte, Int.reduceBEq, Int.reduceBNe, Int.reduceLT, Int.reduceLE, Int.reduceGT, Int.reduceGE, Int.reduceNeg, reduceCtorEq] <;> rfl) ?_⟩)
      have hci : cut [T.imm f s.seen.length cs] 0 (1 * 1) = [T.imm f s.seen.length cs] := rfl
      have hci' : cut [T.imm f s.seen.length cs] 0 1 = [T.imm f s.seen.length cs] := rfl
      have hr1 : (L.length + 1) * 24 ≤ 549755813888 := by omega
      have hr2 : L.length + 1 ≤ 549755813888 := by omega
      rcases hO1 with ⟨hL0, hv1⟩ | ⟨hL0, u, cs1, hu, hv1, gu, hOT1⟩
      · subst hL0 hv1
        refine W_region (fun k => by simp (decide := true) (disch := first | omega | (simp (decide := true) only [List.length_set, hl]; done) | fail) only [sims, evRegion, evOps, evOp, evG, evR, guardT, callee, opRes, pureR, binT, unT, T.cells, T.leaf, fillT, splice, Nat.reduceLT, Nat.reduceAdd, Nat.reduceMul, Nat.reduceLeDiff, Nat.reduceEqDiff, reduceIte, Int.reduceBEq, Int.reduceBNe, Int.reduceLT, Int.reduceLE, Int.reduceGT, Int.reduceGE, Int.reduceNeg, reduceCtorEq, hps, cellsOf, h1, hci, hci', hr1, hr2, List.all]; rfl) ⟨rfl, ?_⟩
        refine W_seqn (W_region (fun k => by simp (decide := true) (disch := first | omega | (simp (decide := true) only [List.length_set, hl]; done) | fail) only [sims, evRegion, evOps, evOp, evG, evR, guardT, callee, opRes, pureR, binT, unT, T.cells, T.leaf, fillT, splice, Nat.reduceLT, Nat.reduceAdd, Nat.reduceMul, Nat.reduceLeDiff, Nat.reduceEqDiff, reduceIte, Int.reduceBEq, Int.reduceBNe, Int.reduceLT, Int.reduceLE, Int.reduceGT, Int.reduceGE, Int.reduceNeg, reduceCtorEq]; rfl) ⟨rfl, W_ret ?_⟩)
        refine ⟨rfl, .own (nx1 + 3 + 7 + 3) 0 1 1, res_one (F := f19) rfl ?_, outA_snoc (f := f) (cells := []) (L := []) ⟨rfl, fun j h => by simp at h⟩ hcs ?_ ?_, ?_, ?_, ?_⟩
        · simp (decide := true) (disch := first | omega | (simp (decide := true) only [List.length_set, hl]; done) | fail) only [sims, evRegion, evOps, evOp, evG, evR, guardT, callee, opRes, pureR, binT, unT, T.cells, T.leaf, fillT, splice, Nat.reduceLT, Nat.reduceAdd, Nat.reduceMul, Nat.reduceLeDiff, Nat.reduceEqDiff, reduceIte, Int.reduceBEq, Int.reduceBNe, Int.reduceLT, Int.reduceLE, Int.reduceGT, Int.reduceGE, Int.reduceNeg, reduceCtorEq]
        · show nx1 + 3 + 7 + 3 < nx1 + 3 + 7 + 5 + 2; omega
        · simp (decide := true) (disch := first | omega | (simp (decide := true) only [List.length_set, hl]; done) | fail) only [sims, evRegion, evOps, evOp, evG, evR, guardT, callee, opRes, pureR, binT, unT, T.cells, T.leaf, fillT, splice, Nat.reduceLT, Nat.reduceAdd, Nat.reduceMul, Nat.reduceLeDiff, Nat.reduceEqDiff, reduceIte, Int.reduceBEq, Int.reduceBNe, Int.reduceLT, Int.reduceLE, Int.reduceGT, Int.reduceGE, Int.reduceNeg, reduceCtorEq, hps] <;> rfl
        · intro x hx hno
          rw [← hfr x hx hno]
          simp (decide := true) (disch := first | omega | (simp (decide := true) only [List.length_set, hl]; done) | fail) only [sims, evRegion, evOps, evOp, evG, evR, guardT, callee, opRes, pureR, binT, unT, T.cells, T.leaf, fillT, splice, Nat.reduceLT, Nat.reduceAdd, Nat.reduceMul, Nat.reduceLeDiff, Nat.reduceEqDiff, reduceIte, Int.reduceBEq, Int.reduceBNe, Int.reduceLT, Int.reduceLE, Int.reduceGT, Int.reduceGE, Int.reduceNeg, reduceCtorEq, hps]
        · intro x n e
          injection e with e1
          exact .inl (by omega)
        · show nx ≤ nx1 + 3 + 7 + 5 + 2; omega
      · subst hv1
        have hcc : cut cs1 0 (L.length * 1) = cs1 := cut_all (by rw [hOT1.1]; omega)
        have hle : L.length * 1 ≤ cs1.length := by rw [hOT1.1]; omega
        refine W_region (fun k => by simp (decide := true) (disch := first | omega | (simp (decide := true) only [List.length_set, hl]; done) | fail) only [sims, evRegion, evOps, evOp, evG, evR, guardT, callee, opRes, pureR, binT, unT, T.cells, T.leaf, fillT, splice, Nat.reduceLT, Nat.reduceAdd, Nat.reduceMul, Nat.reduceLeDiff, Nat.reduceEqDiff, reduceIte, Int.reduceBEq, Int.reduceBNe, Int.reduceLT, Int.reduceLE, Int.reduceGT, Int.reduceGE, Int.reduceNeg, reduceCtorEq, hps, cellsOf, h1, gu, hci, hci', hr1, hr2, hcc, hle, List.all]; rfl) ⟨rfl, ?_⟩
        refine W_seqn (W_region (fun k => by simp (decide := true) (disch := first | omega | (simp (decide := true) only [List.length_set, hl]; done) | fail) only [sims, evRegion, evOps, evOp, evG, evR, guardT, callee, opRes, pureR, binT, unT, T.cells, T.leaf, fillT, splice, Nat.reduceLT, Nat.reduceAdd, Nat.reduceMul, Nat.reduceLeDiff, Nat.reduceEqDiff, reduceIte, Int.reduceBEq, Int.reduceBNe, Int.reduceLT, Int.reduceLE, Int.reduceGT, Int.reduceGE, Int.reduceNeg, reduceCtorEq]; rfl) ⟨rfl, W_ret ?_⟩)
        refine ⟨rfl, .own (nx1 + 3 + 7 + 3) 0 (L.length + 1) 1, res_one (F := f19) rfl ?_, outA_snoc (f := f) hOT1 hcs ?_ ?_, ?_, ?_, ?_⟩
        · simp (decide := true) (disch := first | omega | (simp (decide := true) only [List.length_set, hl]; done) | fail) only [sims, evRegion, evOps, evOp, evG, evR, guardT, callee, opRes, pureR, binT, unT, T.cells, T.leaf, fillT, splice, Nat.reduceLT, Nat.reduceAdd, Nat.reduceMul, Nat.reduceLeDiff, Nat.reduceEqDiff, reduceIte, Int.reduceBEq, Int.reduceBNe, Int.reduceLT, Int.reduceLE, Int.reduceGT, Int.reduceGE, Int.reduceNeg, reduceCtorEq]
        · show nx1 + 3 + 7 + 3 < nx1 + 3 + 7 + 5 + 2; omega
        · simp (decide := true) (disch := first | omega | (simp (decide := true) only [List.length_set, hl]; done) | fail) only [sims, evRegion, evOps, evOp, evG, evR, guardT, callee, opRes, pureR, binT, unT, T.cells, T.leaf, fillT, splice, Nat.reduceLT, Nat.reduceAdd, Nat.reduceMul, Nat.reduceLeDiff, Nat.reduceEqDiff, reduceIte, Int.reduceBEq, Int.reduceBNe, Int.reduceLT, Int.reduceLE, Int.reduceGT, Int.reduceGE, Int.reduceNeg, reduceCtorEq, hps] <;> rfl
        · intro x hx hno
          rw [← hfr x hx hno]
          have hxu : x ≠ u := fun e => by
            subst e
            rcases hpv x _ rfl with h | ⟨m, h⟩
            · omega
            · exact hno _ h
          simp (decide := true) (disch := first | omega | (simp (decide := true) only [List.length_set, hl]; done) | fail) only [sims, evRegion, evOps, evOp, evG, evR, guardT, callee, opRes, pureR, binT, unT, T.cells, T.leaf, fillT, splice, Nat.reduceLT, Nat.reduceAdd, Nat.reduceMul, Nat.reduceLeDiff, Nat.reduceEqDiff, reduceIte, Int.reduceBEq, Int.reduceBNe, Int.reduceLT, Int.reduceLE, Int.reduceGT, Int.reduceGE, Int.reduceNeg, reduceCtorEq, hps]
        · intro x n e
          injection e with e1
          exact .inl (by omega)
        · show nx ≤ nx1 + 3 + 7 + 5 + 2; omega
theorem bus_ends (p : List (List Op)) (hR : RightP p) : ∀ (r : Nat) (s : PS), Good p s → remN p s p.length ≤ r → ∀ (t : T), BusS p s t → ∀ (L : Outs) (v : T) (g : Mem) (nx : Nat), Shape p L → L.length + 2 ^ r ≤ 100000 → OutA g v L nx →
    ∃ N v' g' nx', (∀ k, N ≤ k → runBody (ev ap k) f19 [t, v] g nx = some (v', g', nx')) ∧ EndP g nx v v' g' nx' (endsS p r s L) := by
  intro r
  induction r with
  | zero =>
    intro s hG hrem t hB L v g nx hLs hLl hO
    rw [ends_is hrem]
    refine bus_body p hR s hG t hB (nextE p s 0) (fun j acc _ h => next_not h) L v g nx hLs (by have := two_pos 0; omega) hO (fold_none p.length) ?_
    intro j hj hl
    have : anyL p s p.length = true := by
      have h : ∀ k, j < k → anyL p s k = true := by
        intro k
        induction k with
        | zero => intro h; omega
        | succ k ih =>
          intro h
          rw [anyL, Bool.or_eq_true]
          by_cases hjk : j = k
          · subst hjk; exact .inr (decide_eq_true hl)
          · exact .inl (ih (by omega))
      exact h _ hj
    have := rem_any p.length (Nat.le_refl _) this
    omega
  | succ r ih =>
    intro s hG hrem t hB L v g nx hLs hLl hO
    rw [ends_is hrem]
    refine bus_body p hR s hG t hB (nextE p s (r + 1)) (fun j acc _ h => next_not h) L v g nx hLs (by have := two_pos (r + 1); omega) hO (fold_none p.length) ?_
    intro j hj hl t' hB' v' g' nx' hO'
    have hl' : farN s j < (thr p j).length := by have := hl.2.2; rw [Int.toNat_natCast] at this; exact this
    have h1 := fold_len hR.1 (s := s) (r := r) (L := L) j
    have h2 := rem_step hG hj hl' p.length
    rw [if_pos hj] at h2
    have h3 : j * 2 ^ r + 2 ^ r ≤ 2 ^ (r + 1) := by
      rw [Nat.pow_succ, ← Nat.succ_mul, Nat.mul_comm (2 ^ r) 2]
      exact Nat.mul_le_mul_right _ (by have := hR.1; omega)
    have := ih (stepS p s j) (good_step hG hj hl') (by omega) t' hB' (foldW (nextE p s (r + 1)) j L) v' g' nx' (fold_shape hR hG hLs j (by omega)) (by omega) hO'
    rw [show nextE p s (r + 1) j (foldW (nextE p s (r + 1)) j L) = endsS p r (stepS p s j) (foldW (nextE p s (r + 1)) j L) from if_pos hl]
    exact this
end Go.Proofs.Ytmihmodlilebbaa.Abs
