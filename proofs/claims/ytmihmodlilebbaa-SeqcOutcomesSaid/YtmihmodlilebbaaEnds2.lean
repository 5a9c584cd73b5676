/- All that may be seen: the program's ends. -/
import Derived.Test.YtmihmodlilebbaaEnds
namespace Go.Proofs.Ytmihmodlilebbaa.Abs
open Go Go.RowKit Fn
set_option linter.unusedVariables false
set_option linter.unusedSimpArgs false
set_option linter.unnecessarySimpa false
set_option maxRecDepth 100000
set_option maxHeartbeats 1000000

theorem EI_bodyV {AP : AProg} {F : AFun} {args : List T} {g : Mem} {nx : Nat} {P : T → Mem → Nat → Prop} (h : W AP F.body ⟨args ++ List.replicate (F.ntmps - args.length) .undef, g, nx⟩ (fun e st => e.leaves = true ∧ ∃ v, resT st.s st.g F.res = some v ∧ P v st.g st.nx)) : ∃ N v g' nx', (∀ k, N ≤ k → runBody (ev AP k) F args g nx = some (v, g', nx')) ∧ P v g' nx' := by
  obtain ⟨N, e, st, h1, h2, v, h3, h4⟩ := h
  refine ⟨N, v, st.g, st.nx, fun k hk => ?_, h4⟩
  have := ev_add AP N (k - N) _ _ _ h1
  rw [Nat.add_sub_cancel' hk] at this
  unfold runBody
  rw [this]
  simp only [h2, if_true, h3]
/-- What is done for each in turn. -/
def nextE (p : List (List Op)) (s : PS) : Nat → Nat → Outs → Outs
  | 0 => fun _ acc => acc
  | r + 1 => fun j acc => if leftS p s (j : Int) then endsS p r (stepS p s j) acc else acc
theorem next_not {p : List (List Op)} {s : PS} {r j : Nat} {acc : Outs} (h : ¬ leftS p s (j : Int)) : nextE p s r j acc = acc := by
  cases r with
  | zero => rfl
  | succ r => show (if _ then _ else _) = _; rw [if_neg h]
theorem fold_len {p : List (List Op)} (hp : p.length ≤ 2) {s : PS} {r : Nat} {L : Outs} : ∀ k, (foldW (nextE p s (r + 1)) k L).length ≤ L.length + k * 2 ^ r
  | 0 => by simp [foldW]
  | j + 1 => by
    have ih := fold_len hp (s := s) (r := r) (L := L) j
    rw [foldW]
    show (if _ then _ else _ : Outs).length ≤ _
    split
    · have := ends_len p hp r (stepS p s j) (foldW (nextE p s (r + 1)) j L)
      rw [Nat.add_mul]; omega
    · rw [Nat.add_mul]; omega
theorem fold_shape {p : List (List Op)} (hR : RightP p) {s : PS} (hG : Good p s) {r : Nat} {L : Outs} (hL : Shape p L) : ∀ k, k ≤ p.length → Shape p (foldW (nextE p s r) k L)
  | 0, _ => hL
  | j + 1, hj => by
    have ih := fold_shape hR hG (r := r) hL j (by omega)
    rw [foldW]
    by_cases hl : leftS p s (j : Int)
    · cases r with
      | zero => exact ih
      | succ r =>
        show Shape p (if _ then _ else _)
        rw [if_pos hl]
        exact shape_ends hR r _ _ (good_step hG (by omega) (by have := hl.2.2; rw [Int.toNat_natCast] at this; exact this)) ih
    · rw [next_not hl]; exact ih
theorem fold_none {p : List (List Op)} {s : PS} {r : Nat} {L : Outs} : ∀ k, anyL p s k = false → foldW (nextE p s r) k L = L
  | 0, _ => rfl
  | k + 1, h => by
    rw [anyL, Bool.or_eq_false_iff] at h
    rw [foldW, fold_none k h.1, next_not (of_decide_eq_false h.2)]
theorem ends_is {p : List (List Op)} {s : PS} {r : Nat} {L : Outs} (h : remN p s p.length ≤ r) : endsS p r s L = if anyL p s p.length = true then foldW (nextE p s r) p.length L else leafS L s.seen := by
  cases r with
  | zero =>
    have : anyL p s p.length = false := by
      cases ha : anyL p s p.length with
      | false => rfl
      | true => have := rem_any (s := s) p.length (Nat.le_refl _) ha; omega
    rw [this]; rfl
  | succ r => rfl
/-- What such a call does to memory. -/
def EndP (g : Mem) (nx : Nat) (v v' : T) (g' : Mem) (nx' : Nat) (L : Outs) : Prop := OutA g' v' L nx' ∧ (∀ u, u < nx → (∀ n, v ≠ .own u 0 n 1) → g' u = g u) ∧ (∀ u n, v' = .own u 0 n 1 → nx ≤ u ∨ ∃ m, v = .own u 0 m 1) ∧ nx ≤ nx'
theorem out_lt {g : Mem} {v : T} {L : Outs} {hi : Nat} (h : OutA g v L hi) : ∀ u n, v = .own u 0 n 1 → u < hi := by
  intro u n e
  rcases h with ⟨_, h⟩ | ⟨_, t, c, h1, h2, _⟩
  · rw [h] at e; cases e
  · rw [h2] at e; injection e with e1; omega
theorem ap19 : ap 19 = some f19 := rfl
theorem p19 : f19.pure = false := rfl
theorem n19 : f19.nat = none := rfl
def beLoop : ACode := match f19.body with | .seq _ (.seq _ (.seq (.seq _ (.block _ (.loop c))) _)) => c | _ => .skip
def BeI (p : List (List Op)) (s : PS) (C : List T) (g0 : Mem) (nx0 : Nat) (v0 : T) (k : Nat) (L : Outs) (v : T) (st : St) : Prop := st.s.length = 37 ∧ rho st.s (.tmp 1) = v ∧ rho st.s (.tmp 2) = .ptr nx0 0 ∧ rho st.s (.tmp 5) = .bool (!anyL p s k) ∧ st.g nx0 = some C ∧ OutA st.g v L st.nx ∧ (∀ u, u < nx0 → (∀ n, v0 ≠ .own u 0 n 1) → st.g u = g0 u) ∧ (∀ u n, v = .own u 0 n 1 → nx0 < u ∨ ∃ m, v0 = .own u 0 m 1) ∧ nx0 < st.nx
theorem be_loop (p : List (List Op)) (hR : RightP p) (s : PS) (hG : Good p s) (C : List T) (hB : BusS p s (.agg C)) (F : Nat → Outs → Outs) (hF : ∀ j acc, j < p.length → ¬ leftS p s (j : Int) → F j acc = acc) (L : Outs) (g0 : Mem) (nx0 : Nat) (v0 : T) (hv0 : ∀ u n, v0 = .own u 0 n 1 → u < nx0)
    (hcall : ∀ j, j < p.length → leftS p s (j : Int) → ∀ t', BusS p (stepS p s j) t' → ∀ v' g' nx', OutA g' v' (foldW F j L) nx' → ∃ N v'' g'' nx'', (∀ k, N ≤ k → runBody (ev ap k) f19 [t', v'] g' nx' = some (v'', g'', nx'')) ∧ EndP g' nx' v' v'' g'' nx'' (F j (foldW F j L)))
    (Q : AExit → St → Prop) (hQe : ∀ st v, BeI p s C g0 nx0 v0 p.length (foldW F p.length L) v st → Q (.exit 0) st) :
    ∀ (d : Nat) (st : St), (∃ (k : Nat) (v : T), BeI p s C g0 nx0 v0 k (foldW F k L) v st ∧ rho st.s (.tmp 10) = .int .i64 (p.length : Int) ∧ rho st.s (.tmp 11) = .int .i64 (k : Int) ∧ k ≤ p.length ∧ d = p.length - k) → W ap (.loop beLoop) st Q := by
  obtain ⟨hcl, hst, _, _⟩ := bus_cells hR hG hB
  have hcut : cut C 0 14 = C := cut_all hcl
  have hn2 := hR.1
  refine W_loop _ ?_
  rintro d ⟨sl, g, nx⟩ ⟨k, v, ⟨hl, h1, h2, h5, gC, hO, hfr, hpv, hnx⟩, h10, h11, hk, hd⟩
  simp only at hl h1 h2 h5 gC hO hfr hpv hnx h10 h11
  by_cases hend : k = p.length
  · have hlt : decide ((k : Int) < (p.length : Int)) = false := decide_eq_false (by omega)
    refine W_seqn (W_region (fun k => by simp (decide := true) (disch := first | omega | (simp (decide := true) only [List.length_set, hl]; done) | fail) only [sims, evRegion, evOps, evOp, evG, evR, guardT, callee, opRes, pureR, binT, unT, T.cells, T.leaf, fillT, splice, Nat.reduceLT, Nat.reduceAdd, Nat.reduceMul, Nat.reduceLeDiff, Nat.reduceEqDiff, reduceIte, Int.reduceBEq, Int.reduceBNe, Int.reduceLT, Int.reduceLE, Int.reduceGT, Int.reduceGE, Int.reduceNeg, reduceCtorEq, h10, h11, hlt]; rfl) ⟨rfl, ?_⟩)
    refine W_seq (W_false (by simp (decide := true) (disch := first | omega | (simp (decide := true) only [List.length_set, hl]; done) | fail) only [sims, evRegion, evOps, evOp, evG, evR, guardT, callee, opRes, pureR, binT, unT, T.cells, T.leaf, fillT, splice, Nat.reduceLT, Nat.reduceAdd, Nat.reduceMul, Nat.reduceLeDiff, Nat.reduceEqDiff, reduceIte, Int.reduceBEq, Int.reduceBNe, Int.reduceLT, Int.reduceLE, Int.reduceGT, Int.reduceGE, Int.reduceNeg, reduceCtorEq] <;> rfl) (W_exit ?_))
    refine (.inr ⟨by simp, .inr ⟨by simp, hQe _ v ⟨?_, ?_, ?_, ?_, gC, ?_, hfr, hpv, Nat.lt_add_right _ hnx⟩⟩⟩)
    · simp (decide := true) (disch := first | omega | (simp (decide := true) only [List.length_set, hl]; done) | fail) only [sims, evRegion, evOps, evOp, evG, evR, guardT, callee, opRes, pureR, binT, unT, T.cells, T.leaf, fillT, splice, Nat.reduceLT, Nat.reduceAdd, Nat.reduceMul, Nat.reduceLeDiff, Nat.reduceEqDiff, reduceIte, Int.reduceBEq, Int.reduceBNe, Int.reduceLT, Int.reduceLE, Int.reduceGT, Int.reduceGE, Int.reduceNeg, reduceCtorEq, hl]
    · simp (decide := true) (disch := first | omega | (simp (decide := true) only [List.length_set, hl]; done) | fail) only [sims, evRegion, evOps, evOp, evG, evR, guardT, callee, opRes, pureR, binT, unT, T.cells, T.leaf, fillT, splice, Nat.reduceLT, Nat.reduceAdd, Nat.reduceMul, Nat.reduceLeDiff, Nat.reduceEqDiff, reduceIte, Int.reduceBEq, Int.reduceBNe, Int.reduceLT, Int.reduceLE, Int.reduceGT, Int.reduceGE, Int.reduceNeg, reduceCtorEq, h1]
    · simp (decide := true) (disch := first | omega | (simp (decide := true) only [List.length_set, hl]; done) | fail) only [sims, evRegion, evOps, evOp, evG, evR, guardT, callee, opRes, pureR, binT, unT, T.cells, T.leaf, fillT, splice, Nat.reduceLT, Nat.reduceAdd, Nat.reduceMul, Nat.reduceLeDiff, Nat.reduceEqDiff, reduceIte, Int.reduceBEq, Int.reduceBNe, Int.reduceLT, Int.reduceLE, Int.reduceGT, Int.reduceGE, Int.reduceNeg, reduceCtorEq, h2]
    · rw [← hend]; simp (decide := true) (disch := first | omega | (simp (decide := true) only [List.length_set, hl]; done) | fail) only [sims, evRegion, evOps, evOp, evG, evR, guardT, callee, opRes, pureR, binT, unT, T.cells, T.leaf, fillT, splice, Nat.reduceLT, Nat.reduceAdd, Nat.reduceMul, Nat.reduceLeDiff, Nat.reduceEqDiff, reduceIte, Int.reduceBEq, Int.reduceBNe, Int.reduceLT, Int.reduceLE, Int.reduceGT, Int.reduceGE, Int.reduceNeg, reduceCtorEq, h5]
    · rw [← hend]; exact hO.mono (Nat.le_add_right _ _) (fun _ _ _ => rfl)
  have hlt : decide ((k : Int) < (p.length : Int)) = true := decide_eq_true (by omega)
  have hkl : k < p.length := by omega
  have hw2 : IntKind.i64.wrap ((k : Int) + 1) = ((k + 1 : Nat) : Int) := by rw [wrap_id (by omega)]; omega
  obtain ⟨N1, c23⟩ := (bus_left p hR s hG (.agg C) hB (k : Int)).call ap23 (frzL_agg2 hst _ _)
  have q23 := c23 N1 (Nat.le_refl _)
  refine W_seqn (W_region (fun k => by simp (decide := true) (disch := first | omega | (simp (decide := true) only [List.length_set, hl]; done) | fail) only [sims, evRegion, evOps, evOp, evG, evR, guardT, callee, opRes, pureR, binT, unT, T.cells, T.leaf, fillT, splice, Nat.reduceLT, Nat.reduceAdd, Nat.reduceMul, Nat.reduceLeDiff, Nat.reduceEqDiff, reduceIte, Int.reduceBEq, Int.reduceBNe, Int.reduceLT, Int.reduceLE, Int.reduceGT, Int.reduceGE, Int.reduceNeg, reduceCtorEq, h10, h11, hlt]; rfl) ⟨rfl, ?_⟩)
  refine W_seqn (W_true (by simp (decide := true) (disch := first | omega | (simp (decide := true) only [List.length_set, hl]; done) | fail) only [sims, evRegion, evOps, evOp, evG, evR, guardT, callee, opRes, pureR, binT, unT, T.cells, T.leaf, fillT, splice, Nat.reduceLT, Nat.reduceAdd, Nat.reduceMul, Nat.reduceLeDiff, Nat.reduceEqDiff, reduceIte, Int.reduceBEq, Int.reduceBNe, Int.reduceLT, Int.reduceLE, Int.reduceGT, Int.reduceGE, Int.reduceNeg, reduceCtorEq] <;> rfl) (W_skip ⟨rfl, ?_⟩))
  refine W_seqn (W_block (W_seqn (W_region (fun k => by simp (decide := true) (disch := first | omega | (simp (decide := true) only [List.length_set, hl]; done) | fail) only [sims, evRegion, evOps, evOp, evG, evR, guardT, callee, opRes, pureR, binT, unT, T.cells, T.leaf, fillT, splice, Nat.reduceLT, Nat.reduceAdd, Nat.reduceMul, Nat.reduceLeDiff, Nat.reduceEqDiff, reduceIte, Int.reduceBEq, Int.reduceBNe, Int.reduceLT, Int.reduceLE, Int.reduceGT, Int.reduceGE, Int.reduceNeg, reduceCtorEq, h11]; rfl) ⟨rfl, ?_⟩)))
  by_cases hlf : leftS p s (k : Int)
  · rw [decide_eq_true hlf] at q23
    have hany : anyL p s (k + 1) = true := by rw [anyL, decide_eq_true hlf, Bool.or_true]
    obtain ⟨t', hv, hB2⟩ := bus_after p hR s hG (.agg C) hB k hkl (by have := hlf.2.2; rw [Int.toNat_natCast] at this; exact this)
    obtain ⟨N2, c24⟩ := hv.call ap24 (frzL_agg2 hst _ _)
    have q24 := c24 N2 (Nat.le_refl _)
    refine W_seqn (W_regionN ⟨N1, by simp (decide := true) (disch := first | omega | (simp (decide := true) only [List.length_set, hl]; done) | fail) only [sims, evRegion, evOps, evOp, evG, evR, guardT, callee, opRes, pureR, binT, unT, T.cells, T.leaf, fillT, splice, Nat.reduceLT, Nat.reduceAdd, Nat.reduceMul, Nat.reduceLeDiff, Nat.reduceEqDiff, reduceIte, Int.reduceBEq, Int.reduceBNe, Int.reduceLT, Int.reduceLE, Int.reduceGT, Int.reduceGE, Int.reduceNeg, reduceCtorEq, hps, h2, gC, hcl, hcut, ap23, p23, n23, q23]; rfl⟩ ⟨rfl, W_true (by simp (decide := true) (disch := first | omega | (simp (decide := true) only [List.length_set, hl]; done) | fail) only [sims, evRegion, evOps, evOp, evG, evR, guardT, callee, opRes, pureR, binT, unT, T.cells, T.leaf, fillT, splice, Nat.reduceLT, Nat.reduceAdd, Nat.reduceMul, Nat.reduceLeDiff, Nat.reduceEqDiff, reduceIte, Int.reduceBEq, Int.reduceBNe, Int.reduceLT, Int.reduceLE, Int.reduceGT, Int.reduceGE, Int.reduceNeg, reduceCtorEq] <;> rfl) ?_⟩)
    refine W_seqn (W_region (fun k => by simp (decide := true) (disch := first | omega | (simp (decide := true) only [List.length_set, hl]; done) | fail) only [sims, evRegion, evOps, evOp, evG, evR, guardT, callee, opRes, pureR, binT, unT, T.cells, T.leaf, fillT, splice, Nat.reduceLT, Nat.reduceAdd, Nat.reduceMul, Nat.reduceLeDiff, Nat.reduceEqDiff, reduceIte, Int.reduceBEq, Int.reduceBNe, Int.reduceLT, Int.reduceLE, Int.reduceGT, Int.reduceGE, Int.reduceNeg, reduceCtorEq]; rfl) ⟨rfl, ?_⟩)
    obtain ⟨N3, v2, g2, nx2, hrun, hO2, hfr2, hpv2, hnx2⟩ := hcall k hkl hlf t' hB2 v g (nx + 1 + 2 + 3 + 1 + 6) (hO.mono (by omega) (fun _ _ _ => rfl))
    have q24 := c24 (N2 + N3) (by omega)
    have q19 := hrun (N2 + N3) (by omega)
    refine W_regionN ⟨N2 + N3, by simp (decide := true) (disch := first | omega | (simp (decide := true) only [List.length_set, hl]; done) | fail) only [sims, evRegion, evOps, evOp, evG, evR, guardT, callee, opRes, pureR, binT, unT, T.cells, T.leaf, fillT, splice, Nat.reduceLT, Nat.reduceAdd, Nat.reduceMul, Nat.reduceLeDiff, Nat.reduceEqDiff, reduceIte, Int.reduceBEq, Int.reduceBNe, Int.reduceLT, Int.reduceLE, Int.reduceGT, Int.reduceGE, Int.reduceNeg, reduceCtorEq, hps, evI, h1, h2, gC, hcl, hcut, ap24, p24, n24, q24, ap19, p19, n19, q19]; rfl⟩ (.inr (.inl ⟨by simp, rfl, ?_⟩))
    refine W_region (fun k => by simp (decide := true) (disch := first | omega | (simp (decide := true) only [List.length_set, hl]; done) | fail) only [sims, evRegion, evOps, evOp, evG, evR, guardT, callee, opRes, pureR, binT, unT, T.cells, T.leaf, fillT, splice, Nat.reduceLT, Nat.reduceAdd, Nat.reduceMul, Nat.reduceLeDiff, Nat.reduceEqDiff, reduceIte, Int.reduceBEq, Int.reduceBNe, Int.reduceLT, Int.reduceLE, Int.reduceGT, Int.reduceGE, Int.reduceNeg, reduceCtorEq, h11, hw2]; rfl) ?_
    refine (.inl ⟨rfl, p.length - (k + 1), by omega, k + 1, v2, ⟨?_, ?_, ?_, ?_, ?_, ?_, ?_, ?_, ?_⟩, ?_, ?_, by omega, rfl⟩)
    · simp (decide := true) (disch := first | omega | (simp (decide := true) only [List.length_set, hl]; done) | fail) only [sims, evRegion, evOps, evOp, evG, evR, guardT, callee, opRes, pureR, binT, unT, T.cells, T.leaf, fillT, splice, Nat.reduceLT, Nat.reduceAdd, Nat.reduceMul, Nat.reduceLeDiff, Nat.reduceEqDiff, reduceIte, Int.reduceBEq, Int.reduceBNe, Int.reduceLT, Int.reduceLE, Int.reduceGT, Int.reduceGE, Int.reduceNeg, reduceCtorEq, hl]
    · simp (decide := true) (disch := first | omega | (simp (decide := true) only [List.length_set, hl]; done) | fail) only [sims, evRegion, evOps, evOp, evG, evR, guardT, callee, opRes, pureR, binT, unT, T.cells, T.leaf, fillT, splice, Nat.reduceLT, Nat.reduceAdd, Nat.reduceMul, Nat.reduceLeDiff, Nat.reduceEqDiff, reduceIte, Int.reduceBEq, Int.reduceBNe, Int.reduceLT, Int.reduceLE, Int.reduceGT, Int.reduceGE, Int.reduceNeg, reduceCtorEq]
    · simp (decide := true) (disch := first | omega | (simp (decide := true) only [List.length_set, hl]; done) | fail) only [sims, evRegion, evOps, evOp, evG, evR, guardT, callee, opRes, pureR, binT, unT, T.cells, T.leaf, fillT, splice, Nat.reduceLT, Nat.reduceAdd, Nat.reduceMul, Nat.reduceLeDiff, Nat.reduceEqDiff, reduceIte, Int.reduceBEq, Int.reduceBNe, Int.reduceLT, Int.reduceLE, Int.reduceGT, Int.reduceGE, Int.reduceNeg, reduceCtorEq, h2]
    · rw [hany]; simp (decide := true) (disch := first | omega | (simp (decide := true) only [List.length_set, hl]; done) | fail) only [sims, evRegion, evOps, evOp, evG, evR, guardT, callee, opRes, pureR, binT, unT, T.cells, T.leaf, fillT, splice, Nat.reduceLT, Nat.reduceAdd, Nat.reduceMul, Nat.reduceLeDiff, Nat.reduceEqDiff, reduceIte, Int.reduceBEq, Int.reduceBNe, Int.reduceLT, Int.reduceLE, Int.reduceGT, Int.reduceGE, Int.reduceNeg, reduceCtorEq]
    · show g2 nx0 = some C
      rw [hfr2 nx0 (by omega) (fun n e => by rcases hpv _ _ e with h | ⟨m, h⟩; omega; have := hv0 _ _ h; omega)]
      exact gC
    · exact hO2.mono (Nat.le_add_right _ _) (fun _ _ _ => rfl)
    · intro u hu hno
      show g2 u = g0 u
      rw [hfr2 u (by omega) (fun n e => by rcases hpv _ _ e with h | ⟨m, h⟩; omega; exact hno _ h)]
      exact hfr u hu hno
    · intro u n e
      rcases hpv2 u n e with h | ⟨m, h⟩
      · exact .inl (by omega)
      · exact hpv _ _ h
    · show nx0 < nx2 + 2; omega
    · simp (decide := true) (disch := first | omega | (simp (decide := true) only [List.length_set, hl]; done) | fail) only [sims, evRegion, evOps, evOp, evG, evR, guardT, callee, opRes, pureR, binT, unT, T.cells, T.leaf, fillT, splice, Nat.reduceLT, Nat.reduceAdd, Nat.reduceMul, Nat.reduceLeDiff, Nat.reduceEqDiff, reduceIte, Int.reduceBEq, Int.reduceBNe, Int.reduceLT, Int.reduceLE, Int.reduceGT, Int.reduceGE, Int.reduceNeg, reduceCtorEq, h10]
    · simp (decide := true) (disch := first | omega | (simp (decide := true) only [List.length_set, hl]; done) | fail) only [sims, evRegion, evOps, evOp, evG, evR, guardT, callee, opRes, pureR, binT, unT, T.cells, T.leaf, fillT, splice, Nat.reduceLT, Nat.reduceAdd, Nat.reduceMul, Nat.reduceLeDiff, Nat.reduceEqDiff, reduceIte, Int.reduceBEq, Int.reduceBNe, Int.reduceLT, Int.reduceLE, Int.reduceGT, Int.reduceGE, Int.reduceNeg, reduceCtorEq]
  · rw [decide_eq_false hlf] at q23
    have hany : anyL p s (k + 1) = anyL p s k := by rw [anyL, decide_eq_false hlf, Bool.or_false]
    refine W_seqn (W_regionN ⟨N1, by simp (decide := true) (disch := first | omega | (simp (decide := true) only [List.length_set, hl]; done) | fail) only [sims, evRegion, evOps, evOp, evG, evR, guardT, callee, opRes, pureR, binT, unT, T.cells, T.leaf, fillT, splice, Nat.reduceLT, Nat.reduceAdd, Nat.reduceMul, Nat.reduceLeDiff, Nat.reduceEqDiff, reduceIte, Int.reduceBEq, Int.reduceBNe, Int.reduceLT, Int.reduceLE, Int.reduceGT, Int.reduceGE, Int.reduceNeg, reduceCtorEq, hps, h2, gC, hcl, hcut, ap23, p23, n23, q23]; rfl⟩ ⟨rfl, W_false (by simp (decide := true) (disch := first | omega | (simp (decide := true) only [List.length_set, hl]; done) | fail) only [sims, evRegion, evOps, evOp, evG, evR, guardT, callee, opRes, pureR, binT, unT, T.cells, T.leaf, fillT, splice, Nat.reduceLT, Nat.reduceAdd, Nat.reduceMul, Nat.reduceLeDiff, Nat.reduceEqDiff, reduceIte, Int.reduceBEq, Int.reduceBNe, Int.reduceLT, Int.reduceLE, Int.reduceGT, Int.reduceGE, Int.reduceNeg, reduceCtorEq] <;> rfl) (W_skip (.inr (.inl ⟨by simp, rfl, ?_⟩)))⟩)
    refine W_region (fun k => by simp (decide := true) (disch := first | omega | (simp (decide := true) only [List.length_set, hl]; done) | fail) only [sims, evRegion, evOps, evOp, evG, evR, guardT, callee, opRes, pureR, binT, unT, T.cells, T.leaf, fillT, splice, Nat.reduceLT, Nat.reduceAdd, Nat.reduceMul, Nat.reduceLeDiff, Nat.reduceEqDiff, reduceIte, Int.reduceBEq, Int.reduceBNe, Int.reduceLT, Int.reduceLE, Int.reduceGT, Int.reduceGE, Int.reduceNeg, reduceCtorEq, h11, hw2]; rfl) ?_
    refine (.inl ⟨rfl, p.length - (k + 1), by omega, k + 1, v, ⟨?_, ?_, ?_, ?_, gC, ?_, hfr, hpv, ?_⟩, ?_, ?_, by omega, rfl⟩)
    · simp (decide := true) (disch := first | omega | (simp (decide := true) only [List.length_set, hl]; done) | fail) only [sims, evRegion, evOps, evOp, evG, evR, guardT, callee, opRes, pureR, binT, unT, T.cells, T.leaf, fillT, splice, Nat.reduceLT, Nat.reduceAdd, Nat.reduceMul, Nat.reduceLeDiff, Nat.reduceEqDiff, reduceIte, Int.reduceBEq, Int.reduceBNe, Int.reduceLT, Int.reduceLE, Int.reduceGT, Int.reduceGE, Int.reduceNeg, reduceCtorEq, hl]
    · simp (decide := true) (disch := first | omega | (simp (decide := true) only [List.length_set, hl]; done) | fail) only [sims, evRegion, evOps, evOp, evG, evR, guardT, callee, opRes, pureR, binT, unT, T.cells, T.leaf, fillT, splice, Nat.reduceLT, Nat.reduceAdd, Nat.reduceMul, Nat.reduceLeDiff, Nat.reduceEqDiff, reduceIte, Int.reduceBEq, Int.reduceBNe, Int.reduceLT, Int.reduceLE, Int.reduceGT, Int.reduceGE, Int.reduceNeg, reduceCtorEq, h1]
    · simp (decide := true) (disch := first | omega | (simp (decide := true) only [List.length_set, hl]; done) | fail) only [sims, evRegion, evOps, evOp, evG, evR, guardT, callee, opRes, pureR, binT, unT, T.cells, T.leaf, fillT, splice, Nat.reduceLT, Nat.reduceAdd, Nat.reduceMul, Nat.reduceLeDiff, Nat.reduceEqDiff, reduceIte, Int.reduceBEq, Int.reduceBNe, Int.reduceLT, Int.reduceLE, Int.reduceGT, Int.reduceGE, Int.reduceNeg, reduceCtorEq, h2]
    · rw [hany]; simp (decide := true) (disch := first | omega | (simp (decide := true) only [List.length_set, hl]; done) | fail) only [sims, evRegion, evOps, evOp, evG, evR, guardT, callee, opRes, pureR, binT, unT, T.cells, T.leaf, fillT, splice, Nat.reduceLT, Nat.reduceAdd, Nat.reduceMul, Nat.reduceLeDiff, Nat.reduceEqDiff, reduceIte, Int.reduceBEq, Int.reduceBNe, Int.reduceLT, Int.reduceLE, Int.reduceGT, Int.reduceGE, Int.reduceNeg, reduceCtorEq, h5]
    · rw [foldW, hF _ _ hkl hlf]
      refine hO.mono ?_ (fun _ _ _ => rfl)
      show nx ≤ nx + 1 + 2 + 3 + 2; omega
    · show nx0 < nx + 1 + 2 + 3 + 2; omega
    · simp (decide := true) (disch := first | omega | (simp (decide := true) only [List.length_set, hl]; done) | fail) only [sims, evRegion, evOps, evOp, evG, evR, guardT, callee, opRes, pureR, binT, unT, T.cells, T.leaf, fillT, splice, Nat.reduceLT, Nat.reduceAdd, Nat.reduceMul, Nat.reduceLeDiff, Nat.reduceEqDiff, reduceIte, Int.reduceBEq, Int.reduceBNe, Int.reduceLT, Int.reduceLE, Int.reduceGT, Int.reduceGE, Int.reduceNeg, reduceCtorEq, h10]
    · simp (decide := true) (disch := first | omega | (simp (decide := true) only [List.length_set, hl]; done) | fail) only [sims, evRegion, evOps, evOp, evG, evR, guardT, callee, opRes, pureR, binT, unT, T.cells, T.leaf, fillT, splice, Nat.reduceLT, Nat.reduceAdd, Nat.reduceMul, Nat.reduceLeDiff, Nat.reduceEqDiff, reduceIte, Int.reduceBEq, Int.reduceBNe, Int.reduceLT, Int.reduceLE, Int.reduceGT, Int.reduceGE, Int.reduceNeg, reduceCtorEq]
end Go.Proofs.Ytmihmodlilebbaa.Abs
