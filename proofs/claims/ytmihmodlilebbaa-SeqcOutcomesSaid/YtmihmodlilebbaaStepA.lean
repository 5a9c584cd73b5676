/- A step of the given threads: what is seen, copied. -/
import Derived.Test.YtmihmodlilebbaaRefBegin2
namespace Go.Proofs.Ytmihmodlilebbaa.Abs
open Go Go.RowKit Fn
set_option linter.unusedVariables false
set_option linter.unusedSimpArgs false
set_option linter.unnecessarySimpa false
set_option maxRecDepth 100000
set_option maxHeartbeats 1000000

/-- n lists of words, each in a block of its own, with the slice of them behind. -/
def CopyW (g : Mem) (v : T) (s : PS) (lo hi n : Nat) : Prop :=
  (n = 0 ∧ v = .imm true 0 []) ∨ (0 < n ∧ ∃ (A : Nat) (els : List T) (bf : Nat → Nat), v = .own A 0 n 1 ∧ g A = some els ∧ els.length = n ∧ A < hi ∧ ∀ j, j < n → els[j]? = some (.own (bf j) 0 (seenN s j).length 1) ∧ g (bf j) = some (wordsT (seenN s j)) ∧ lo ≤ bf j ∧ bf j < A ∧ ∀ k, j < k → k < n → bf j < bf k)
theorem CopyW.mono {g g' : Mem} {v : T} {s : PS} {lo hi hi' n : Nat} (h : CopyW g v s lo hi n) (hh : hi ≤ hi') (hg : ∀ t, lo ≤ t → t < hi → g' t = g t) : CopyW g' v s lo hi' n := by
  rcases h with h | ⟨h0, A, els, bf, h1, h2, h3, h5, h6⟩
  · exact .inl h
  · have hA : lo ≤ A := by obtain ⟨_, _, a, b, _⟩ := h6 0 h0; omega
    refine .inr ⟨h0, A, els, bf, h1, by rw [hg A hA h5]; exact h2, h3, by omega, fun j hj => ?_⟩
    obtain ⟨a, b, c, d, e⟩ := h6 j hj
    exact ⟨a, by rw [hg _ c (by omega)]; exact b, c, d, e⟩
theorem CopyW.snoc {g g' : Mem} {v : T} {s : PS} {lo hi hi' n b A : Nat} {els : List T} (h : CopyW g v s lo hi n) (hv : n = 0 ∧ els = [] ∨ (∃ B, v = .own B 0 n 1 ∧ g B = some els)) (hlo : lo ≤ hi) (hb : hi ≤ b) (hbA : b < A) (hA : A < hi') (hg : ∀ t, lo ≤ t → t < hi → (∀ k, v ≠ .own t 0 k 1) → g' t = g t) (hgb : g' b = some (wordsT (seenN s n))) (hgA : g' A = some (els ++ [.own b 0 (seenN s n).length 1])) : CopyW g' (.own A 0 (n + 1) 1) s lo hi' (n + 1) := by
  rcases h with ⟨h0, h1⟩ | ⟨h0, B, els', bf, h1, h2, h3, h5, h6⟩
  · subst h0
    have he : els = [] := by
      rcases hv with ⟨_, h⟩ | ⟨B, h, _⟩
      · exact h
      · rw [h1] at h; cases h
    subst he
    refine .inr ⟨by omega, A, _, fun _ => b, rfl, hgA, rfl, hA, fun j hj => ?_⟩
    obtain rfl : j = 0 := by omega
    exact ⟨rfl, hgb, by show lo ≤ b; omega, hbA, fun k h1 h2 => by omega⟩
  · have he : els = els' := by
      rcases hv with ⟨h, _⟩ | ⟨B', h, h'⟩
      · omega
      · rw [h1] at h; injection h with e1; subst e1
        rw [h2] at h'; exact (Option.some.inj h').symm
    subst he
    refine .inr ⟨by omega, A, _, fun j => if j = n then b else bf j, rfl, hgA, by rw [List.length_append, h3]; rfl, hA, fun j hj => ?_⟩
    by_cases hjn : j = n
    · subst hjn
      simp only [if_true]
      refine ⟨by rw [List.getElem?_append_right (by omega), h3, Nat.sub_self]; rfl, hgb, by omega, hbA, fun k a b => by omega⟩
    · simp only [if_neg hjn]
      obtain ⟨a, b', c, d, e⟩ := h6 j (by omega)
      refine ⟨by rw [List.getElem?_append_left (by omega)]; exact a, ?_, c, by omega, fun k hk1 hk2 => ?_⟩
      · rw [hg _ c (by omega) (fun k he => by rw [h1] at he; injection he with e1; omega)]; exact b'
      · by_cases hkn : k = n
        · rw [if_pos hkn]; omega
        · rw [if_neg hkn]; exact e k hk1 (by omega)
def cwLoop : ACode := match f26.body with | .seq _ (.seq _ (.seq _ (.seq _ (.seq (.seq _ (.block _ (.loop c))) _)))) => c | _ => .skip
def cwReg : ACode := match cwLoop with | .seq _ (.seq (.block _ c) _) => c | _ => .skip
/-- What the loop leaves as it is. -/
def Slots (pt : T) (w : Int) (st : St) : Prop := st.s.length = 141 ∧ rho st.s (.tmp 0) = pt ∧ rho st.s (.tmp 2) = .int .i64 w ∧ rho st.s (.tmp 4) = .ptr 0 0 ∧ rho st.s (.tmp 6) = .ptr 1 0 ∧ rho st.s (.tmp 8) = .ptr 35 0 ∧ rho st.s (.tmp 9) = .ptr 46 0
theorem cw_row (pt : T) (w : Int) (tm ta vm va : T) (hvm : T.leaf vm = true) (hva : T.leaf va = true) (fs : Bool) (s : PS) (n : Nat) (hn2 : n ≤ 2) (hsn : s.seen.length = n) (xs : List T) (hx : SeenT xs s.seen) (h8 : ∀ j, j < n → (seenN s j).length ≤ 8) (i : Nat) (v : T) (hi : i < n) (st : St) (hS : Slots pt w st) (h10 : rho st.s (.tmp 10) = .int .i64 (i : Int)) (g0 : st.g 0 = some [tm, ta, .imm fs n xs]) (g46 : st.g 46 = some [vm, va, v]) (hC : CopyW st.g v s 48 st.nx i) (hlo : 48 ≤ st.nx) (Q : AExit → St → Prop)
    (hQ : ∀ st' v', Slots pt w st' → rho st'.s (.tmp 10) = .int .i64 (i : Int) → st'.g 46 = some [vm, va, v'] → CopyW st'.g v' s 48 st'.nx (i + 1) → (∀ t, t < 48 → t ≠ 46 → st'.g t = st.g t) → 48 ≤ st'.nx → Q .normal st') : W ap cwReg st Q := by
  have hxl : xs.length = n := by rw [hx.1, hsn]
  have hsi : s.seen[i]? = some (seenN s i) := by unfold seenN; rw [List.getElem?_eq_getElem (by omega)]; rfl
  obtain ⟨f, hxi⟩ := seenT_get hx hsi
  have hxi : xs[i * 1]? = some (.imm f (seenN s i).length (wordsT (seenN s i))) := by rw [Nat.mul_one]; exact hxi
  have hl8 := h8 i hi
  have hb : i * 1 + 1 ≤ n := by omega
  have hcl := words_len (seenN s i)
  have hcf := leaf_still (words_still (seenN s i))
  obtain ⟨sl, g, nx⟩ := st
  obtain ⟨hl, h0, h2, h4, h6, h8', h9⟩ := hS
  simp only at hl h0 h2 h4 h6 h8' h9 h10 g0 g46 hC hlo hQ
  have hc1 : ∀ x y : Nat, cut [T.own x 0 y 1] 0 1 = [T.own x 0 y 1] := fun _ _ => rfl
  have hc0 : cut ([] : List T) 0 0 = [] := rfl
  have hle : allLeaf ([] : List T) = true := rfl
  have hr3 : (0 + 1) * 24 ≤ 549755813888 := by omega
  have hr4 : (i + 1) * 24 ≤ 549755813888 := by omega
  have hr5 : i + 1 ≤ 549755813888 := by omega
  have hle1 : i * 1 ≤ i := by omega
  by_cases hz : (seenN s i).length = 0
  · have hce : wordsT (seenN s i) = [] := by rw [List.length_eq_zero_iff.mp hz]; rfl
    rw [hce, hz] at hxi
    rcases hC with hC0 | hC1
    · obtain ⟨hn0, hv⟩ := id hC0
      have hC : CopyW g v s 48 nx i := .inl hC0
      subst hn0
      subst hv
      refine W_region (fun k => by simp (decide := true) (disch := first | omega | (simp (decide := true) only [List.length_set, hl]; done) | fail) only [sims, evRegion, evOps, evOp, evG, evR, guardT, callee, opRes, pureR, binT, unT, T.cells, T.leaf, fillT, splice, Nat.reduceLT, Nat.reduceAdd, Nat.reduceMul, Nat.reduceLeDiff, Nat.reduceEqDiff, reduceIte, Int.reduceBEq, Int.reduceBNe, Int.reduceLT, Int.reduceLE, Int.reduceGT, Int.reduceGE, Int.reduceNeg, reduceCtorEq, hps, cellsOf, h4, h9, h10, g0, g46, hxl, hi, hb, hxi, hc1, hc0, hle, hr3, hvm, hva, List.all]; rfl) ?_
      refine hQ _ (.own (nx + 10) 0 (0 + 1) 1) ⟨?_, ?_, ?_, ?_, ?_, ?_, ?_⟩ ?_ ?_ (CopyW.snoc (g := g) (b := nx + 2) (A := nx + 10) (els := []) (hi := nx) hC (.inl ⟨rfl, rfl⟩) hlo (by omega) (by omega) (by show nx + 10 < nx + 13; omega) (fun t ht1 ht2 hne => ?_) ?_ ?_) (fun t ht1 ht2 => ?_) (by show 48 ≤ nx + 13; omega)
      rotate_left 10
      · rw [hce]
        simp (decide := true) (disch := first | omega | (simp (decide := true) only [List.length_set, hl]; done) | fail) only [sims, evRegion, evOps, evOp, evG, evR, guardT, callee, opRes, pureR, binT, unT, T.cells, T.leaf, fillT, splice, Nat.reduceLT, Nat.reduceAdd, Nat.reduceMul, Nat.reduceLeDiff, Nat.reduceEqDiff, reduceIte, Int.reduceBEq, Int.reduceBNe, Int.reduceLT, Int.reduceLE, Int.reduceGT, Int.reduceGE, Int.reduceNeg, reduceCtorEq, hps] <;> rfl
      · rw [hz]
        simp (decide := true) (disch := first | omega | (simp (decide := true) only [List.length_set, hl]; done) | fail) only [sims, evRegion, evOps, evOp, evG, evR, guardT, callee, opRes, pureR, binT, unT, T.cells, T.leaf, fillT, splice, Nat.reduceLT, Nat.reduceAdd, Nat.reduceMul, Nat.reduceLeDiff, Nat.reduceEqDiff, reduceIte, Int.reduceBEq, Int.reduceBNe, Int.reduceLT, Int.reduceLE, Int.reduceGT, Int.reduceGE, Int.reduceNeg, reduceCtorEq, hps] <;> rfl
      all_goals first | (simp (decide := true) (disch := first | omega | (simp (decide := true) only [List.length_set, hl]; done) | fail) only [sims, evRegion, evOps, evOp, evG, evR, guardT, callee, opRes, pureR, binT, unT, T.cells, T.leaf, fillT, splice, Nat.reduceLT, Nat.reduceAdd, Nat.reduceMul, Nat.reduceLeDiff, Nat.reduceEqDiff, reduceIte, Int.reduceBEq, Int.reduceBNe, Int.reduceLT, Int.reduceLE, Int.reduceGT, Int.reduceGE, Int.reduceNeg, reduceCtorEq, hps, hl, h0, h2, h4, h6, h8', h9, h10]; done) | (simp (decide := true) (disch := first | omega | (simp (decide := true) only [List.length_set, hl]; done) | fail) only [sims, evRegion, evOps, evOp, evG, evR, guardT, callee, opRes, pureR, binT, unT, T.cells, T.leaf, fillT, splice, Nat.reduceLT, Nat.reduceAdd, Nat.reduceMul, Nat.reduceLeDiff, Nat.reduceEqDiff, reduceIte, Int.reduceBEq, Int.reduceBNe, Int.reduceLT, Int.reduceLE, Int.reduceGT, Int.reduceGE, Int.reduceNeg, reduceCtorEq, hps, hl, h0, h2, h4, h6, h8', h9, h10]; rfl)
    · obtain ⟨hn0, A, els, bf, hv, gA, hel, hA, hrest⟩ := id hC1
      have hC : CopyW g v s 48 nx i := .inr hC1
      subst hv
      have hAlo : 48 < A := by obtain ⟨_, _, a, b, _⟩ := hrest 0 hn0; omega
      have hcA : cut els 0 (i * 1) = els := cut_all (by omega)
      refine W_region (fun k => by simp (decide := true) (disch := first | omega | (simp (decide := true) only [List.length_set, hl]; done) | fail) only [sims, evRegion, evOps, evOp, evG, evR, guardT, callee, opRes, pureR, binT, unT, T.cells, T.leaf, fillT, splice, Nat.reduceLT, Nat.reduceAdd, Nat.reduceMul, Nat.reduceLeDiff, Nat.reduceEqDiff, reduceIte, Int.reduceBEq, Int.reduceBNe, Int.reduceLT, Int.reduceLE, Int.reduceGT, Int.reduceGE, Int.reduceNeg, reduceCtorEq, hps, cellsOf, h4, h9, h10, g0, g46, gA, hel, hcA, hxl, hi, hb, hxi, hc1, hc0, hle, hle1, hr4, hr5, hvm, hva, List.all]; rfl) ?_
      refine hQ _ (.own (nx + 10) 0 (i + 1) 1) ⟨?_, ?_, ?_, ?_, ?_, ?_, ?_⟩ ?_ ?_ (CopyW.snoc (g := g) (b := nx + 2) (A := nx + 10) (els := els) (hi := nx) hC (.inr ⟨A, rfl, gA⟩) hlo (by omega) (by omega) (by show nx + 10 < nx + 13; omega) (fun t ht1 ht2 hne => ?_) ?_ ?_) (fun t ht1 ht2 => ?_) (by show 48 ≤ nx + 13; omega)
      rotate_left 9
      · have hnA : A ≠ t := fun e => hne i (by rw [e])
        simp (decide := true) (disch := first | omega | (simp (decide := true) only [List.length_set, hl]; done) | fail) only [sims, evRegion, evOps, evOp, evG, evR, guardT, callee, opRes, pureR, binT, unT, T.cells, T.leaf, fillT, splice, Nat.reduceLT, Nat.reduceAdd, Nat.reduceMul, Nat.reduceLeDiff, Nat.reduceEqDiff, reduceIte, Int.reduceBEq, Int.reduceBNe, Int.reduceLT, Int.reduceLE, Int.reduceGT, Int.reduceGE, Int.reduceNeg, reduceCtorEq, hps]
      · rw [hce]
        simp (decide := true) (disch := first | omega | (simp (decide := true) only [List.length_set, hl]; done) | fail) only [sims, evRegion, evOps, evOp, evG, evR, guardT, callee, opRes, pureR, binT, unT, T.cells, T.leaf, fillT, splice, Nat.reduceLT, Nat.reduceAdd, Nat.reduceMul, Nat.reduceLeDiff, Nat.reduceEqDiff, reduceIte, Int.reduceBEq, Int.reduceBNe, Int.reduceLT, Int.reduceLE, Int.reduceGT, Int.reduceGE, Int.reduceNeg, reduceCtorEq, hps] <;> rfl
      · rw [hz]
        simp (decide := true) (disch := first | omega | (simp (decide := true) only [List.length_set, hl]; done) | fail) only [sims, evRegion, evOps, evOp, evG, evR, guardT, callee, opRes, pureR, binT, unT, T.cells, T.leaf, fillT, splice, Nat.reduceLT, Nat.reduceAdd, Nat.reduceMul, Nat.reduceLeDiff, Nat.reduceEqDiff, reduceIte, Int.reduceBEq, Int.reduceBNe, Int.reduceLT, Int.reduceLE, Int.reduceGT, Int.reduceGE, Int.reduceNeg, reduceCtorEq, hps] <;> rfl
      all_goals first | (simp (decide := true) (disch := first | omega | (simp (decide := true) only [List.length_set, hl]; done) | fail) only [sims, evRegion, evOps, evOp, evG, evR, guardT, callee, opRes, pureR, binT, unT, T.cells, T.leaf, fillT, splice, Nat.reduceLT, Nat.reduceAdd, Nat.reduceMul, Nat.reduceLeDiff, Nat.reduceEqDiff, reduceIte, Int.reduceBEq, Int.reduceBNe, Int.reduceLT, Int.reduceLE, Int.reduceGT, Int.reduceGE, Int.reduceNeg, reduceCtorEq, hps, hl, h0, h2, h4, h6, h8', h9, h10]; done) | (simp (decide := true) (disch := first | omega | (simp (decide := true) only [List.length_set, hl]; done) | fail) only [sims, evRegion, evOps, evOp, evG, evR, guardT, callee, opRes, pureR, binT, unT, T.cells, T.leaf, fillT, splice, Nat.reduceLT, Nat.reduceAdd, Nat.reduceMul, Nat.reduceLeDiff, Nat.reduceEqDiff, reduceIte, Int.reduceBEq, Int.reduceBNe, Int.reduceLT, Int.reduceLE, Int.reduceGT, Int.reduceGE, Int.reduceNeg, reduceCtorEq, hps, hl, h0, h2, h4, h6, h8', h9, h10]; rfl)
  · have hw00 : ((seenN s i).length = 0) = False := eq_false hz
    have hr1 : (0 + (seenN s i).length) * 4 ≤ 549755813888 := by omega
    have hr1' : (seenN s i).length * 4 ≤ 549755813888 := by omega
    have hr2 : (seenN s i).length ≤ 549755813888 := by omega
    have hmo : ((seenN s i).length = (seenN s i).length * 1) = True := by simp
    have hz0 : 0 * 1 = 0 := rfl
    rcases hC with hC0 | hC1
    · obtain ⟨hn0, hv⟩ := id hC0
      have hC : CopyW g v s 48 nx i := .inl hC0
      subst hn0
      subst hv
      refine W_region (fun k => by simp (decide := true) (disch := first | omega | (simp (decide := true) only [List.length_set, hl]; done) | fail) only [sims, evRegion, evOps, evOp, evG, evR, guardT, callee, opRes, pureR, binT, unT, T.cells, T.leaf, fillT, splice, Nat.reduceLT, Nat.reduceAdd, Nat.reduceMul, Nat.reduceLeDiff, Nat.reduceEqDiff, reduceIte, Int.reduceBEq, Int.reduceBNe, Int.reduceLT, Int.reduceLE, Int.reduceGT, Int.reduceGE, Int.reduceNeg, reduceCtorEq, hps, cellsOf, h4, h9, h10, g0, g46, hxl, hi, hb, hxi, hc1, hc0, hle, hr3, hcl, hcf, hw00, hr1, hr1', hr2, hmo, hz0, hvm, hva, List.all]; rfl) ?_
      refine hQ _ (.own (nx + 10) 0 (0 + 1) 1) ⟨?_, ?_, ?_, ?_, ?_, ?_, ?_⟩ ?_ ?_ (CopyW.snoc (g := g) (b := nx + 8) (A := nx + 10) (els := []) (hi := nx) hC (.inl ⟨rfl, rfl⟩) hlo (by omega) (by omega) (by show nx + 10 < nx + 13; omega) (fun t ht1 ht2 hne => ?_) ?_ ?_) (fun t ht1 ht2 => ?_) (by show 48 ≤ nx + 13; omega)
      all_goals first | (simp (decide := true) (disch := first | omega | (simp (decide := true) only [List.length_set, hl]; done) | fail) only [sims, evRegion, evOps, evOp, evG, evR, guardT, callee, opRes, pureR, binT, unT, T.cells, T.leaf, fillT, splice, Nat.reduceLT, Nat.reduceAdd, Nat.reduceMul, Nat.reduceLeDiff, Nat.reduceEqDiff, reduceIte, Int.reduceBEq, Int.reduceBNe, Int.reduceLT, Int.reduceLE, Int.reduceGT, Int.reduceGE, Int.reduceNeg, reduceCtorEq, hps, hl, h0, h2, h4, h6, h8', h9, h10]; done) | (simp (decide := true) (disch := first | omega | (simp (decide := true) only [List.length_set, hl]; done) | fail) only [sims, evRegion, evOps, evOp, evG, evR, guardT, callee, opRes, pureR, binT, unT, T.cells, T.leaf, fillT, splice, Nat.reduceLT, Nat.reduceAdd, Nat.reduceMul, Nat.reduceLeDiff, Nat.reduceEqDiff, reduceIte, Int.reduceBEq, Int.reduceBNe, Int.reduceLT, Int.reduceLE, Int.reduceGT, Int.reduceGE, Int.reduceNeg, reduceCtorEq, hps, hl, h0, h2, h4, h6, h8', h9, h10]; rfl)
    · obtain ⟨hn0, A, els, bf, hv, gA, hel, hA, hrest⟩ := id hC1
      have hC : CopyW g v s 48 nx i := .inr hC1
      subst hv
      have hAlo : 48 < A := by obtain ⟨_, _, a, b, _⟩ := hrest 0 hn0; omega
      have hcA : cut els 0 (i * 1) = els := cut_all (by omega)
      refine W_region (fun k => by simp (decide := true) (disch := first | omega | (simp (decide := true) only [List.length_set, hl]; done) | fail) only [sims, evRegion, evOps, evOp, evG, evR, guardT, callee, opRes, pureR, binT, unT, T.cells, T.leaf, fillT, splice, Nat.reduceLT, Nat.reduceAdd, Nat.reduceMul, Nat.reduceLeDiff, Nat.reduceEqDiff, reduceIte, Int.reduceBEq, Int.reduceBNe, Int.reduceLT, Int.reduceLE, Int.reduceGT, Int.reduceGE, Int.reduceNeg, reduceCtorEq, hps, cellsOf, h4, h9, h10, g0, g46, gA, hel, hcA, hxl, hi, hb, hxi, hc1, hc0, hle, hle1, hr4, hr5, hcl, hcf, hw00, hr1, hr1', hr2, hmo, hz0, hvm, hva, List.all]; rfl) ?_
      refine hQ _ (.own (nx + 10) 0 (i + 1) 1) ⟨?_, ?_, ?_, ?_, ?_, ?_, ?_⟩ ?_ ?_ (CopyW.snoc (g := g) (b := nx + 8) (A := nx + 10) (els := els) (hi := nx) hC (.inr ⟨A, rfl, gA⟩) hlo (by omega) (by omega) (by show nx + 10 < nx + 13; omega) (fun t ht1 ht2 hne => ?_) ?_ ?_) (fun t ht1 ht2 => ?_) (by show 48 ≤ nx + 13; omega)
      rotate_left 9
      · have hnA : A ≠ t := fun e => hne i (by rw [e])
        simp (decide := true) (disch := first | omega | (simp (decide := true) only [List.length_set, hl]; done) | fail) only [sims, evRegion, evOps, evOp, evG, evR, guardT, callee, opRes, pureR, binT, unT, T.cells, T.leaf, fillT, splice, Nat.reduceLT, Nat.reduceAdd, Nat.reduceMul, Nat.reduceLeDiff, Nat.reduceEqDiff, reduceIte, Int.reduceBEq, Int.reduceBNe, Int.reduceLT, Int.reduceLE, Int.reduceGT, Int.reduceGE, Int.reduceNeg, reduceCtorEq, hps]
      all_goals first | (simp (decide := true) (disch := first | omega | (simp (decide := true) only [List.length_set, hl]; done) | fail) only [sims, evRegion, evOps, evOp, evG, evR, guardT, callee, opRes, pureR, binT, unT, T.cells, T.leaf, fillT, splice, Nat.reduceLT, Nat.reduceAdd, Nat.reduceMul, Nat.reduceLeDiff, Nat.reduceEqDiff, reduceIte, Int.reduceBEq, Int.reduceBNe, Int.reduceLT, Int.reduceLE, Int.reduceGT, Int.reduceGE, Int.reduceNeg, reduceCtorEq, hps, hl, h0, h2, h4, h6, h8', h9, h10]; done) | (simp (decide := true) (disch := first | omega | (simp (decide := true) only [List.length_set, hl]; done) | fail) only [sims, evRegion, evOps, evOp, evG, evR, guardT, callee, opRes, pureR, binT, unT, T.cells, T.leaf, fillT, splice, Nat.reduceLT, Nat.reduceAdd, Nat.reduceMul, Nat.reduceLeDiff, Nat.reduceEqDiff, reduceIte, Int.reduceBEq, Int.reduceBNe, Int.reduceLT, Int.reduceLE, Int.reduceGT, Int.reduceGE, Int.reduceNeg, reduceCtorEq, hps, hl, h0, h2, h4, h6, h8', h9, h10]; rfl)
theorem cw_loop (pt : T) (w : Int) (tm ta vm va : T) (hvm : T.leaf vm = true) (hva : T.leaf va = true) (fs : Bool) (s : PS) (n : Nat) (hn2 : n ≤ 2) (hsn : s.seen.length = n) (xs : List T) (hx : SeenT xs s.seen) (h8 : ∀ j, j < n → (seenN s j).length ≤ 8) (g1 : Mem) (Q : AExit → St → Prop)
    (hQ : ∀ st v, Slots pt w st → st.g 46 = some [vm, va, v] → CopyW st.g v s 48 st.nx n → (∀ t, t < 48 → t ≠ 46 → st.g t = g1 t) → 48 ≤ st.nx → Q (.exit 0) st) (g10 : g1 0 = some [tm, ta, .imm fs n xs]) :
    ∀ (d : Nat) (st : St), (∃ (i : Nat) (v : T), Slots pt w st ∧ rho st.s (.tmp 10) = .int .i64 (i : Int) ∧ st.g 46 = some [vm, va, v] ∧ CopyW st.g v s 48 st.nx i ∧ (∀ t, t < 48 → t ≠ 46 → st.g t = g1 t) ∧ 48 ≤ st.nx ∧ i ≤ n ∧ d = n - i) → W ap (.loop cwLoop) st Q := by
  refine W_loop _ ?_
  rintro d st ⟨i, v, hS, h10, g46, hC, hg, hnx, hi, hd⟩
  have g0 := hg 0 (by omega) (by omega)
  rw [g10] at g0
  have hS' := hS
  obtain ⟨hl, h0, h2, h4, h6, h8', h9⟩ := hS'
  by_cases hend : i = n
  · have hlt : decide ((i : Int) < (n : Int)) = false := decide_eq_false (by omega)
    refine W_seq (W_seqn (W_region (fun k => by simp (decide := true) (disch := first | omega | (simp (decide := true) only [List.length_set, hl]; done) | fail) only [sims, evRegion, evOps, evOp, evG, evR, guardT, callee, opRes, pureR, binT, unT, T.cells, T.leaf, fillT, splice, Nat.reduceLT, Nat.reduceAdd, Nat.reduceMul, Nat.reduceLeDiff, Nat.reduceEqDiff, reduceIte, Int.reduceBEq, Int.reduceBNe, Int.reduceLT, Int.reduceLE, Int.reduceGT, Int.reduceGE, Int.reduceNeg, reduceCtorEq, h4, h10, g0, hlt]; rfl) ⟨rfl, W_false (by simp (decide := true) (disch := first | omega | (simp (decide := true) only [List.length_set, hl]; done) | fail) only [sims, evRegion, evOps, evOp, evG, evR, guardT, callee, opRes, pureR, binT, unT, T.cells, T.leaf, fillT, splice, Nat.reduceLT, Nat.reduceAdd, Nat.reduceMul, Nat.reduceLeDiff, Nat.reduceEqDiff, reduceIte, Int.reduceBEq, Int.reduceBNe, Int.reduceLT, Int.reduceLE, Int.reduceGT, Int.reduceGE, Int.reduceNeg, reduceCtorEq] <;> rfl) (W_exit ?_)⟩))
    refine (.inr ⟨by simp, .inr ⟨by simp, hQ _ v ⟨?_, ?_, ?_, ?_, ?_, ?_, ?_⟩ g46 ?_ hg (Nat.le_add_right_of_le hnx)⟩⟩)
    rotate_right 1
    · rw [hend] at hC
      exact hC.mono (Nat.le_add_right _ _) (fun t _ _ => rfl)
    all_goals simp (decide := true) (disch := first | omega | (simp (decide := true) only [List.length_set, hl]; done) | fail) only [sims, evRegion, evOps, evOp, evG, evR, guardT, callee, opRes, pureR, binT, unT, T.cells, T.leaf, fillT, splice, Nat.reduceLT, Nat.reduceAdd, Nat.reduceMul, Nat.reduceLeDiff, Nat.reduceEqDiff, reduceIte, Int.reduceBEq, Int.reduceBNe, Int.reduceLT, Int.reduceLE, Int.reduceGT, Int.reduceGE, Int.reduceNeg, reduceCtorEq, hl, h0, h2, h4, h6, h8', h9]
  have hlt : decide ((i : Int) < (n : Int)) = true := decide_eq_true (by omega)
  have hw2 : IntKind.i64.wrap ((i : Int) + 1) = ((i + 1 : Nat) : Int) := by rw [wrap_id (by omega)]; omega
  refine W_seqn (W_seqn (W_region (fun k => by simp (decide := true) (disch := first | omega | (simp (decide := true) only [List.length_set, hl]; done) | fail) only [sims, evRegion, evOps, evOp, evG, evR, guardT, callee, opRes, pureR, binT, unT, T.cells, T.leaf, fillT, splice, Nat.reduceLT, Nat.reduceAdd, Nat.reduceMul, Nat.reduceLeDiff, Nat.reduceEqDiff, reduceIte, Int.reduceBEq, Int.reduceBNe, Int.reduceLT, Int.reduceLE, Int.reduceGT, Int.reduceGE, Int.reduceNeg, reduceCtorEq, h4, h10, g0, hlt]; rfl) ⟨rfl, W_true (by simp (decide := true) (disch := first | omega | (simp (decide := true) only [List.length_set, hl]; done) | fail) only [sims, evRegion, evOps, evOp, evG, evR, guardT, callee, opRes, pureR, binT, unT, T.cells, T.leaf, fillT, splice, Nat.reduceLT, Nat.reduceAdd, Nat.reduceMul, Nat.reduceLeDiff, Nat.reduceEqDiff, reduceIte, Int.reduceBEq, Int.reduceBNe, Int.reduceLT, Int.reduceLE, Int.reduceGT, Int.reduceGE, Int.reduceNeg, reduceCtorEq] <;> rfl) (W_skip ⟨rfl, ?_⟩)⟩))
  refine W_seqn (W_block ?_)
  refine cw_row pt w tm ta vm va hvm hva fs s n hn2 hsn xs hx h8 i v (by omega) _ ⟨?_, ?_, ?_, ?_, ?_, ?_, ?_⟩ ?_ ?_ ?_ ?_ ?_ _ ?_
  rotate_left 8
  · exact g0
  · exact g46
  · exact hC.mono (Nat.le_add_right _ _) (fun t _ _ => rfl)
  · exact Nat.le_add_right_of_le hnx
  · intro st' v' hS2 a10 g46' hC' hg' hnx'
    obtain ⟨hl, h0, h2, h4, h6, h8', h9⟩ := hS2
    refine .inr (.inl ⟨by simp, rfl, ?_⟩)
    refine W_region (fun k => by simp (decide := true) (disch := first | omega | (simp (decide := true) only [List.length_set, hl]; done) | fail) only [sims, evRegion, evOps, evOp, evG, evR, guardT, callee, opRes, pureR, binT, unT, T.cells, T.leaf, fillT, splice, Nat.reduceLT, Nat.reduceAdd, Nat.reduceMul, Nat.reduceLeDiff, Nat.reduceEqDiff, reduceIte, Int.reduceBEq, Int.reduceBNe, Int.reduceLT, Int.reduceLE, Int.reduceGT, Int.reduceGE, Int.reduceNeg, reduceCtorEq, a10, hw2]; rfl) ?_
    refine .inl ⟨rfl, n - (i + 1), by omega, i + 1, v', ⟨?_, ?_, ?_, ?_, ?_, ?_, ?_⟩, ?_, g46', hC'.mono (Nat.le_add_right _ _) (fun t _ _ => rfl), fun t h1 h2 => ?_, Nat.le_add_right_of_le hnx', by omega, rfl⟩
    rotate_right 1
    · rw [← hg t h1 h2]; exact hg' t h1 h2
    all_goals simp (decide := true) (disch := first | omega | (simp (decide := true) only [List.length_set, hl]; done) | fail) only [sims, evRegion, evOps, evOp, evG, evR, guardT, callee, opRes, pureR, binT, unT, T.cells, T.leaf, fillT, splice, Nat.reduceLT, Nat.reduceAdd, Nat.reduceMul, Nat.reduceLeDiff, Nat.reduceEqDiff, reduceIte, Int.reduceBEq, Int.reduceBNe, Int.reduceLT, Int.reduceLE, Int.reduceGT, Int.reduceGE, Int.reduceNeg, reduceCtorEq, hl, h0, h2, h4, h6, h8', h9]
  all_goals simp (decide := true) (disch := first | omega | (simp (decide := true) only [List.length_set, hl]; done) | fail) only [sims, evRegion, evOps, evOp, evG, evR, guardT, callee, opRes, pureR, binT, unT, T.cells, T.leaf, fillT, splice, Nat.reduceLT, Nat.reduceAdd, Nat.reduceMul, Nat.reduceLeDiff, Nat.reduceEqDiff, reduceIte, Int.reduceBEq, Int.reduceBNe, Int.reduceLT, Int.reduceLE, Int.reduceGT, Int.reduceGE, Int.reduceNeg, reduceCtorEq, hl, h0, h2, h4, h6, h8', h9, h10]
end Go.Proofs.Ytmihmodlilebbaa.Abs
