/- A cache in new memory: the given 'copied'. -/
import Derived.Test.YthanlobfjpjegaaTch
namespace Go.Proofs.Ythanlobfjpjegaa.Abs
open Go Go.RowKit Fn
set_option linter.unusedVariables false
set_option linter.unusedSimpArgs false
set_option linter.unnecessarySimpa false
set_option maxRecDepth 100000

theorem ap41 : ap 41 = some f41 := rfl
theorem p41 : f41.pure = false := rfl
theorem n41 : f41.nat = none := rfl
def rowN (R : List (List Way)) (j : Nat) : List Way := (R[j]?).getD []
/-- n rows, each in a block of its own, with the slice of them behind. -/
def CopyAt (g : Mem) (v : T) (R : List (List Way)) (lo hi n : Nat) : Prop :=
  (n = 0 ∧ v = .imm true 0 []) ∨ (0 < n ∧ ∃ (A : Nat) (els : List T) (bf : Nat → Nat), v = .own A 0 n 1 ∧ g A = some els ∧ els.length = n ∧ allLeaf els = true ∧ A < hi ∧ ∀ j, j < n → els[j]? = some (.own (bf j) 0 (rowN R j).length 19) ∧ g (bf j) = some ((rowN R j).flatMap Way.enc) ∧ lo ≤ bf j ∧ bf j < A ∧ ∀ k, j < k → k < n → bf j < bf k)
theorem CopyAt.mono {g g' : Mem} {v : T} {R : List (List Way)} {lo hi hi' n : Nat} (h : CopyAt g v R lo hi n) (hh : hi ≤ hi') (hg : ∀ t, lo ≤ t → t < hi → g' t = g t) : CopyAt g' v R lo hi' n := by
  rcases h with h | ⟨h0, A, els, bf, h1, h2, h3, h4, h5, h6⟩
  · exact .inl h
  · have hA : lo ≤ A := by obtain ⟨_, _, a, b, _⟩ := h6 0 h0; omega
    refine .inr ⟨h0, A, els, bf, h1, by rw [hg A hA h5]; exact h2, h3, h4, by omega, fun j hj => ?_⟩
    obtain ⟨a, b, c, d, e⟩ := h6 j hj
    exact ⟨a, by rw [hg _ c (by omega)]; exact b, c, d, e⟩
theorem CopyAt.snoc {g g' : Mem} {v : T} {R : List (List Way)} {lo hi hi' n b A : Nat} {els : List T} (h : CopyAt g v R lo hi n) (hv : n = 0 ∧ els = [] ∨ (∃ B, v = .own B 0 n 1 ∧ g B = some els)) (hlo : lo ≤ hi) (hb : hi ≤ b) (hbA : b < A) (hA : A < hi') (hg : ∀ t, lo ≤ t → t < hi → (∀ k, v ≠ .own t 0 k 1) → g' t = g t) (hgb : g' b = some ((rowN R n).flatMap Way.enc)) (hgA : g' A = some (els ++ [.own b 0 (rowN R n).length 19])) : CopyAt g' (.own A 0 (n + 1) 1) R lo hi' (n + 1) := by
  rcases h with ⟨h0, h1⟩ | ⟨h0, B, els', bf, h1, h2, h3, h4, h5, h6⟩
  · subst h0
    have he : els = [] := by
      rcases hv with ⟨_, h⟩ | ⟨B, h, _⟩
      · exact h
      · rw [h1] at h; cases h
    subst he
    refine .inr ⟨by omega, A, _, fun _ => b, rfl, hgA, rfl, rfl, hA, fun j hj => ?_⟩
    obtain rfl : j = 0 := by omega
    exact ⟨rfl, hgb, by show lo ≤ b; omega, hbA, fun k h1 h2 => by omega⟩
  · have he : els = els' := by
      rcases hv with ⟨h, _⟩ | ⟨B', h, h'⟩
      · omega
      · rw [h1] at h; injection h with e1; subst e1
        rw [h2] at h'; exact (Option.some.inj h').symm
    subst he
    refine .inr ⟨by omega, A, _, fun j => if j = n then b else bf j, rfl, hgA, by rw [List.length_append, h3]; rfl, leaf_append h4 leaf_own, hA, fun j hj => ?_⟩
    by_cases hjn : j = n
    · subst hjn
      simp only [if_true]
      refine ⟨by rw [List.getElem?_append_right (by omega), h3, Nat.sub_self]; rfl, hgb, by omega, hbA, fun k a b => by omega⟩
    · simp only [if_neg hjn]
      obtain ⟨a, b', c, d, e⟩ := h6 j (by omega)
      refine ⟨by rw [List.getElem?_append_left (by omega)]; exact a, ?_, c, by omega, fun k hk1 hk2 => ?_⟩
      · rw [hg _ c (by omega) (fun k he => by rw [h1] at he; injection he with e1; omega)]; exact b'
      · by_cases hkn : k = n
        · rw [if_pos hkn]; omega
        · rw [if_neg hkn]; exact e k hk1 (by omega)
def copyLoop : ACode := match f41.body with | .seq _ (.seq _ (.seq (.seq _ (.block _ (.loop c))) _)) => c | _ => .skip
def copyReg : ACode := match copyLoop with | .seq _ (.seq (.block _ c) _) => c | _ => .skip
theorem copy_row (fx : Bool) (R : List (List Way)) (xs : List T) (hx : Tells xs R) (hR : R.length ≤ 1000) (hw : ∀ l ∈ R, l.length ≤ 1000 ∧ ∀ w ∈ l, w.wf) (p q lo i : Nat) (v : T) (hi : i < R.length) (st : St) (hl : st.s.length = 25) (h1 : rho st.s (.tmp 1) = .ptr p 0) (h3 : rho st.s (.tmp 3) = .ptr q 0) (h4 : rho st.s (.tmp 4) = .int .i64 (i : Int)) (gp : st.g p = some [.imm fx R.length xs]) (gq : st.g q = some [v]) (hp : p < lo) (hq : q < lo) (hC : CopyAt st.g v R lo st.nx i) (hlo : lo ≤ st.nx) (Q : AExit → St → Prop)
    (hQ : ∀ st' v', st'.s.length = 25 → rho st'.s (.tmp 1) = .ptr p 0 → rho st'.s (.tmp 2) = rho st.s (.tmp 2) → rho st'.s (.tmp 3) = .ptr q 0 → rho st'.s (.tmp 4) = .int .i64 (i : Int) → st'.g q = some [v'] → CopyAt st'.g v' R lo st'.nx (i + 1) → (∀ t, t < lo → t ≠ q → st'.g t = st.g t) → lo ≤ st'.nx → Q .normal st') : W ap copyReg st Q := by
  obtain ⟨f, hxi⟩ := hx.2 i hi
  obtain ⟨hrl, hrw⟩ := hw _ (List.getElem_mem hi)
  have hxl := hx.1
  have hb : i * 1 + 1 ≤ R.length := by omega
  have hrn : rowN R i = R[i] := by unfold rowN; rw [List.getElem?_eq_getElem hi]; rfl
  have hcl : (R[i].flatMap Way.enc).length = R[i].length * 19 := flat_lenM (f := Way.enc) _ (fun w h => way_len (hrw w h))
  have hcf : allLeaf (R[i].flatMap Way.enc) = true := leaf_ints _ (fun x hx => by
    rw [List.mem_flatMap] at hx
    obtain ⟨w, _, hw⟩ := hx
    exact way_ints w x hw)
  obtain ⟨s, g, nx⟩ := st
  simp only at hl h1 h3 h4 gp gq hC hlo hQ
  have hpq : (q = p) = False := by
    refine eq_false (fun e => ?_)
    subst e
    rw [gq] at gp
    injection gp with e1; injection e1 with e2; subst e2
    rcases hC with ⟨_, e⟩ | ⟨_, A, els, bf, e, _⟩
    · injection e with a b c
      omega
    · cases e
  have hnn : (nx = nx) = True := by simp
  have hc1 : ∀ x y : Nat, cut [T.own x 0 y 19] 0 1 = [T.own x 0 y 19] := fun _ _ => rfl
  have hc0 : cut ([] : List T) 0 0 = [] := rfl
  have hle : allLeaf ([] : List T) = true := rfl
  have hw0' : ∀ m : Nat, (0 + m) = m := fun m => Nat.zero_add m
  by_cases hz : R[i].length = 0
  · have hce : R[i].flatMap Way.enc = [] := by rw [List.length_eq_zero_iff.mp hz]; rfl
    rw [hce, hz] at hxi
    rcases hC with hC0 | hC1
    · obtain ⟨hn0, hv⟩ := id hC0
      have hC : CopyAt g v R lo nx i := .inl hC0
      subst hn0
      subst hv
      refine W_region (fun k => by simp (decide := true) (disch := first | omega | (simp (decide := true) only [List.length_set, hl]; done) | fail) only [sims, evRegion, evOps, evOp, evG, evR, guardT, callee, opRes, pureR, binT, unT, T.cells, T.leaf, fillT, splice, Nat.reduceLT, Nat.reduceAdd, Nat.reduceMul, Nat.reduceLeDiff, Nat.reduceEqDiff, reduceIte, Int.reduceBEq, Int.reduceBNe, Int.reduceLT, Int.reduceLE, Int.reduceGT, Int.reduceGE, Int.reduceNeg, reduceCtorEq, hps, cellsOf, h1, h3, h4, gp, gq, hxl, hi, hb, hxi, hc1, hc0, hle, List.all]; rfl) ?_
      refine hQ _ (.own (nx + 10) 0 (0 + 1) 1) (by simp (decide := true) (disch := first | omega | (simp (decide := true) only [List.length_set, hl]; done) | fail) only [sims, evRegion, evOps, evOp, evG, evR, guardT, callee, opRes, pureR, binT, unT, T.cells, T.leaf, fillT, splice, Nat.reduceLT, Nat.reduceAdd, Nat.reduceMul, Nat.reduceLeDiff, Nat.reduceEqDiff, reduceIte, Int.reduceBEq, Int.reduceBNe, Int.reduceLT, Int.reduceLE, Int.reduceGT, Int.reduceGE, Int.reduceNeg, reduceCtorEq, hl]) (by simp (decide := true) (disch := first | omega | (simp (decide := true) only [List.length_set, hl]; done) | fail) only [sims, evRegion, evOps, evOp, evG, evR, guardT, callee, opRes, pureR, binT, unT, T.cells, T.leaf, fillT, splice, Nat.reduceLT, Nat.reduceAdd, Nat.reduceMul, Nat.reduceLeDiff, Nat.reduceEqDiff, reduceIte, Int.reduceBEq, Int.reduceBNe, Int.reduceLT, Int.reduceLE, Int.reduceGT, Int.reduceGE, Int.reduceNeg, reduceCtorEq, h1]) (by simp (decide := true) (disch := first | omega | (simp (decide := true) only [List.length_set, hl]; done) | fail) only [sims, evRegion, evOps, evOp, evG, evR, guardT, callee, opRes, pureR, binT, unT, T.cells, T.leaf, fillT, splice, Nat.reduceLT, Nat.reduceAdd, Nat.reduceMul, Nat.reduceLeDiff, Nat.reduceEqDiff, reduceIte, Int.reduceBEq, Int.reduceBNe, Int.reduceLT, Int.reduceLE, Int.reduceGT, Int.reduceGE, Int.reduceNeg, reduceCtorEq]) (by simp (decide := true) (disch := first | omega | (simp (decide := true) only [List.length_set, hl]; done) | fail) only [sims, evRegion, evOps, evOp, evG, evR, guardT, callee, opRes, pureR, binT, unT, T.cells, T.leaf, fillT, splice, Nat.reduceLT, Nat.reduceAdd, Nat.reduceMul, Nat.reduceLeDiff, Nat.reduceEqDiff, reduceIte, Int.reduceBEq, Int.reduceBNe, Int.reduceLT, Int.reduceLE, Int.reduceGT, Int.reduceGE, Int.reduceNeg, reduceCtorEq, h3]) (by simp (decide := true) (disch := first | omega | (simp (decide := true) only [List.length_set, hl]; done) | fail) only [sims, evRegion, evOps, evOp, evG, evR, guardT, callee, opRes, pureR, binT, unT, T.cells, T.leaf, fillT, splice, Nat.reduceLT, Nat.reduceAdd, Nat.reduceMul, Nat.reduceLeDiff, Nat.reduceEqDiff, reduceIte, Int.reduceBEq, Int.reduceBNe, Int.reduceLT, Int.reduceLE, Int.reduceGT, Int.reduceGE, Int.reduceNeg, reduceCtorEq, h4]) (by simp (decide := true) (disch := first | omega | (simp (decide := true) only [List.length_set, hl]; done) | fail) only [sims, evRegion, evOps, evOp, evG, evR, guardT, callee, opRes, pureR, binT, unT, T.cells, T.leaf, fillT, splice, Nat.reduceLT, Nat.reduceAdd, Nat.reduceMul, Nat.reduceLeDiff, Nat.reduceEqDiff, reduceIte, Int.reduceBEq, Int.reduceBNe, Int.reduceLT, Int.reduceLE, Int.reduceGT, Int.reduceGE, Int.reduceNeg, reduceCtorEq, hps] <;> rfl) ?_ ?_ ?_
      · refine CopyAt.snoc (g := g) (b := nx + 2) (A := nx + 10) (els := []) (hi := nx) hC (.inl ⟨rfl, rfl⟩) hlo (by omega) (by omega) (by show nx + 10 < nx + 13; omega) (fun t ht1 ht2 hne => ?_) ?_ ?_
        · simp (decide := true) (disch := first | omega | (simp (decide := true) only [List.length_set, hl]; done) | fail) only [sims, evRegion, evOps, evOp, evG, evR, guardT, callee, opRes, pureR, binT, unT, T.cells, T.leaf, fillT, splice, Nat.reduceLT, Nat.reduceAdd, Nat.reduceMul, Nat.reduceLeDiff, Nat.reduceEqDiff, reduceIte, Int.reduceBEq, Int.reduceBNe, Int.reduceLT, Int.reduceLE, Int.reduceGT, Int.reduceGE, Int.reduceNeg, reduceCtorEq, hps]
        · rw [hrn, hce]
          simp (decide := true) (disch := first | omega | (simp (decide := true) only [List.length_set, hl]; done) | fail) only [sims, evRegion, evOps, evOp, evG, evR, guardT, callee, opRes, pureR, binT, unT, T.cells, T.leaf, fillT, splice, Nat.reduceLT, Nat.reduceAdd, Nat.reduceMul, Nat.reduceLeDiff, Nat.reduceEqDiff, reduceIte, Int.reduceBEq, Int.reduceBNe, Int.reduceLT, Int.reduceLE, Int.reduceGT, Int.reduceGE, Int.reduceNeg, reduceCtorEq, hps] <;> rfl
        · rw [hrn, hz]
          simp (decide := true) (disch := first | omega | (simp (decide := true) only [List.length_set, hl]; done) | fail) only [sims, evRegion, evOps, evOp, evG, evR, guardT, callee, opRes, pureR, binT, unT, T.cells, T.leaf, fillT, splice, Nat.reduceLT, Nat.reduceAdd, Nat.reduceMul, Nat.reduceLeDiff, Nat.reduceEqDiff, reduceIte, Int.reduceBEq, Int.reduceBNe, Int.reduceLT, Int.reduceLE, Int.reduceGT, Int.reduceGE, Int.reduceNeg, reduceCtorEq, hps] <;> rfl
      · intro t ht1 ht2
        simp (decide := true) (disch := first | omega | (simp (decide := true) only [List.length_set, hl]; done) | fail) only [sims, evRegion, evOps, evOp, evG, evR, guardT, callee, opRes, pureR, binT, unT, T.cells, T.leaf, fillT, splice, Nat.reduceLT, Nat.reduceAdd, Nat.reduceMul, Nat.reduceLeDiff, Nat.reduceEqDiff, reduceIte, Int.reduceBEq, Int.reduceBNe, Int.reduceLT, Int.reduceLE, Int.reduceGT, Int.reduceGE, Int.reduceNeg, reduceCtorEq, hps] <;> rfl
      · show lo ≤ nx + 13; omega
    · obtain ⟨hn0, A, els, bf, hv, gA, hel, helf, hA, hrest⟩ := id hC1
      have hC : CopyAt g v R lo nx i := .inr hC1
      subst hv
      have hAlo : lo < A := by obtain ⟨_, _, a, b, _⟩ := hrest 0 hn0; omega
      have hcA : cut els 0 (i * 1) = els := cut_all (by omega)
      have hr3 : (i + 1) * 24 ≤ 549755813888 := by omega
      have hr4 : i + 1 ≤ 549755813888 := by omega
      have hle1 : i * 1 ≤ i := by omega
      have hAn : (A = nx) = False := by simp; omega
      refine W_region (fun k => by simp (decide := true) (disch := first | omega | (simp (decide := true) only [List.length_set, hl]; done) | fail) only [sims, evRegion, evOps, evOp, evG, evR, guardT, callee, opRes, pureR, binT, unT, T.cells, T.leaf, fillT, splice, Nat.reduceLT, Nat.reduceAdd, Nat.reduceMul, Nat.reduceLeDiff, Nat.reduceEqDiff, reduceIte, Int.reduceBEq, Int.reduceBNe, Int.reduceLT, Int.reduceLE, Int.reduceGT, Int.reduceGE, Int.reduceNeg, reduceCtorEq, hps, cellsOf, h1, h3, h4, gp, gq, hxl, hi, hb, hxi, hc1, hc0, hle, List.all, gA, hel, hcA, hr3, hr4, hle1, hAn]; rfl) ?_
      refine hQ _ (.own (nx + 10) 0 (i + 1) 1) (by simp (decide := true) (disch := first | omega | (simp (decide := true) only [List.length_set, hl]; done) | fail) only [sims, evRegion, evOps, evOp, evG, evR, guardT, callee, opRes, pureR, binT, unT, T.cells, T.leaf, fillT, splice, Nat.reduceLT, Nat.reduceAdd, Nat.reduceMul, Nat.reduceLeDiff, Nat.reduceEqDiff, reduceIte, Int.reduceBEq, Int.reduceBNe, Int.reduceLT, Int.reduceLE, Int.reduceGT, Int.reduceGE, Int.reduceNeg, reduceCtorEq, hl]) (by simp (decide := true) (disch := first | omega | (simp (decide := true) only [List.length_set, hl]; done) | fail) only [sims, evRegion, evOps, evOp, evG, evR, guardT, callee, opRes, pureR, binT, unT, T.cells, T.leaf, fillT, splice, Nat.reduceLT, Nat.reduceAdd, Nat.reduceMul, Nat.reduceLeDiff, Nat.reduceEqDiff, reduceIte, Int.reduceBEq, Int.reduceBNe, Int.reduceLT, Int.reduceLE, Int.reduceGT, Int.reduceGE, Int.reduceNeg, reduceCtorEq, h1]) (by simp (decide := true) (disch := first | omega | (simp (decide := true) only [List.length_set, hl]; done) | fail) only [sims, evRegion, evOps, evOp, evG, evR, guardT, callee, opRes, pureR, binT, unT, T.cells, T.leaf, fillT, splice, Nat.reduceLT, Nat.reduceAdd, Nat.reduceMul, Nat.reduceLeDiff, Nat.reduceEqDiff, reduceIte, Int.reduceBEq, Int.reduceBNe, Int.reduceLT, Int.reduceLE, Int.reduceGT, Int.reduceGE, Int.reduceNeg, reduceCtorEq]) (by simp (decide := true) (disch := first | omega | (simp (decide := true) only [List.length_set, hl]; done) | fail) only [sims, evRegion, evOps, evOp, evG, evR, guardT, callee, opRes, pureR, binT, unT, T.cells, T.leaf, fillT, splice, Nat.reduceLT, Nat.reduceAdd, Nat.reduceMul, Nat.reduceLeDiff, Nat.reduceEqDiff, reduceIte, Int.reduceBEq, Int.reduceBNe, Int.reduceLT, Int.reduceLE, Int.reduceGT, Int.reduceGE, Int.reduceNeg, reduceCtorEq, h3]) (by simp (decide := true) (disch := first | omega | (simp (decide := true) only [List.length_set, hl]; done) | fail) only [sims, evRegion, evOps, evOp, evG, evR, guardT, callee, opRes, pureR, binT, unT, T.cells, T.leaf, fillT, splice, Nat.reduceLT, Nat.reduceAdd, Nat.reduceMul, Nat.reduceLeDiff, Nat.reduceEqDiff, reduceIte, Int.reduceBEq, Int.reduceBNe, Int.reduceLT, Int.reduceLE, Int.reduceGT, Int.reduceGE, Int.reduceNeg, reduceCtorEq, h4]) (by simp (decide := true) (disch := first | omega | (simp (decide := true) only [List.length_set, hl]; done) | fail) only [sims, evRegion, evOps, evOp, evG, evR, guardT, callee, opRes, pureR, binT, unT, T.cells, T.leaf, fillT, splice, Nat.reduceLT, Nat.reduceAdd, Nat.reduceMul, Nat.reduceLeDiff, Nat.reduceEqDiff, reduceIte, Int.reduceBEq, Int.reduceBNe, Int.reduceLT, Int.reduceLE, Int.reduceGT, Int.reduceGE, Int.reduceNeg, reduceCtorEq, hps] <;> rfl) ?_ ?_ ?_
      · refine CopyAt.snoc (g := g) (b := nx + 2) (A := nx + 10) (els := els) (hi := nx) hC (.inr ⟨A, rfl, gA⟩) hlo (by omega) (by omega) (by show nx + 10 < nx + 13; omega) (fun t ht1 ht2 hne => ?_) ?_ ?_
        · have hnA : A ≠ t := fun e => hne i (by rw [e])
          simp (decide := true) (disch := first | omega | (simp (decide := true) only [List.length_set, hl]; done) | fail) only [sims, evRegion, evOps, evOp, evG, evR, guardT, callee, opRes, pureR, binT, unT, T.cells, T.leaf, fillT, splice, Nat.reduceLT, Nat.reduceAdd, Nat.reduceMul, Nat.reduceLeDiff, Nat.reduceEqDiff, reduceIte, Int.reduceBEq, Int.reduceBNe, Int.reduceLT, Int.reduceLE, Int.reduceGT, Int.reduceGE, Int.reduceNeg, reduceCtorEq, hps] <;> rfl
        · rw [hrn, hce]
          simp (decide := true) (disch := first | omega | (simp (decide := true) only [List.length_set, hl]; done) | fail) only [sims, evRegion, evOps, evOp, evG, evR, guardT, callee, opRes, pureR, binT, unT, T.cells, T.leaf, fillT, splice, Nat.reduceLT, Nat.reduceAdd, Nat.reduceMul, Nat.reduceLeDiff, Nat.reduceEqDiff, reduceIte, Int.reduceBEq, Int.reduceBNe, Int.reduceLT, Int.reduceLE, Int.reduceGT, Int.reduceGE, Int.reduceNeg, reduceCtorEq, hps] <;> rfl
        · rw [hrn, hz]
          simp (decide := true) (disch := first | omega | (simp (decide := true) only [List.length_set, hl]; done) | fail) only [sims, evRegion, evOps, evOp, evG, evR, guardT, callee, opRes, pureR, binT, unT, T.cells, T.leaf, fillT, splice, Nat.reduceLT, Nat.reduceAdd, Nat.reduceMul, Nat.reduceLeDiff, Nat.reduceEqDiff, reduceIte, Int.reduceBEq, Int.reduceBNe, Int.reduceLT, Int.reduceLE, Int.reduceGT, Int.reduceGE, Int.reduceNeg, reduceCtorEq, hps] <;> rfl
      · intro t ht1 ht2
        simp (decide := true) (disch := first | omega | (simp (decide := true) only [List.length_set, hl]; done) | fail) only [sims, evRegion, evOps, evOp, evG, evR, guardT, callee, opRes, pureR, binT, unT, T.cells, T.leaf, fillT, splice, Nat.reduceLT, Nat.reduceAdd, Nat.reduceMul, Nat.reduceLeDiff, Nat.reduceEqDiff, reduceIte, Int.reduceBEq, Int.reduceBNe, Int.reduceLT, Int.reduceLE, Int.reduceGT, Int.reduceGE, Int.reduceNeg, reduceCtorEq, hps] <;> rfl
      · show lo ≤ nx + 13; omega
  · have hw00 : (R[i].length = 0) = False := eq_false hz
    have hr1 : R[i].length * 40 ≤ 549755813888 := by omega
    have hr2 : R[i].length ≤ 549755813888 := by omega
    have hcw : cut ([] : List T) 0 0 = [] := rfl
    generalize hce : R[i].flatMap Way.enc = ws at *
    rcases hC with hC0 | hC1
    · obtain ⟨hn0, hv⟩ := id hC0
      have hC : CopyAt g v R lo nx i := .inl hC0
      subst hn0
      subst hv
      refine W_region (fun k => by simp (decide := true) (disch := first | omega | (simp (decide := true) only [List.length_set, hl]; done) | fail) only [sims, evRegion, evOps, evOp, evG, evR, guardT, callee, opRes, pureR, binT, unT, T.cells, T.leaf, fillT, splice, Nat.reduceLT, Nat.reduceAdd, Nat.reduceMul, Nat.reduceLeDiff, Nat.reduceEqDiff, reduceIte, Int.reduceBEq, Int.reduceBNe, Int.reduceLT, Int.reduceLE, Int.reduceGT, Int.reduceGE, Int.reduceNeg, reduceCtorEq, hps, cellsOf, h1, h3, h4, gp, gq, hxl, hi, hb, hxi, hc1, hc0, hle, List.all, hcl, hcf, hw00, hr1, hr2, hcw]; rfl) ?_
      refine hQ _ (.own (nx + 10) 0 (0 + 1) 1) (by simp (decide := true) (disch := first | omega | (simp (decide := true) only [List.length_set, hl]; done) | fail) only [sims, evRegion, evOps, evOp, evG, evR, guardT, callee, opRes, pureR, binT, unT, T.cells, T.leaf, fillT, splice, Nat.reduceLT, Nat.reduceAdd, Nat.reduceMul, Nat.reduceLeDiff, Nat.reduceEqDiff, reduceIte, Int.reduceBEq, Int.reduceBNe, Int.reduceLT, Int.reduceLE, Int.reduceGT, Int.reduceGE, Int.reduceNeg, reduceCtorEq, hl]) (by simp (decide := true) (disch := first | omega | (simp (decide := true) only [List.length_set, hl]; done) | fail) only [sims, evRegion, evOps, evOp, evG, evR, guardT, callee, opRes, pureR, binT, unT, T.cells, T.leaf, fillT, splice, Nat.reduceLT, Nat.reduceAdd, Nat.reduceMul, Nat.reduceLeDiff, Nat.reduceEqDiff, reduceIte, Int.reduceBEq, Int.reduceBNe, Int.reduceLT, Int.reduceLE, Int.reduceGT, Int.reduceGE, Int.reduceNeg, reduceCtorEq, h1]) (by simp (decide := true) (disch := first | omega | (simp (decide := true) only [List.length_set, hl]; done) | fail) only [sims, evRegion, evOps, evOp, evG, evR, guardT, callee, opRes, pureR, binT, unT, T.cells, T.leaf, fillT, splice, Nat.reduceLT, Nat.reduceAdd, Nat.reduceMul, Nat.reduceLeDiff, Nat.reduceEqDiff, reduceIte, Int.reduceBEq, Int.reduceBNe, Int.reduceLT, Int.reduceLE, Int.reduceGT, Int.reduceGE, Int.reduceNeg, reduceCtorEq]) (by simp (decide := true) (disch := first | omega | (simp (decide := true) only [List.length_set, hl]; done) | fail) only [sims, evRegion, evOps, evOp, evG, evR, guardT, callee, opRes, pureR, binT, unT, T.cells, T.leaf, fillT, splice, Nat.reduceLT, Nat.reduceAdd, Nat.reduceMul, Nat.reduceLeDiff, Nat.reduceEqDiff, reduceIte, Int.reduceBEq, Int.reduceBNe, Int.reduceLT, Int.reduceLE, Int.reduceGT, Int.reduceGE, Int.reduceNeg, reduceCtorEq, h3]) (by simp (decide := true) (disch := first | omega | (simp (decide := true) only [List.length_set, hl]; done) | fail) only [sims, evRegion, evOps, evOp, evG, evR, guardT, callee, opRes, pureR, binT, unT, T.cells, T.leaf, fillT, splice, Nat.reduceLT, Nat.reduceAdd, Nat.reduceMul, Nat.reduceLeDiff, Nat.reduceEqDiff, reduceIte, Int.reduceBEq, Int.reduceBNe, Int.reduceLT, Int.reduceLE, Int.reduceGT, Int.reduceGE, Int.reduceNeg, reduceCtorEq, h4]) (by simp (decide := true) (disch := first | omega | (simp (decide := true) only [List.length_set, hl]; done) | fail) only [sims, evRegion, evOps, evOp, evG, evR, guardT, callee, opRes, pureR, binT, unT, T.cells, T.leaf, fillT, splice, Nat.reduceLT, Nat.reduceAdd, Nat.reduceMul, Nat.reduceLeDiff, Nat.reduceEqDiff, reduceIte, Int.reduceBEq, Int.reduceBNe, Int.reduceLT, Int.reduceLE, Int.reduceGT, Int.reduceGE, Int.reduceNeg, reduceCtorEq, hps] <;> rfl) ?_ ?_ ?_
      · refine CopyAt.snoc (g := g) (b := nx + 8) (A := nx + 10) (els := []) (hi := nx) hC (.inl ⟨rfl, rfl⟩) hlo (by omega) (by omega) (by show nx + 10 < nx + 13; omega) (fun t ht1 ht2 hne => ?_) ?_ ?_
        · simp (decide := true) (disch := first | omega | (simp (decide := true) only [List.length_set, hl]; done) | fail) only [sims, evRegion, evOps, evOp, evG, evR, guardT, callee, opRes, pureR, binT, unT, T.cells, T.leaf, fillT, splice, Nat.reduceLT, Nat.reduceAdd, Nat.reduceMul, Nat.reduceLeDiff, Nat.reduceEqDiff, reduceIte, Int.reduceBEq, Int.reduceBNe, Int.reduceLT, Int.reduceLE, Int.reduceGT, Int.reduceGE, Int.reduceNeg, reduceCtorEq, hps]
        · rw [hrn, hce]
          simp (decide := true) (disch := first | omega | (simp (decide := true) only [List.length_set, hl]; done) | fail) only [sims, evRegion, evOps, evOp, evG, evR, guardT, callee, opRes, pureR, binT, unT, T.cells, T.leaf, fillT, splice, Nat.reduceLT, Nat.reduceAdd, Nat.reduceMul, Nat.reduceLeDiff, Nat.reduceEqDiff, reduceIte, Int.reduceBEq, Int.reduceBNe, Int.reduceLT, Int.reduceLE, Int.reduceGT, Int.reduceGE, Int.reduceNeg, reduceCtorEq, hps] <;> rfl
        · rw [hrn]
          simp (decide := true) (disch := first | omega | (simp (decide := true) only [List.length_set, hl]; done) | fail) only [sims, evRegion, evOps, evOp, evG, evR, guardT, callee, opRes, pureR, binT, unT, T.cells, T.leaf, fillT, splice, Nat.reduceLT, Nat.reduceAdd, Nat.reduceMul, Nat.reduceLeDiff, Nat.reduceEqDiff, reduceIte, Int.reduceBEq, Int.reduceBNe, Int.reduceLT, Int.reduceLE, Int.reduceGT, Int.reduceGE, Int.reduceNeg, reduceCtorEq, hps] <;> rfl
      · intro t ht1 ht2
        simp (decide := true) (disch := first | omega | (simp (decide := true) only [List.length_set, hl]; done) | fail) only [sims, evRegion, evOps, evOp, evG, evR, guardT, callee, opRes, pureR, binT, unT, T.cells, T.leaf, fillT, splice, Nat.reduceLT, Nat.reduceAdd, Nat.reduceMul, Nat.reduceLeDiff, Nat.reduceEqDiff, reduceIte, Int.reduceBEq, Int.reduceBNe, Int.reduceLT, Int.reduceLE, Int.reduceGT, Int.reduceGE, Int.reduceNeg, reduceCtorEq, hps] <;> rfl
      · show lo ≤ nx + 13; omega
    · obtain ⟨hn0, A, els, bf, hv, gA, hel, helf, hA, hrest⟩ := id hC1
      have hC : CopyAt g v R lo nx i := .inr hC1
      subst hv
      have hAlo : lo < A := by obtain ⟨_, _, a, b, _⟩ := hrest 0 hn0; omega
      have hcA : cut els 0 (i * 1) = els := cut_all (by omega)
      have hr3 : (i + 1) * 24 ≤ 549755813888 := by omega
      have hr4 : i + 1 ≤ 549755813888 := by omega
      have hle1 : i * 1 ≤ i := by omega
      have hAn : (A = nx) = False := by simp; omega
      refine W_region (fun k => by simp (decide := true) (disch := first | omega | (simp (decide := true) only [List.length_set, hl]; done) | fail) only [sims, evRegion, evOps, evOp, evG, evR, guardT, callee, opRes, pureR, binT, unT, T.cells, T.leaf, fillT, splice, Nat.reduceLT, Nat.reduceAdd, Nat.reduceMul, Nat.reduceLeDiff, Nat.reduceEqDiff, reduceIte, Int.reduceBEq, Int.reduceBNe, Int.reduceLT, Int.reduceLE, Int.reduceGT, Int.reduceGE, Int.reduceNeg, reduceCtorEq, hps, cellsOf, h1, h3, h4, gp, gq, hxl, hi, hb, hxi, hc1, hc0, hle, List.all, gA, hel, hcA, hr3, hr4, hle1, hAn, hcl, hcf, hw00, hr1, hr2, hcw]; rfl) ?_
      refine hQ _ (.own (nx + 10) 0 (i + 1) 1) (by simp (decide := true) (disch := first | omega | (simp (decide := true) only [List.length_set, hl]; done) | fail) only [sims, evRegion, evOps, evOp, evG, evR, guardT, callee, opRes, pureR, binT, unT, T.cells, T.leaf, fillT, splice, Nat.reduceLT, Nat.reduceAdd, Nat.reduceMul, Nat.reduceLeDiff, Nat.reduceEqDiff, reduceIte, Int.reduceBEq, Int.reduceBNe, Int.reduceLT, Int.reduceLE, Int.reduceGT, Int.reduceGE, Int.reduceNeg, reduceCtorEq, hl]) (by simp (decide := true) (disch := first | omega | (simp (decide := true) only [List.length_set, hl]; done) | fail) only [sims, evRegion, evOps, evOp, evG, evR, guardT, callee, opRes, pureR, binT, unT, T.cells, T.leaf, fillT, splice, Nat.reduceLT, Nat.reduceAdd, Nat.reduceMul, Nat.reduceLeDiff, Nat.reduceEqDiff, reduceIte, Int.reduceBEq, Int.reduceBNe, Int.reduceLT, Int.reduceLE, Int.reduceGT, Int.reduceGE, Int.reduceNeg, reduceCtorEq, h1]) (by simp (decide := true) (disch := first | omega | (simp (decide := true) only [List.length_set, hl]; done) | fail) only [sims, evRegion, evOps, evOp, evG, evR, guardT, callee, opRes, pureR, binT, unT, T.cells, T.leaf, fillT, splice, Nat.reduceLT, Nat.reduceAdd, Nat.reduceMul, Nat.reduceLeDiff, Nat.reduceEqDiff, reduceIte, Int.reduceBEq, Int.reduceBNe, Int.reduceLT, Int.reduceLE, Int.reduceGT, Int.reduceGE, Int.reduceNeg, reduceCtorEq]) (by simp (decide := true) (disch := first | omega | (simp (decide := true) only [List.length_set, hl]; done) | fail) only [sims, evRegion, evOps, evOp, evG, evR, guardT, callee, opRes, pureR, binT, unT, T.cells, T.leaf, fillT, splice, Nat.reduceLT, Nat.reduceAdd, Nat.reduceMul, Nat.reduceLeDiff, Nat.reduceEqDiff, reduceIte, Int.reduceBEq, Int.reduceBNe, Int.reduceLT, Int.reduceLE, Int.reduceGT, Int.reduceGE, Int.reduceNeg, reduceCtorEq, h3]) (by simp (decide := true) (disch := first | omega | (simp (decide := true) only [List.length_set, hl]; done) | fail) only [sims, evRegion, evOps, evOp, evG, evR, guardT, callee, opRes, pureR, binT, unT, T.cells, T.leaf, fillT, splice, Nat.reduceLT, Nat.reduceAdd, Nat.reduceMul, Nat.reduceLeDiff, Nat.reduceEqDiff, reduceIte, Int.reduceBEq, Int.reduceBNe, Int.reduceLT, Int.reduceLE, Int.reduceGT, Int.reduceGE, Int.reduceNeg, reduceCtorEq, h4]) (by simp (decide := true) (disch := first | omega | (simp (decide := true) only [List.length_set, hl]; done) | fail) only [sims, evRegion, evOps, evOp, evG, evR, guardT, callee, opRes, pureR, binT, unT, T.cells, T.leaf, fillT, splice, Nat.reduceLT, Nat.reduceAdd, Nat.reduceMul, Nat.reduceLeDiff, Nat.reduceEqDiff, reduceIte, Int.reduceBEq, Int.reduceBNe, Int.reduceLT, Int.reduceLE, Int.reduceGT, Int.reduceGE, Int.reduceNeg, reduceCtorEq, hps] <;> rfl) ?_ ?_ ?_
      · refine CopyAt.snoc (g := g) (b := nx + 8) (A := nx + 10) (els := els) (hi := nx) hC (.inr ⟨A, rfl, gA⟩) hlo (by omega) (by omega) (by show nx + 10 < nx + 13; omega) (fun t ht1 ht2 hne => ?_) ?_ ?_
        · have hnA : A ≠ t := fun e => hne i (by rw [e])
          simp (decide := true) (disch := first | omega | (simp (decide := true) only [List.length_set, hl]; done) | fail) only [sims, evRegion, evOps, evOp, evG, evR, guardT, callee, opRes, pureR, binT, unT, T.cells, T.leaf, fillT, splice, Nat.reduceLT, Nat.reduceAdd, Nat.reduceMul, Nat.reduceLeDiff, Nat.reduceEqDiff, reduceIte, Int.reduceBEq, Int.reduceBNe, Int.reduceLT, Int.reduceLE, Int.reduceGT, Int.reduceGE, Int.reduceNeg, reduceCtorEq, hps] <;> rfl
        · rw [hrn, hce]
          simp (decide := true) (disch := first | omega | (simp (decide := true) only [List.length_set, hl]; done) | fail) only [sims, evRegion, evOps, evOp, evG, evR, guardT, callee, opRes, pureR, binT, unT, T.cells, T.leaf, fillT, splice, Nat.reduceLT, Nat.reduceAdd, Nat.reduceMul, Nat.reduceLeDiff, Nat.reduceEqDiff, reduceIte, Int.reduceBEq, Int.reduceBNe, Int.reduceLT, Int.reduceLE, Int.reduceGT, Int.reduceGE, Int.reduceNeg, reduceCtorEq, hps] <;> rfl
        · rw [hrn]
          simp (decide := true) (disch := first | omega | (simp (decide := true) only [List.length_set, hl]; done) | fail) only [sims, evRegion, evOps, evOp, evG, evR, guardT, callee, opRes, pureR, binT, unT, T.cells, T.leaf, fillT, splice, Nat.reduceLT, Nat.reduceAdd, Nat.reduceMul, Nat.reduceLeDiff, Nat.reduceEqDiff, reduceIte, Int.reduceBEq, Int.reduceBNe, Int.reduceLT, Int.reduceLE, Int.reduceGT, Int.reduceGE, Int.reduceNeg, reduceCtorEq, hps] <;> rfl
      · intro t ht1 ht2
        simp (decide := true) (disch := first | omega | (simp (decide := true) only [List.length_set, hl]; done) | fail) only [sims, evRegion, evOps, evOp, evG, evR, guardT, callee, opRes, pureR, binT, unT, T.cells, T.leaf, fillT, splice, Nat.reduceLT, Nat.reduceAdd, Nat.reduceMul, Nat.reduceLeDiff, Nat.reduceEqDiff, reduceIte, Int.reduceBEq, Int.reduceBNe, Int.reduceLT, Int.reduceLE, Int.reduceGT, Int.reduceGE, Int.reduceNeg, reduceCtorEq, hps] <;> rfl
      · show lo ≤ nx + 13; omega
end Go.Proofs.Ythanlobfjpjegaa.Abs
