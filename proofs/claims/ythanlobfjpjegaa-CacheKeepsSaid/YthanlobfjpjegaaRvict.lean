/- Where a line would be put: the given function's walk. -/
import Derived.Test.YthanlobfjpjegaaRfind
namespace Go.Proofs.Ythanlobfjpjegaa.Abs
open Go Go.RowKit Fn
set_option linter.unusedVariables false
set_option linter.unusedSimpArgs false
set_option linter.unnecessarySimpa false
set_option maxRecDepth 100000

def wayN (l : List Way) (k : Nat) : Way := (l[k]?).getD default
theorem way_age {w : Way} (h : w.wf) : w.enc[18]? = some (.int .i64 w.age) := by
  have hd := h.2.2.1.1
  have hl : (w.data.flatMap fun n => [T.int .u8 n]).length = 16 := by rw [flat_len (f := fun n => [T.int .u8 n]) (k := 1) (fun _ => rfl), hd]
  unfold Way.enc
  rw [List.getElem?_append_right (by simp), List.getElem?_append_right (by simp), List.getElem?_append_right (by simp [hl])]
  simp [hl]
/-- The first empty way from the k-th on, else the oldest (the first of them). -/
def rv (l : List Way) (best : Nat) : Nat → Nat → Nat
  | _, 0 => best
  | k, m + 1 => if (wayN l k).state = 0 then k else rv l (if (wayN l k).age > (wayN l best).age then k else best) (k + 1) m
def victim (c : Cache) (ln : Nat) : Nat × Nat := match find c ln with
  | some k => (seti c ln, k)
  | none => if c.sets.length = 0 then (0, 0) else (seti c ln, rv (row c (seti c ln)) 0 0 (row c (seti c ln)).length)
theorem fin_of2 {F : AFun} {t1 t2 : Nat} {a b : T} (hF : F.res = [.tmp t1, .tmp t2]) (hv : ∀ h : Hp, frz h frzDepth (.tup [a, b]) = some (.tup [a, b], [])) {s : List T} {g : Mem} {nx : Nat} (h1 : rho s (.tmp t1) = a) (h2 : rho s (.tmp t2) = b) : AExit.ret.leaves = true ∧ ∃ u ids, resT s g F.res = some u ∧ frz ⟨g, nx⟩ frzDepth u = some (.tup [a, b], ids) :=
  ⟨rfl, .tup [a, b], [], by rw [hF]; simp only [resT, resL, resOne, h1, h2], hv _⟩

def rvLoop : ACode := match f18.body with | .seq _ (.seq _ (.seq _ (.seq _ (.seq _ (.seq _ (.seq (.seq _ (.block _ (.loop c))) _)))))) => c | _ => .skip
theorem rv_loop (c : Cache) (hc : c.wf) (s : Nat) (hs : s < c.sets.length) (r : Nat) (Q : AExit → St → Prop)
    (hQr : ∀ (st : St), rho st.s (.tmp 4) = .int .i64 (s : Int) → rho st.s (.tmp 5) = .int .i64 (r : Int) → Q .ret st) (hQe : ∀ st : St, st.s.length = 70 → rho st.s (.tmp 6) = .int .i64 (s : Int) → rho st.s (.tmp 9) = .int .i64 (r : Int) → Q (.exit 0) st) :
    ∀ (m : Nat) (st : St), (∃ k best : Nat, st.s.length = 70 ∧ rho st.s (.tmp 2) = .ptr 0 0 ∧ st.g 0 = some [setsT c] ∧ rho st.s (.tmp 6) = .int .i64 (s : Int) ∧ rho st.s (.tmp 9) = .int .i64 (best : Int) ∧ rho st.s (.tmp 10) = .int .i64 (k : Int) ∧ k ≤ (row c s).length ∧ best ≤ k ∧ m = (row c s).length - k ∧ rv (row c s) best k m = r) → W ap (.loop rvLoop) st Q := by
  refine W_loop _ ?_
  rintro n st ⟨k, best, hl, h2, hg, h6, h9, h10, hk, hbk, hn, hr⟩
  have hx : ([setsT c] : List T)[0]? = some (.imm false c.sets.length (c.sets.flatMap (fun l => [rowT l]))) := rfl
  have hrow := rows_get c s hs
  have hrl := rows_len c
  have hwf := row_wf hc s hs
  have hmx := max_small
  have hb1 : s * 1 + 1 ≤ c.sets.length := by omega
  rw [show rowT (row c s) = .imm false (row c s).length ((row c s).flatMap Way.enc) from rfl] at hrow
  have hfl := flat_lenM (f := Way.enc) (row c s) (fun w h => way_len (hwf.2 w h))
  generalize hcs : c.sets.flatMap (fun l => [rowT l]) = cs at *
  by_cases hend : k = (row c s).length
  · have hlt : decide ((k : Int) < ((row c s).length : Int)) = false := decide_eq_false (by omega)
    refine W_seq (W_seqn (W_region (fun k => by simp (decide := true) only [sims, evRegion, evOps, evOp, evG, evR, guardT, callee, opRes, pureR, binT, unT, T.cells, T.leaf, fillT, splice, Nat.reduceLT, Nat.reduceAdd, Nat.reduceMul, Nat.reduceLeDiff, Nat.reduceEqDiff, reduceIte, Int.reduceBEq, Int.reduceBNe, Int.reduceLT, Int.reduceLE, Int.reduceGT, Int.reduceGE, Int.reduceNeg, reduceCtorEq, hl, h2, h6, h10, hg, hx, hrow, hrl, hs, hb1, hlt]; rfl) ⟨rfl, W_false (by simp (decide := true) only [sims, evRegion, evOps, evOp, evG, evR, guardT, callee, opRes, pureR, binT, unT, T.cells, T.leaf, fillT, splice, Nat.reduceLT, Nat.reduceAdd, Nat.reduceMul, Nat.reduceLeDiff, Nat.reduceEqDiff, reduceIte, Int.reduceBEq, Int.reduceBNe, Int.reduceLT, Int.reduceLE, Int.reduceGT, Int.reduceGE, Int.reduceNeg, reduceCtorEq, hl] <;> rfl) (W_exit (.inr ⟨by simp, .inr ⟨by simp, hQe _ ?_ ?_ ?_⟩⟩))⟩))
    · simp (decide := true) only [sims, evRegion, evOps, evOp, evG, evR, guardT, callee, opRes, pureR, binT, unT, T.cells, T.leaf, fillT, splice, Nat.reduceLT, Nat.reduceAdd, Nat.reduceMul, Nat.reduceLeDiff, Nat.reduceEqDiff, reduceIte, Int.reduceBEq, Int.reduceBNe, Int.reduceLT, Int.reduceLE, Int.reduceGT, Int.reduceGE, Int.reduceNeg, reduceCtorEq, hl]
    · simp (decide := true) only [sims, evRegion, evOps, evOp, evG, evR, guardT, callee, opRes, pureR, binT, unT, T.cells, T.leaf, fillT, splice, Nat.reduceLT, Nat.reduceAdd, Nat.reduceMul, Nat.reduceLeDiff, Nat.reduceEqDiff, reduceIte, Int.reduceBEq, Int.reduceBNe, Int.reduceLT, Int.reduceLE, Int.reduceGT, Int.reduceGE, Int.reduceNeg, reduceCtorEq, hl, h6]
    · simp (decide := true) only [sims, evRegion, evOps, evOp, evG, evR, guardT, callee, opRes, pureR, binT, unT, T.cells, T.leaf, fillT, splice, Nat.reduceLT, Nat.reduceAdd, Nat.reduceMul, Nat.reduceLeDiff, Nat.reduceEqDiff, reduceIte, Int.reduceBEq, Int.reduceBNe, Int.reduceLT, Int.reduceLE, Int.reduceGT, Int.reduceGE, Int.reduceNeg, reduceCtorEq, hl, h9]
      rw [← hr, hn, hend, Nat.sub_self]; rfl
  · have hlt : decide ((k : Int) < ((row c s).length : Int)) = true := decide_eq_true (by omega)
    have hkl : k < (row c s).length := by omega
    have hbl : best < (row c s).length := by omega
    have hw2 : IntKind.i64.wrap ((k : Int) + 1) = ((k + 1 : Nat) : Int) := by rw [wrap_id (by omega)]; omega
    have hst := way_get (row c s) hwf.2 k hkl 0 (by omega)
    have hag := way_get (row c s) hwf.2 k hkl 18 (by omega)
    have hag2 := way_get (row c s) hwf.2 best hbl 18 (by omega)
    have wfk : (((row c s)[k]?).getD default).wf := by rw [List.getElem?_eq_getElem hkl]; exact hwf.2 _ (List.getElem_mem hkl)
    have wfb : (((row c s)[best]?).getD default).wf := by rw [List.getElem?_eq_getElem hbl]; exact hwf.2 _ (List.getElem_mem hbl)
    rw [way_state, Nat.add_zero] at hst
    rw [way_age wfk] at hag
    rw [way_age wfb] at hag2
    obtain ⟨m, hm⟩ : ∃ m, n = m + 1 := ⟨n - 1, by omega⟩
    rw [hm, rv] at hr
    change _ = some (T.int .i64 (wayN (row c s) k).state) at hst
    change _ = some (T.int .i64 (wayN (row c s) k).age) at hag
    change _ = some (T.int .i64 (wayN (row c s) best).age) at hag2
    clear wfk wfb
    have hb2 : k * 19 + 19 ≤ ((row c s).flatMap Way.enc).length := by omega
    have hb3 : k * 19 + 18 + 1 ≤ ((row c s).flatMap Way.enc).length := by omega
    have hb4 : k * 19 + 1 ≤ ((row c s).flatMap Way.enc).length := by omega
    have hb5 : best * 19 + 19 ≤ ((row c s).flatMap Way.enc).length := by omega
    have hb6 : best * 19 + 18 + 1 ≤ ((row c s).flatMap Way.enc).length := by omega
    refine W_seqn (W_seqn (W_region (fun k => by simp (decide := true) only [sims, evRegion, evOps, evOp, evG, evR, guardT, callee, opRes, pureR, binT, unT, T.cells, T.leaf, fillT, splice, Nat.reduceLT, Nat.reduceAdd, Nat.reduceMul, Nat.reduceLeDiff, Nat.reduceEqDiff, reduceIte, Int.reduceBEq, Int.reduceBNe, Int.reduceLT, Int.reduceLE, Int.reduceGT, Int.reduceGE, Int.reduceNeg, reduceCtorEq, hl, h2, h6, h10, hg, hx, hrow, hrl, hs, hb1, hlt]; rfl) ⟨rfl, W_true (by simp (decide := true) only [sims, evRegion, evOps, evOp, evG, evR, guardT, callee, opRes, pureR, binT, unT, T.cells, T.leaf, fillT, splice, Nat.reduceLT, Nat.reduceAdd, Nat.reduceMul, Nat.reduceLeDiff, Nat.reduceEqDiff, reduceIte, Int.reduceBEq, Int.reduceBNe, Int.reduceLT, Int.reduceLE, Int.reduceGT, Int.reduceGE, Int.reduceNeg, reduceCtorEq, hl] <;> rfl) (W_skip ⟨rfl, ?_⟩)⟩))
    generalize wayN (row c s) k = w at *
    generalize wayN (row c s) best = wb at *
    generalize (row c s).flatMap Way.enc = ws at *
    by_cases hz : w.state = 0
    · have hz0 : (w.state == 0) = true := beq_iff_eq.mpr hz
      rw [if_pos hz] at hr
      refine W_seq (W_block (W_seq (W_seqn (W_region (fun k => by simp (decide := true) only [sims, evRegion, evOps, evOp, evG, evR, guardT, callee, opRes, pureR, binT, unT, T.cells, T.leaf, fillT, splice, Nat.reduceLT, Nat.reduceAdd, Nat.reduceMul, Nat.reduceLeDiff, Nat.reduceEqDiff, reduceIte, Int.reduceBEq, Int.reduceBNe, Int.reduceLT, Int.reduceLE, Int.reduceGT, Int.reduceGE, Int.reduceNeg, reduceCtorEq, hl, h2, h6, h10, hg, hx, hrow, hrl, hs, hb1, hb2, hb4, hkl, hst, hz0]; rfl) ⟨rfl, W_true (by simp (decide := true) only [sims, evRegion, evOps, evOp, evG, evR, guardT, callee, opRes, pureR, binT, unT, T.cells, T.leaf, fillT, splice, Nat.reduceLT, Nat.reduceAdd, Nat.reduceMul, Nat.reduceLeDiff, Nat.reduceEqDiff, reduceIte, Int.reduceBEq, Int.reduceBNe, Int.reduceLT, Int.reduceLE, Int.reduceGT, Int.reduceGE, Int.reduceNeg, reduceCtorEq, hl] <;> rfl) ?_⟩))))
      refine W_seqn (W_region (fun k => by simp (decide := true) only [sims, evRegion, evOps, evOp, evG, evR, guardT, callee, opRes, pureR, binT, unT, T.cells, T.leaf, fillT, splice, Nat.reduceLT, Nat.reduceAdd, Nat.reduceMul, Nat.reduceLeDiff, Nat.reduceEqDiff, reduceIte, Int.reduceBEq, Int.reduceBNe, Int.reduceLT, Int.reduceLE, Int.reduceGT, Int.reduceGE, Int.reduceNeg, reduceCtorEq, hl, h6, h10]; rfl) ⟨rfl, W_ret ?_⟩)
      simp only [reduceCtorEq, false_and, false_or, or_false, exists_false, exists_const, ne_eq, not_false_eq_true, true_and, implies_true]
      refine hQr _ ?_ ?_
      · simp (decide := true) only [sims, evRegion, evOps, evOp, evG, evR, guardT, callee, opRes, pureR, binT, unT, T.cells, T.leaf, fillT, splice, Nat.reduceLT, Nat.reduceAdd, Nat.reduceMul, Nat.reduceLeDiff, Nat.reduceEqDiff, reduceIte, Int.reduceBEq, Int.reduceBNe, Int.reduceLT, Int.reduceLE, Int.reduceGT, Int.reduceGE, Int.reduceNeg, reduceCtorEq, hl]
      · simp (decide := true) only [sims, evRegion, evOps, evOp, evG, evR, guardT, callee, opRes, pureR, binT, unT, T.cells, T.leaf, fillT, splice, Nat.reduceLT, Nat.reduceAdd, Nat.reduceMul, Nat.reduceLeDiff, Nat.reduceEqDiff, reduceIte, Int.reduceBEq, Int.reduceBNe, Int.reduceLT, Int.reduceLE, Int.reduceGT, Int.reduceGE, Int.reduceNeg, reduceCtorEq, hl, hr]
    · have hz0 : (w.state == 0) = false := beq_eq_false_iff_ne.mpr hz
      rw [if_neg hz] at hr
      refine W_seqn (W_block (W_seqn (W_seqn (W_region (fun k => by simp (decide := true) only [sims, evRegion, evOps, evOp, evG, evR, guardT, callee, opRes, pureR, binT, unT, T.cells, T.leaf, fillT, splice, Nat.reduceLT, Nat.reduceAdd, Nat.reduceMul, Nat.reduceLeDiff, Nat.reduceEqDiff, reduceIte, Int.reduceBEq, Int.reduceBNe, Int.reduceLT, Int.reduceLE, Int.reduceGT, Int.reduceGE, Int.reduceNeg, reduceCtorEq, hl, h2, h6, h10, hg, hx, hrow, hrl, hs, hb1, hb2, hb4, hkl, hst, hz0]; rfl) ⟨rfl, W_false (by simp (decide := true) only [sims, evRegion, evOps, evOp, evG, evR, guardT, callee, opRes, pureR, binT, unT, T.cells, T.leaf, fillT, splice, Nat.reduceLT, Nat.reduceAdd, Nat.reduceMul, Nat.reduceLeDiff, Nat.reduceEqDiff, reduceIte, Int.reduceBEq, Int.reduceBNe, Int.reduceLT, Int.reduceLE, Int.reduceGT, Int.reduceGE, Int.reduceNeg, reduceCtorEq, hl] <;> rfl) (W_skip ⟨rfl, ?_⟩)⟩))))
      by_cases hgt : w.age > wb.age
      · have hgd : decide (w.age > wb.age) = true := decide_eq_true hgt
        rw [if_pos hgt] at hr
        refine W_seqn (W_region (fun k => by simp (decide := true) only [sims, evRegion, evOps, evOp, evG, evR, guardT, callee, opRes, pureR, binT, unT, T.cells, T.leaf, fillT, splice, Nat.reduceLT, Nat.reduceAdd, Nat.reduceMul, Nat.reduceLeDiff, Nat.reduceEqDiff, reduceIte, Int.reduceBEq, Int.reduceBNe, Int.reduceLT, Int.reduceLE, Int.reduceGT, Int.reduceGE, Int.reduceNeg, reduceCtorEq, hl, h2, h6, h9, h10, hg, hx, hrow, hrl, hs, hb1, hb2, hb3, hb5, hb6, hkl, hbl, hag, hag2, hgd]; rfl) ⟨rfl, W_true (by simp (decide := true) only [sims, evRegion, evOps, evOp, evG, evR, guardT, callee, opRes, pureR, binT, unT, T.cells, T.leaf, fillT, splice, Nat.reduceLT, Nat.reduceAdd, Nat.reduceMul, Nat.reduceLeDiff, Nat.reduceEqDiff, reduceIte, Int.reduceBEq, Int.reduceBNe, Int.reduceLT, Int.reduceLE, Int.reduceGT, Int.reduceGE, Int.reduceNeg, reduceCtorEq, hl] <;> rfl) ?_⟩)
        refine W_region (fun k => by simp (decide := true) only [sims, evRegion, evOps, evOp, evG, evR, guardT, callee, opRes, pureR, binT, unT, T.cells, T.leaf, fillT, splice, Nat.reduceLT, Nat.reduceAdd, Nat.reduceMul, Nat.reduceLeDiff, Nat.reduceEqDiff, reduceIte, Int.reduceBEq, Int.reduceBNe, Int.reduceLT, Int.reduceLE, Int.reduceGT, Int.reduceGE, Int.reduceNeg, reduceCtorEq, hl, h10]; rfl) (.inr (.inl ⟨by simp, rfl, ?_⟩))
        refine W_region (fun k => by simp (decide := true) only [sims, evRegion, evOps, evOp, evG, evR, guardT, callee, opRes, pureR, binT, unT, T.cells, T.leaf, fillT, splice, Nat.reduceLT, Nat.reduceAdd, Nat.reduceMul, Nat.reduceLeDiff, Nat.reduceEqDiff, reduceIte, Int.reduceBEq, Int.reduceBNe, Int.reduceLT, Int.reduceLE, Int.reduceGT, Int.reduceGE, Int.reduceNeg, reduceCtorEq, hl, h10, hw2]; rfl) (.inl ⟨rfl, m, by omega, k + 1, k, ?_, ?_, ?_, ?_, ?_, ?_, by omega, by omega, by omega, hr⟩) <;> simp (decide := true) only [sims, evRegion, evOps, evOp, evG, evR, guardT, callee, opRes, pureR, binT, unT, T.cells, T.leaf, fillT, splice, Nat.reduceLT, Nat.reduceAdd, Nat.reduceMul, Nat.reduceLeDiff, Nat.reduceEqDiff, reduceIte, Int.reduceBEq, Int.reduceBNe, Int.reduceLT, Int.reduceLE, Int.reduceGT, Int.reduceGE, Int.reduceNeg, reduceCtorEq, hl, h2, h6, hg]
      · have hgd : decide (w.age > wb.age) = false := decide_eq_false hgt
        rw [if_neg hgt] at hr
        refine W_seqn (W_region (fun k => by simp (decide := true) only [sims, evRegion, evOps, evOp, evG, evR, guardT, callee, opRes, pureR, binT, unT, T.cells, T.leaf, fillT, splice, Nat.reduceLT, Nat.reduceAdd, Nat.reduceMul, Nat.reduceLeDiff, Nat.reduceEqDiff, reduceIte, Int.reduceBEq, Int.reduceBNe, Int.reduceLT, Int.reduceLE, Int.reduceGT, Int.reduceGE, Int.reduceNeg, reduceCtorEq, hl, h2, h6, h9, h10, hg, hx, hrow, hrl, hs, hb1, hb2, hb3, hb5, hb6, hkl, hbl, hag, hag2, hgd]; rfl) ⟨rfl, W_false (by simp (decide := true) only [sims, evRegion, evOps, evOp, evG, evR, guardT, callee, opRes, pureR, binT, unT, T.cells, T.leaf, fillT, splice, Nat.reduceLT, Nat.reduceAdd, Nat.reduceMul, Nat.reduceLeDiff, Nat.reduceEqDiff, reduceIte, Int.reduceBEq, Int.reduceBNe, Int.reduceLT, Int.reduceLE, Int.reduceGT, Int.reduceGE, Int.reduceNeg, reduceCtorEq, hl] <;> rfl) (W_skip (.inr (.inl ⟨by simp, rfl, ?_⟩)))⟩)
        refine W_region (fun k => by simp (decide := true) only [sims, evRegion, evOps, evOp, evG, evR, guardT, callee, opRes, pureR, binT, unT, T.cells, T.leaf, fillT, splice, Nat.reduceLT, Nat.reduceAdd, Nat.reduceMul, Nat.reduceLeDiff, Nat.reduceEqDiff, reduceIte, Int.reduceBEq, Int.reduceBNe, Int.reduceLT, Int.reduceLE, Int.reduceGT, Int.reduceGE, Int.reduceNeg, reduceCtorEq, hl, h10, hw2]; rfl) (.inl ⟨rfl, m, by omega, k + 1, best, ?_, ?_, ?_, ?_, ?_, ?_, by omega, by omega, by omega, hr⟩) <;> simp (decide := true) only [sims, evRegion, evOps, evOp, evG, evR, guardT, callee, opRes, pureR, binT, unT, T.cells, T.leaf, fillT, splice, Nat.reduceLT, Nat.reduceAdd, Nat.reduceMul, Nat.reduceLeDiff, Nat.reduceEqDiff, reduceIte, Int.reduceBEq, Int.reduceBNe, Int.reduceLT, Int.reduceLE, Int.reduceGT, Int.reduceGE, Int.reduceNeg, reduceCtorEq, hl, h2, h6, h9, hg]
end Go.Proofs.Ythanlobfjpjegaa.Abs
