/- Where a line is, by the given function; ways, whole. -/
import Derived.Test.YthanlobfjpjegaaFind
namespace Go.Proofs.Ythanlobfjpjegaa.Abs
open Go Go.RowKit Fn
set_option linter.unusedVariables false
set_option linter.unusedSimpArgs false
set_option linter.unnecessarySimpa false
set_option maxRecDepth 100000

theorem ap38 : ap 38 = some f38 := rfl
theorem p38 : f38.pure = true := rfl
theorem n38 : f38.nat = none := rfl
theorem find_none {c : Cache} {ln : Nat} (h : c.sets.length = 0) : findT c ln = .tup [.int .i64 0, .int .i64 0, .bool false] := by simp [findT, find, h]
theorem ref_find (c : Cache) (hc : c.wf) (ln : Nat) (hln : ln ≤ 4294967295) : E ap 16 [.agg [setsT c], .int .u32 (ln : Int)] (findT c ln) := by
  refine E_body (F := f16) rfl rfl rfl ?_
  generalize hs0 : (_ : List T) ++ List.replicate _ T.undef = s0
  have e0 : s0.length = 49 ∧ rho s0 (.tmp 0) = .agg [setsT c] ∧ rho s0 (.tmp 1) = .int .u32 (ln : Int) := by subst hs0; exact ⟨rfl, rfl, rfl⟩
  clear hs0
  obtain ⟨hl, h0, h1⟩ := e0
  have hleaf : allLeaf [setsT c] = true := rfl
  have hcut : cut [setsT c] 0 1 = [setsT c] := rfl
  obtain ⟨N, q⟩ := (ref_set c ln hln).call ap38 (fun g => rfl)
  have q69 := q N (Nat.le_refl _)
  refine W_seqn (W_region (fun k => by simp (decide := true) only [sims, evRegion, evOps, evOp, evG, evR, guardT, callee, opRes, pureR, binT, unT, T.cells, T.leaf, fillT, splice, Nat.reduceLT, Nat.reduceAdd, Nat.reduceMul, Nat.reduceLeDiff, Nat.reduceEqDiff, reduceIte, Int.reduceBEq, Int.reduceBNe, Int.reduceLT, Int.reduceLE, Int.reduceGT, Int.reduceGE, Int.reduceNeg, reduceCtorEq, hl, h0, hleaf]; rfl) ⟨rfl, ?_⟩)
  refine W_seqn (W_regionN ⟨N, by simp (decide := true) only [sims, evRegion, evOps, evOp, evG, evR, guardT, callee, opRes, pureR, binT, unT, T.cells, T.leaf, fillT, splice, Nat.reduceLT, Nat.reduceAdd, Nat.reduceMul, Nat.reduceLeDiff, Nat.reduceEqDiff, reduceIte, Int.reduceBEq, Int.reduceBNe, Int.reduceLT, Int.reduceLE, Int.reduceGT, Int.reduceGE, Int.reduceNeg, reduceCtorEq, hl, h1, hcut, ap38, p38, n38, q69]; rfl⟩ ⟨rfl, ?_⟩)
  by_cases hz : c.sets.length = 0
  · rw [find_none hz]
    refine W_seq (W_seqn (W_region (fun k => by simp (decide := true) only [sims, evRegion, evOps, evOp, evG, evR, guardT, callee, opRes, pureR, binT, unT, T.cells, T.leaf, fillT, splice, Nat.reduceLT, Nat.reduceAdd, Nat.reduceMul, Nat.reduceLeDiff, Nat.reduceEqDiff, reduceIte, Int.reduceBEq, Int.reduceBNe, Int.reduceLT, Int.reduceLE, Int.reduceGT, Int.reduceGE, Int.reduceNeg, reduceCtorEq, hl, hz]; rfl) ⟨rfl, W_true (by simp (decide := true) only [sims, evRegion, evOps, evOp, evG, evR, guardT, callee, opRes, pureR, binT, unT, T.cells, T.leaf, fillT, splice, Nat.reduceLT, Nat.reduceAdd, Nat.reduceMul, Nat.reduceLeDiff, Nat.reduceEqDiff, reduceIte, Int.reduceBEq, Int.reduceBNe, Int.reduceLT, Int.reduceLE, Int.reduceGT, Int.reduceGE, Int.reduceNeg, reduceCtorEq, hl] <;> rfl) ?_⟩))
    refine W_seqn (W_region (fun k => by simp (decide := true) only [sims, evRegion, evOps, evOp, evG, evR, guardT, callee, opRes, pureR, binT, unT, T.cells, T.leaf, fillT, splice, Nat.reduceLT, Nat.reduceAdd, Nat.reduceMul, Nat.reduceLeDiff, Nat.reduceEqDiff, reduceIte, Int.reduceBEq, Int.reduceBNe, Int.reduceLT, Int.reduceLE, Int.reduceGT, Int.reduceGE, Int.reduceNeg, reduceCtorEq]; rfl) ⟨rfl, W_ret ?_⟩)
    simp only [reduceCtorEq, false_and, false_or, or_false, exists_false, exists_const, ne_eq, not_false_eq_true, true_and, implies_true]
    refine fin_of3 (F := f16) rfl (fun _ => rfl) ?_ ?_ ?_ <;> simp (decide := true) only [sims, evRegion, evOps, evOp, evG, evR, guardT, callee, opRes, pureR, binT, unT, T.cells, T.leaf, fillT, splice, Nat.reduceLT, Nat.reduceAdd, Nat.reduceMul, Nat.reduceLeDiff, Nat.reduceEqDiff, reduceIte, Int.reduceBEq, Int.reduceBNe, Int.reduceLT, Int.reduceLE, Int.reduceGT, Int.reduceGE, Int.reduceNeg, reduceCtorEq, hl]
  · have hd : decide ((seti c ln : Int) < 0) = false := decide_eq_false (by omega)
    have hs : seti c ln < c.sets.length := Nat.mod_lt _ (by omega)
    refine W_seqn (W_seqn (W_region (fun k => by simp (decide := true) only [sims, evRegion, evOps, evOp, evG, evR, guardT, callee, opRes, pureR, binT, unT, T.cells, T.leaf, fillT, splice, Nat.reduceLT, Nat.reduceAdd, Nat.reduceMul, Nat.reduceLeDiff, Nat.reduceEqDiff, reduceIte, Int.reduceBEq, Int.reduceBNe, Int.reduceLT, Int.reduceLE, Int.reduceGT, Int.reduceGE, Int.reduceNeg, reduceCtorEq, hl, hz, hd]; rfl) ⟨rfl, W_false (by simp (decide := true) only [sims, evRegion, evOps, evOp, evG, evR, guardT, callee, opRes, pureR, binT, unT, T.cells, T.leaf, fillT, splice, Nat.reduceLT, Nat.reduceAdd, Nat.reduceMul, Nat.reduceLeDiff, Nat.reduceEqDiff, reduceIte, Int.reduceBEq, Int.reduceBNe, Int.reduceLT, Int.reduceLE, Int.reduceGT, Int.reduceGE, Int.reduceNeg, reduceCtorEq, hl] <;> rfl) (W_skip ⟨rfl, ?_⟩)⟩))
    refine W_seq (W_seqn (W_region (fun k => by simp (decide := true) only [sims, evRegion, evOps, evOp, evG, evR, guardT, callee, opRes, pureR, binT, unT, T.cells, T.leaf, fillT, splice, Nat.reduceLT, Nat.reduceAdd, Nat.reduceMul, Nat.reduceLeDiff, Nat.reduceEqDiff, reduceIte, Int.reduceBEq, Int.reduceBNe, Int.reduceLT, Int.reduceLE, Int.reduceGT, Int.reduceGE, Int.reduceNeg, reduceCtorEq]; rfl) ⟨rfl, W_block ?_⟩))
    refine find_loop c hc ln (seti c ln) hs (fnd (row c (seti c ln)) ln 0 (row c (seti c ln)).length) _ (fun st k hr h4 h5 h6 => ?_) (fun st hr hst => ?_) (row c (seti c ln)).length _ ⟨0, ?_, ?_, ?_, ?_, ?_, ?_, by omega, rfl, rfl⟩
    · simp only [reduceCtorEq, false_and, false_or, or_false, exists_false, exists_const, ne_eq, not_false_eq_true, true_and, implies_true]
      have e : findT c ln = .tup [.int .i64 (seti c ln : Int), .int .i64 (k : Int), .bool true] := by unfold findT find; rw [if_neg hz, hr]
      rw [e]
      exact fin_of3 (F := f16) rfl (fun _ => rfl) h4 h5 h6
    · have e : findT c ln = .tup [.int .i64 0, .int .i64 0, .bool false] := by unfold findT find; rw [if_neg hz, hr]
      rw [e]
      refine .inl ⟨rfl, .inl ⟨rfl, W_seqn (W_region (fun k => by simp (decide := true) only [sims, evRegion, evOps, evOp, evG, evR, guardT, callee, opRes, pureR, binT, unT, T.cells, T.leaf, fillT, splice, Nat.reduceLT, Nat.reduceAdd, Nat.reduceMul, Nat.reduceLeDiff, Nat.reduceEqDiff, reduceIte, Int.reduceBEq, Int.reduceBNe, Int.reduceLT, Int.reduceLE, Int.reduceGT, Int.reduceGE, Int.reduceNeg, reduceCtorEq]; rfl) ⟨rfl, W_ret ?_⟩)⟩⟩
      refine fin_of3 (F := f16) rfl (fun _ => rfl) ?_ ?_ ?_ <;> simp (decide := true) only [sims, evRegion, evOps, evOp, evG, evR, guardT, callee, opRes, pureR, binT, unT, T.cells, T.leaf, fillT, splice, Nat.reduceLT, Nat.reduceAdd, Nat.reduceMul, Nat.reduceLeDiff, Nat.reduceEqDiff, reduceIte, Int.reduceBEq, Int.reduceBNe, Int.reduceLT, Int.reduceLE, Int.reduceGT, Int.reduceGE, Int.reduceNeg, reduceCtorEq, hst]
    all_goals simp (decide := true) only [sims, evRegion, evOps, evOp, evG, evR, guardT, callee, opRes, pureR, binT, unT, T.cells, T.leaf, fillT, splice, Nat.reduceLT, Nat.reduceAdd, Nat.reduceMul, Nat.reduceLeDiff, Nat.reduceEqDiff, reduceIte, Int.reduceBEq, Int.reduceBNe, Int.reduceLT, Int.reduceLE, Int.reduceGT, Int.reduceGE, Int.reduceNeg, reduceCtorEq, hl, h1, hz]
    rfl

/-! Ways, whole. -/
def zeroW : Way := ⟨0, 0, List.replicate 16 0, 0⟩
def wayOf (c : Cache) (ln : Nat) : Way := match find c ln with
  | some k => ((row c (seti c ln))[k]?).getD default
  | none => zeroW
theorem zeroW_wf : zeroW.wf := by
  refine ⟨rfl, rfl, ⟨rfl, fun y hy => ?_⟩, rfl⟩
  rw [show zeroW.data = List.replicate 16 0 from rfl, List.mem_replicate] at hy
  rw [hy.2]; rfl
theorem find_lt {c : Cache} {ln k : Nat} (h : find c ln = some k) : seti c ln < c.sets.length ∧ k < (row c (seti c ln)).length := by
  unfold find at h
  split at h
  · cases h
  · rename_i hz
    have := fnd_lt _ _ _ _ _ h
    exact ⟨Nat.mod_lt _ (by omega), by omega⟩
theorem wayOf_wf {c : Cache} (hc : c.wf) (ln : Nat) : (wayOf c ln).wf := by
  unfold wayOf
  split
  · rename_i k hk
    obtain ⟨h1, h2⟩ := find_lt hk
    rw [List.getElem?_eq_getElem h2]
    exact (row_wf hc _ h1).2 _ (List.getElem_mem h2)
  · exact zeroW_wf
theorem frzAll_int {h : Hp} {d : Nat} : ∀ l : List T, (∀ x ∈ l, ∃ k n, x = .int k n) → frzAll (frz h (d + 1)) l = some (l, [])
  | [], _ => rfl
  | x :: l, hx => by
    obtain ⟨k, n, rfl⟩ := hx x (List.mem_cons_self ..)
    have e : frz h (d + 1) (.int k n) = some (.int k n, []) := rfl
    simp only [frzAll, e, frzAll_int l (fun y hy => hx y (List.mem_cons_of_mem _ hy)), List.append_nil]
theorem way_ints (w : Way) : ∀ x ∈ w.enc, ∃ k n, x = .int k n := by
  intro x hx
  simp only [Way.enc, List.mem_append, List.mem_cons, List.not_mem_nil, or_false, List.mem_flatMap] at hx
  rcases hx with rfl | rfl | ⟨a, _, rfl⟩ | rfl <;> exact ⟨_, _, rfl⟩
theorem leaf_ints : ∀ l : List T, (∀ x ∈ l, ∃ k n, x = .int k n) → allLeaf l = true := by
  intro l hl
  unfold allLeaf
  rw [List.all_eq_true]
  intro x hx
  obtain ⟨k, n, rfl⟩ := hl x hx
  rfl
theorem way_frz (w : Way) (h : Hp) : frz h frzDepth (.agg w.enc) = some (.agg w.enc, []) := by
  show frz h (11 + 1) _ = _
  rw [frz]
  simp only [frzAll_int (d := 10) w.enc (way_ints w)]
theorem splice_all {c l : List T} (h : l.length = c.length) : splice c 0 l = l := by
  apply List.ext_getElem?
  intro i
  rw [splice_get l c 0 i (by omega)]
  split
  · rw [Nat.sub_zero]
  · rw [List.getElem?_eq_none (by omega), List.getElem?_eq_none (by omega)]
theorem cut_all {c : List T} {n : Nat} (h : c.length = n) : cut c 0 n = c := by
  unfold cut; rw [List.drop_zero, List.take_of_length_le (by omega)]
theorem fin_cell {F : AFun} {t n p : Nat} {c : List T} (hF : F.res = [.cell t false n]) (hv : ∀ h : Hp, frz h frzDepth (.agg c) = some (.agg c, [])) {s : List T} {g : Mem} {nx : Nat} (hs : rho s (.tmp t) = .ptr p 0) (hg : g p = some c) (hc : c.length = n) : AExit.ret.leaves = true ∧ ∃ u ids, resT s g F.res = some u ∧ frz ⟨g, nx⟩ frzDepth u = some (.agg c, ids) := by
  refine ⟨rfl, .agg c, [], ?_, hv _⟩
  rw [hF]
  have h1 : (0 : Nat) + n ≤ c.length := by omega
  simp only [resT, resL, resOne, opRes, hs, hg, h1, if_true, Bool.false_eq_true, if_false, cut_all hc]

end Go.Proofs.Ythanlobfjpjegaa.Abs
