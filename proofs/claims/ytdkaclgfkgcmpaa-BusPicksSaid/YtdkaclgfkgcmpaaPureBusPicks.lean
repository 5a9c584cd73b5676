/- Who has the bus: the law's walk. -/
import Derived.Test.YtdkaclgfkgcmpaaPick
namespace Go.Proofs.Ytdkaclgfkgcmpaa.Abs
open Go Go.RowKit Fn
set_option linter.unusedVariables false
set_option linter.unusedSimpArgs false
set_option linter.unnecessarySimpa false
set_option maxRecDepth 100000
theorem awake_runs : evF ap 400 9 [] = some (.bool true) := by kernel_rfl
theorem ap9 : ap 9 = some f9 := rfl
theorem ap14 : ap 14 = some f14 := rfl
theorem ap15 : ap 15 = some f15 := rfl
theorem p9 : f9.pure = true := rfl
theorem p14 : f14.pure = true := rfl
theorem p15 : f15.pure = true := rfl
theorem n9 : f9.nat = none := rfl
theorem n14 : f14.nat = none := rfl
theorem n15 : f15.nat = none := rfl
theorem Pure.BusPicks (a0 : List Req) (a1 : Int) (h0 : (a0.length ≤ maxLen ∧ ∀ y0 ∈ a0, Req.wf y0)) (h1 : (Lit.int .i64 a1).wf = true) :
    ∃ k, evF ap k 4 [T.imm false a0.length (a0.flatMap Req.enc), T.int .i64 a1] = some (.bool true) := by
  refine E.get ?_
  refine E_body (F := f4) rfl rfl rfl ?_
  generalize hs0 : (_ : List T) ++ List.replicate _ T.undef = s0
  have e0 : s0.length = 28 ∧ rho s0 (.tmp 0) = .imm false a0.length (a0.flatMap Req.enc) ∧ rho s0 (.tmp 1) = .int .i64 a1 := by subst hs0; exact ⟨rfl, rfl, rfl⟩
  clear hs0
  obtain ⟨hl, e0, e1⟩ := e0
  have fin : ∀ (st : St), rho st.s (.tmp 4) = .bool true → AExit.ret.leaves = true ∧ ∃ u ids, resT st.s st.g f4.res = some u ∧ frz ⟨st.g, st.nx⟩ frzDepth u = some (.bool true, ids) := fun st h => ⟨rfl, .bool true, [], by show resT st.s st.g [.tmp 4] = _; simp only [resT, resL, resOne, h], rfl⟩
  obtain ⟨n9', c9⟩ := (E_of awake_runs).call ap9 (fun g => rfl)
  refine W_seqn (W_region (fun k => by simp (decide := true) only [evRegion, evOps, evOp, evG, evR, guardT, callee, opRes, pureR, rho_con, rho_eq, rho_ne, setDst_some, setDst_none, putAll_nil, putAll_one, putAll_two, put1_eq, put1_ne, binT, unT, natOf_nat, natOf_lit, bnd_none, bnd_some, List.length_set, List.length_cons, List.length_nil, Nat.reduceLT, Nat.reduceAdd, Nat.reduceMul, Nat.reduceLeDiff, Nat.reduceEqDiff, Nat.zero_add, Nat.add_zero, reduceIte, ne_eq, not_false_eq_true, not_true_eq_false, List.map_nil, List.map_cons, List.all_nil, List.all_cons, if_true, if_false, and_self, and_true, true_and, Bool.and_self, Bool.and_true, Bool.true_and, Bool.false_eq_true, Bool.true_beq, Bool.false_beq, Bool.not_true, Bool.not_false, reduceCtorEq]; rfl) ⟨rfl, ?_⟩)
  by_cases hlen : a0.length > 40
  · have hd : decide ((a0.length : Int) > 40) = true := by simp; omega
    refine W_seqn (W_regionN ⟨n9', by simp (decide := true) only [evRegion, evOps, evOp, evG, evR, guardT, callee, opRes, pureR, rho_con, rho_eq, rho_ne, setDst_some, setDst_none, putAll_nil, putAll_one, putAll_two, put1_eq, put1_ne, binT, unT, natOf_nat, natOf_lit, bnd_none, bnd_some, List.length_set, List.length_cons, List.length_nil, Nat.reduceLT, Nat.reduceAdd, Nat.reduceMul, Nat.reduceLeDiff, Nat.reduceEqDiff, Nat.zero_add, Nat.add_zero, reduceIte, ne_eq, not_false_eq_true, not_true_eq_false, List.map_nil, List.map_cons, List.all_nil, List.all_cons, if_true, if_false, and_self, and_true, true_and, Bool.and_self, Bool.and_true, Bool.true_and, Bool.false_eq_true, Bool.true_beq, Bool.false_beq, Bool.not_true, Bool.not_false, reduceCtorEq, hl, e0, hd, ap9, p9, n9, c9 n9' (Nat.le_refl _)]; rfl⟩ ⟨rfl, W_ret (fin _ ?_)⟩)
    simp (decide := true) only [evRegion, evOps, evOp, evG, evR, guardT, callee, opRes, pureR, rho_con, rho_eq, rho_ne, setDst_some, setDst_none, putAll_nil, putAll_one, putAll_two, put1_eq, put1_ne, binT, unT, natOf_nat, natOf_lit, bnd_none, bnd_some, List.length_set, List.length_cons, List.length_nil, Nat.reduceLT, Nat.reduceAdd, Nat.reduceMul, Nat.reduceLeDiff, Nat.reduceEqDiff, Nat.zero_add, Nat.add_zero, reduceIte, ne_eq, not_false_eq_true, not_true_eq_false, List.map_nil, List.map_cons, List.all_nil, List.all_cons, if_true, if_false, and_self, and_true, true_and, Bool.and_self, Bool.and_true, Bool.true_and, Bool.false_eq_true, Bool.true_beq, Bool.false_beq, Bool.not_true, Bool.not_false, reduceCtorEq, hl]
  · have hd : decide ((a0.length : Int) > 40) = false := by simp; omega
    have hd2 : decide ((a0.length : Int) ≤ 40) = true := by simp; omega
    obtain ⟨n14', c14⟩ := (bus_pick a0 a1 (by omega) h1).call ap14 (fun g => rfl)
    obtain ⟨n15', c15⟩ := (ref_pick a0 a1 (by omega) h1).call ap15 (fun g => rfl)
    have q9 := c9 (n9' + n14' + n15') (by omega)
    have q14 := c14 (n9' + n14' + n15') (by omega)
    have q15 := c15 (n9' + n14' + n15') (by omega)
    refine W_seqn (W_regionN ⟨n9' + n14' + n15', by simp (decide := true) only [evRegion, evOps, evOp, evG, evR, guardT, callee, opRes, pureR, rho_con, rho_eq, rho_ne, setDst_some, setDst_none, putAll_nil, putAll_one, putAll_two, put1_eq, put1_ne, binT, unT, natOf_nat, natOf_lit, bnd_none, bnd_some, List.length_set, List.length_cons, List.length_nil, Nat.reduceLT, Nat.reduceAdd, Nat.reduceMul, Nat.reduceLeDiff, Nat.reduceEqDiff, Nat.zero_add, Nat.add_zero, reduceIte, ne_eq, not_false_eq_true, not_true_eq_false, List.map_nil, List.map_cons, List.all_nil, List.all_cons, if_true, if_false, and_self, and_true, true_and, Bool.and_self, Bool.and_true, Bool.true_and, Bool.false_eq_true, Bool.true_beq, Bool.false_beq, Bool.not_true, Bool.not_false, reduceCtorEq, hl, e0, e1, hd, hd2, ap9, p9, n9, q9, ap14, p14, n14, q14, ap15, p15, n15, q15, beq_self_eq_true]; rfl⟩ ⟨rfl, W_ret (fin _ ?_)⟩)
    simp (decide := true) only [evRegion, evOps, evOp, evG, evR, guardT, callee, opRes, pureR, rho_con, rho_eq, rho_ne, setDst_some, setDst_none, putAll_nil, putAll_one, putAll_two, put1_eq, put1_ne, binT, unT, natOf_nat, natOf_lit, bnd_none, bnd_some, List.length_set, List.length_cons, List.length_nil, Nat.reduceLT, Nat.reduceAdd, Nat.reduceMul, Nat.reduceLeDiff, Nat.reduceEqDiff, Nat.zero_add, Nat.add_zero, reduceIte, ne_eq, not_false_eq_true, not_true_eq_false, List.map_nil, List.map_cons, List.all_nil, List.all_cons, if_true, if_false, and_self, and_true, true_and, Bool.and_self, Bool.and_true, Bool.true_and, Bool.false_eq_true, Bool.true_beq, Bool.false_beq, Bool.not_true, Bool.not_false, reduceCtorEq, hl]
end Go.Proofs.Ytdkaclgfkgcmpaa.Abs
