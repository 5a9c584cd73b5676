/- What caches must ask, and who has a line: the law's walk. -/
import Derived.Test.YtdkaclgfkgcmpaaBshared
import Derived.Test.YtdkaclgfkgcmpaaSmall
namespace Go.Proofs.Ytdkaclgfkgcmpaa.Abs
open Go Go.RowKit Fn
set_option linter.unusedVariables false
set_option linter.unusedSimpArgs false
set_option linter.unnecessarySimpa false
set_option maxRecDepth 100000

theorem awake_runs : evF ap 400 9 [] = some (.bool true) := by kernel_rfl
theorem ap8 : ap 8 = some f8 := rfl
theorem p8 : f8.pure = true := rfl
theorem n8 : f8.nat = none := rfl
theorem ap9 : ap 9 = some f9 := rfl
theorem p9 : f9.pure = true := rfl
theorem n9 : f9.nat = none := rfl
theorem ap10 : ap 10 = some f10 := rfl
theorem p10 : f10.pure = true := rfl
theorem n10 : f10.nat = none := rfl
theorem ap11 : ap 11 = some f11 := rfl
theorem p11 : f11.pure = true := rfl
theorem n11 : f11.nat = none := rfl
theorem ap12 : ap 12 = some f12 := rfl
theorem p12 : f12.pure = true := rfl
theorem n12 : f12.nat = none := rfl
theorem ap13 : ap 13 = some f13 := rfl
theorem p13 : f13.pure = true := rfl
theorem n13 : f13.nat = none := rfl
theorem askv_range (s a : Int) : 0 ≤ askv s a ∧ askv s a ≤ 3 := by
  unfold askv; split <;> (try split) <;> (try split) <;> (try split) <;> omega
theorem conf_want (v : Int) (ln : Nat) (hv : 0 ≤ v ∧ v ≤ 3) (hln : ln ≤ 4294967295) : conf [some .i64, some .u32] [.int .i64 v, .int .u32 (ln : Int)] = true := by
  have e : conf [some .i64, some .u32] [.int .i64 v, .int .u32 (ln : Int)] = ((true && (decide (-(2 ^ 63) ≤ v) && decide (v ≤ 2 ^ 63 - 1))) && ((true && (decide ((0 : Int) ≤ ln) && decide ((ln : Int) ≤ 2 ^ 32 - 1))) && true)) := rfl
  rw [e, decide_eq_true (by omega), decide_eq_true (by omega), decide_eq_true (by omega), decide_eq_true (by omega)]; rfl
theorem want_ok (m : Coh) (who : Int) (ln : Nat) (a : Int) (hln : ln ≤ 4294967295) : ∃ l, wantT m who ln a = .agg l ∧ conf [some .i64, some .u32] l = true ∧ eqL l l = true := by
  unfold wantT
  split
  · exact ⟨_, rfl, conf_want _ _ (askv_range _ _) hln, by simp [eqL, eq1]⟩
  · exact ⟨_, rfl, conf_want 0 0 (by omega) (by omega), by simp [eqL, eq1]⟩
theorem Pure.BusWants (a0 : Coh) (a1 : Ask) (h0 : Coh.wf a0) (h1 : Ask.wf a1) :
    ∃ k, evF ap k 3 [T.agg (Coh.enc a0), T.agg (Ask.enc a1)] = some (.bool true) := by
  refine E.get ?_
  obtain ⟨who, line, ask⟩ := a1
  have hln := wf_u32 h1.2.1
  obtain ⟨ln, rfl⟩ : ∃ ln : Nat, line = (ln : Int) := ⟨line.toNat, by have := hln.1; simp only at this; omega⟩
  have hln : ln ≤ 4294967295 := by have := hln.2; simp only at this; omega
  rw [coh_enc, show Ask.enc ⟨who, (ln : Int), ask⟩ = [T.int .i64 who, T.int .u32 (ln : Int), T.int .i64 ask] from rfl]
  refine E_body (F := f3) rfl rfl rfl ?_
  generalize hs0 : (_ : List T) ++ List.replicate _ T.undef = s0
  have e0 : s0.length = 44 ∧ rho s0 (.tmp 0) = .agg [memT a0, cachT a0] ∧ rho s0 (.tmp 1) = .agg [T.int .i64 who, T.int .u32 (ln : Int), T.int .i64 ask] := by subst hs0; exact ⟨rfl, rfl, rfl⟩
  clear hs0
  obtain ⟨hl, e0, e1⟩ := e0
  have hcut : cut [memT a0, cachT a0] 0 2 = [memT a0, cachT a0] := rfl
  have hleaf : allLeaf [memT a0, cachT a0] = true := rfl
  have hleaf2 : allLeaf [T.int .i64 who, T.int .u32 (ln : Int), T.int .i64 ask] = true := rfl
  obtain ⟨b, h8⟩ := ref_small a0 h0
  obtain ⟨n8', c8⟩ := h8.call ap8 (fun g => rfl)
  obtain ⟨n9', c9⟩ := (E_of awake_runs).call ap9 (fun g => rfl)
  have q8 := c8 n8' (Nat.le_refl _)
  obtain ⟨w, hw, hcf, heq⟩ := want_ok a0 who ln ask hln
  obtain ⟨N10, c10⟩ := (bus_want a0 h0 who ln ask hln).call ap10 (fun g => rfl)
  obtain ⟨N11, c11⟩ := (ref_want a0 h0 who ln ask hln).call ap11 (fun g => rfl)
  obtain ⟨N12, c12⟩ := (bus_shared a0 h0 who ln hln).call ap12 (fun g => rfl)
  obtain ⟨N13, c13⟩ := (ref_shared a0 h0 who ln hln).call ap13 (fun g => rfl)
  rw [hw] at c10 c11
  generalize hM : n9' + N10 + N11 + N12 + N13 = M
  have q9 := c9 M (by omega)
  have q10 := c10 M (by omega)
  have q11 := c11 M (by omega)
  have q12 := c12 M (by omega)
  have q13 := c13 M (by omega)
  have q9' := c9 n9' (by omega)
  generalize sharedN a0 who ln 0 a0.caches.length = sh at *
  generalize memT a0 = mt at *
  generalize cachT a0 = ct at *
  refine W_seqn (W_region (fun k => by simp (decide := true) only [evRegion, evOps, evOp, evG, evR, guardT, callee, opRes, pureR, rho_con, rho_eq, rho_ne, setDst_some, setDst_none, putAll_nil, putAll_one, putAll_two, put1_eq, put1_ne, binT, unT, natOf_nat, natOf_lit, bnd_none, bnd_some, List.length_set, List.length_cons, List.length_nil, Nat.reduceLT, Nat.reduceAdd, Nat.reduceMul, Nat.reduceLeDiff, Nat.reduceEqDiff, Nat.zero_add, Nat.add_zero, reduceIte, ne_eq, not_false_eq_true, not_true_eq_false, List.map_nil, List.map_cons, List.all_nil, List.all_cons, if_true, if_false, and_self, and_true, true_and, Bool.and_self, Bool.and_true, Bool.true_and, Bool.false_eq_true, Bool.true_beq, Bool.false_beq, Bool.not_true, Bool.not_false, decide_true, decide_false, Int.reduceBEq, Int.reduceBNe, Int.reduceLT, Int.reduceLE, Int.reduceGT, Int.reduceGE, Int.reduceNeg, T.cells, T.leaf, fillT, splice, List.set_cons_zero, List.set_cons_succ, List.getElem?_cons_zero, List.getElem?_cons_succ, List.cons_append, List.nil_append, List.append_nil, reduceCtorEq, hl, e0, e1, hleaf, hleaf2]; rfl) ⟨rfl, ?_⟩)
  cases b with
  | false =>
    refine W_seq (W_seqn (W_regionN ⟨n8', by simp (decide := true) only [evRegion, evOps, evOp, evG, evR, guardT, callee, opRes, pureR, rho_con, rho_eq, rho_ne, setDst_some, setDst_none, putAll_nil, putAll_one, putAll_two, put1_eq, put1_ne, binT, unT, natOf_nat, natOf_lit, bnd_none, bnd_some, List.length_set, List.length_cons, List.length_nil, Nat.reduceLT, Nat.reduceAdd, Nat.reduceMul, Nat.reduceLeDiff, Nat.reduceEqDiff, Nat.zero_add, Nat.add_zero, reduceIte, ne_eq, not_false_eq_true, not_true_eq_false, List.map_nil, List.map_cons, List.all_nil, List.all_cons, if_true, if_false, and_self, and_true, true_and, Bool.and_self, Bool.and_true, Bool.true_and, Bool.false_eq_true, Bool.true_beq, Bool.false_beq, Bool.not_true, Bool.not_false, decide_true, decide_false, Int.reduceBEq, Int.reduceBNe, Int.reduceLT, Int.reduceLE, Int.reduceGT, Int.reduceGE, Int.reduceNeg, T.cells, T.leaf, fillT, splice, List.set_cons_zero, List.set_cons_succ, List.getElem?_cons_zero, List.getElem?_cons_succ, List.cons_append, List.nil_append, List.append_nil, reduceCtorEq, hl, hcut, ap8, p8, n8, q8]; rfl⟩ ⟨rfl, W_true (by simp (decide := true) only [evRegion, evOps, evOp, evG, evR, guardT, callee, opRes, pureR, rho_con, rho_eq, rho_ne, setDst_some, setDst_none, putAll_nil, putAll_one, putAll_two, put1_eq, put1_ne, binT, unT, natOf_nat, natOf_lit, bnd_none, bnd_some, List.length_set, List.length_cons, List.length_nil, Nat.reduceLT, Nat.reduceAdd, Nat.reduceMul, Nat.reduceLeDiff, Nat.reduceEqDiff, Nat.zero_add, Nat.add_zero, reduceIte, ne_eq, not_false_eq_true, not_true_eq_false, List.map_nil, List.map_cons, List.all_nil, List.all_cons, if_true, if_false, and_self, and_true, true_and, Bool.and_self, Bool.and_true, Bool.true_and, Bool.false_eq_true, Bool.true_beq, Bool.false_beq, Bool.not_true, Bool.not_false, decide_true, decide_false, Int.reduceBEq, Int.reduceBNe, Int.reduceLT, Int.reduceLE, Int.reduceGT, Int.reduceGE, Int.reduceNeg, T.cells, T.leaf, fillT, splice, List.set_cons_zero, List.set_cons_succ, List.getElem?_cons_zero, List.getElem?_cons_succ, List.cons_append, List.nil_append, List.append_nil, reduceCtorEq, hl] <;> rfl) ?_⟩))
    refine W_seqn (W_regionN ⟨n9', by simp (decide := true) only [evRegion, evOps, evOp, evG, evR, guardT, callee, opRes, pureR, rho_con, rho_eq, rho_ne, setDst_some, setDst_none, putAll_nil, putAll_one, putAll_two, put1_eq, put1_ne, binT, unT, natOf_nat, natOf_lit, bnd_none, bnd_some, List.length_set, List.length_cons, List.length_nil, Nat.reduceLT, Nat.reduceAdd, Nat.reduceMul, Nat.reduceLeDiff, Nat.reduceEqDiff, Nat.zero_add, Nat.add_zero, reduceIte, ne_eq, not_false_eq_true, not_true_eq_false, List.map_nil, List.map_cons, List.all_nil, List.all_cons, if_true, if_false, and_self, and_true, true_and, Bool.and_self, Bool.and_true, Bool.true_and, Bool.false_eq_true, Bool.true_beq, Bool.false_beq, Bool.not_true, Bool.not_false, decide_true, decide_false, Int.reduceBEq, Int.reduceBNe, Int.reduceLT, Int.reduceLE, Int.reduceGT, Int.reduceGE, Int.reduceNeg, T.cells, T.leaf, fillT, splice, List.set_cons_zero, List.set_cons_succ, List.getElem?_cons_zero, List.getElem?_cons_succ, List.cons_append, List.nil_append, List.append_nil, reduceCtorEq, hl, ap9, p9, n9, q9']; rfl⟩ ⟨rfl, W_ret ?_⟩)
    simp only [reduceCtorEq, false_and, false_or, or_false, exists_false, exists_const, ne_eq, not_false_eq_true, true_and, implies_true]
    refine fin_of (F := f3) rfl (fun _ => rfl) ?_
    simp (decide := true) only [evRegion, evOps, evOp, evG, evR, guardT, callee, opRes, pureR, rho_con, rho_eq, rho_ne, setDst_some, setDst_none, putAll_nil, putAll_one, putAll_two, put1_eq, put1_ne, binT, unT, natOf_nat, natOf_lit, bnd_none, bnd_some, List.length_set, List.length_cons, List.length_nil, Nat.reduceLT, Nat.reduceAdd, Nat.reduceMul, Nat.reduceLeDiff, Nat.reduceEqDiff, Nat.zero_add, Nat.add_zero, reduceIte, ne_eq, not_false_eq_true, not_true_eq_false, List.map_nil, List.map_cons, List.all_nil, List.all_cons, if_true, if_false, and_self, and_true, true_and, Bool.and_self, Bool.and_true, Bool.true_and, Bool.false_eq_true, Bool.true_beq, Bool.false_beq, Bool.not_true, Bool.not_false, decide_true, decide_false, Int.reduceBEq, Int.reduceBNe, Int.reduceLT, Int.reduceLE, Int.reduceGT, Int.reduceGE, Int.reduceNeg, T.cells, T.leaf, fillT, splice, List.set_cons_zero, List.set_cons_succ, List.getElem?_cons_zero, List.getElem?_cons_succ, List.cons_append, List.nil_append, List.append_nil, reduceCtorEq, hl]
  | true =>
    refine W_seqn (W_seqn (W_regionN ⟨n8', by simp (decide := true) only [evRegion, evOps, evOp, evG, evR, guardT, callee, opRes, pureR, rho_con, rho_eq, rho_ne, setDst_some, setDst_none, putAll_nil, putAll_one, putAll_two, put1_eq, put1_ne, binT, unT, natOf_nat, natOf_lit, bnd_none, bnd_some, List.length_set, List.length_cons, List.length_nil, Nat.reduceLT, Nat.reduceAdd, Nat.reduceMul, Nat.reduceLeDiff, Nat.reduceEqDiff, Nat.zero_add, Nat.add_zero, reduceIte, ne_eq, not_false_eq_true, not_true_eq_false, List.map_nil, List.map_cons, List.all_nil, List.all_cons, if_true, if_false, and_self, and_true, true_and, Bool.and_self, Bool.and_true, Bool.true_and, Bool.false_eq_true, Bool.true_beq, Bool.false_beq, Bool.not_true, Bool.not_false, decide_true, decide_false, Int.reduceBEq, Int.reduceBNe, Int.reduceLT, Int.reduceLE, Int.reduceGT, Int.reduceGE, Int.reduceNeg, T.cells, T.leaf, fillT, splice, List.set_cons_zero, List.set_cons_succ, List.getElem?_cons_zero, List.getElem?_cons_succ, List.cons_append, List.nil_append, List.append_nil, reduceCtorEq, hl, hcut, ap8, p8, n8, q8]; rfl⟩ ⟨rfl, W_false (by simp (decide := true) only [evRegion, evOps, evOp, evG, evR, guardT, callee, opRes, pureR, rho_con, rho_eq, rho_ne, setDst_some, setDst_none, putAll_nil, putAll_one, putAll_two, put1_eq, put1_ne, binT, unT, natOf_nat, natOf_lit, bnd_none, bnd_some, List.length_set, List.length_cons, List.length_nil, Nat.reduceLT, Nat.reduceAdd, Nat.reduceMul, Nat.reduceLeDiff, Nat.reduceEqDiff, Nat.zero_add, Nat.add_zero, reduceIte, ne_eq, not_false_eq_true, not_true_eq_false, List.map_nil, List.map_cons, List.all_nil, List.all_cons, if_true, if_false, and_self, and_true, true_and, Bool.and_self, Bool.and_true, Bool.true_and, Bool.false_eq_true, Bool.true_beq, Bool.false_beq, Bool.not_true, Bool.not_false, decide_true, decide_false, Int.reduceBEq, Int.reduceBNe, Int.reduceLT, Int.reduceLE, Int.reduceGT, Int.reduceGE, Int.reduceNeg, T.cells, T.leaf, fillT, splice, List.set_cons_zero, List.set_cons_succ, List.getElem?_cons_zero, List.getElem?_cons_succ, List.cons_append, List.nil_append, List.append_nil, reduceCtorEq, hl] <;> rfl) (W_skip ⟨rfl, ?_⟩)⟩))
    refine W_seqn (W_regionN ⟨M, by simp (decide := true) only [evRegion, evOps, evOp, evG, evR, guardT, callee, opRes, pureR, rho_con, rho_eq, rho_ne, setDst_some, setDst_none, putAll_nil, putAll_one, putAll_two, put1_eq, put1_ne, binT, unT, natOf_nat, natOf_lit, bnd_none, bnd_some, List.length_set, List.length_cons, List.length_nil, Nat.reduceLT, Nat.reduceAdd, Nat.reduceMul, Nat.reduceLeDiff, Nat.reduceEqDiff, Nat.zero_add, Nat.add_zero, reduceIte, ne_eq, not_false_eq_true, not_true_eq_false, List.map_nil, List.map_cons, List.all_nil, List.all_cons, if_true, if_false, and_self, and_true, true_and, Bool.and_self, Bool.and_true, Bool.true_and, Bool.false_eq_true, Bool.true_beq, Bool.false_beq, Bool.not_true, Bool.not_false, decide_true, decide_false, Int.reduceBEq, Int.reduceBNe, Int.reduceLT, Int.reduceLE, Int.reduceGT, Int.reduceGE, Int.reduceNeg, T.cells, T.leaf, fillT, splice, List.set_cons_zero, List.set_cons_succ, List.getElem?_cons_zero, List.getElem?_cons_succ, List.cons_append, List.nil_append, List.append_nil, reduceCtorEq, hl, hcut, ap9, p9, n9, q9, ap10, p10, n10, q10, ap11, p11, n11, q11, ap12, p12, n12, q12, ap13, p13, n13, q13, hcf, heq, beq_self_eq_true]; rfl⟩ ⟨rfl, W_ret ?_⟩)
    refine fin_of (F := f3) rfl (fun _ => rfl) ?_
    simp (decide := true) only [evRegion, evOps, evOp, evG, evR, guardT, callee, opRes, pureR, rho_con, rho_eq, rho_ne, setDst_some, setDst_none, putAll_nil, putAll_one, putAll_two, put1_eq, put1_ne, binT, unT, natOf_nat, natOf_lit, bnd_none, bnd_some, List.length_set, List.length_cons, List.length_nil, Nat.reduceLT, Nat.reduceAdd, Nat.reduceMul, Nat.reduceLeDiff, Nat.reduceEqDiff, Nat.zero_add, Nat.add_zero, reduceIte, ne_eq, not_false_eq_true, not_true_eq_false, List.map_nil, List.map_cons, List.all_nil, List.all_cons, if_true, if_false, and_self, and_true, true_and, Bool.and_self, Bool.and_true, Bool.true_and, Bool.false_eq_true, Bool.true_beq, Bool.false_beq, Bool.not_true, Bool.not_false, decide_true, decide_false, Int.reduceBEq, Int.reduceBNe, Int.reduceLT, Int.reduceLE, Int.reduceGT, Int.reduceGE, Int.reduceNeg, T.cells, T.leaf, fillT, splice, List.set_cons_zero, List.set_cons_succ, List.getElem?_cons_zero, List.getElem?_cons_succ, List.cons_append, List.nil_append, List.append_nil, reduceCtorEq, hl]
end Go.Proofs.Ytdkaclgfkgcmpaa.Abs
