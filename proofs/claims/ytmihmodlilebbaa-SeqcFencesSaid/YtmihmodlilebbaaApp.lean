/- Appending one operation to a row that is one's own. -/
import Derived.Test.YtmihmodlilebbaaC6
import Derived.Test.YtmihmodlilebbaaFn
import Derived.Test.YtmihmodlilebbaaTy
namespace Go.Proofs.Ytmihmodlilebbaa.Abs
open Go Go.RowKit Fn
set_option linter.unusedVariables false
set_option linter.unusedSimpArgs false
set_option linter.unnecessarySimpa false
set_option maxRecDepth 100000

/-- A slice that grows: what it holds, and where. -/
def Acc (es : Nat) (g : Mem) (v : T) (n : Nat) (cells : List T) (lo hi : Nat) : Prop :=
  (n = 0 ∧ cells = [] ∧ v = .imm true 0 []) ∨ (0 < n ∧ cells.length = n * es ∧ allLeaf cells = true ∧ ∃ t, lo ≤ t ∧ t < hi ∧ v = .own t 0 n es ∧ g t = some cells)
theorem cut_all {c : List T} {n : Nat} (h : c.length = n) : cut c 0 n = c := by
  unfold cut; rw [List.drop_zero, List.take_of_length_le (by omega)]
theorem leaf_app2 {l l' : List T} (h : allLeaf l = true) (h' : allLeaf l' = true) : allLeaf (l ++ l') = true := leaf_append h h'
theorem splice_all {c l : List T} (h : l.length = c.length) : splice c 0 l = l := by
  apply List.ext_getElem?
  intro i
  rw [splice_get l c 0 i (by omega)]
  split
  · rw [Nat.sub_zero]
  · rw [List.getElem?_eq_none (by omega), List.getElem?_eq_none (by omega)]
def rowT (l : List Op) : T := .imm false l.length (l.flatMap Op.enc)
def opAt (l : List Op) (k : Nat) : Op := (l[k]?).getD default
def zop : List T := [.int .i64 0, .int .i64 0, .int .u32 0]
def fop : Op := ⟨3, 0, 0⟩
theorem op_len (o : Op) : o.enc.length = 3 := rfl
theorem op_leaf (o : Op) : allLeaf o.enc = true := rfl
theorem row_cut (l : List Op) (k : Nat) (h : k < l.length) : cut (l.flatMap Op.enc) (k * 3) 3 = (opAt l k).enc := by
  have := flat_cut op_len l k h 0 3 (by omega)
  rw [Nat.add_zero] at this
  rw [this, cut_all (op_len _)]; simp [opAt, h]
theorem row_kind (l : List Op) (k : Nat) (h : k < l.length) : (l.flatMap Op.enc)[k * 3]? = some (.int .i64 (opAt l k).kind) := by
  have := flat_get op_len l k h 0 (by omega)
  rw [Nat.add_zero] at this
  rw [this]; simp only [opAt, List.getElem?_eq_getElem h]; rfl

def seqTail : Nat → ACode → ACode
  | 0, c => c
  | n + 1, .seq _ b => seqTail n b
  | _, c => c
def outL15 : ACode := match f15.body with | .seq _ (.seq _ (.seq (.seq _ (.block _ (.loop c))) _)) => c | _ => .skip
def inL15 : ACode := match outL15 with | .seq _ (.seq (.block _ (.seq _ (.seq (.seq _ (.block _ (.loop c))) _))) _) => c | _ => .skip
def opsOf : ACode → List AOper
  | .region ops _ => ops
  | _ => []
def r22 : List AOper := match inL15 with | .seq _ (.seq (.block _ (.seq (.region ops _) _)) _) => ops | _ => []
def r41 : List AOper := match inL15 with | .seq _ (.seq (.block _ (.seq _ (.seq _ (.cond _ (.region ops _) _)))) _) => ops | _ => []

theorem app22 (p : List (List Op)) (pcs : List T) (i k : Nat) (l : List Op) (hi : i < p.length) (hpl : pcs.length = p.length) (hrow : pcs[i * 1]? = some (rowT l)) (hk : k < l.length) (st : St) (n : Nat) (cells : List T) (lo : Nat)
    (hl : st.s.length = 50) (h0 : rho st.s (.tmp 0) = .imm false p.length pcs) (h4 : rho st.s (.tmp 4) = .int .i64 (i : Int)) (h6 : rho st.s (.tmp 6) = .int .i64 (k : Int)) (hA : Acc 3 st.g (rho st.s (.tmp 5)) n cells lo st.nx) (hlo : lo ≤ st.nx) (hn : n ≤ 1000) :
    ∃ st', (∀ f, evRegion ap (ev ap f) r22 [] st = some (.normal, st')) ∧ st'.s.length = 50 ∧ Acc 3 st'.g (rho st'.s (.tmp 5)) (n + 1) (cells ++ (opAt l k).enc) lo st'.nx ∧ (∀ t, t < lo → st'.g t = st.g t) ∧ st.nx ≤ st'.nx ∧
      rho st'.s (.tmp 0) = rho st.s (.tmp 0) ∧ rho st'.s (.tmp 3) = rho st.s (.tmp 3) ∧ rho st'.s (.tmp 4) = rho st.s (.tmp 4) ∧ rho st'.s (.tmp 6) = rho st.s (.tmp 6) := by
  have hb : i * 1 + 1 ≤ p.length := by omega
  have hrt : rowT l = .imm false l.length (l.flatMap Op.enc) := rfl
  rw [hrt] at hrow
  have hll := flat_len op_len l
  have hb2 : k * 3 + 3 ≤ (l.flatMap Op.enc).length := by omega
  have hcut := row_cut l k hk
  have hol := op_len (opAt l k)
  have holf := op_leaf (opAt l k)
  have hsp : splice [T.int .i64 0, T.int .i64 0, T.int .u32 0] 0 (opAt l k).enc = (opAt l k).enc := splice_all rfl
  have hc3 : cut (opAt l k).enc 0 3 = (opAt l k).enc := cut_all rfl
  have hall : (opAt l k).enc.all T.leaf = true := rfl
  have hroom : room = 549755813888 := rfl
  generalize (opAt l k).enc = oe at *
  generalize l.flatMap Op.enc = lc at *
  obtain ⟨s, g, nx⟩ := st
  simp only at hl h0 h4 h6 hA hlo ⊢
  rcases hA with ⟨rfl, rfl, h5⟩ | ⟨hn0, hcl, hclf, t, ht1, ht2, h5, hgt⟩
  · refine ⟨_, fun f => by simp (decide := true) only [r22, inL15, outL15, f15, evRegion, evOps, evOp, evG, evR, guardT, callee, opRes, pureR, rho_con, rho_eq, rho_ne, setDst_some, setDst_none, putAll_nil, putAll_one, putAll_two, put1_eq, put1_ne, binT, unT, natOf_nat, natOf_lit, bnd_none, bnd_some, List.length_set, List.length_cons, List.length_nil, Nat.reduceLT, Nat.reduceAdd, Nat.reduceMul, Nat.reduceLeDiff, Nat.reduceEqDiff, Nat.zero_add, Nat.add_zero, reduceIte, ne_eq, not_false_eq_true, not_true_eq_false, List.map_nil, List.map_cons, List.all_nil, List.all_cons, if_true, if_false, and_self, and_true, true_and, Bool.and_self, Bool.and_true, Bool.true_and, Bool.false_eq_true, Bool.true_beq, Bool.false_beq, Bool.not_true, Bool.not_false, decide_true, decide_false, Int.reduceBEq, Int.reduceBNe, Int.reduceLT, Int.reduceLE, Int.reduceGT, Int.reduceGE, Int.reduceNeg, T.cells, T.leaf, fillT, splice, List.set_cons_zero, List.set_cons_succ, List.getElem?_cons_zero, List.getElem?_cons_succ, List.cons_append, List.nil_append, List.append_nil, reduceCtorEq, cellsOf, hl, h0, h4, h5, h6, hi, hb, hpl, hrow, hk, hb2, hcut, hol, holf, hsp, hc3, hall, hroom]; rfl, ?_, ?_, ?_, ?_, ?_, ?_, ?_, ?_⟩
    · simp (decide := true) only [evRegion, evOps, evOp, evG, evR, guardT, callee, opRes, pureR, rho_con, rho_eq, rho_ne, setDst_some, setDst_none, putAll_nil, putAll_one, putAll_two, put1_eq, put1_ne, binT, unT, natOf_nat, natOf_lit, bnd_none, bnd_some, List.length_set, List.length_cons, List.length_nil, Nat.reduceLT, Nat.reduceAdd, Nat.reduceMul, Nat.reduceLeDiff, Nat.reduceEqDiff, Nat.zero_add, Nat.add_zero, reduceIte, ne_eq, not_false_eq_true, not_true_eq_false, List.map_nil, List.map_cons, List.all_nil, List.all_cons, if_true, if_false, and_self, and_true, true_and, Bool.and_self, Bool.and_true, Bool.true_and, Bool.false_eq_true, Bool.true_beq, Bool.false_beq, Bool.not_true, Bool.not_false, decide_true, decide_false, Int.reduceBEq, Int.reduceBNe, Int.reduceLT, Int.reduceLE, Int.reduceGT, Int.reduceGE, Int.reduceNeg, T.cells, T.leaf, fillT, splice, List.set_cons_zero, List.set_cons_succ, List.getElem?_cons_zero, List.getElem?_cons_succ, List.cons_append, List.nil_append, List.append_nil, reduceCtorEq, hl]
    · refine .inr ⟨by omega, by simp [hol], holf, nx + 9, by omega, by show nx + 9 < nx + 11; omega, ?_, ?_⟩
      · simp (decide := true) only [evRegion, evOps, evOp, evG, evR, guardT, callee, opRes, pureR, rho_con, rho_eq, rho_ne, setDst_some, setDst_none, putAll_nil, putAll_one, putAll_two, put1_eq, put1_ne, binT, unT, natOf_nat, natOf_lit, bnd_none, bnd_some, List.length_set, List.length_cons, List.length_nil, Nat.reduceLT, Nat.reduceAdd, Nat.reduceMul, Nat.reduceLeDiff, Nat.reduceEqDiff, Nat.zero_add, Nat.add_zero, reduceIte, ne_eq, not_false_eq_true, not_true_eq_false, List.map_nil, List.map_cons, List.all_nil, List.all_cons, if_true, if_false, and_self, and_true, true_and, Bool.and_self, Bool.and_true, Bool.true_and, Bool.false_eq_true, Bool.true_beq, Bool.false_beq, Bool.not_true, Bool.not_false, decide_true, decide_false, Int.reduceBEq, Int.reduceBNe, Int.reduceLT, Int.reduceLE, Int.reduceGT, Int.reduceGE, Int.reduceNeg, T.cells, T.leaf, fillT, splice, List.set_cons_zero, List.set_cons_succ, List.getElem?_cons_zero, List.getElem?_cons_succ, List.cons_append, List.nil_append, List.append_nil, reduceCtorEq, hl]
      · simp (decide := true) only [evRegion, evOps, evOp, evG, evR, guardT, callee, opRes, pureR, rho_con, rho_eq, rho_ne, setDst_some, setDst_none, putAll_nil, putAll_one, putAll_two, put1_eq, put1_ne, binT, unT, natOf_nat, natOf_lit, bnd_none, bnd_some, List.length_set, List.length_cons, List.length_nil, Nat.reduceLT, Nat.reduceAdd, Nat.reduceMul, Nat.reduceLeDiff, Nat.reduceEqDiff, Nat.zero_add, Nat.add_zero, reduceIte, ne_eq, not_false_eq_true, not_true_eq_false, List.map_nil, List.map_cons, List.all_nil, List.all_cons, if_true, if_false, and_self, and_true, true_and, Bool.and_self, Bool.and_true, Bool.true_and, Bool.false_eq_true, Bool.true_beq, Bool.false_beq, Bool.not_true, Bool.not_false, decide_true, decide_false, Int.reduceBEq, Int.reduceBNe, Int.reduceLT, Int.reduceLE, Int.reduceGT, Int.reduceGE, Int.reduceNeg, T.cells, T.leaf, fillT, splice, List.set_cons_zero, List.set_cons_succ, List.getElem?_cons_zero, List.getElem?_cons_succ, List.cons_append, List.nil_append, List.append_nil, reduceCtorEq]
    · intro t ht
      simp only [putAll, List.foldl, put1_ne (show t ≠ nx + 8 by omega), put1_ne (show t ≠ nx + 9 by omega)]
    · show nx ≤ nx + 11; omega
    all_goals simp (decide := true) only [evRegion, evOps, evOp, evG, evR, guardT, callee, opRes, pureR, rho_con, rho_eq, rho_ne, setDst_some, setDst_none, putAll_nil, putAll_one, putAll_two, put1_eq, put1_ne, binT, unT, natOf_nat, natOf_lit, bnd_none, bnd_some, List.length_set, List.length_cons, List.length_nil, Nat.reduceLT, Nat.reduceAdd, Nat.reduceMul, Nat.reduceLeDiff, Nat.reduceEqDiff, Nat.zero_add, Nat.add_zero, reduceIte, ne_eq, not_false_eq_true, not_true_eq_false, List.map_nil, List.map_cons, List.all_nil, List.all_cons, if_true, if_false, and_self, and_true, true_and, Bool.and_self, Bool.and_true, Bool.true_and, Bool.false_eq_true, Bool.true_beq, Bool.false_beq, Bool.not_true, Bool.not_false, decide_true, decide_false, Int.reduceBEq, Int.reduceBNe, Int.reduceLT, Int.reduceLE, Int.reduceGT, Int.reduceGE, Int.reduceNeg, T.cells, T.leaf, fillT, splice, List.set_cons_zero, List.set_cons_succ, List.getElem?_cons_zero, List.getElem?_cons_succ, List.cons_append, List.nil_append, List.append_nil, reduceCtorEq, hl]
  · have hr1 : (n + 1) * 24 ≤ 549755813888 := by omega
    have hr2 : n + 1 ≤ 549755813888 := by omega
    have hle : n * 3 ≤ cells.length := by omega
    have hcc : cut cells 0 (n * 3) = cells := cut_all hcl
    have hne : (t = nx + 8) = False := by simp; omega
    refine ⟨_, fun f => by simp (decide := true) only [r22, inL15, outL15, f15, evRegion, evOps, evOp, evG, evR, guardT, callee, opRes, pureR, rho_con, rho_eq, rho_ne, setDst_some, setDst_none, putAll_nil, putAll_one, putAll_two, put1_eq, put1_ne, binT, unT, natOf_nat, natOf_lit, bnd_none, bnd_some, List.length_set, List.length_cons, List.length_nil, Nat.reduceLT, Nat.reduceAdd, Nat.reduceMul, Nat.reduceLeDiff, Nat.reduceEqDiff, Nat.zero_add, Nat.add_zero, reduceIte, ne_eq, not_false_eq_true, not_true_eq_false, List.map_nil, List.map_cons, List.all_nil, List.all_cons, if_true, if_false, and_self, and_true, true_and, Bool.and_self, Bool.and_true, Bool.true_and, Bool.false_eq_true, Bool.true_beq, Bool.false_beq, Bool.not_true, Bool.not_false, decide_true, decide_false, Int.reduceBEq, Int.reduceBNe, Int.reduceLT, Int.reduceLE, Int.reduceGT, Int.reduceGE, Int.reduceNeg, T.cells, T.leaf, fillT, splice, List.set_cons_zero, List.set_cons_succ, List.getElem?_cons_zero, List.getElem?_cons_succ, List.cons_append, List.nil_append, List.append_nil, reduceCtorEq, cellsOf, hl, h0, h4, h5, h6, hi, hb, hpl, hrow, hk, hb2, hcut, hol, holf, hsp, hc3, hall, hroom, hgt, hne, hr1, hr2, hle, hcc]; rfl, ?_, ?_, ?_, ?_, ?_, ?_, ?_, ?_⟩
    · simp (decide := true) only [evRegion, evOps, evOp, evG, evR, guardT, callee, opRes, pureR, rho_con, rho_eq, rho_ne, setDst_some, setDst_none, putAll_nil, putAll_one, putAll_two, put1_eq, put1_ne, binT, unT, natOf_nat, natOf_lit, bnd_none, bnd_some, List.length_set, List.length_cons, List.length_nil, Nat.reduceLT, Nat.reduceAdd, Nat.reduceMul, Nat.reduceLeDiff, Nat.reduceEqDiff, Nat.zero_add, Nat.add_zero, reduceIte, ne_eq, not_false_eq_true, not_true_eq_false, List.map_nil, List.map_cons, List.all_nil, List.all_cons, if_true, if_false, and_self, and_true, true_and, Bool.and_self, Bool.and_true, Bool.true_and, Bool.false_eq_true, Bool.true_beq, Bool.false_beq, Bool.not_true, Bool.not_false, decide_true, decide_false, Int.reduceBEq, Int.reduceBNe, Int.reduceLT, Int.reduceLE, Int.reduceGT, Int.reduceGE, Int.reduceNeg, T.cells, T.leaf, fillT, splice, List.set_cons_zero, List.set_cons_succ, List.getElem?_cons_zero, List.getElem?_cons_succ, List.cons_append, List.nil_append, List.append_nil, reduceCtorEq, hl]
    · refine .inr ⟨by omega, by simp [hol, hcl]; omega, leaf_app2 hclf holf, nx + 9, by omega, by show nx + 9 < nx + 11; omega, ?_, ?_⟩
      · simp (decide := true) only [evRegion, evOps, evOp, evG, evR, guardT, callee, opRes, pureR, rho_con, rho_eq, rho_ne, setDst_some, setDst_none, putAll_nil, putAll_one, putAll_two, put1_eq, put1_ne, binT, unT, natOf_nat, natOf_lit, bnd_none, bnd_some, List.length_set, List.length_cons, List.length_nil, Nat.reduceLT, Nat.reduceAdd, Nat.reduceMul, Nat.reduceLeDiff, Nat.reduceEqDiff, Nat.zero_add, Nat.add_zero, reduceIte, ne_eq, not_false_eq_true, not_true_eq_false, List.map_nil, List.map_cons, List.all_nil, List.all_cons, if_true, if_false, and_self, and_true, true_and, Bool.and_self, Bool.and_true, Bool.true_and, Bool.false_eq_true, Bool.true_beq, Bool.false_beq, Bool.not_true, Bool.not_false, decide_true, decide_false, Int.reduceBEq, Int.reduceBNe, Int.reduceLT, Int.reduceLE, Int.reduceGT, Int.reduceGE, Int.reduceNeg, T.cells, T.leaf, fillT, splice, List.set_cons_zero, List.set_cons_succ, List.getElem?_cons_zero, List.getElem?_cons_succ, List.cons_append, List.nil_append, List.append_nil, reduceCtorEq, hl]
      · simp (decide := true) only [evRegion, evOps, evOp, evG, evR, guardT, callee, opRes, pureR, rho_con, rho_eq, rho_ne, setDst_some, setDst_none, putAll_nil, putAll_one, putAll_two, put1_eq, put1_ne, binT, unT, natOf_nat, natOf_lit, bnd_none, bnd_some, List.length_set, List.length_cons, List.length_nil, Nat.reduceLT, Nat.reduceAdd, Nat.reduceMul, Nat.reduceLeDiff, Nat.reduceEqDiff, Nat.zero_add, Nat.add_zero, reduceIte, ne_eq, not_false_eq_true, not_true_eq_false, List.map_nil, List.map_cons, List.all_nil, List.all_cons, if_true, if_false, and_self, and_true, true_and, Bool.and_self, Bool.and_true, Bool.true_and, Bool.false_eq_true, Bool.true_beq, Bool.false_beq, Bool.not_true, Bool.not_false, decide_true, decide_false, Int.reduceBEq, Int.reduceBNe, Int.reduceLT, Int.reduceLE, Int.reduceGT, Int.reduceGE, Int.reduceNeg, T.cells, T.leaf, fillT, splice, List.set_cons_zero, List.set_cons_succ, List.getElem?_cons_zero, List.getElem?_cons_succ, List.cons_append, List.nil_append, List.append_nil, reduceCtorEq]
    · intro t' ht'
      simp only [putAll, List.foldl, put1_ne (show t' ≠ nx + 8 by omega), put1_ne (show t' ≠ nx + 9 by omega), put1_ne (show t' ≠ t by omega)]
    · show nx ≤ nx + 11; omega
    all_goals simp (decide := true) only [evRegion, evOps, evOp, evG, evR, guardT, callee, opRes, pureR, rho_con, rho_eq, rho_ne, setDst_some, setDst_none, putAll_nil, putAll_one, putAll_two, put1_eq, put1_ne, binT, unT, natOf_nat, natOf_lit, bnd_none, bnd_some, List.length_set, List.length_cons, List.length_nil, Nat.reduceLT, Nat.reduceAdd, Nat.reduceMul, Nat.reduceLeDiff, Nat.reduceEqDiff, Nat.zero_add, Nat.add_zero, reduceIte, ne_eq, not_false_eq_true, not_true_eq_false, List.map_nil, List.map_cons, List.all_nil, List.all_cons, if_true, if_false, and_self, and_true, true_and, Bool.and_self, Bool.and_true, Bool.true_and, Bool.false_eq_true, Bool.true_beq, Bool.false_beq, Bool.not_true, Bool.not_false, decide_true, decide_false, Int.reduceBEq, Int.reduceBNe, Int.reduceLT, Int.reduceLE, Int.reduceGT, Int.reduceGE, Int.reduceNeg, T.cells, T.leaf, fillT, splice, List.set_cons_zero, List.set_cons_succ, List.getElem?_cons_zero, List.getElem?_cons_succ, List.cons_append, List.nil_append, List.append_nil, reduceCtorEq, hl]
end Go.Proofs.Ytmihmodlilebbaa.Abs
