/- Where a line is: the given function's walk. -/
import Derived.Test.YthanlobfjpjegaaC6
import Derived.Test.YthanlobfjpjegaaFn
import Derived.Test.YthanlobfjpjegaaTy
namespace Go.Proofs.Ythanlobfjpjegaa.Abs
open Go Go.RowKit Fn
set_option linter.unusedVariables false
set_option linter.unusedSimpArgs false
set_option linter.unnecessarySimpa false
set_option maxRecDepth 100000

theorem fin_of3 {F : AFun} {t1 t2 t3 : Nat} {a b c : T} (hF : F.res = [.tmp t1, .tmp t2, .tmp t3]) (hv : ∀ h : Hp, frz h frzDepth (.tup [a, b, c]) = some (.tup [a, b, c], [])) {s : List T} {g : Mem} {nx : Nat} (h1 : rho s (.tmp t1) = a) (h2 : rho s (.tmp t2) = b) (h3 : rho s (.tmp t3) = c) : AExit.ret.leaves = true ∧ ∃ u ids, resT s g F.res = some u ∧ frz ⟨g, nx⟩ frzDepth u = some (.tup [a, b, c], ids) :=
  ⟨rfl, .tup [a, b, c], [], by rw [hF]; simp only [resT, resL, resOne, h1, h2, h3], hv _⟩
def rowT (l : List Way) : T := .imm false l.length (l.flatMap Way.enc)
def setsT (c : Cache) : T := .imm false c.sets.length (c.sets.flatMap (fun l => [rowT l]))
theorem cache_enc (c : Cache) : c.enc = [setsT c] := rfl
def seti (c : Cache) (ln : Nat) : Nat := ln % c.sets.length
def row (c : Cache) (s : Nat) : List Way := (c.sets[s]?).getD []
def isAt (ln : Nat) (w : Way) : Bool := w.tag == (ln : Int) && w.state != 0
/-- The place of a line among ways, from the k-th on. -/
def fnd (l : List Way) (ln : Nat) : Nat → Nat → Option Nat
  | _, 0 => none
  | k, m + 1 => if isAt ln ((l[k]?).getD default) then some k else fnd l ln (k + 1) m
def find (c : Cache) (ln : Nat) : Option Nat := if c.sets.length = 0 then none else fnd (row c (seti c ln)) ln 0 (row c (seti c ln)).length
def findT (c : Cache) (ln : Nat) : T := match find c ln with
  | some k => .tup [.int .i64 (seti c ln : Int), .int .i64 (k : Int), .bool true]
  | none => .tup [.int .i64 0, .int .i64 0, .bool false]

theorem ref_set (c : Cache) (ln : Nat) (hln : ln ≤ 4294967295) : E ap 38 [.agg [setsT c], .int .u32 (ln : Int)] (.int .i64 (if c.sets.length = 0 then -1 else (seti c ln : Int))) := by
  refine E_body (F := f38) rfl rfl rfl ?_
  generalize hs0 : (_ : List T) ++ List.replicate _ T.undef = s0
  have e0 : s0.length = 15 ∧ rho s0 (.tmp 0) = .agg [setsT c] ∧ rho s0 (.tmp 1) = .int .u32 (ln : Int) := by subst hs0; exact ⟨rfl, rfl, rfl⟩
  clear hs0
  obtain ⟨hl, h0, h1⟩ := e0
  have hleaf : allLeaf [setsT c] = true := rfl
  have hg : ([setsT c] : List T)[0]? = some (.imm false c.sets.length (c.sets.flatMap (fun l => [rowT l]))) := rfl
  refine W_seqn (W_region (fun k => by simp (decide := true) only [sims, evRegion, evOps, evOp, evG, evR, guardT, callee, opRes, pureR, binT, unT, T.cells, T.leaf, fillT, splice, Nat.reduceLT, Nat.reduceAdd, Nat.reduceMul, Nat.reduceLeDiff, Nat.reduceEqDiff, reduceIte, Int.reduceBEq, Int.reduceBNe, Int.reduceLT, Int.reduceLE, Int.reduceGT, Int.reduceGE, Int.reduceNeg, reduceCtorEq, hl, h0, hleaf]; rfl) ⟨rfl, ?_⟩)
  by_cases hz : c.sets.length = 0
  · have hz0 : ((c.sets.length : Int) == 0) = true := by simp [hz]
    refine W_seq (W_seqn (W_region (fun k => by simp (decide := true) only [sims, evRegion, evOps, evOp, evG, evR, guardT, callee, opRes, pureR, binT, unT, T.cells, T.leaf, fillT, splice, Nat.reduceLT, Nat.reduceAdd, Nat.reduceMul, Nat.reduceLeDiff, Nat.reduceEqDiff, reduceIte, Int.reduceBEq, Int.reduceBNe, Int.reduceLT, Int.reduceLE, Int.reduceGT, Int.reduceGE, Int.reduceNeg, reduceCtorEq, hl, hg, hz0]; rfl) ⟨rfl, W_true (by simp (decide := true) only [sims, evRegion, evOps, evOp, evG, evR, guardT, callee, opRes, pureR, binT, unT, T.cells, T.leaf, fillT, splice, Nat.reduceLT, Nat.reduceAdd, Nat.reduceMul, Nat.reduceLeDiff, Nat.reduceEqDiff, reduceIte, Int.reduceBEq, Int.reduceBNe, Int.reduceLT, Int.reduceLE, Int.reduceGT, Int.reduceGE, Int.reduceNeg, reduceCtorEq, hl] <;> rfl) ?_⟩))
    refine W_seqn (W_region (fun k => by simp (decide := true) only [sims, evRegion, evOps, evOp, evG, evR, guardT, callee, opRes, pureR, binT, unT, T.cells, T.leaf, fillT, splice, Nat.reduceLT, Nat.reduceAdd, Nat.reduceMul, Nat.reduceLeDiff, Nat.reduceEqDiff, reduceIte, Int.reduceBEq, Int.reduceBNe, Int.reduceLT, Int.reduceLE, Int.reduceGT, Int.reduceGE, Int.reduceNeg, reduceCtorEq]; rfl) ⟨rfl, W_ret ?_⟩)
    simp only [reduceCtorEq, false_and, false_or, or_false, exists_false, exists_const, ne_eq, not_false_eq_true, true_and, implies_true]
    refine fin_of (F := f38) rfl (fun _ => rfl) ?_
    simp (decide := true) only [sims, evRegion, evOps, evOp, evG, evR, guardT, callee, opRes, pureR, binT, unT, T.cells, T.leaf, fillT, splice, Nat.reduceLT, Nat.reduceAdd, Nat.reduceMul, Nat.reduceLeDiff, Nat.reduceEqDiff, reduceIte, Int.reduceBEq, Int.reduceBNe, Int.reduceLT, Int.reduceLE, Int.reduceGT, Int.reduceGE, Int.reduceNeg, reduceCtorEq, hl, hz]
  · have hz0 : ((c.sets.length : Int) == 0) = false := beq_eq_false_iff_ne.mpr (by omega)
    have hnz : (c.sets.length : Int) ≠ 0 := by omega
    have hw : IntKind.i64.wrap (ln : Int) = (ln : Int) := wrap_id (by omega)
    have hm : (ln : Int).tmod (c.sets.length : Int) = (seti c ln : Int) := by rw [Int.tmod_eq_emod_of_nonneg (by omega)]; rfl
    refine W_seqn (W_seqn (W_region (fun k => by simp (decide := true) only [sims, evRegion, evOps, evOp, evG, evR, guardT, callee, opRes, pureR, binT, unT, T.cells, T.leaf, fillT, splice, Nat.reduceLT, Nat.reduceAdd, Nat.reduceMul, Nat.reduceLeDiff, Nat.reduceEqDiff, reduceIte, Int.reduceBEq, Int.reduceBNe, Int.reduceLT, Int.reduceLE, Int.reduceGT, Int.reduceGE, Int.reduceNeg, reduceCtorEq, hl, hg, hz0]; rfl) ⟨rfl, W_false (by simp (decide := true) only [sims, evRegion, evOps, evOp, evG, evR, guardT, callee, opRes, pureR, binT, unT, T.cells, T.leaf, fillT, splice, Nat.reduceLT, Nat.reduceAdd, Nat.reduceMul, Nat.reduceLeDiff, Nat.reduceEqDiff, reduceIte, Int.reduceBEq, Int.reduceBNe, Int.reduceLT, Int.reduceLE, Int.reduceGT, Int.reduceGE, Int.reduceNeg, reduceCtorEq, hl] <;> rfl) (W_skip ⟨rfl, ?_⟩)⟩))
    refine W_seqn (W_region (fun k => by simp (decide := true) only [sims, evRegion, evOps, evOp, evG, evR, guardT, callee, opRes, pureR, binT, unT, T.cells, T.leaf, fillT, splice, Nat.reduceLT, Nat.reduceAdd, Nat.reduceMul, Nat.reduceLeDiff, Nat.reduceEqDiff, reduceIte, Int.reduceBEq, Int.reduceBNe, Int.reduceLT, Int.reduceLE, Int.reduceGT, Int.reduceGE, Int.reduceNeg, reduceCtorEq, hl, h1, hg, hw, hnz, hm]; rfl) ⟨rfl, W_ret ?_⟩)
    refine fin_of (F := f38) rfl (fun _ => rfl) ?_
    simp (decide := true) only [sims, evRegion, evOps, evOp, evG, evR, guardT, callee, opRes, pureR, binT, unT, T.cells, T.leaf, fillT, splice, Nat.reduceLT, Nat.reduceAdd, Nat.reduceMul, Nat.reduceLeDiff, Nat.reduceEqDiff, reduceIte, Int.reduceBEq, Int.reduceBNe, Int.reduceLT, Int.reduceLE, Int.reduceGT, Int.reduceGE, Int.reduceNeg, reduceCtorEq, hl, hz]

/-! Rows of ways. -/
theorem flat_lenM {α : Type} {f : α → List T} {k : Nat} : ∀ l : List α, (∀ a ∈ l, (f a).length = k) → (l.flatMap f).length = l.length * k
  | [], _ => by simp
  | x :: l, hf => by rw [List.flatMap_cons, List.length_append, hf x (List.mem_cons_self ..), flat_lenM l (fun a h => hf a (List.mem_cons_of_mem _ h)), List.length_cons, Nat.add_mul, Nat.one_mul, Nat.add_comm]
theorem flat_getM {α : Type} {f : α → List T} {k : Nat} : ∀ (l : List α), (∀ a ∈ l, (f a).length = k) → ∀ (i : Nat) (h : i < l.length) (j : Nat), j < k → (l.flatMap f)[i * k + j]? = (f l[i])[j]?
  | [], _, i, h, _, _ => by simp at h
  | x :: l, hf, 0, h, j, hj => by
    rw [List.flatMap_cons, Nat.zero_mul, Nat.zero_add, List.getElem?_append_left (by rw [hf x (List.mem_cons_self ..)]; exact hj)]; rfl
  | x :: l, hf, i + 1, h, j, hj => by
    have e : (i + 1) * k + j = k + (i * k + j) := by rw [Nat.add_mul, Nat.one_mul]; omega
    rw [List.flatMap_cons, List.getElem?_append_right (by rw [hf x (List.mem_cons_self ..), e]; omega), hf x (List.mem_cons_self ..), e, Nat.add_sub_cancel_left, flat_getM l (fun a h => hf a (List.mem_cons_of_mem _ h)) i (by simpa using h) j hj]; rfl
theorem flat_cutM {α : Type} {f : α → List T} {k : Nat} (l : List α) (hf : ∀ a ∈ l, (f a).length = k) (i : Nat) (h : i < l.length) : cut (l.flatMap f) (i * k) k = f l[i] := by
  apply List.ext_getElem?
  intro q
  rw [cut_get]
  split
  · rw [flat_getM l hf i h q (by omega)]
  · rename_i hq
    rw [List.getElem?_eq_none]; rw [hf _ (List.getElem_mem h)]; omega
theorem way_len {w : Way} (h : w.wf) : w.enc.length = 19 := by
  have := h.2.2.1.1
  simp [Way.enc, flat_len (f := fun n => [T.int .u8 n]) (k := 1) (fun _ => rfl), this]
theorem way_state (w : Way) : w.enc[0]? = some (.int .i64 w.state) := rfl
theorem way_tag (w : Way) : w.enc[1]? = some (.int .u32 w.tag) := rfl
theorem rows_get (c : Cache) (s : Nat) (h : s < c.sets.length) : (c.sets.flatMap (fun l => [rowT l]))[s * 1]? = some (rowT (row c s)) := by
  have := flat_get (f := fun l => [rowT l]) (k := 1) (fun _ => rfl) c.sets s h 0 (by omega)
  rw [Nat.add_zero] at this
  rw [this]; simp [row, h]
theorem rows_len (c : Cache) : (c.sets.flatMap (fun l => [rowT l])).length = c.sets.length := by
  rw [flat_len (f := fun l => [rowT l]) (k := 1) (fun _ => rfl), Nat.mul_one]
theorem row_wf {c : Cache} (h : c.wf) (s : Nat) (hs : s < c.sets.length) : (row c s).length ≤ maxLen ∧ ∀ w ∈ row c s, w.wf := by
  have := h.2 (c.sets[s]) (List.getElem_mem hs)
  simpa [row, hs] using this
theorem way_get (l : List Way) (hw : ∀ w ∈ l, w.wf) (k : Nat) (hk : k < l.length) (j : Nat) (hj : j < 19) : (l.flatMap Way.enc)[k * 19 + j]? = ((l[k]?).getD default).enc[j]? := by
  rw [flat_getM l (fun w h => way_len (hw w h)) k hk j hj]; simp [hk]
theorem max_small : maxLen ≤ 9223372036854775807 := by decide

theorem fnd_lt (l : List Way) (ln : Nat) : ∀ m k j, fnd l ln k m = some j → k ≤ j ∧ j < k + m
  | 0, _, _, h => by cases h
  | m + 1, k, j, h => by
    simp only [fnd] at h
    split at h
    · cases h; omega
    · have := fnd_lt l ln m (k + 1) j h; omega

def findLoop : ACode := match f16.body with | .seq _ (.seq _ (.seq _ (.seq (.seq _ (.block _ (.loop c))) _))) => c | _ => .skip
theorem find_loop (c : Cache) (hc : c.wf) (ln s : Nat) (hs : s < c.sets.length) (r : Option Nat) (Q : AExit → St → Prop)
    (hQr : ∀ (st : St) (k : Nat), r = some k → rho st.s (.tmp 4) = .int .i64 (s : Int) → rho st.s (.tmp 5) = .int .i64 (k : Int) → rho st.s (.tmp 6) = .bool true → Q .ret st) (hQe : ∀ st : St, r = none → st.s.length = 49 → Q (.exit 0) st) :
    ∀ (m : Nat) (st : St), (∃ k : Nat, st.s.length = 49 ∧ rho st.s (.tmp 1) = .int .u32 (ln : Int) ∧ rho st.s (.tmp 2) = .ptr 0 0 ∧ st.g 0 = some [setsT c] ∧ rho st.s (.tmp 7) = .int .i64 (s : Int) ∧ rho st.s (.tmp 8) = .int .i64 (k : Int) ∧ k ≤ (row c s).length ∧ m = (row c s).length - k ∧ fnd (row c s) ln k m = r) → W ap (.loop findLoop) st Q := by
  refine W_loop _ ?_
  rintro n st ⟨k, h49, h1, h2, hg, h7, h8, hk, hn, hr⟩
  have hx : ([setsT c] : List T)[0]? = some (.imm false c.sets.length (c.sets.flatMap (fun l => [rowT l]))) := rfl
  have hrow := rows_get c s hs
  have hrl := rows_len c
  have hwf := row_wf hc s hs
  have hmx := max_small
  have hb1 : s * 1 + 1 ≤ c.sets.length := by omega
  have hrt : rowT (row c s) = .imm false (row c s).length ((row c s).flatMap Way.enc) := rfl
  rw [hrt] at hrow
  have hfl := flat_lenM (f := Way.enc) (row c s) (fun w h => way_len (hwf.2 w h))
  generalize hcs : c.sets.flatMap (fun l => [rowT l]) = cs at *
  by_cases hend : k = (row c s).length
  · have hlt : decide ((k : Int) < ((row c s).length : Int)) = false := decide_eq_false (by omega)
    refine W_seq (W_seqn (W_region (fun k => by simp (decide := true) only [sims, evRegion, evOps, evOp, evG, evR, guardT, callee, opRes, pureR, binT, unT, T.cells, T.leaf, fillT, splice, Nat.reduceLT, Nat.reduceAdd, Nat.reduceMul, Nat.reduceLeDiff, Nat.reduceEqDiff, reduceIte, Int.reduceBEq, Int.reduceBNe, Int.reduceLT, Int.reduceLE, Int.reduceGT, Int.reduceGE, Int.reduceNeg, reduceCtorEq, h49, h2, h7, h8, hg, hx, hrow, hrl, hs, hb1, hlt]; rfl) ⟨rfl, W_false (by simp (decide := true) only [sims, evRegion, evOps, evOp, evG, evR, guardT, callee, opRes, pureR, binT, unT, T.cells, T.leaf, fillT, splice, Nat.reduceLT, Nat.reduceAdd, Nat.reduceMul, Nat.reduceLeDiff, Nat.reduceEqDiff, reduceIte, Int.reduceBEq, Int.reduceBNe, Int.reduceLT, Int.reduceLE, Int.reduceGT, Int.reduceGE, Int.reduceNeg, reduceCtorEq, h49] <;> rfl) (W_exit (.inr ⟨by simp, .inr ⟨by simp, hQe _ ?_ ?_⟩⟩))⟩))
    · rw [← hr, hn, hend, Nat.sub_self]; rfl
    · simp (decide := true) only [sims, evRegion, evOps, evOp, evG, evR, guardT, callee, opRes, pureR, binT, unT, T.cells, T.leaf, fillT, splice, Nat.reduceLT, Nat.reduceAdd, Nat.reduceMul, Nat.reduceLeDiff, Nat.reduceEqDiff, reduceIte, Int.reduceBEq, Int.reduceBNe, Int.reduceLT, Int.reduceLE, Int.reduceGT, Int.reduceGE, Int.reduceNeg, reduceCtorEq, h49]
  · have hlt : decide ((k : Int) < ((row c s).length : Int)) = true := decide_eq_true (by omega)
    have hkl : k < (row c s).length := by omega
    have hw2 : IntKind.i64.wrap ((k : Int) + 1) = ((k + 1 : Nat) : Int) := by rw [wrap_id (by omega)]; omega
    have hst := way_get (row c s) hwf.2 k hkl 0 (by omega)
    have htg := way_get (row c s) hwf.2 k hkl 1 (by omega)
    rw [way_state, Nat.add_zero] at hst
    rw [way_tag] at htg
    obtain ⟨m, hm⟩ : ∃ m, n = m + 1 := ⟨n - 1, by omega⟩
    rw [hm, fnd] at hr
    have hb2 : k * 19 + 19 ≤ ((row c s).flatMap Way.enc).length := by omega
    have hb3 : k * 19 + 1 + 1 ≤ ((row c s).flatMap Way.enc).length := by omega
    have hb4 : k * 19 + 1 ≤ ((row c s).flatMap Way.enc).length := by omega
    refine W_seqn (W_seqn (W_region (fun k => by simp (decide := true) only [sims, evRegion, evOps, evOp, evG, evR, guardT, callee, opRes, pureR, binT, unT, T.cells, T.leaf, fillT, splice, Nat.reduceLT, Nat.reduceAdd, Nat.reduceMul, Nat.reduceLeDiff, Nat.reduceEqDiff, reduceIte, Int.reduceBEq, Int.reduceBNe, Int.reduceLT, Int.reduceLE, Int.reduceGT, Int.reduceGE, Int.reduceNeg, reduceCtorEq, h49, h2, h7, h8, hg, hx, hrow, hrl, hs, hb1, hlt]; rfl) ⟨rfl, W_true (by simp (decide := true) only [sims, evRegion, evOps, evOp, evG, evR, guardT, callee, opRes, pureR, binT, unT, T.cells, T.leaf, fillT, splice, Nat.reduceLT, Nat.reduceAdd, Nat.reduceMul, Nat.reduceLeDiff, Nat.reduceEqDiff, reduceIte, Int.reduceBEq, Int.reduceBNe, Int.reduceLT, Int.reduceLE, Int.reduceGT, Int.reduceGE, Int.reduceNeg, reduceCtorEq, h49] <;> rfl) (W_skip ⟨rfl, ?_⟩)⟩))
    generalize hway : ((row c s)[k]?).getD default = w at *
    generalize (row c s).flatMap Way.enc = ws at *
    by_cases ht : w.tag = (ln : Int)
    · have ht0 : (w.tag == (ln : Int)) = true := beq_iff_eq.mpr ht
      by_cases hz : w.state = 0
      · have hz0 : (w.state != 0) = false := by simp [hz]
        rw [isAt, ht0, hz0] at hr
        simp only [Bool.and_false, Bool.false_eq_true, if_false] at hr
        refine W_seqn (W_block (W_seqn (W_region (fun k => by simp (decide := true) only [sims, evRegion, evOps, evOp, evG, evR, guardT, callee, opRes, pureR, binT, unT, T.cells, T.leaf, fillT, splice, Nat.reduceLT, Nat.reduceAdd, Nat.reduceMul, Nat.reduceLeDiff, Nat.reduceEqDiff, reduceIte, Int.reduceBEq, Int.reduceBNe, Int.reduceLT, Int.reduceLE, Int.reduceGT, Int.reduceGE, Int.reduceNeg, reduceCtorEq, h49, h1, h2, h7, h8, hg, hx, hrow, hrl, hs, hb1, hb2, hb3, hb4, hkl, hst, htg, ht0, hz0]; rfl) ⟨rfl, W_false (by simp (decide := true) only [sims, evRegion, evOps, evOp, evG, evR, guardT, callee, opRes, pureR, binT, unT, T.cells, T.leaf, fillT, splice, Nat.reduceLT, Nat.reduceAdd, Nat.reduceMul, Nat.reduceLeDiff, Nat.reduceEqDiff, reduceIte, Int.reduceBEq, Int.reduceBNe, Int.reduceLT, Int.reduceLE, Int.reduceGT, Int.reduceGE, Int.reduceNeg, reduceCtorEq, h49] <;> rfl) (W_skip (.inr (.inl ⟨by simp, rfl, ?_⟩)))⟩)))
        refine W_region (fun k => by simp (decide := true) only [sims, evRegion, evOps, evOp, evG, evR, guardT, callee, opRes, pureR, binT, unT, T.cells, T.leaf, fillT, splice, Nat.reduceLT, Nat.reduceAdd, Nat.reduceMul, Nat.reduceLeDiff, Nat.reduceEqDiff, reduceIte, Int.reduceBEq, Int.reduceBNe, Int.reduceLT, Int.reduceLE, Int.reduceGT, Int.reduceGE, Int.reduceNeg, reduceCtorEq, h49, h8, hw2]; rfl) (.inl ⟨rfl, m, by omega, k + 1, ?_, ?_, ?_, ?_, ?_, ?_, by omega, by omega, hr⟩) <;> simp (decide := true) only [sims, evRegion, evOps, evOp, evG, evR, guardT, callee, opRes, pureR, binT, unT, T.cells, T.leaf, fillT, splice, Nat.reduceLT, Nat.reduceAdd, Nat.reduceMul, Nat.reduceLeDiff, Nat.reduceEqDiff, reduceIte, Int.reduceBEq, Int.reduceBNe, Int.reduceLT, Int.reduceLE, Int.reduceGT, Int.reduceGE, Int.reduceNeg, reduceCtorEq, h49, h1, h2, h7, hg]
      · have hz0 : (w.state != 0) = true := by simpa using hz
        rw [isAt, ht0, hz0] at hr
        simp only [Bool.and_true, if_true] at hr
        refine W_seq (W_block (W_seqn (W_region (fun k => by simp (decide := true) only [sims, evRegion, evOps, evOp, evG, evR, guardT, callee, opRes, pureR, binT, unT, T.cells, T.leaf, fillT, splice, Nat.reduceLT, Nat.reduceAdd, Nat.reduceMul, Nat.reduceLeDiff, Nat.reduceEqDiff, reduceIte, Int.reduceBEq, Int.reduceBNe, Int.reduceLT, Int.reduceLE, Int.reduceGT, Int.reduceGE, Int.reduceNeg, reduceCtorEq, h49, h1, h2, h7, h8, hg, hx, hrow, hrl, hs, hb1, hb2, hb3, hb4, hkl, hst, htg, ht0, hz0]; rfl) ⟨rfl, W_true (by simp (decide := true) only [sims, evRegion, evOps, evOp, evG, evR, guardT, callee, opRes, pureR, binT, unT, T.cells, T.leaf, fillT, splice, Nat.reduceLT, Nat.reduceAdd, Nat.reduceMul, Nat.reduceLeDiff, Nat.reduceEqDiff, reduceIte, Int.reduceBEq, Int.reduceBNe, Int.reduceLT, Int.reduceLE, Int.reduceGT, Int.reduceGE, Int.reduceNeg, reduceCtorEq, h49] <;> rfl) ?_⟩)))
        refine W_seqn (W_region (fun k => by simp (decide := true) only [sims, evRegion, evOps, evOp, evG, evR, guardT, callee, opRes, pureR, binT, unT, T.cells, T.leaf, fillT, splice, Nat.reduceLT, Nat.reduceAdd, Nat.reduceMul, Nat.reduceLeDiff, Nat.reduceEqDiff, reduceIte, Int.reduceBEq, Int.reduceBNe, Int.reduceLT, Int.reduceLE, Int.reduceGT, Int.reduceGE, Int.reduceNeg, reduceCtorEq, h49, h7, h8]; rfl) ⟨rfl, W_ret ?_⟩)
        simp only [reduceCtorEq, false_and, false_or, or_false, exists_false, exists_const, ne_eq, not_false_eq_true, true_and, implies_true]
        refine hQr _ k hr.symm ?_ ?_ ?_ <;> simp (decide := true) only [sims, evRegion, evOps, evOp, evG, evR, guardT, callee, opRes, pureR, binT, unT, T.cells, T.leaf, fillT, splice, Nat.reduceLT, Nat.reduceAdd, Nat.reduceMul, Nat.reduceLeDiff, Nat.reduceEqDiff, reduceIte, Int.reduceBEq, Int.reduceBNe, Int.reduceLT, Int.reduceLE, Int.reduceGT, Int.reduceGE, Int.reduceNeg, reduceCtorEq, h49]
    · have ht0 : (w.tag == (ln : Int)) = false := beq_eq_false_iff_ne.mpr ht
      rw [isAt, ht0] at hr
      simp only [Bool.false_and, Bool.false_eq_true, if_false] at hr
      refine W_seqn (W_block (W_seqn (W_region (fun k => by simp (decide := true) only [sims, evRegion, evOps, evOp, evG, evR, guardT, callee, opRes, pureR, binT, unT, T.cells, T.leaf, fillT, splice, Nat.reduceLT, Nat.reduceAdd, Nat.reduceMul, Nat.reduceLeDiff, Nat.reduceEqDiff, reduceIte, Int.reduceBEq, Int.reduceBNe, Int.reduceLT, Int.reduceLE, Int.reduceGT, Int.reduceGE, Int.reduceNeg, reduceCtorEq, h49, h1, h2, h7, h8, hg, hx, hrow, hrl, hs, hb1, hb2, hb3, hb4, hkl, hst, htg, ht0]; rfl) ⟨rfl, W_false (by simp (decide := true) only [sims, evRegion, evOps, evOp, evG, evR, guardT, callee, opRes, pureR, binT, unT, T.cells, T.leaf, fillT, splice, Nat.reduceLT, Nat.reduceAdd, Nat.reduceMul, Nat.reduceLeDiff, Nat.reduceEqDiff, reduceIte, Int.reduceBEq, Int.reduceBNe, Int.reduceLT, Int.reduceLE, Int.reduceGT, Int.reduceGE, Int.reduceNeg, reduceCtorEq, h49] <;> rfl) (W_skip (.inr (.inl ⟨by simp, rfl, ?_⟩)))⟩)))
      refine W_region (fun k => by simp (decide := true) only [sims, evRegion, evOps, evOp, evG, evR, guardT, callee, opRes, pureR, binT, unT, T.cells, T.leaf, fillT, splice, Nat.reduceLT, Nat.reduceAdd, Nat.reduceMul, Nat.reduceLeDiff, Nat.reduceEqDiff, reduceIte, Int.reduceBEq, Int.reduceBNe, Int.reduceLT, Int.reduceLE, Int.reduceGT, Int.reduceGE, Int.reduceNeg, reduceCtorEq, h49, h8, hw2]; rfl) (.inl ⟨rfl, m, by omega, k + 1, ?_, ?_, ?_, ?_, ?_, ?_, by omega, by omega, hr⟩) <;> simp (decide := true) only [sims, evRegion, evOps, evOp, evG, evR, guardT, callee, opRes, pureR, binT, unT, T.cells, T.leaf, fillT, splice, Nat.reduceLT, Nat.reduceAdd, Nat.reduceMul, Nat.reduceLeDiff, Nat.reduceEqDiff, reduceIte, Int.reduceBEq, Int.reduceBNe, Int.reduceLT, Int.reduceLE, Int.reduceGT, Int.reduceGE, Int.reduceNeg, reduceCtorEq, h49, h1, h2, h7, hg]
end Go.Proofs.Ythanlobfjpjegaa.Abs
