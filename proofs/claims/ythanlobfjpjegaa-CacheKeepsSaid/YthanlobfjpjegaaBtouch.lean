/- A way is used: the program's function. -/
import Derived.Test.YthanlobfjpjegaaTch
namespace Go.Proofs.Ythanlobfjpjegaa.Abs
open Go Go.RowKit Fn
set_option linter.unusedVariables false
set_option linter.unusedSimpArgs false
set_option linter.unnecessarySimpa false
set_option maxRecDepth 100000

theorem frzAll_pt {f : T → Option (T × List Nat)} : ∀ (l l' : List T), l.length = l'.length → (∀ j (h : j < l.length) (h' : j < l'.length), ∃ ids, f l[j] = some (l'[j], ids)) → ∃ ids, frzAll f l = some (l', ids)
  | [], [], _, _ => ⟨[], rfl⟩
  | x :: l, y :: l', hl, h => by
    obtain ⟨is, h1⟩ := h 0 (by simp) (by simp)
    obtain ⟨js, h2⟩ := frzAll_pt l l' (by simpa using hl) (fun j hj hj' => h (j + 1) (by simp; omega) (by simp; omega))
    simp only [List.getElem_cons_zero] at h1
    exact ⟨is ++ js, by simp only [frzAll, h1, h2]⟩
  | [], _ :: _, hl, _ => by simp at hl
  | _ :: _, [], hl, _ => by simp at hl
theorem enc_ints (l : List Way) : ∀ x ∈ l.flatMap Way.enc, ∃ k n, x = .int k n := by
  intro x hx
  rw [List.mem_flatMap] at hx
  obtain ⟨w, _, hw⟩ := hx
  exact way_ints w x hw
theorem enc_leaf (l : List Way) : allLeaf (l.flatMap Way.enc) = true := leaf_ints _ (enc_ints l)
theorem enc_len (l : List Way) (hw : ∀ w ∈ l, w.wf) : (l.flatMap Way.enc).length = l.length * 19 := flat_lenM (f := Way.enc) l (fun w h => way_len (hw w h))
theorem frz_own {h : Hp} {d t n es : Nat} {c c' : List T} (hg : h.get t = some c) (hl : c.length = n * es) (hf : ∃ ids, frzAll (frz h d) c = some (c', ids)) : ∃ ids, frz h (d + 1) (.own t 0 n es) = some (.imm false n c', ids) := by
  obtain ⟨ids, hf⟩ := hf
  have e : ((c.drop 0).take (n * es)) = c := by rw [List.drop_zero, List.take_of_length_le (by omega)]
  exact ⟨t :: ids, by simp only [frz, hg, e, hl, if_true, hf]⟩
theorem frz_agg1 {h : Hp} {d : Nat} {x y : T} (hf : ∃ ids, frz h d x = some (y, ids)) : ∃ ids, frz h (d + 1) (.agg [x]) = some (.agg [y], ids) := by
  obtain ⟨ids, hf⟩ := hf
  exact ⟨ids ++ [], by simp only [frz, frzAll, hf]⟩
/-- Rows of which one is of one's own. -/
theorem frz_rowset {h : Hp} {d : Nat} {xs : List T} {R : List (List Way)} (hx : Tells xs R) (i : Nat) (hi : i < R.length) (B : Nat) (l : List Way) (hw : ∀ w ∈ l, w.wf) (hg : h.get B = some (l.flatMap Way.enc)) : ∃ ids, frzAll (frz h (d + 2)) (xs.set i (.own B 0 l.length 19)) = some (xs.set i (.imm false l.length (l.flatMap Way.enc)), ids) := by
  refine frzAll_pt _ _ (by rw [List.length_set, List.length_set]) (fun j hj hj' => ?_)
  rw [List.length_set] at hj
  by_cases hij : i = j
  · subst hij
    rw [List.getElem_set_self, List.getElem_set_self]
    exact frz_own hg (enc_len l hw) ⟨[], frzAll_int _ (enc_ints l)⟩
  · rw [List.getElem_set_ne hij, List.getElem_set_ne hij]
    obtain ⟨f, hf⟩ := hx.2 j (by rw [← hx.1]; exact hj)
    rw [Nat.mul_one, List.getElem?_eq_getElem hj] at hf
    rw [Option.some.inj hf]
    exact ⟨[], rfl⟩
/-- What a function gives whose result is a cell with rows of which one is of one's own. -/
theorem fin_rowset {F : AFun} {t p A B n i : Nat} {xs : List T} {R : List (List Way)} {l : List Way} (hF : F.res = [.cell t false 1]) (hx : Tells xs R) (hn : n = R.length) (hi : i < R.length) (hw : ∀ w ∈ l, w.wf) {s : List T} {g : Mem} {nx : Nat} (hs : rho s (.tmp t) = .ptr p 0) (hp : g p = some [.own A 0 n 1]) (hA : g A = some (xs.set i (.own B 0 l.length 19))) (hB : g B = some (l.flatMap Way.enc)) : AExit.ret.leaves = true ∧ ∃ u ids, resT s g F.res = some u ∧ frz ⟨g, nx⟩ frzDepth u = some (.agg [.imm false n (xs.set i (.imm false l.length (l.flatMap Way.enc)))], ids) := by
  have hc : cut [T.own A 0 n 1] 0 1 = [T.own A 0 n 1] := rfl
  have hl : (xs.set i (T.own B 0 l.length 19)).length = n * 1 := by rw [List.length_set, hx.1]; omega
  obtain ⟨ids, h1⟩ := frz_agg1 (frz_own (d := 10) (h := ⟨g, nx⟩) hA hl (frz_rowset (d := 8) hx i hi B l hw hB))
  refine ⟨rfl, .agg [.own A 0 n 1], ids, ?_, h1⟩
  rw [hF]
  simp (decide := true) only [resT, resL, resOne, opRes, hs, hp, hc, List.length_cons, List.length_nil, if_true, Bool.false_eq_true, if_false]

def btLoop : ACode := match f19.body with | .seq _ (.seq _ (.seq _ (.seq _ (.seq (.seq _ (.block _ (.loop c))) _)))) => c | _ => .skip
def BtI (n i w wl : Nat) (a : Int) (xs' : List T) (st : St) : Prop := st.s.length = 86 ∧ rho st.s (.tmp 1) = .int .i64 (i : Int) ∧ rho st.s (.tmp 2) = .int .i64 (w : Int) ∧ rho st.s (.tmp 6) = .ptr 1 0 ∧ rho st.s (.tmp 7) = .ptr 28 0 ∧ rho st.s (.tmp 8) = .int .i64 a ∧ rho st.s (.tmp 52) = .int .i64 (wl : Int) ∧ st.g 1 = some [.imm true 0 []] ∧ st.g 28 = some [.own 34 0 n 1] ∧ st.g 34 = some xs'
theorem bt_loop (n i w : Nat) (a : Int) (xs' : List T) (hxl : xs'.length = n) (hi : i < n) (l : List Way) (hw : ∀ x ∈ l, x.wf) (hll : l.length ≤ 1000) (ha : a ≤ 9223372036854775807) (hxi : xs'[i * 1]? = some (.own 46 0 l.length 19)) (Q : AExit → St → Prop)
    (hQe : ∀ st : St, BtI n i w l.length a xs' st → st.g 46 = some ((bumpK a l.length l).flatMap Way.enc) → Q (.exit 0) st) :
    ∀ (m : Nat) (st : St), (∃ k : Nat, BtI n i w l.length a xs' st ∧ st.g 46 = some ((bumpK a k l).flatMap Way.enc) ∧ rho st.s (.tmp 53) = .int .i64 (k : Int) ∧ k ≤ l.length ∧ m = l.length - k) → W ap (.loop btLoop) st Q := by
  refine W_loop _ ?_
  rintro m st ⟨k, ⟨hl, h1, h2, h6, h7, h8, h52, g1, g28, g34⟩, g46, h53, hk, hm⟩
  by_cases hend : k = l.length
  · have hlt : decide ((k : Int) < (l.length : Int)) = false := decide_eq_false (by omega)
    refine W_seqn (W_region (fun k => by simp (decide := true) (disch := first | omega | (simp (decide := true) only [List.length_set, hl]; done) | fail) only [sims, evRegion, evOps, evOp, evG, evR, guardT, callee, opRes, pureR, binT, unT, T.cells, T.leaf, fillT, splice, Nat.reduceLT, Nat.reduceAdd, Nat.reduceMul, Nat.reduceLeDiff, Nat.reduceEqDiff, reduceIte, Int.reduceBEq, Int.reduceBNe, Int.reduceLT, Int.reduceLE, Int.reduceGT, Int.reduceGE, Int.reduceNeg, reduceCtorEq, h52, h53, hlt]; rfl) ⟨rfl, ?_⟩)
    refine W_seq (W_false (by simp (decide := true) (disch := first | omega | (simp (decide := true) only [List.length_set, hl]; done) | fail) only [sims, evRegion, evOps, evOp, evG, evR, guardT, callee, opRes, pureR, binT, unT, T.cells, T.leaf, fillT, splice, Nat.reduceLT, Nat.reduceAdd, Nat.reduceMul, Nat.reduceLeDiff, Nat.reduceEqDiff, reduceIte, Int.reduceBEq, Int.reduceBNe, Int.reduceLT, Int.reduceLE, Int.reduceGT, Int.reduceGE, Int.reduceNeg, reduceCtorEq] <;> rfl) (W_exit (.inr ⟨by simp, .inr ⟨by simp, hQe _ ⟨?_, ?_, ?_, ?_, ?_, ?_, ?_, g1, g28, g34⟩ (by rw [← hend]; exact g46)⟩⟩)))
    all_goals simp (decide := true) (disch := first | omega | (simp (decide := true) only [List.length_set, hl]; done) | fail) only [sims, evRegion, evOps, evOp, evG, evR, guardT, callee, opRes, pureR, binT, unT, T.cells, T.leaf, fillT, splice, Nat.reduceLT, Nat.reduceAdd, Nat.reduceMul, Nat.reduceLeDiff, Nat.reduceEqDiff, reduceIte, Int.reduceBEq, Int.reduceBNe, Int.reduceLT, Int.reduceLE, Int.reduceGT, Int.reduceGE, Int.reduceNeg, reduceCtorEq, hl, h1, h2, h6, h7, h8, h52]
  · have hlt : decide ((k : Int) < (l.length : Int)) = true := decide_eq_true (by omega)
    have hkl : k < l.length := by omega
    have hw2 : IntKind.i64.wrap ((k : Int) + 1) = ((k + 1 : Nat) : Int) := by rw [wrap_id (by omega)]; omega
    have hbw := mem_bump (k := k) hw ha
    have hbl := bump_len a k l
    have hcl := enc_len _ hbw
    have hag := age_at _ hbw k (by omega)
    rw [bump_get a k l hkl] at hag
    have hset := set_age _ hbw k (by omega)
    have hsucc := bump_succ a k l hkl
    rw [hbl] at hcl
    have hb : i * 1 + 1 ≤ n := by omega
    have hb2 : k * 19 + 18 + 1 ≤ l.length * 19 := by omega
    have hwk := wf_i64 (wayN_wf hw hkl).2.2.2
    rw [bump_get a k l hkl] at hset
    generalize hx : wayN l k = x at *
    generalize hws : (bumpK a k l).flatMap Way.enc = ws at *
    have hi1 : 0 + i * 1 = i * 1 := by omega
    refine W_seqn (W_region (fun k => by simp (decide := true) (disch := first | omega | (simp (decide := true) only [List.length_set, hl]; done) | fail) only [sims, evRegion, evOps, evOp, evG, evR, guardT, callee, opRes, pureR, binT, unT, T.cells, T.leaf, fillT, splice, Nat.reduceLT, Nat.reduceAdd, Nat.reduceMul, Nat.reduceLeDiff, Nat.reduceEqDiff, reduceIte, Int.reduceBEq, Int.reduceBNe, Int.reduceLT, Int.reduceLE, Int.reduceGT, Int.reduceGE, Int.reduceNeg, reduceCtorEq, h52, h53, hlt]; rfl) ⟨rfl, ?_⟩)
    refine W_seqn (W_true (by simp (decide := true) (disch := first | omega | (simp (decide := true) only [List.length_set, hl]; done) | fail) only [sims, evRegion, evOps, evOp, evG, evR, guardT, callee, opRes, pureR, binT, unT, T.cells, T.leaf, fillT, splice, Nat.reduceLT, Nat.reduceAdd, Nat.reduceMul, Nat.reduceLeDiff, Nat.reduceEqDiff, reduceIte, Int.reduceBEq, Int.reduceBNe, Int.reduceLT, Int.reduceLE, Int.reduceGT, Int.reduceGE, Int.reduceNeg, reduceCtorEq] <;> rfl) (W_skip ⟨rfl, ?_⟩))
    refine W_seqn (W_block (W_seqn (W_region (fun k => by simp (decide := true) (disch := first | omega | (simp (decide := true) only [List.length_set, hl]; done) | fail) only [sims, evRegion, evOps, evOp, evG, evR, guardT, callee, opRes, pureR, binT, unT, T.cells, T.leaf, fillT, splice, Nat.reduceLT, Nat.reduceAdd, Nat.reduceMul, Nat.reduceLeDiff, Nat.reduceEqDiff, reduceIte, Int.reduceBEq, Int.reduceBNe, Int.reduceLT, Int.reduceLE, Int.reduceGT, Int.reduceGE, Int.reduceNeg, reduceCtorEq, h53]; rfl) ⟨rfl, ?_⟩)))
    refine W_seqn (W_region (fun k => by simp (decide := true) (disch := first | omega | (simp (decide := true) only [List.length_set, hl]; done) | fail) only [sims, evRegion, evOps, evOp, evG, evR, guardT, callee, opRes, pureR, binT, unT, T.cells, T.leaf, fillT, splice, Nat.reduceLT, Nat.reduceAdd, Nat.reduceMul, Nat.reduceLeDiff, Nat.reduceEqDiff, reduceIte, Int.reduceBEq, Int.reduceBNe, Int.reduceLT, Int.reduceLE, Int.reduceGT, Int.reduceGE, Int.reduceNeg, reduceCtorEq, h7, h1, g28, g34, hxl, hi, hb, hxi, hkl]; rfl) ⟨rfl, ?_⟩)
    by_cases hlt2 : x.age < a
    · have hd : decide (x.age < a) = true := decide_eq_true hlt2
      have hw3 : IntKind.i64.wrap (x.age + 1) = x.age + 1 := wrap_id (by omega)
      have hup : up a x = aged x (x.age + 1) := by unfold up; rw [if_pos hlt2]
      refine W_seqn (W_region (fun k => by simp (decide := true) (disch := first | omega | (simp (decide := true) only [List.length_set, hl]; done) | fail) only [sims, evRegion, evOps, evOp, evG, evR, guardT, callee, opRes, pureR, binT, unT, T.cells, T.leaf, fillT, splice, Nat.reduceLT, Nat.reduceAdd, Nat.reduceMul, Nat.reduceLeDiff, Nat.reduceEqDiff, reduceIte, Int.reduceBEq, Int.reduceBNe, Int.reduceLT, Int.reduceLE, Int.reduceGT, Int.reduceGE, Int.reduceNeg, reduceCtorEq, g46, hcl, hb2, hag, h8, hd]; rfl) ⟨rfl, W_true (by simp (decide := true) (disch := first | omega | (simp (decide := true) only [List.length_set, hl]; done) | fail) only [sims, evRegion, evOps, evOp, evG, evR, guardT, callee, opRes, pureR, binT, unT, T.cells, T.leaf, fillT, splice, Nat.reduceLT, Nat.reduceAdd, Nat.reduceMul, Nat.reduceLeDiff, Nat.reduceEqDiff, reduceIte, Int.reduceBEq, Int.reduceBNe, Int.reduceLT, Int.reduceLE, Int.reduceGT, Int.reduceGE, Int.reduceNeg, reduceCtorEq] <;> rfl) ?_⟩)
      refine W_region (fun k => by simp (decide := true) (disch := first | omega | (simp (decide := true) only [List.length_set, hl]; done) | fail) only [sims, evRegion, evOps, evOp, evG, evR, guardT, callee, opRes, pureR, binT, unT, T.cells, T.leaf, fillT, splice, Nat.reduceLT, Nat.reduceAdd, Nat.reduceMul, Nat.reduceLeDiff, Nat.reduceEqDiff, reduceIte, Int.reduceBEq, Int.reduceBNe, Int.reduceLT, Int.reduceLE, Int.reduceGT, Int.reduceGE, Int.reduceNeg, reduceCtorEq, hps, g46, hcl, hb2, hag, hw3]; rfl) (.inr (.inl ⟨by simp, rfl, ?_⟩))
      refine W_region (fun k => by simp (decide := true) (disch := first | omega | (simp (decide := true) only [List.length_set, hl]; done) | fail) only [sims, evRegion, evOps, evOp, evG, evR, guardT, callee, opRes, pureR, binT, unT, T.cells, T.leaf, fillT, splice, Nat.reduceLT, Nat.reduceAdd, Nat.reduceMul, Nat.reduceLeDiff, Nat.reduceEqDiff, reduceIte, Int.reduceBEq, Int.reduceBNe, Int.reduceLT, Int.reduceLE, Int.reduceGT, Int.reduceGE, Int.reduceNeg, reduceCtorEq, h53, hw2]; rfl) (.inl ⟨rfl, l.length - (k + 1), by omega, k + 1, ⟨?_, ?_, ?_, ?_, ?_, ?_, ?_, ?_, ?_, ?_⟩, ?_, ?_, by omega, rfl⟩)
      rotate_right 2
      · rw [hsucc, hup, hset]
        simp (decide := true) (disch := first | omega | (simp (decide := true) only [List.length_set, hl]; done) | fail) only [sims, evRegion, evOps, evOp, evG, evR, guardT, callee, opRes, pureR, binT, unT, T.cells, T.leaf, fillT, splice, Nat.reduceLT, Nat.reduceAdd, Nat.reduceMul, Nat.reduceLeDiff, Nat.reduceEqDiff, reduceIte, Int.reduceBEq, Int.reduceBNe, Int.reduceLT, Int.reduceLE, Int.reduceGT, Int.reduceGE, Int.reduceNeg, reduceCtorEq, hps]
      all_goals simp (decide := true) (disch := first | omega | (simp (decide := true) only [List.length_set, hl]; done) | fail) only [sims, evRegion, evOps, evOp, evG, evR, guardT, callee, opRes, pureR, binT, unT, T.cells, T.leaf, fillT, splice, Nat.reduceLT, Nat.reduceAdd, Nat.reduceMul, Nat.reduceLeDiff, Nat.reduceEqDiff, reduceIte, Int.reduceBEq, Int.reduceBNe, Int.reduceLT, Int.reduceLE, Int.reduceGT, Int.reduceGE, Int.reduceNeg, reduceCtorEq, hl, h1, h2, h6, h7, h8, h52, h53, g1, g28, g34]
    · have hd : decide (x.age < a) = false := decide_eq_false hlt2
      have hup : up a x = aged x x.age := by unfold up; rw [if_neg hlt2]; rfl
      have hsame : ws.set (k * 19 + 18) (.int .i64 x.age) = ws := by
        apply List.ext_getElem?
        intro j
        rw [List.getElem?_set]
        by_cases hj : k * 19 + 18 = j
        · subst hj; rw [if_pos rfl, if_pos (by omega), hag]
        · rw [if_neg hj]
      refine W_seqn (W_region (fun k => by simp (decide := true) (disch := first | omega | (simp (decide := true) only [List.length_set, hl]; done) | fail) only [sims, evRegion, evOps, evOp, evG, evR, guardT, callee, opRes, pureR, binT, unT, T.cells, T.leaf, fillT, splice, Nat.reduceLT, Nat.reduceAdd, Nat.reduceMul, Nat.reduceLeDiff, Nat.reduceEqDiff, reduceIte, Int.reduceBEq, Int.reduceBNe, Int.reduceLT, Int.reduceLE, Int.reduceGT, Int.reduceGE, Int.reduceNeg, reduceCtorEq, g46, hcl, hb2, hag, h8, hd]; rfl) ⟨rfl, W_false (by simp (decide := true) (disch := first | omega | (simp (decide := true) only [List.length_set, hl]; done) | fail) only [sims, evRegion, evOps, evOp, evG, evR, guardT, callee, opRes, pureR, binT, unT, T.cells, T.leaf, fillT, splice, Nat.reduceLT, Nat.reduceAdd, Nat.reduceMul, Nat.reduceLeDiff, Nat.reduceEqDiff, reduceIte, Int.reduceBEq, Int.reduceBNe, Int.reduceLT, Int.reduceLE, Int.reduceGT, Int.reduceGE, Int.reduceNeg, reduceCtorEq] <;> rfl) (W_skip (.inr (.inl ⟨by simp, rfl, ?_⟩)))⟩)
      refine W_region (fun k => by simp (decide := true) (disch := first | omega | (simp (decide := true) only [List.length_set, hl]; done) | fail) only [sims, evRegion, evOps, evOp, evG, evR, guardT, callee, opRes, pureR, binT, unT, T.cells, T.leaf, fillT, splice, Nat.reduceLT, Nat.reduceAdd, Nat.reduceMul, Nat.reduceLeDiff, Nat.reduceEqDiff, reduceIte, Int.reduceBEq, Int.reduceBNe, Int.reduceLT, Int.reduceLE, Int.reduceGT, Int.reduceGE, Int.reduceNeg, reduceCtorEq, h53, hw2]; rfl) (.inl ⟨rfl, l.length - (k + 1), by omega, k + 1, ⟨?_, ?_, ?_, ?_, ?_, ?_, ?_, ?_, ?_, ?_⟩, ?_, ?_, by omega, rfl⟩)
      rotate_right 2
      · rw [hsucc, hup, hset, hsame]
        exact g46
      all_goals simp (decide := true) (disch := first | omega | (simp (decide := true) only [List.length_set, hl]; done) | fail) only [sims, evRegion, evOps, evOp, evG, evR, guardT, callee, opRes, pureR, binT, unT, T.cells, T.leaf, fillT, splice, Nat.reduceLT, Nat.reduceAdd, Nat.reduceMul, Nat.reduceLeDiff, Nat.reduceEqDiff, reduceIte, Int.reduceBEq, Int.reduceBNe, Int.reduceLT, Int.reduceLE, Int.reduceGT, Int.reduceGE, Int.reduceNeg, reduceCtorEq, hl, h1, h2, h6, h7, h8, h52, h53, g1, g28, g34]
end Go.Proofs.Ythanlobfjpjegaa.Abs
