/- A line comes: what it comes to; the program's function. -/
import Derived.Test.YthanlobfjpjegaaMod
namespace Go.Proofs.Ythanlobfjpjegaa.Abs
open Go Go.RowKit Fn
set_option linter.unusedVariables false
set_option linter.unusedSimpArgs false
set_option linter.unnecessarySimpa false
set_option maxRecDepth 100000

theorem rv_lt (l : List Way) : ∀ m k best, best < l.length → k + m ≤ l.length → rv l best k m < l.length
  | 0, _, _, hb, _ => hb
  | m + 1, k, best, hb, h => by
    rw [rv]
    split
    · omega
    · exact rv_lt l m (k + 1) _ (by split <;> omega) (by omega)
theorem row_eq (c : Cache) (i : Nat) (h : i < c.sets.length) : row c i = c.sets[i] := by unfold row; rw [List.getElem?_eq_getElem h]; rfl
/-- Where a line would be put, there is a way, if its set has any. -/
theorem victim_lt (c : Cache) (ln : Nat) (hs : ¬ c.sets.length = 0) (hr : 0 < (row c (seti c ln)).length) : (victim c ln).1 = seti c ln ∧ seti c ln < c.sets.length ∧ (victim c ln).2 < (row c (seti c ln)).length := by
  have hlt : seti c ln < c.sets.length := Nat.mod_lt _ (by omega)
  unfold victim
  cases hf : find c ln with
  | some k => exact ⟨rfl, hlt, (find_lt hf).2⟩
  | none =>
    simp only [if_neg hs]
    exact ⟨trivial, hlt, rv_lt _ _ _ _ hr (by omega)⟩
theorem victim_none (c : Cache) (ln : Nat) (h : c.sets.length = 0 ∨ (row c (seti c ln)).length = 0) : Bad c.sets ((victim c ln).1 : Int) ((victim c ln).2 : Int) := by
  unfold Bad
  intro ⟨h1, h2, h3, h4⟩
  rcases h with h | h
  · omega
  · by_cases hs : c.sets.length = 0
    · omega
    · have e : (victim c ln).1 = seti c ln := by
        unfold victim
        cases hf : find c ln with
        | some k => rfl
        | none => simp only [if_neg hs]
      rw [e, Int.toNat_natCast] at h4
      unfold row at h
      omega
def fillW (old : Way) (ln : Nat) (st : Int) (data : List Int) : Way := ⟨st, (ln : Int), data, old.age⟩
def goneW (old : Way) (ln : Nat) : Way := if old.state = 0 ∨ old.tag = (ln : Int) then zeroW else old
/-- Rows behind a line that comes, and what went. -/
def fillR (c : Cache) (ln : Nat) (st : Int) (data : List Int) : List (List Way) × Way :=
  if st < 1 ∨ st > 3 ∨ c.sets.length = 0 ∨ (row c (seti c ln)).length = 0 then (c.sets, zeroW)
  else (touchR (c.sets.set (seti c ln) ((row c (seti c ln)).set (victim c ln).2 (fillW (wayN (row c (seti c ln)) (victim c ln).2) ln st data))) (seti c ln : Int) ((victim c ln).2 : Int), goneW (wayN (row c (seti c ln)) (victim c ln).2) ln)
def dataT (data : List Int) : List T := data.flatMap (fun n => [T.int .u8 n])
theorem data_len (data : List Int) : (dataT data).length = data.length := by unfold dataT; rw [flat_len (f := fun n => [T.int .u8 n]) (k := 1) (fun _ => rfl), Nat.mul_one]
theorem data_ints (data : List Int) : ∀ x ∈ dataT data, ∃ k n, x = .int k n := by
  intro x hx
  unfold dataT at hx
  rw [List.mem_flatMap] at hx
  obtain ⟨n, _, hn⟩ := hx
  rw [List.mem_singleton] at hn
  exact ⟨_, _, hn⟩
theorem enc_data (w : Way) : w.enc = T.int .i64 w.state :: T.int .u32 w.tag :: (dataT w.data ++ [T.int .i64 w.age]) := rfl
theorem fin_fill {F : AFun} {t1 t2 p1 p2 : Nat} {x : T} {w : Way} (hF : F.res = [.cell t1 false 1, .cell t2 false 19]) (hw : w.wf) (hx : ∀ h : Hp, frz h frzDepth (.agg [x]) = some (.agg [x], [])) {s : List T} {g : Mem} {nx : Nat} (h1 : rho s (.tmp t1) = .ptr p1 0) (h2 : rho s (.tmp t2) = .ptr p2 0) (g1 : g p1 = some [x]) (g2 : g p2 = some w.enc) (hxi : ∃ f n c, x = .imm f n c) : ∃ u ids, resT s g F.res = some u ∧ frz ⟨g, nx⟩ frzDepth u = some (.tup [.agg [x], .agg w.enc], ids) := by
  have hl := way_len hw
  have hc : cut w.enc 0 19 = w.enc := cut_all hl
  have hb : (19 : Nat) ≤ w.enc.length := by omega
  refine ⟨.tup [.agg [x], .agg w.enc], [], ?_, ?_⟩
  · rw [hF]
    have hc1 : cut [x] 0 1 = [x] := rfl
    simp (decide := true) only [resT, resL, resOne, opRes, h1, h2, g1, g2, hc, hc1, hb, Nat.zero_add, List.length_cons, List.length_nil, if_true, Bool.false_eq_true, if_false]
  · obtain ⟨f, n, c, rfl⟩ := hxi
    have e1 : frz ⟨g, nx⟩ 11 (.agg w.enc) = some (.agg w.enc, []) := by
      show frz ⟨g, nx⟩ (10 + 1) _ = _
      rw [frz]
      simp only [frzAll_int (d := 9) w.enc (way_ints w)]
    have e2 : frz ⟨g, nx⟩ 11 (.agg [.imm f n c]) = some (.agg [.imm f n c], []) := rfl
    show frz ⟨g, nx⟩ (11 + 1) _ = _
    rw [frz]
    simp only [frzAll, e1, e2, List.append_nil]

theorem bus_fill_bad (c : Cache) (hc : c.wf) (ln : Nat) (hln : ln ≤ 4294967295) (st : Int) (data : List Int) (hd : data.length = 16) (hbad : st < 1 ∨ st > 3 ∨ c.sets.length = 0 ∨ (row c (seti c ln)).length = 0) :
    E ap 25 [.agg [setsT c], .int .u32 (ln : Int), .int .i64 st, .agg (dataT data)] (.tup [.agg [setsT c], .agg zeroW.enc]) := by
  refine E_body (F := f25) rfl rfl rfl ?_
  generalize hs0 : (_ : List T) ++ List.replicate _ T.undef = s0
  have e0 : s0.length = 76 ∧ rho s0 (.tmp 0) = .agg [setsT c] ∧ rho s0 (.tmp 1) = .int .u32 (ln : Int) ∧ rho s0 (.tmp 2) = .int .i64 st ∧ rho s0 (.tmp 3) = .agg (dataT data) := by subst hs0; exact ⟨rfl, rfl, rfl, rfl, rfl⟩
  clear hs0
  obtain ⟨hl, h0, h1, h2, h3⟩ := e0
  have hleaf : allLeaf [setsT c] = true := rfl
  have hcut : cut [setsT c] 0 1 = [setsT c] := rfl
  have hdl := leaf_ints _ (data_ints data)
  have hxi : ∃ f n l, setsT c = .imm f n l := ⟨_, _, _, rfl⟩
  have hfz : ∀ h : Hp, frz h frzDepth (.agg [setsT c]) = some (.agg [setsT c], []) := fun _ => rfl
  have hzl : zeroW.enc.length = 19 := rfl
  have hzleaf := zenc_leaf
  have hzs : splice zeroW.enc 0 zeroW.enc = zeroW.enc := splice_all rfl
  obtain ⟨f, l, hwt, hlw, hlm, hl0, hlr⟩ := ways_of2 c hc ln
  obtain ⟨N1, c35⟩ := (bus_ways c hc ln hln).call ap35 (fun g => rfl)
  have q35 := c35 N1 (Nat.le_refl _)
  rw [hwt] at q35
  generalize setsT c = sc at *
  have hbody : f25.body = f25.body := rfl
  conv at hbody => rhs; simp only [f25]
  simp only [← zero_enc] at hbody
  rw [hbody]
  have hfin : ∀ {s : List T} {g : Mem} {nx : Nat}, rho s (.tmp 8) = .ptr 2 0 → rho s (.tmp 9) = .ptr 3 0 → g 2 = some [sc] → g 3 = some zeroW.enc → ∃ u ids, resT s g f25.res = some u ∧ frz ⟨g, nx⟩ frzDepth u = some (.tup [.agg [sc], .agg zeroW.enc], ids) := fun a b c d => fin_fill (F := f25) (t1 := 8) (t2 := 9) rfl zeroW_wf hfz a b c d hxi
  generalize zeroW.enc = zc at *
  generalize dataT data = dc at *
  refine W_seqn (W_region (fun k => by simp (decide := true) (disch := first | omega | (simp (decide := true) only [List.length_set, hl]; done) | fail) only [sims, evRegion, evOps, evOp, evG, evR, guardT, callee, opRes, pureR, binT, unT, T.cells, T.leaf, fillT, splice, Nat.reduceLT, Nat.reduceAdd, Nat.reduceMul, Nat.reduceLeDiff, Nat.reduceEqDiff, reduceIte, Int.reduceBEq, Int.reduceBNe, Int.reduceLT, Int.reduceLE, Int.reduceGT, Int.reduceGE, Int.reduceNeg, reduceCtorEq, hps, h0, h3, hleaf, hdl, hzleaf]; rfl) ⟨rfl, ?_⟩)
  by_cases hb1 : st < 1
  · have d1 : decide (st < 1) = true := decide_eq_true hb1
    refine W_seq (W_seqn (W_region (fun k => by simp (decide := true) (disch := first | omega | (simp (decide := true) only [List.length_set, hl]; done) | fail) only [sims, evRegion, evOps, evOp, evG, evR, guardT, callee, opRes, pureR, binT, unT, T.cells, T.leaf, fillT, splice, Nat.reduceLT, Nat.reduceAdd, Nat.reduceMul, Nat.reduceLeDiff, Nat.reduceEqDiff, reduceIte, Int.reduceBEq, Int.reduceBNe, Int.reduceLT, Int.reduceLE, Int.reduceGT, Int.reduceGE, Int.reduceNeg, reduceCtorEq, hps, h1, h2, d1]; rfl) ⟨rfl, W_true (by simp (decide := true) (disch := first | omega | (simp (decide := true) only [List.length_set, hl]; done) | fail) only [sims, evRegion, evOps, evOp, evG, evR, guardT, callee, opRes, pureR, binT, unT, T.cells, T.leaf, fillT, splice, Nat.reduceLT, Nat.reduceAdd, Nat.reduceMul, Nat.reduceLeDiff, Nat.reduceEqDiff, reduceIte, Int.reduceBEq, Int.reduceBNe, Int.reduceLT, Int.reduceLE, Int.reduceGT, Int.reduceGE, Int.reduceNeg, reduceCtorEq] <;> rfl) ?_⟩))
    refine W_seqn (W_region (fun k => by simp (decide := true) (disch := first | omega | (simp (decide := true) only [List.length_set, hl]; done) | fail) only [sims, evRegion, evOps, evOp, evG, evR, guardT, callee, opRes, pureR, binT, unT, T.cells, T.leaf, fillT, splice, Nat.reduceLT, Nat.reduceAdd, Nat.reduceMul, Nat.reduceLeDiff, Nat.reduceEqDiff, reduceIte, Int.reduceBEq, Int.reduceBNe, Int.reduceLT, Int.reduceLE, Int.reduceGT, Int.reduceGE, Int.reduceNeg, reduceCtorEq, hps, hcut, hleaf, hzl, hzleaf, hzs]; rfl) ⟨rfl, W_ret ?_⟩)
    simp only [reduceCtorEq, false_and, false_or, or_false, exists_false, exists_const, ne_eq, not_false_eq_true, true_and, implies_true]
    refine ⟨rfl, hfin ?_ ?_ ?_ ?_⟩ <;> simp (decide := true) (disch := first | omega | (simp (decide := true) only [List.length_set, hl]; done) | fail) only [sims, evRegion, evOps, evOp, evG, evR, guardT, callee, opRes, pureR, binT, unT, T.cells, T.leaf, fillT, splice, Nat.reduceLT, Nat.reduceAdd, Nat.reduceMul, Nat.reduceLeDiff, Nat.reduceEqDiff, reduceIte, Int.reduceBEq, Int.reduceBNe, Int.reduceLT, Int.reduceLE, Int.reduceGT, Int.reduceGE, Int.reduceNeg, reduceCtorEq, hps]
  · have d1 : decide (st < 1) = false := decide_eq_false hb1
    by_cases hb2 : st > 3
    · have d2 : decide (st > 3) = true := decide_eq_true hb2
      refine W_seq (W_seqn (W_region (fun k => by simp (decide := true) (disch := first | omega | (simp (decide := true) only [List.length_set, hl]; done) | fail) only [sims, evRegion, evOps, evOp, evG, evR, guardT, callee, opRes, pureR, binT, unT, T.cells, T.leaf, fillT, splice, Nat.reduceLT, Nat.reduceAdd, Nat.reduceMul, Nat.reduceLeDiff, Nat.reduceEqDiff, reduceIte, Int.reduceBEq, Int.reduceBNe, Int.reduceLT, Int.reduceLE, Int.reduceGT, Int.reduceGE, Int.reduceNeg, reduceCtorEq, hps, h1, h2, d1, d2]; rfl) ⟨rfl, W_true (by simp (decide := true) (disch := first | omega | (simp (decide := true) only [List.length_set, hl]; done) | fail) only [sims, evRegion, evOps, evOp, evG, evR, guardT, callee, opRes, pureR, binT, unT, T.cells, T.leaf, fillT, splice, Nat.reduceLT, Nat.reduceAdd, Nat.reduceMul, Nat.reduceLeDiff, Nat.reduceEqDiff, reduceIte, Int.reduceBEq, Int.reduceBNe, Int.reduceLT, Int.reduceLE, Int.reduceGT, Int.reduceGE, Int.reduceNeg, reduceCtorEq] <;> rfl) ?_⟩))
      refine W_seqn (W_region (fun k => by simp (decide := true) (disch := first | omega | (simp (decide := true) only [List.length_set, hl]; done) | fail) only [sims, evRegion, evOps, evOp, evG, evR, guardT, callee, opRes, pureR, binT, unT, T.cells, T.leaf, fillT, splice, Nat.reduceLT, Nat.reduceAdd, Nat.reduceMul, Nat.reduceLeDiff, Nat.reduceEqDiff, reduceIte, Int.reduceBEq, Int.reduceBNe, Int.reduceLT, Int.reduceLE, Int.reduceGT, Int.reduceGE, Int.reduceNeg, reduceCtorEq, hps, hcut, hleaf, hzl, hzleaf, hzs]; rfl) ⟨rfl, W_ret ?_⟩)
      simp only [reduceCtorEq, false_and, false_or, or_false, exists_false, exists_const, ne_eq, not_false_eq_true, true_and, implies_true]
      refine ⟨rfl, hfin ?_ ?_ ?_ ?_⟩ <;> simp (decide := true) (disch := first | omega | (simp (decide := true) only [List.length_set, hl]; done) | fail) only [sims, evRegion, evOps, evOp, evG, evR, guardT, callee, opRes, pureR, binT, unT, T.cells, T.leaf, fillT, splice, Nat.reduceLT, Nat.reduceAdd, Nat.reduceMul, Nat.reduceLeDiff, Nat.reduceEqDiff, reduceIte, Int.reduceBEq, Int.reduceBNe, Int.reduceLT, Int.reduceLE, Int.reduceGT, Int.reduceGE, Int.reduceNeg, reduceCtorEq, hps]
    · have d2 : decide (st > 3) = false := decide_eq_false hb2
      have hlz : l.length = 0 := by
        rcases hbad with h | h | h | h
        · omega
        · omega
        · rw [hl0 h]; rfl
        · by_cases hs : c.sets.length = 0
          · rw [hl0 hs]; rfl
          · rw [hlr hs]; exact h
      rw [hlz] at q35
      refine W_seq (W_seqn (W_regionN ⟨N1, by simp (decide := true) (disch := first | omega | (simp (decide := true) only [List.length_set, hl]; done) | fail) only [sims, evRegion, evOps, evOp, evG, evR, guardT, callee, opRes, pureR, binT, unT, T.cells, T.leaf, fillT, splice, Nat.reduceLT, Nat.reduceAdd, Nat.reduceMul, Nat.reduceLeDiff, Nat.reduceEqDiff, reduceIte, Int.reduceBEq, Int.reduceBNe, Int.reduceLT, Int.reduceLE, Int.reduceGT, Int.reduceGE, Int.reduceNeg, reduceCtorEq, hps, h1, h2, d1, d2, hcut, ap35, p35, n35, q35]; rfl⟩ ⟨rfl, W_true (by simp (decide := true) (disch := first | omega | (simp (decide := true) only [List.length_set, hl]; done) | fail) only [sims, evRegion, evOps, evOp, evG, evR, guardT, callee, opRes, pureR, binT, unT, T.cells, T.leaf, fillT, splice, Nat.reduceLT, Nat.reduceAdd, Nat.reduceMul, Nat.reduceLeDiff, Nat.reduceEqDiff, reduceIte, Int.reduceBEq, Int.reduceBNe, Int.reduceLT, Int.reduceLE, Int.reduceGT, Int.reduceGE, Int.reduceNeg, reduceCtorEq] <;> rfl) ?_⟩))
      refine W_seqn (W_region (fun k => by simp (decide := true) (disch := first | omega | (simp (decide := true) only [List.length_set, hl]; done) | fail) only [sims, evRegion, evOps, evOp, evG, evR, guardT, callee, opRes, pureR, binT, unT, T.cells, T.leaf, fillT, splice, Nat.reduceLT, Nat.reduceAdd, Nat.reduceMul, Nat.reduceLeDiff, Nat.reduceEqDiff, reduceIte, Int.reduceBEq, Int.reduceBNe, Int.reduceLT, Int.reduceLE, Int.reduceGT, Int.reduceGE, Int.reduceNeg, reduceCtorEq, hps, hcut, hleaf, hzl, hzleaf, hzs]; rfl) ⟨rfl, W_ret ?_⟩)
      simp only [reduceCtorEq, false_and, false_or, or_false, exists_false, exists_const, ne_eq, not_false_eq_true, true_and, implies_true]
      refine ⟨rfl, hfin ?_ ?_ ?_ ?_⟩ <;> simp (decide := true) (disch := first | omega | (simp (decide := true) only [List.length_set, hl]; done) | fail) only [sims, evRegion, evOps, evOp, evG, evR, guardT, callee, opRes, pureR, binT, unT, T.cells, T.leaf, fillT, splice, Nat.reduceLT, Nat.reduceAdd, Nat.reduceMul, Nat.reduceLeDiff, Nat.reduceEqDiff, reduceIte, Int.reduceBEq, Int.reduceBNe, Int.reduceLT, Int.reduceLE, Int.reduceGT, Int.reduceGE, Int.reduceNeg, reduceCtorEq, hps]
end Go.Proofs.Ythanlobfjpjegaa.Abs
