/- A line comes: the program's function, whole. -/
import Derived.Test.YthanlobfjpjegaaFill
namespace Go.Proofs.Ythanlobfjpjegaa.Abs
open Go Go.RowKit Fn
set_option linter.unusedVariables false
set_option linter.unusedSimpArgs false
set_option linter.unnecessarySimpa false
set_option maxRecDepth 100000
set_option maxHeartbeats 1000000

/-- A piece that ends as pieces do, and what is known behind it. -/
theorem W_cut {AP : AProg} {a b : ACode} {st : St} {Q : AExit → St → Prop} (P : St → Prop) (ha : W AP a st (fun e s => e = .normal ∧ P s)) (hb : ∀ s, P s → W AP b s Q) : W AP (.seq a b) st Q := W_seqn (ha.mono fun _ s h => ⟨h.1, hb s h.2⟩)
theorem fillW_wf {old : Way} (ho : old.wf) {ln : Nat} (hln : ln ≤ 4294967295) {st : Int} (hs : 1 ≤ st ∧ st ≤ 3) {data : List Int} (hd : data.length = 16 ∧ ∀ y ∈ data, (Lit.int .u8 y).wf = true) : (fillW old ln st data).wf := by
  refine ⟨lit_i64 (by show -9223372036854775808 ≤ st ∧ st ≤ 9223372036854775807; omega), ?_, hd, ho.2.2.2⟩
  show (Lit.int .u32 (ln : Int)).wf = true
  have e : (Lit.int .u32 (ln : Int)).wf = (decide ((0 : Int) ≤ ln) && decide ((ln : Int) ≤ 2 ^ 32 - 1)) := rfl
  rw [e, decide_eq_true (by omega), decide_eq_true (by omega)]; rfl
theorem goneW_wf {old : Way} (ho : old.wf) (ln : Nat) : (goneW old ln).wf := by unfold goneW; split; exact zeroW_wf; exact ho
theorem set_fill (l : List Way) (hw : ∀ w ∈ l, w.wf) (k : Nat) (h : k < l.length) (ln : Nat) (hln : ln ≤ 4294967295) (st : Int) (hs : 1 ≤ st ∧ st ≤ 3) (data : List Int) (hd : data.length = 16 ∧ ∀ y ∈ data, (Lit.int .u8 y).wf = true) : (l.set k (fillW (wayN l k) ln st data)).flatMap Way.enc = splice (((l.flatMap Way.enc).set (k * 19) (.int .i64 st)).set (k * 19 + 1) (.int .u32 (ln : Int))) (k * 19 + 2) (dataT data) := by
  have hwk := wayN_wf hw h
  have e := set_way l hw k h (fillW (wayN l k) ln st data) (fillW_wf hwk hln hs hd) 0 (T.int .i64 st :: T.int .u32 (ln : Int) :: dataT data) [] [T.int .i64 (wayN l k).age] (T.int .i64 (wayN l k).state :: T.int .u32 (wayN l k).tag :: dataT (wayN l k).data) rfl (by simp only [List.length_cons, data_len, hwk.2.2.1.1, hd.1]) rfl rfl
  rw [Nat.add_zero] at e
  exact e
theorem fit_row {c : Cache} (h : Fit c.sets) (i : Nat) (hi : i < c.sets.length) : (row c i).length ≤ 10 ∧ ∀ w ∈ row c i, w.wf := by
  rw [row_eq c i hi]; exact h.2 _ (List.getElem_mem hi)
theorem bus_fill_ok (c : Cache) (hc : c.wf) (hfit : Fit c.sets) (ln : Nat) (hln : ln ≤ 4294967295) (st : Int) (data : List Int) (hd : data.length = 16 ∧ ∀ y ∈ data, (Lit.int .u8 y).wf = true) (hs : 1 ≤ st ∧ st ≤ 3) (hz : ¬ c.sets.length = 0) (hr : ¬ (row c (seti c ln)).length = 0) :
    ∃ v, E ap 25 [.agg [setsT c], .int .u32 (ln : Int), .int .i64 st, .agg (dataT data)] v ∧ ∃ u, v = .tup [u, .agg (fillR c ln st data).2.enc] ∧ CacheEx (fillR c ln st data).1 u := by
  have hfr : fillR c ln st data = (touchR (c.sets.set (seti c ln) ((row c (seti c ln)).set (victim c ln).2 (fillW (wayN (row c (seti c ln)) (victim c ln).2) ln st data))) (seti c ln : Int) ((victim c ln).2 : Int), goneW (wayN (row c (seti c ln)) (victim c ln).2) ln) := if_neg (by omega)
  obtain ⟨hv1, hil, hkl⟩ := victim_lt c ln hz (by omega)
  have hvt : victT c ln = .tup [.int .i64 (seti c ln : Int), .int .i64 ((victim c ln).2 : Int)] := by unfold victT; rw [hv1]
  have hrow := fit_row hfit _ hil
  have hx := tells_cache c
  obtain ⟨f0, hxi⟩ := hx.2 _ hil
  rw [← row_eq c _ hil] at hxi
  have hxl := hx.1
  have hxf := tells_leaf hx
  refine E_bodyV (F := f25) rfl rfl rfl (P := fun v => ∃ u, v = .tup [u, .agg (fillR c ln st data).2.enc] ∧ CacheEx (fillR c ln st data).1 u) ?_
  rw [hfr]
  clear hfr
  generalize hs0 : (_ : List T) ++ List.replicate _ T.undef = s0
  have e0 : s0.length = 76 ∧ rho s0 (.tmp 0) = .agg [setsT c] ∧ rho s0 (.tmp 1) = .int .u32 (ln : Int) ∧ rho s0 (.tmp 2) = .int .i64 st ∧ rho s0 (.tmp 3) = .agg (dataT data) := by subst hs0; exact ⟨rfl, rfl, rfl, rfl, rfl⟩
  clear hs0
  obtain ⟨hl, h0, h1, h2, h3⟩ := e0
  obtain ⟨f, l', hwt, hlw, hlm, hl0, hlr⟩ := ways_of2 c hc ln
  have hl' := hlr hz
  obtain ⟨N1, c35⟩ := (bus_ways c hc ln hln).call ap35 (fun g => rfl)
  obtain ⟨N2, c17⟩ := (bus_victim c hc ln hln).call ap17 (fun g => rfl)
  have q35 := c35 N1 (Nat.le_refl _)
  have q17 := c17 N2 (Nat.le_refl _)
  rw [hwt, hl'] at q35
  rw [hvt] at q17
  clear hwt hlw hlm hl0 hlr hl' hvt hv1 c35 c17
  have hsc : setsT c = .imm false c.sets.length (c.sets.flatMap (fun l => [rowT l])) := rfl
  rw [hsc] at h0 q35 q17
  generalize hk : (victim c ln).2 = k at *
  generalize hi : seti c ln = i at *
  generalize hL : row c i = l at *
  have hRi : c.sets[i] = l := by rw [← hL, row_eq c i hil]
  generalize hX : c.sets.flatMap (fun l => [rowT l]) = xs at *
  have hfitR := fit_set hfit i (l.set k (fillW (wayN l k) ln st data)) ⟨by rw [List.length_set]; exact hrow.1, fun w hw => by
    rcases List.mem_or_eq_of_mem_set hw with h | rfl
    · exact hrow.2 _ h
    · exact fillW_wf (wayN_wf hrow.2 hkl) hln hs hd⟩
  have hwk := wayN_wf hrow.2 hkl
  have hsf := set_fill l hrow.2 k hkl ln hln st hs data hd
  have hcl := enc_len l hrow.2
  have hclf := enc_leaf l
  have hcw : cut (l.flatMap Way.enc) (k * 19) 19 = (wayN l k).enc := by rw [flat_cutM l (fun w h => way_len (hrow.2 w h)) k hkl, wayN_eq hkl]
  have hwl := way_len hwk
  have hwlf := leaf_ints _ (way_ints (wayN l k))
  have hws := way_state (wayN l k)
  have hwt := way_tag (wayN l k)
  have hdlf := leaf_ints _ (data_ints data)
  have hdl : (dataT data).length = 16 := by rw [data_len]; exact hd.1
  have hcd : cut (dataT data) 0 16 = dataT data := cut_all hdl
  have hzl : zeroW.enc.length = 19 := rfl
  have hzleaf := zenc_leaf
  have hleaf : allLeaf [T.imm false c.sets.length xs] = true := rfl
  have hcut : cut [T.imm false c.sets.length xs] 0 1 = [T.imm false c.sets.length xs] := rfl
  have hzs : splice (wayN l k).enc 0 zeroW.enc = zeroW.enc := splice_all (by rw [hwl]; rfl)
  have hzs2 : splice zeroW.enc 0 (wayN l k).enc = (wayN l k).enc := splice_all (by rw [hwl]; rfl)
  have hgl := way_len (goneW_wf hwk ln)
  have hglf := leaf_ints _ (way_ints (goneW (wayN l k) ln))
  have hcg : cut (goneW (wayN l k) ln).enc 0 19 = (goneW (wayN l k) ln).enc := cut_all hgl
  have hzs3 : splice zeroW.enc 0 (goneW (wayN l k) ln).enc = (goneW (wayN l k) ln).enc := splice_all (by rw [hgl]; rfl)
  have hgdef : (goneW (wayN l k) ln).enc = if (wayN l k).state = 0 ∨ (wayN l k).tag = (ln : Int) then zeroW.enc else (wayN l k).enc := by unfold goneW; split <;> rfl
  have hfin : ∀ (x : T) {s : List T} {g : Mem} {nx : Nat}, (∃ f n c, x = .imm f n c) → rho s (.tmp 8) = .ptr 2 0 → rho s (.tmp 9) = .ptr 3 0 → g 2 = some [x] → g 3 = some (goneW (wayN l k) ln).enc → ∃ u ids, resT s g f25.res = some u ∧ frz ⟨g, nx⟩ frzDepth u = some (.tup [.agg [x], .agg (goneW (wayN l k) ln).enc], ids) := fun x _ _ _ hxi a b c d => fin_fill (F := f25) (t1 := 8) (t2 := 9) rfl (goneW_wf hwk ln) (fun h => by obtain ⟨f, n, c, rfl⟩ := hxi; rfl) a b c d hxi
  generalize hgw : (goneW (wayN l k) ln).enc = gw at *
  generalize how : (wayN l k).enc = ow at *
  have hbody : f25.body = f25.body := rfl
  conv at hbody => rhs; simp only [f25]
  simp only [← zero_enc] at hbody
  rw [hbody]
  clear hbody
  generalize zeroW.enc = zc at *
  generalize hdc : dataT data = dc at *
  generalize hwsE : l.flatMap Way.enc = ws at *
  have hd1 : decide (st < 1) = false := decide_eq_false (by omega)
  have hd2 : decide (st > 3) = false := decide_eq_false (by omega)
  have hd3 : ((l.length : Int) == 0) = false := beq_eq_false_iff_ne.mpr (by omega)
  have hb : i * 1 + 1 ≤ c.sets.length := by omega
  have hb2 : k * 19 + 19 ≤ l.length * 19 := by omega
  refine W_seqn (W_region (fun k => by simp (decide := true) (disch := first | omega | (simp (decide := true) only [List.length_set, hl]; done) | fail) only [sims, evRegion, evOps, evOp, evG, evR, guardT, callee, opRes, pureR, binT, unT, T.cells, T.leaf, fillT, splice, Nat.reduceLT, Nat.reduceAdd, Nat.reduceMul, Nat.reduceLeDiff, Nat.reduceEqDiff, reduceIte, Int.reduceBEq, Int.reduceBNe, Int.reduceLT, Int.reduceLE, Int.reduceGT, Int.reduceGE, Int.reduceNeg, reduceCtorEq, hps, h0, h3, hleaf, hdlf, hzleaf]; rfl) ⟨rfl, ?_⟩)
  refine W_seqn (W_seqn (W_regionN ⟨N1, by simp (decide := true) (disch := first | omega | (simp (decide := true) only [List.length_set, hl]; done) | fail) only [sims, evRegion, evOps, evOp, evG, evR, guardT, callee, opRes, pureR, binT, unT, T.cells, T.leaf, fillT, splice, Nat.reduceLT, Nat.reduceAdd, Nat.reduceMul, Nat.reduceLeDiff, Nat.reduceEqDiff, reduceIte, Int.reduceBEq, Int.reduceBNe, Int.reduceLT, Int.reduceLE, Int.reduceGT, Int.reduceGE, Int.reduceNeg, reduceCtorEq, hps, h1, h2, hd1, hd2, hd3, hcut, ap35, p35, n35, q35]; rfl⟩ ⟨rfl, W_false (by simp (decide := true) (disch := first | omega | (simp (decide := true) only [List.length_set, hl]; done) | fail) only [sims, evRegion, evOps, evOp, evG, evR, guardT, callee, opRes, pureR, binT, unT, T.cells, T.leaf, fillT, splice, Nat.reduceLT, Nat.reduceAdd, Nat.reduceMul, Nat.reduceLeDiff, Nat.reduceEqDiff, reduceIte, Int.reduceBEq, Int.reduceBNe, Int.reduceLT, Int.reduceLE, Int.reduceGT, Int.reduceGE, Int.reduceNeg, reduceCtorEq] <;> rfl) (W_skip ⟨rfl, ?_⟩)⟩))
  refine W_seqn (W_regionN ⟨N2, by simp (decide := true) (disch := first | omega | (simp (decide := true) only [List.length_set, hl]; done) | fail) only [sims, evRegion, evOps, evOp, evG, evR, guardT, callee, opRes, pureR, binT, unT, T.cells, T.leaf, fillT, splice, Nat.reduceLT, Nat.reduceAdd, Nat.reduceMul, Nat.reduceLeDiff, Nat.reduceEqDiff, reduceIte, Int.reduceBEq, Int.reduceBNe, Int.reduceLT, Int.reduceLE, Int.reduceGT, Int.reduceGE, Int.reduceNeg, reduceCtorEq, hps, h1, hcut, ap17, p17, n17, q17]; rfl⟩ ⟨rfl, ?_⟩)
  refine W_abs (fun s => s.s.length = 76 ∧ rho s.s (.tmp 1) = .int .u32 (ln : Int) ∧ rho s.s (.tmp 2) = .int .i64 st ∧ rho s.s (.tmp 4) = .ptr 0 0 ∧ rho s.s (.tmp 7) = .ptr 1 0 ∧ rho s.s (.tmp 8) = .ptr 2 0 ∧ rho s.s (.tmp 9) = .ptr 3 0 ∧ rho s.s (.tmp 10) = .int .i64 (i : Int) ∧ rho s.s (.tmp 11) = .int .i64 (k : Int) ∧ s.g 0 = some [.imm false c.sets.length xs] ∧ s.g 1 = some dc ∧ s.g 2 = some [.imm true 0 []] ∧ s.g 3 = some zc ∧ s.nx = 25) ⟨by simp (decide := true) (disch := first | omega | (simp (decide := true) only [List.length_set, hl]; done) | fail) only [sims, evRegion, evOps, evOp, evG, evR, guardT, callee, opRes, pureR, binT, unT, T.cells, T.leaf, fillT, splice, Nat.reduceLT, Nat.reduceAdd, Nat.reduceMul, Nat.reduceLeDiff, Nat.reduceEqDiff, reduceIte, Int.reduceBEq, Int.reduceBNe, Int.reduceLT, Int.reduceLE, Int.reduceGT, Int.reduceGE, Int.reduceNeg, reduceCtorEq, hps, hl], by simp (decide := true) (disch := first | omega | (simp (decide := true) only [List.length_set, hl]; done) | fail) only [sims, evRegion, evOps, evOp, evG, evR, guardT, callee, opRes, pureR, binT, unT, T.cells, T.leaf, fillT, splice, Nat.reduceLT, Nat.reduceAdd, Nat.reduceMul, Nat.reduceLeDiff, Nat.reduceEqDiff, reduceIte, Int.reduceBEq, Int.reduceBNe, Int.reduceLT, Int.reduceLE, Int.reduceGT, Int.reduceGE, Int.reduceNeg, reduceCtorEq, hps, h1], by simp (decide := true) (disch := first | omega | (simp (decide := true) only [List.length_set, hl]; done) | fail) only [sims, evRegion, evOps, evOp, evG, evR, guardT, callee, opRes, pureR, binT, unT, T.cells, T.leaf, fillT, splice, Nat.reduceLT, Nat.reduceAdd, Nat.reduceMul, Nat.reduceLeDiff, Nat.reduceEqDiff, reduceIte, Int.reduceBEq, Int.reduceBNe, Int.reduceLT, Int.reduceLE, Int.reduceGT, Int.reduceGE, Int.reduceNeg, reduceCtorEq, hps, h2], by simp (decide := true) (disch := first | omega | (simp (decide := true) only [List.length_set, hl]; done) | fail) only [sims, evRegion, evOps, evOp, evG, evR, guardT, callee, opRes, pureR, binT, unT, T.cells, T.leaf, fillT, splice, Nat.reduceLT, Nat.reduceAdd, Nat.reduceMul, Nat.reduceLeDiff, Nat.reduceEqDiff, reduceIte, Int.reduceBEq, Int.reduceBNe, Int.reduceLT, Int.reduceLE, Int.reduceGT, Int.reduceGE, Int.reduceNeg, reduceCtorEq, hps], by simp (decide := true) (disch := first | omega | (simp (decide := true) only [List.length_set, hl]; done) | fail) only [sims, evRegion, evOps, evOp, evG, evR, guardT, callee, opRes, pureR, binT, unT, T.cells, T.leaf, fillT, splice, Nat.reduceLT, Nat.reduceAdd, Nat.reduceMul, Nat.reduceLeDiff, Nat.reduceEqDiff, reduceIte, Int.reduceBEq, Int.reduceBNe, Int.reduceLT, Int.reduceLE, Int.reduceGT, Int.reduceGE, Int.reduceNeg, reduceCtorEq, hps], by simp (decide := true) (disch := first | omega | (simp (decide := true) only [List.length_set, hl]; done) | fail) only [sims, evRegion, evOps, evOp, evG, evR, guardT, callee, opRes, pureR, binT, unT, T.cells, T.leaf, fillT, splice, Nat.reduceLT, Nat.reduceAdd, Nat.reduceMul, Nat.reduceLeDiff, Nat.reduceEqDiff, reduceIte, Int.reduceBEq, Int.reduceBNe, Int.reduceLT, Int.reduceLE, Int.reduceGT, Int.reduceGE, Int.reduceNeg, reduceCtorEq, hps], by simp (decide := true) (disch := first | omega | (simp (decide := true) only [List.length_set, hl]; done) | fail) only [sims, evRegion, evOps, evOp, evG, evR, guardT, callee, opRes, pureR, binT, unT, T.cells, T.leaf, fillT, splice, Nat.reduceLT, Nat.reduceAdd, Nat.reduceMul, Nat.reduceLeDiff, Nat.reduceEqDiff, reduceIte, Int.reduceBEq, Int.reduceBNe, Int.reduceLT, Int.reduceLE, Int.reduceGT, Int.reduceGE, Int.reduceNeg, reduceCtorEq, hps], by simp (decide := true) (disch := first | omega | (simp (decide := true) only [List.length_set, hl]; done) | fail) only [sims, evRegion, evOps, evOp, evG, evR, guardT, callee, opRes, pureR, binT, unT, T.cells, T.leaf, fillT, splice, Nat.reduceLT, Nat.reduceAdd, Nat.reduceMul, Nat.reduceLeDiff, Nat.reduceEqDiff, reduceIte, Int.reduceBEq, Int.reduceBNe, Int.reduceLT, Int.reduceLE, Int.reduceGT, Int.reduceGE, Int.reduceNeg, reduceCtorEq, hps], by simp (decide := true) (disch := first | omega | (simp (decide := true) only [List.length_set, hl]; done) | fail) only [sims, evRegion, evOps, evOp, evG, evR, guardT, callee, opRes, pureR, binT, unT, T.cells, T.leaf, fillT, splice, Nat.reduceLT, Nat.reduceAdd, Nat.reduceMul, Nat.reduceLeDiff, Nat.reduceEqDiff, reduceIte, Int.reduceBEq, Int.reduceBNe, Int.reduceLT, Int.reduceLE, Int.reduceGT, Int.reduceGE, Int.reduceNeg, reduceCtorEq, hps], by simp (decide := true) (disch := first | omega | (simp (decide := true) only [List.length_set, hl]; done) | fail) only [sims, evRegion, evOps, evOp, evG, evR, guardT, callee, opRes, pureR, binT, unT, T.cells, T.leaf, fillT, splice, Nat.reduceLT, Nat.reduceAdd, Nat.reduceMul, Nat.reduceLeDiff, Nat.reduceEqDiff, reduceIte, Int.reduceBEq, Int.reduceBNe, Int.reduceLT, Int.reduceLE, Int.reduceGT, Int.reduceGE, Int.reduceNeg, reduceCtorEq, hps], by simp (decide := true) (disch := first | omega | (simp (decide := true) only [List.length_set, hl]; done) | fail) only [sims, evRegion, evOps, evOp, evG, evR, guardT, callee, opRes, pureR, binT, unT, T.cells, T.leaf, fillT, splice, Nat.reduceLT, Nat.reduceAdd, Nat.reduceMul, Nat.reduceLeDiff, Nat.reduceEqDiff, reduceIte, Int.reduceBEq, Int.reduceBNe, Int.reduceLT, Int.reduceLE, Int.reduceGT, Int.reduceGE, Int.reduceNeg, reduceCtorEq, hps], by simp (decide := true) (disch := first | omega | (simp (decide := true) only [List.length_set, hl]; done) | fail) only [sims, evRegion, evOps, evOp, evG, evR, guardT, callee, opRes, pureR, binT, unT, T.cells, T.leaf, fillT, splice, Nat.reduceLT, Nat.reduceAdd, Nat.reduceMul, Nat.reduceLeDiff, Nat.reduceEqDiff, reduceIte, Int.reduceBEq, Int.reduceBNe, Int.reduceLT, Int.reduceLE, Int.reduceGT, Int.reduceGE, Int.reduceNeg, reduceCtorEq, hps], by simp (decide := true) (disch := first | omega | (simp (decide := true) only [List.length_set, hl]; done) | fail) only [sims, evRegion, evOps, evOp, evG, evR, guardT, callee, opRes, pureR, binT, unT, T.cells, T.leaf, fillT, splice, Nat.reduceLT, Nat.reduceAdd, Nat.reduceMul, Nat.reduceLeDiff, Nat.reduceEqDiff, reduceIte, Int.reduceBEq, Int.reduceBNe, Int.reduceLT, Int.reduceLE, Int.reduceGT, Int.reduceGE, Int.reduceNeg, reduceCtorEq, hps], by show (0 + 4 + 13 + 8 : Nat) = 25; rfl⟩ ?_
  clear hl h0 h1 h2 h3
  rintro ⟨s, g, nx⟩ ⟨hl, h1, h2, h4, h7, h8, h9, h10, h11, g0, g1, g2, g3, hnx⟩
  simp only at hl h1 h2 h4 h7 h8 h9 h10 h11 g0 g1 g2 g3 hnx
  subst hnx
  obtain ⟨N, g', nx', hN, w1, w2, w3, w4, w5, w6⟩ := with_run false c.sets.length xs hxl hxf hfit.big.1 i hil f0 l.length ws hxi hcl hclf (by omega) (by have := hrow.1; omega) g (25 + 5)
  have q40 := hN N (Nat.le_refl _)
  have w1' : g' 1 = some dc := by rw [w6 1 (by omega)]; exact g1
  have w2' : g' 2 = some [.imm true 0 []] := by rw [w6 2 (by omega)]; exact g2
  have w3' : g' 3 = some zc := by rw [w6 3 (by omega)]; exact g3
  refine W_seqn (W_regionN ⟨N, by simp (decide := true) (disch := first | omega | (simp (decide := true) only [List.length_set, hl]; done) | fail) only [sims, evRegion, evOps, evOp, evG, evR, guardT, callee, opRes, pureR, binT, unT, T.cells, T.leaf, fillT, splice, Nat.reduceLT, Nat.reduceAdd, Nat.reduceMul, Nat.reduceLeDiff, Nat.reduceEqDiff, reduceIte, Int.reduceBEq, Int.reduceBNe, Int.reduceLT, Int.reduceLE, Int.reduceGT, Int.reduceGE, Int.reduceNeg, reduceCtorEq, hps, evI, h4, h10, g0, hcut, ap40, p40, n40, q40]; rfl⟩ ⟨rfl, ?_⟩)
  refine W_abs (fun s => s.s.length = 76 ∧ rho s.s (.tmp 1) = .int .u32 (ln : Int) ∧ rho s.s (.tmp 2) = .int .i64 st ∧ rho s.s (.tmp 7) = .ptr 1 0 ∧ rho s.s (.tmp 8) = .ptr 2 0 ∧ rho s.s (.tmp 9) = .ptr 3 0 ∧ rho s.s (.tmp 10) = .int .i64 (i : Int) ∧ rho s.s (.tmp 11) = .int .i64 (k : Int) ∧ rho s.s (.tmp 12) = .ptr 28 0 ∧ s.g 1 = some dc ∧ s.g 2 = some [.imm true 0 []] ∧ s.g 3 = some zc ∧ s.g 28 = some [.own 34 0 c.sets.length 1] ∧ s.g 34 = some (xs.set i (.own 46 0 l.length 19)) ∧ s.g 46 = some ws ∧ 46 < s.nx) ?_ ?_
  · refine ⟨?_, ?_, ?_, ?_, ?_, ?_, ?_, ?_, ?_, ?_, ?_, ?_, ?_, ?_, ?_, ?_⟩
    rotate_right 1
    · show 46 < nx'; omega
    all_goals first | (simp (decide := true) (disch := first | omega | (simp (decide := true) only [List.length_set, hl]; done) | fail) only [sims, evRegion, evOps, evOp, evG, evR, guardT, callee, opRes, pureR, binT, unT, T.cells, T.leaf, fillT, splice, Nat.reduceLT, Nat.reduceAdd, Nat.reduceMul, Nat.reduceLeDiff, Nat.reduceEqDiff, reduceIte, Int.reduceBEq, Int.reduceBNe, Int.reduceLT, Int.reduceLE, Int.reduceGT, Int.reduceGE, Int.reduceNeg, reduceCtorEq, hps, hl, h1, h2, h7, h8, h9, h10, h11]; done) | (simp (decide := true) only [sims, evRegion, evOps, evOp, evG, evR, guardT, callee, opRes, pureR, binT, unT, T.cells, T.leaf, fillT, splice, Nat.reduceLT, Nat.reduceAdd, Nat.reduceMul, Nat.reduceLeDiff, Nat.reduceEqDiff, reduceIte, Int.reduceBEq, Int.reduceBNe, Int.reduceLT, Int.reduceLE, Int.reduceGT, Int.reduceGE, Int.reduceNeg, reduceCtorEq, hps, w1, w2, w1', w2', w3']; done) | (simp (decide := true) only [sims, evRegion, evOps, evOp, evG, evR, guardT, callee, opRes, pureR, binT, unT, T.cells, T.leaf, fillT, splice, Nat.reduceLT, Nat.reduceAdd, Nat.reduceMul, Nat.reduceLeDiff, Nat.reduceEqDiff, reduceIte, Int.reduceBEq, Int.reduceBNe, Int.reduceLT, Int.reduceLE, Int.reduceGT, Int.reduceGE, Int.reduceNeg, reduceCtorEq, hps, w1, w2, w1', w2', w3']; rfl)
  clear hl h1 h2 h4 h7 h8 h9 h10 h11 g0 g1 g2 g3 w1 w2 w3 w4 w5 w6 w1' w2' w3'
  rintro ⟨s, g, nx⟩ ⟨hl, h1, h2, h7, h8, h9, h10, h11, h12, g1, g2, g3, g28, g34, g46, hnx⟩
  simp only at hl h1 h2 h7 h8 h9 h10 h11 h12 g1 g2 g3 g28 g34 g46 hnx
  have hxs2 : (xs.set i (.own 46 0 l.length 19))[i * 1]? = some (.own 46 0 l.length 19) := by rw [Nat.mul_one, List.getElem?_set, if_pos rfl, if_pos (by omega)]
  have hx3l : (xs.set i (.own 46 0 l.length 19)).length = c.sets.length := by rw [List.length_set]; exact hxl
  generalize hxs3 : xs.set i (.own 46 0 l.length 19) = xs3 at *
  refine W_seqn (W_region (fun k => by simp (decide := true) (disch := first | omega | (simp (decide := true) only [List.length_set, hl]; done) | fail) only [sims, evRegion, evOps, evOp, evG, evR, guardT, callee, opRes, pureR, binT, unT, T.cells, T.leaf, fillT, splice, Nat.reduceLT, Nat.reduceAdd, Nat.reduceMul, Nat.reduceLeDiff, Nat.reduceEqDiff, reduceIte, Int.reduceBEq, Int.reduceBNe, Int.reduceLT, Int.reduceLE, Int.reduceGT, Int.reduceGE, Int.reduceNeg, reduceCtorEq, hps, h12, h10, h11, g28, g34, hx3l, hil, hb, hxs2, hkl]; rfl) ⟨rfl, ?_⟩)
  refine W_seqn (W_region (fun k => by simp (decide := true) (disch := first | omega | (simp (decide := true) only [List.length_set, hl]; done) | fail) only [sims, evRegion, evOps, evOp, evG, evR, guardT, callee, opRes, pureR, binT, unT, T.cells, T.leaf, fillT, splice, Nat.reduceLT, Nat.reduceAdd, Nat.reduceMul, Nat.reduceLeDiff, Nat.reduceEqDiff, reduceIte, Int.reduceBEq, Int.reduceBNe, Int.reduceLT, Int.reduceLE, Int.reduceGT, Int.reduceGE, Int.reduceNeg, reduceCtorEq, hps, g46, hcl, hb2, hcw, hwl, hwlf, hzl, hzleaf, hzs2]; rfl) ⟨rfl, ?_⟩)
  refine W_abs (fun s => s.s.length = 76 ∧ rho s.s (.tmp 1) = .int .u32 (ln : Int) ∧ rho s.s (.tmp 2) = .int .i64 st ∧ rho s.s (.tmp 7) = .ptr 1 0 ∧ rho s.s (.tmp 8) = .ptr 2 0 ∧ rho s.s (.tmp 9) = .ptr 3 0 ∧ rho s.s (.tmp 10) = .int .i64 (i : Int) ∧ rho s.s (.tmp 11) = .int .i64 (k : Int) ∧ rho s.s (.tmp 12) = .ptr 28 0 ∧ rho s.s (.tmp 13) = .ptr 46 (k * 19) ∧ (∃ p, 46 < p ∧ rho s.s (.tmp 14) = .ptr p 0 ∧ s.g p = some ow) ∧ s.g 1 = some dc ∧ s.g 2 = some [.imm true 0 []] ∧ s.g 3 = some zc ∧ s.g 28 = some [.own 34 0 c.sets.length 1] ∧ s.g 34 = some xs3 ∧ s.g 46 = some ws) ?_ ?_
  · refine ⟨?_, ?_, ?_, ?_, ?_, ?_, ?_, ?_, ?_, ?_, ⟨nx + 8 + 3, by omega, ?_, ?_⟩, ?_, ?_, ?_, ?_, ?_, ?_⟩
    all_goals first | (simp (decide := true) (disch := first | omega | (simp (decide := true) only [List.length_set, hl]; done) | fail) only [sims, evRegion, evOps, evOp, evG, evR, guardT, callee, opRes, pureR, binT, unT, T.cells, T.leaf, fillT, splice, Nat.reduceLT, Nat.reduceAdd, Nat.reduceMul, Nat.reduceLeDiff, Nat.reduceEqDiff, reduceIte, Int.reduceBEq, Int.reduceBNe, Int.reduceLT, Int.reduceLE, Int.reduceGT, Int.reduceGE, Int.reduceNeg, reduceCtorEq, hps, hl, h1, h2, h7, h8, h9, h10, h11, h12, g1, g2, g3, g28, g34, g46]; done) | (simp (decide := true) (disch := first | omega | (simp (decide := true) only [List.length_set, hl]; done) | fail) only [sims, evRegion, evOps, evOp, evG, evR, guardT, callee, opRes, pureR, binT, unT, T.cells, T.leaf, fillT, splice, Nat.reduceLT, Nat.reduceAdd, Nat.reduceMul, Nat.reduceLeDiff, Nat.reduceEqDiff, reduceIte, Int.reduceBEq, Int.reduceBNe, Int.reduceLT, Int.reduceLE, Int.reduceGT, Int.reduceGE, Int.reduceNeg, reduceCtorEq, hps, hl, h1, h2, h7, h8, h9, h10, h11, h12, g1, g2, g3, g28, g34, g46]; rfl)
  clear hl h1 h2 h7 h8 h9 h10 h11 h12 g1 g2 g3 g28 g34 g46 hnx
  rintro ⟨s, g, nx⟩ ⟨hl, h1, h2, h7, h8, h9, h10, h11, h12, h13, ⟨p, hp, h14, gp⟩, g1, g2, g3, g28, g34, g46⟩
  simp only at hl h1 h2 h7 h8 h9 h10 h11 h12 h13 h14 gp g1 g2 g3 g28 g34 g46
  have hb3 : k * 19 + 1 ≤ l.length * 19 := by omega
  have hb4 : k * 19 + 1 + 1 ≤ l.length * 19 := by omega
  have hb5 : k * 19 + 2 + 16 ≤ l.length * 19 := by omega
  refine W_cut (fun s => s.s.length = 76 ∧ rho s.s (.tmp 1) = .int .u32 (ln : Int) ∧ rho s.s (.tmp 2) = .int .i64 st ∧ rho s.s (.tmp 7) = .ptr 1 0 ∧ rho s.s (.tmp 8) = .ptr 2 0 ∧ rho s.s (.tmp 9) = .ptr 3 0 ∧ rho s.s (.tmp 10) = .int .i64 (i : Int) ∧ rho s.s (.tmp 11) = .int .i64 (k : Int) ∧ rho s.s (.tmp 12) = .ptr 28 0 ∧ rho s.s (.tmp 13) = .ptr 46 (k * 19) ∧ rho s.s (.tmp 14) = .ptr p 0 ∧ s.g p = some gw ∧ s.g 1 = some dc ∧ s.g 2 = some [.imm true 0 []] ∧ s.g 3 = some zc ∧ s.g 28 = some [.own 34 0 c.sets.length 1] ∧ s.g 34 = some xs3 ∧ s.g 46 = some ws) ?_ ?_
  · by_cases hz0 : (wayN l k).state = 0
    · have e1 : ((wayN l k).state == 0) = true := by simp [hz0]
      have hgz : gw = zc := by rw [hgdef, if_pos (.inl hz0)]
      refine W_seqn (W_region (fun k => by simp (decide := true) (disch := first | omega | (simp (decide := true) only [List.length_set, hl]; done) | fail) only [sims, evRegion, evOps, evOp, evG, evR, guardT, callee, opRes, pureR, binT, unT, T.cells, T.leaf, fillT, splice, Nat.reduceLT, Nat.reduceAdd, Nat.reduceMul, Nat.reduceLeDiff, Nat.reduceEqDiff, reduceIte, Int.reduceBEq, Int.reduceBNe, Int.reduceLT, Int.reduceLE, Int.reduceGT, Int.reduceGE, Int.reduceNeg, reduceCtorEq, hps, h14, gp, hws, hwl, e1]; rfl) ⟨rfl, W_true (by simp (decide := true) (disch := first | omega | (simp (decide := true) only [List.length_set, hl]; done) | fail) only [sims, evRegion, evOps, evOp, evG, evR, guardT, callee, opRes, pureR, binT, unT, T.cells, T.leaf, fillT, splice, Nat.reduceLT, Nat.reduceAdd, Nat.reduceMul, Nat.reduceLeDiff, Nat.reduceEqDiff, reduceIte, Int.reduceBEq, Int.reduceBNe, Int.reduceLT, Int.reduceLE, Int.reduceGT, Int.reduceGE, Int.reduceNeg, reduceCtorEq] <;> rfl) ?_⟩)
      refine W_region (fun k => by simp (decide := true) (disch := first | omega | (simp (decide := true) only [List.length_set, hl]; done) | fail) only [sims, evRegion, evOps, evOp, evG, evR, guardT, callee, opRes, pureR, binT, unT, T.cells, T.leaf, fillT, splice, Nat.reduceLT, Nat.reduceAdd, Nat.reduceMul, Nat.reduceLeDiff, Nat.reduceEqDiff, reduceIte, Int.reduceBEq, Int.reduceBNe, Int.reduceLT, Int.reduceLE, Int.reduceGT, Int.reduceGE, Int.reduceNeg, reduceCtorEq, hps, h14, gp, hwl, hzl, hzleaf, hzs]; rfl) ?_
      refine ⟨rfl, ?_, ?_, ?_, ?_, ?_, ?_, ?_, ?_, ?_, ?_, ?_, ?_, ?_, ?_, ?_, ?_, ?_, ?_⟩
      all_goals simp (decide := true) (disch := first | omega | (simp (decide := true) only [List.length_set, hl]; done) | fail) only [sims, evRegion, evOps, evOp, evG, evR, guardT, callee, opRes, pureR, binT, unT, T.cells, T.leaf, fillT, splice, Nat.reduceLT, Nat.reduceAdd, Nat.reduceMul, Nat.reduceLeDiff, Nat.reduceEqDiff, reduceIte, Int.reduceBEq, Int.reduceBNe, Int.reduceLT, Int.reduceLE, Int.reduceGT, Int.reduceGE, Int.reduceNeg, reduceCtorEq, hps, hl, h1, h2, h7, h8, h9, h10, h11, h12, h13, h14, g1, g2, g3, g28, g34, g46, hgz]
    · have e1 : ((wayN l k).state == 0) = false := beq_eq_false_iff_ne.mpr hz0
      by_cases ht0 : (wayN l k).tag = (ln : Int)
      · have e2 : ((wayN l k).tag == (ln : Int)) = true := by simp [ht0]
        have hgz : gw = zc := by rw [hgdef, if_pos (.inr ht0)]
        have hb6 : 1 + 1 ≤ ow.length := by omega
        refine W_seqn (W_region (fun k => by simp (decide := true) (disch := first | omega | (simp (decide := true) only [List.length_set, hl]; done) | fail) only [sims, evRegion, evOps, evOp, evG, evR, guardT, callee, opRes, pureR, binT, unT, T.cells, T.leaf, fillT, splice, Nat.reduceLT, Nat.reduceAdd, Nat.reduceMul, Nat.reduceLeDiff, Nat.reduceEqDiff, reduceIte, Int.reduceBEq, Int.reduceBNe, Int.reduceLT, Int.reduceLE, Int.reduceGT, Int.reduceGE, Int.reduceNeg, reduceCtorEq, hps, h1, h14, gp, hws, hwt, hwl, e1, e2]; rfl) ⟨rfl, W_true (by simp (decide := true) (disch := first | omega | (simp (decide := true) only [List.length_set, hl]; done) | fail) only [sims, evRegion, evOps, evOp, evG, evR, guardT, callee, opRes, pureR, binT, unT, T.cells, T.leaf, fillT, splice, Nat.reduceLT, Nat.reduceAdd, Nat.reduceMul, Nat.reduceLeDiff, Nat.reduceEqDiff, reduceIte, Int.reduceBEq, Int.reduceBNe, Int.reduceLT, Int.reduceLE, Int.reduceGT, Int.reduceGE, Int.reduceNeg, reduceCtorEq] <;> rfl) ?_⟩)
        refine W_region (fun k => by simp (decide := true) (disch := first | omega | (simp (decide := true) only [List.length_set, hl]; done) | fail) only [sims, evRegion, evOps, evOp, evG, evR, guardT, callee, opRes, pureR, binT, unT, T.cells, T.leaf, fillT, splice, Nat.reduceLT, Nat.reduceAdd, Nat.reduceMul, Nat.reduceLeDiff, Nat.reduceEqDiff, reduceIte, Int.reduceBEq, Int.reduceBNe, Int.reduceLT, Int.reduceLE, Int.reduceGT, Int.reduceGE, Int.reduceNeg, reduceCtorEq, hps, h14, gp, hwl, hzl, hzleaf, hzs]; rfl) ?_
        refine ⟨rfl, ?_, ?_, ?_, ?_, ?_, ?_, ?_, ?_, ?_, ?_, ?_, ?_, ?_, ?_, ?_, ?_, ?_, ?_⟩
        all_goals simp (decide := true) (disch := first | omega | (simp (decide := true) only [List.length_set, hl]; done) | fail) only [sims, evRegion, evOps, evOp, evG, evR, guardT, callee, opRes, pureR, binT, unT, T.cells, T.leaf, fillT, splice, Nat.reduceLT, Nat.reduceAdd, Nat.reduceMul, Nat.reduceLeDiff, Nat.reduceEqDiff, reduceIte, Int.reduceBEq, Int.reduceBNe, Int.reduceLT, Int.reduceLE, Int.reduceGT, Int.reduceGE, Int.reduceNeg, reduceCtorEq, hps, hl, h1, h2, h7, h8, h9, h10, h11, h12, h13, h14, g1, g2, g3, g28, g34, g46, hgz]
      · have e2 : ((wayN l k).tag == (ln : Int)) = false := beq_eq_false_iff_ne.mpr ht0
        have hgz : gw = ow := by rw [hgdef, if_neg (fun h => by rcases h with h | h; exact hz0 h; exact ht0 h)]
        refine W_seqn (W_region (fun k => by simp (decide := true) (disch := first | omega | (simp (decide := true) only [List.length_set, hl]; done) | fail) only [sims, evRegion, evOps, evOp, evG, evR, guardT, callee, opRes, pureR, binT, unT, T.cells, T.leaf, fillT, splice, Nat.reduceLT, Nat.reduceAdd, Nat.reduceMul, Nat.reduceLeDiff, Nat.reduceEqDiff, reduceIte, Int.reduceBEq, Int.reduceBNe, Int.reduceLT, Int.reduceLE, Int.reduceGT, Int.reduceGE, Int.reduceNeg, reduceCtorEq, hps, h1, h14, gp, hws, hwt, hwl, e1, e2]; rfl) ⟨rfl, W_false (by simp (decide := true) (disch := first | omega | (simp (decide := true) only [List.length_set, hl]; done) | fail) only [sims, evRegion, evOps, evOp, evG, evR, guardT, callee, opRes, pureR, binT, unT, T.cells, T.leaf, fillT, splice, Nat.reduceLT, Nat.reduceAdd, Nat.reduceMul, Nat.reduceLeDiff, Nat.reduceEqDiff, reduceIte, Int.reduceBEq, Int.reduceBNe, Int.reduceLT, Int.reduceLE, Int.reduceGT, Int.reduceGE, Int.reduceNeg, reduceCtorEq] <;> rfl) (W_skip ?_)⟩)
        refine ⟨rfl, ?_, ?_, ?_, ?_, ?_, ?_, ?_, ?_, ?_, ?_, ?_, ?_, ?_, ?_, ?_, ?_, ?_, ?_⟩
        all_goals simp (decide := true) (disch := first | omega | (simp (decide := true) only [List.length_set, hl]; done) | fail) only [sims, evRegion, evOps, evOp, evG, evR, guardT, callee, opRes, pureR, binT, unT, T.cells, T.leaf, fillT, splice, Nat.reduceLT, Nat.reduceAdd, Nat.reduceMul, Nat.reduceLeDiff, Nat.reduceEqDiff, reduceIte, Int.reduceBEq, Int.reduceBNe, Int.reduceLT, Int.reduceLE, Int.reduceGT, Int.reduceGE, Int.reduceNeg, reduceCtorEq, hps, hl, h1, h2, h7, h8, h9, h10, h11, h12, h13, h14, gp, g1, g2, g3, g28, g34, g46, hgz]
  clear hl h1 h2 h7 h8 h9 h10 h11 h12 h13 h14 gp g1 g2 g3 g28 g34 g46
  rintro ⟨s, g, nx⟩ ⟨hl, h1, h2, h7, h8, h9, h10, h11, h12, h13, h14, gp, g1, g2, g3, g28, g34, g46⟩
  simp only at hl h1 h2 h7 h8 h9 h10 h11 h12 h13 h14 gp g1 g2 g3 g28 g34 g46
  refine W_seqn (W_region (fun k => by simp (decide := true) (disch := first | omega | (simp (decide := true) only [List.length_set, hl]; done) | fail) only [sims, evRegion, evOps, evOp, evG, evR, guardT, callee, opRes, pureR, binT, unT, T.cells, T.leaf, fillT, splice, Nat.reduceLT, Nat.reduceAdd, Nat.reduceMul, Nat.reduceLeDiff, Nat.reduceEqDiff, reduceIte, Int.reduceBEq, Int.reduceBNe, Int.reduceLT, Int.reduceLE, Int.reduceGT, Int.reduceGE, Int.reduceNeg, reduceCtorEq, hps, h1, h2, h7, h13, g1, g46, hcl, hcd, hdl, hdlf, hb3, hb4, hb5]; rfl) ⟨rfl, ?_⟩)
  refine W_abs (fun s => s.s.length = 76 ∧ rho s.s (.tmp 8) = .ptr 2 0 ∧ rho s.s (.tmp 9) = .ptr 3 0 ∧ rho s.s (.tmp 10) = .int .i64 (i : Int) ∧ rho s.s (.tmp 11) = .int .i64 (k : Int) ∧ rho s.s (.tmp 12) = .ptr 28 0 ∧ rho s.s (.tmp 14) = .ptr p 0 ∧ s.g p = some gw ∧ s.g 2 = some [.imm true 0 []] ∧ s.g 3 = some zc ∧ s.g 28 = some [.own 34 0 c.sets.length 1] ∧ s.g 34 = some xs3 ∧ s.g 46 = some ((l.set k (fillW (wayN l k) ln st data)).flatMap Way.enc)) ?_ ?_
  · refine ⟨?_, ?_, ?_, ?_, ?_, ?_, ?_, ?_, ?_, ?_, ?_, ?_, ?_⟩
    all_goals simp (decide := true) (disch := first | omega | (simp (decide := true) only [List.length_set, hl]; done) | fail) only [sims, evRegion, evOps, evOp, evG, evR, guardT, callee, opRes, pureR, binT, unT, T.cells, T.leaf, fillT, splice, Nat.reduceLT, Nat.reduceAdd, Nat.reduceMul, Nat.reduceLeDiff, Nat.reduceEqDiff, reduceIte, Int.reduceBEq, Int.reduceBNe, Int.reduceLT, Int.reduceLE, Int.reduceGT, Int.reduceGE, Int.reduceNeg, reduceCtorEq, hps, hl, h1, h2, h7, h8, h9, h10, h11, h12, h13, h14, gp, g1, g2, g3, g28, g34, g46, hsf]
  clear hl h1 h2 h7 h8 h9 h10 h11 h12 h13 h14 gp g1 g2 g3 g28 g34 g46
  rintro ⟨s, g, nx⟩ ⟨hl, h8, h9, h10, h11, h12, h14, gp, g2, g3, g28, g34, g46⟩
  simp only at hl h8 h9 h10 h11 h12 h14 gp g2 g3 g28 g34 g46
  generalize hfw : l.set k (fillW (wayN l k) ln st data) = fl at *
  have hfll : fl.length = l.length := by rw [← hfw, List.length_set]
  have hflw : ∀ w ∈ fl, w.wf := (hfitR.2 fl (List.mem_set hil _)).2
  rw [← hxs3, ← hfll] at g34
  have hfz := frzP_with (h := ⟨g, 0⟩) (d := 8) (P := fun t => t = 34 ∨ t = 46) hx rfl i hil fl hflw g34 g46 (.inl rfl) (.inr rfl)
  have hof : CacheEx (c.sets.set i fl) (.agg [.imm false c.sets.length (xs.set i (.imm false fl.length (fl.flatMap Way.enc)))]) := ex_set hX i fl
  obtain ⟨v, hv, ov⟩ := touchX hfitR hof (i : Int) (k : Int)
  obtain ⟨N3, c19⟩ := hv.callI ap19
  obtain ⟨ids, ed, q19, hids, hed⟩ := c19 N3 (Nat.le_refl _) g [.agg [.own 34 0 c.sets.length 1], .int .i64 (i : Int), .int .i64 (k : Int)] (fun t => t = 34 ∨ t = 46) (frzL_two2 hfz)
  have ov0 := ov
  unfold CacheEx at ov0
  subst ov0
  have o1 : putAll g ed p = some gw := by rw [putAll_off ed g p (fun e he => by have := hed e he; omega)]; exact gp
  have o2 : putAll g ed 2 = some [.imm true 0 []] := by rw [putAll_off ed g 2 (fun e he => by have := hed e he; omega)]; exact g2
  have o3 : putAll g ed 3 = some zc := by rw [putAll_off ed g 3 (fun e he => by have := hed e he; omega)]; exact g3
  have o4 : disj (List.map (fun x => x.1) ed) [p] = true := disj_off (fun e he => by have := hed e he; omega)
  have hc34 : cut [T.own 34 0 c.sets.length 1] 0 1 = [T.own 34 0 c.sets.length 1] := rfl
  generalize hpg : putAll g ed = pg at *
  refine W_seqn (W_regionN ⟨N3, by simp (decide := true) (disch := first | omega | (simp (decide := true) only [List.length_set, hl]; done) | fail) only [sims, evRegion, evOps, evOp, evG, evR, guardT, callee, opRes, pureR, binT, unT, T.cells, T.leaf, fillT, splice, Nat.reduceLT, Nat.reduceAdd, Nat.reduceMul, Nat.reduceLeDiff, Nat.reduceEqDiff, reduceIte, Int.reduceBEq, Int.reduceBNe, Int.reduceLT, Int.reduceLE, Int.reduceGT, Int.reduceGE, Int.reduceNeg, reduceCtorEq, hps, h12, h10, h11, h14, h8, h9, g28, hc34, ap19, p19, n19, q19, hpg, o1, o2, o3, o4, hcg, hgl, hglf, hzl, hzs3]; rfl⟩ ⟨rfl, W_ret ?_⟩)
  refine ⟨rfl, _, ⟨_, rfl, ov⟩, hfin _ ⟨_, _, _, rfl⟩ ?_ ?_ ?_ ?_⟩
  · simp (decide := true) (disch := first | omega | (simp (decide := true) only [List.length_set, hl]; done) | fail) only [sims, evRegion, evOps, evOp, evG, evR, guardT, callee, opRes, pureR, binT, unT, T.cells, T.leaf, fillT, splice, Nat.reduceLT, Nat.reduceAdd, Nat.reduceMul, Nat.reduceLeDiff, Nat.reduceEqDiff, reduceIte, Int.reduceBEq, Int.reduceBNe, Int.reduceLT, Int.reduceLE, Int.reduceGT, Int.reduceGE, Int.reduceNeg, reduceCtorEq, hps, h8]
  · simp (decide := true) (disch := first | omega | (simp (decide := true) only [List.length_set, hl]; done) | fail) only [sims, evRegion, evOps, evOp, evG, evR, guardT, callee, opRes, pureR, binT, unT, T.cells, T.leaf, fillT, splice, Nat.reduceLT, Nat.reduceAdd, Nat.reduceMul, Nat.reduceLeDiff, Nat.reduceEqDiff, reduceIte, Int.reduceBEq, Int.reduceBNe, Int.reduceLT, Int.reduceLE, Int.reduceGT, Int.reduceGE, Int.reduceNeg, reduceCtorEq, hps, h9]
  · simp (decide := true) (disch := first | omega | (simp (decide := true) only [List.length_set, hl]; done) | fail) only [sims, evRegion, evOps, evOp, evG, evR, guardT, callee, opRes, pureR, binT, unT, T.cells, T.leaf, fillT, splice, Nat.reduceLT, Nat.reduceAdd, Nat.reduceMul, Nat.reduceLeDiff, Nat.reduceEqDiff, reduceIte, Int.reduceBEq, Int.reduceBNe, Int.reduceLT, Int.reduceLE, Int.reduceGT, Int.reduceGE, Int.reduceNeg, reduceCtorEq, hps]
  · simp (decide := true) (disch := first | omega | (simp (decide := true) only [List.length_set, hl]; done) | fail) only [sims, evRegion, evOps, evOp, evG, evR, guardT, callee, opRes, pureR, binT, unT, T.cells, T.leaf, fillT, splice, Nat.reduceLT, Nat.reduceAdd, Nat.reduceMul, Nat.reduceLeDiff, Nat.reduceEqDiff, reduceIte, Int.reduceBEq, Int.reduceBNe, Int.reduceLT, Int.reduceLE, Int.reduceGT, Int.reduceGE, Int.reduceNeg, reduceCtorEq, hps]
end Go.Proofs.Ythanlobfjpjegaa.Abs
