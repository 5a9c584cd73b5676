/- Lines that come, and lines in other states: the law's walk. -/
import Derived.Test.YthanlobfjpjegaaSet2
namespace Go.Proofs.Ythanlobfjpjegaa.Abs
open Go Go.RowKit Fn
set_option linter.unusedVariables false
set_option linter.unusedSimpArgs false
set_option linter.unnecessarySimpa false
set_option maxRecDepth 100000
set_option maxHeartbeats 1000000

theorem ap25 : ap 25 = some f25 := rfl
theorem p25 : f25.pure = true := rfl
theorem n25 : f25.nat = none := rfl
theorem ap26 : ap 26 = some f26 := rfl
theorem p26 : f26.pure = true := rfl
theorem n26 : f26.nat = none := rfl
theorem ap27 : ap 27 = some f27 := rfl
theorem p27 : f27.pure = true := rfl
theorem n27 : f27.nat = none := rfl
theorem ap28 : ap 28 = some f28 := rfl
theorem p28 : f28.pure = true := rfl
theorem n28 : f28.nat = none := rfl
theorem bus_fill (c : Cache) (hc : c.wf) (hfit : Fit c.sets) (ln : Nat) (hln : ln ≤ 4294967295) (st : Int) (data : List Int) (hd : data.length = 16 ∧ ∀ y ∈ data, (Lit.int .u8 y).wf = true) :
    ∃ u, E ap 25 [.agg [setsT c], .int .u32 (ln : Int), .int .i64 st, .agg (dataT data)] (.tup [u, .agg (fillR c ln st data).2.enc]) ∧ CacheOf (fillR c ln st data).1 u := by
  by_cases hb : st < 1 ∨ st > 3 ∨ c.sets.length = 0 ∨ (row c (seti c ln)).length = 0
  · have e : fillR c ln st data = (c.sets, zeroW) := if_pos hb
    rw [e]
    exact ⟨_, bus_fill_bad c hc ln hln st data hd.1 hb, cacheOf_sets c⟩
  · obtain ⟨v, h, u, rfl, o⟩ := bus_fill_ok c hc hfit ln hln st data hd (by omega) (by omega) (by omega)
    exact ⟨u, h, o⟩
theorem ref_fill (c : Cache) (hc : c.wf) (hfit : Fit c.sets) (ln : Nat) (hln : ln ≤ 4294967295) (st : Int) (data : List Int) (hd : data.length = 16 ∧ ∀ y ∈ data, (Lit.int .u8 y).wf = true) :
    ∃ u, E ap 26 [.agg [setsT c], .int .u32 (ln : Int), .int .i64 st, .agg (dataT data)] (.tup [u, .agg (fillR c ln st data).2.enc]) ∧ CacheOf (fillR c ln st data).1 u := by
  by_cases hb : st < 1 ∨ st > 3 ∨ c.sets.length = 0 ∨ (row c (seti c ln)).length = 0
  · have e : fillR c ln st data = (c.sets, zeroW) := if_pos hb
    rw [e]
    obtain ⟨v, h, u, rfl, o⟩ := ref_fill_bad c hc hfit ln hln st data hd.1 (by
      rcases hb with h | h | h | h
      · exact .inl h
      · exact .inr (.inl h)
      · exact .inr (.inr (victim_none c ln (.inl h)))
      · exact .inr (.inr (victim_none c ln (.inr h))))
    exact ⟨u, h, o⟩
  · obtain ⟨v, h, u, rfl, o⟩ := ref_fill_ok c hc hfit ln hln st data hd (by omega) (by omega) (by omega)
    exact ⟨u, h, o⟩
theorem bus_set_rows (c : Cache) (hc : c.wf) (hfit : Fit c.sets) (ln : Nat) (hln : ln ≤ 4294967295) (st : Int) :
    ∃ v, E ap 27 [.agg [setsT c], .int .u32 (ln : Int), .int .i64 st] v ∧ CacheOf (setR c ln st) v := by
  unfold setR
  cases hf : find c ln with
  | none => exact ⟨_, bus_set_bad c hc ln hln st (.inl hf), cacheOf_sets c⟩
  | some k =>
    by_cases hb : st < 0 ∨ st > 3
    · simp only [if_pos hb]
      exact ⟨_, bus_set_bad c hc ln hln st (.inr hb), cacheOf_sets c⟩
    · simp only [if_neg hb]
      exact bus_set_ok c hc hfit ln hln st k hf (by omega)
theorem fit_setR {c : Cache} (hfit : Fit c.sets) (ln : Nat) (st : Int) : Fit (setR c ln st) := by
  unfold setR
  cases hf : find c ln with
  | none => exact hfit
  | some k =>
    by_cases hb : st < 0 ∨ st > 3
    · simp only [if_pos hb]; exact hfit
    · simp only [if_neg hb]
      obtain ⟨hil, hkl⟩ := find_lt hf
      have hrow := fit_row hfit _ hil
      exact fit_set hfit _ _ ⟨by rw [List.length_set]; exact hrow.1, mem_setw hrow.2 k (setW_wf (wayN_wf hrow.2 hkl) (by omega))⟩
theorem fit_fillR {c : Cache} (hfit : Fit c.sets) (ln : Nat) (hln : ln ≤ 4294967295) (st : Int) (data : List Int) (hd : data.length = 16 ∧ ∀ y ∈ data, (Lit.int .u8 y).wf = true) : Fit (fillR c ln st data).1 ∧ (fillR c ln st data).2.wf := by
  by_cases hb : st < 1 ∨ st > 3 ∨ c.sets.length = 0 ∨ (row c (seti c ln)).length = 0
  · rw [show fillR c ln st data = (c.sets, zeroW) from if_pos hb]
    exact ⟨hfit, zeroW_wf⟩
  · rw [show fillR c ln st data = _ from if_neg hb]
    obtain ⟨hv1, hil, hkl⟩ := victim_lt c ln (by omega) (by omega)
    have hrow := fit_row hfit _ hil
    exact ⟨fit_touch (fit_set hfit _ _ ⟨by rw [List.length_set]; exact hrow.1, mem_setw hrow.2 _ (fillW_wf (wayN_wf hrow.2 hkl) hln (by omega) hd)⟩) _ _, goneW_wf (wayN_wf hrow.2 hkl) ln⟩
theorem frzL_fill (c : Cache) (ln : Int) (st : Int) (data : List Int) (g : Mem) : frzL ⟨g, 0⟩ frzDepth [.agg [setsT c], .int .u32 ln, .int .i64 st, .agg (dataT data)] = some ([.agg [setsT c], .int .u32 ln, .int .i64 st, .agg (dataT data)], []) := by
  have e0 : frz ⟨g, 0⟩ frzDepth (.agg [setsT c]) = some (.agg [setsT c], []) := rfl
  have e1 : frz ⟨g, 0⟩ frzDepth (.int .u32 ln) = some (.int .u32 ln, []) := rfl
  have e2 : frz ⟨g, 0⟩ frzDepth (.int .i64 st) = some (.int .i64 st, []) := rfl
  have e3 : frz ⟨g, 0⟩ frzDepth (.agg (dataT data)) = some (.agg (dataT data), []) := by
    show frz ⟨g, 0⟩ (11 + 1) _ = _
    rw [frz]
    simp only [frzAll_int (d := 10) _ (data_ints data)]
  unfold frzL
  simp only [frzAll, e0, e1, e2, e3, List.append_nil]
theorem Pure.CacheFills (a0 : Cache) (a1 : Line) (h0 : Cache.wf a0) (h1 : Line.wf a1) :
    ∃ k, evF ap k 6 [T.agg (a0.enc), T.agg (a1.enc)] = some (.bool true) := by
  refine E.get ?_
  obtain ⟨line, st, data⟩ := a1
  obtain ⟨hw1, hw2, hd⟩ := h1
  simp only at hw1 hw2 hd
  have hln := wf_u32 hw1
  obtain ⟨ln, rfl⟩ : ∃ ln : Nat, line = (ln : Int) := ⟨line.toNat, by omega⟩
  have hln : ln ≤ 4294967295 := by omega
  rw [cache_enc, show Line.enc ⟨(ln : Int), st, data⟩ = T.int .u32 (ln : Int) :: T.int .i64 st :: dataT data from rfl]
  refine E_body (F := f6) rfl rfl rfl ?_
  generalize hs0 : (_ : List T) ++ List.replicate _ T.undef = s0
  have e0 : s0.length = 61 ∧ rho s0 (.tmp 0) = .agg [setsT a0] ∧ rho s0 (.tmp 1) = .agg (T.int .u32 (ln : Int) :: T.int .i64 st :: dataT data) := by subst hs0; exact ⟨rfl, rfl, rfl⟩
  clear hs0
  obtain ⟨hl, e0, e1⟩ := e0
  have hcut : cut [setsT a0] 0 1 = [setsT a0] := rfl
  have hleaf : allLeaf [setsT a0] = true := rfl
  have hdl : (dataT data).length = 16 := by rw [data_len]; exact hd.1
  have hleaf2 : allLeaf (T.int .u32 (ln : Int) :: T.int .i64 st :: dataT data) = true := leaf_ints _ (fun x hx => by
    rcases List.mem_cons.mp hx with rfl | hx
    · exact ⟨_, _, rfl⟩
    rcases List.mem_cons.mp hx with rfl | hx
    · exact ⟨_, _, rfl⟩
    exact data_ints data x hx)
  have hlen2 : (T.int .u32 (ln : Int) :: T.int .i64 st :: dataT data).length = 18 := by rw [List.length_cons, List.length_cons, hdl]
  have hg0 : (T.int .u32 (ln : Int) :: T.int .i64 st :: dataT data)[0]? = some (.int .u32 (ln : Int)) := rfl
  have hg1 : (T.int .u32 (ln : Int) :: T.int .i64 st :: dataT data)[1]? = some (.int .i64 st) := rfl
  have hg2 : cut (T.int .u32 (ln : Int) :: T.int .i64 st :: dataT data) 2 16 = dataT data := by
    show (dataT data).take 16 = _
    rw [List.take_of_length_le (by omega)]
  obtain ⟨b, h8, hb⟩ := law_light a0 h0
  obtain ⟨n8', c8⟩ := h8.call ap8 (fun g => rfl)
  obtain ⟨n9', c9⟩ := (E_of awake_runs).call ap9 (fun g => rfl)
  have q8 := c8 n8' (Nat.le_refl _)
  have q9 := c9 n9' (Nat.le_refl _)
  generalize hle : (T.int .u32 (ln : Int) :: T.int .i64 st :: dataT data) = le at *
  refine W_seqn (W_region (fun k => by simp (decide := true) (disch := first | omega | (simp (decide := true) only [List.length_set, hl]; done) | fail) only [sims, evRegion, evOps, evOp, evG, evR, guardT, callee, opRes, pureR, binT, unT, T.cells, T.leaf, fillT, splice, Nat.reduceLT, Nat.reduceAdd, Nat.reduceMul, Nat.reduceLeDiff, Nat.reduceEqDiff, reduceIte, Int.reduceBEq, Int.reduceBNe, Int.reduceLT, Int.reduceLE, Int.reduceGT, Int.reduceGE, Int.reduceNeg, reduceCtorEq, hps, e0, e1, hleaf, hleaf2]; rfl) ⟨rfl, ?_⟩)
  cases b with
  | false =>
    refine W_seq (W_seqn (W_regionN ⟨n8', by simp (decide := true) (disch := first | omega | (simp (decide := true) only [List.length_set, hl]; done) | fail) only [sims, evRegion, evOps, evOp, evG, evR, guardT, callee, opRes, pureR, binT, unT, T.cells, T.leaf, fillT, splice, Nat.reduceLT, Nat.reduceAdd, Nat.reduceMul, Nat.reduceLeDiff, Nat.reduceEqDiff, reduceIte, Int.reduceBEq, Int.reduceBNe, Int.reduceLT, Int.reduceLE, Int.reduceGT, Int.reduceGE, Int.reduceNeg, reduceCtorEq, hps, hcut, ap8, p8, n8, q8]; rfl⟩ ⟨rfl, W_true (by simp (decide := true) (disch := first | omega | (simp (decide := true) only [List.length_set, hl]; done) | fail) only [sims, evRegion, evOps, evOp, evG, evR, guardT, callee, opRes, pureR, binT, unT, T.cells, T.leaf, fillT, splice, Nat.reduceLT, Nat.reduceAdd, Nat.reduceMul, Nat.reduceLeDiff, Nat.reduceEqDiff, reduceIte, Int.reduceBEq, Int.reduceBNe, Int.reduceLT, Int.reduceLE, Int.reduceGT, Int.reduceGE, Int.reduceNeg, reduceCtorEq] <;> rfl) ?_⟩))
    refine W_seqn (W_regionN ⟨n9', by simp (decide := true) (disch := first | omega | (simp (decide := true) only [List.length_set, hl]; done) | fail) only [sims, evRegion, evOps, evOp, evG, evR, guardT, callee, opRes, pureR, binT, unT, T.cells, T.leaf, fillT, splice, Nat.reduceLT, Nat.reduceAdd, Nat.reduceMul, Nat.reduceLeDiff, Nat.reduceEqDiff, reduceIte, Int.reduceBEq, Int.reduceBNe, Int.reduceLT, Int.reduceLE, Int.reduceGT, Int.reduceGE, Int.reduceNeg, reduceCtorEq, ap9, p9, n9, q9]; rfl⟩ ⟨rfl, W_ret ?_⟩)
    simp only [reduceCtorEq, false_and, false_or, or_false, exists_false, exists_const, ne_eq, not_false_eq_true, true_and, implies_true]
    refine fin_of (F := f6) rfl (fun _ => rfl) ?_
    simp (decide := true) (disch := first | omega | (simp (decide := true) only [List.length_set, hl]; done) | fail) only [sims, evRegion, evOps, evOp, evG, evR, guardT, callee, opRes, pureR, binT, unT, T.cells, T.leaf, fillT, splice, Nat.reduceLT, Nat.reduceAdd, Nat.reduceMul, Nat.reduceLeDiff, Nat.reduceEqDiff, reduceIte, Int.reduceBEq, Int.reduceBNe, Int.reduceLT, Int.reduceLE, Int.reduceGT, Int.reduceGE, Int.reduceNeg, reduceCtorEq]
  | true =>
    have hfit := fit_cache h0 (hb rfl)
    obtain ⟨hfF, hgw⟩ := fit_fillR hfit ln hln st data hd
    have hfS := fit_setR hfit ln st
    obtain ⟨u1, hu1, o1⟩ := bus_fill a0 h0 hfit ln hln st data hd
    obtain ⟨u2, hu2, o2⟩ := ref_fill a0 h0 hfit ln hln st data hd
    obtain ⟨u3, hu3, o3⟩ := bus_set_rows a0 h0 hfit ln hln st
    obtain ⟨u4, hu4, o4⟩ := ref_set_rows a0 h0 hfit ln hln st
    obtain ⟨M1, k1⟩ := hu1.call ap25 (frzL_fill a0 _ st data)
    obtain ⟨M2, k2⟩ := hu2.call ap26 (frzL_fill a0 _ st data)
    obtain ⟨M3, k3⟩ := hu3.call ap27 (fun g => rfl)
    obtain ⟨M4, k4⟩ := hu4.call ap28 (fun g => rfl)
    obtain ⟨M5, k5⟩ := (same_of hfF o1 o2).call ap11 (fun g => frzL_two (cacheOf_frz o1 _) (cacheOf_frz o2 _))
    obtain ⟨M6, k6⟩ := (same_of hfS o3 o4).call ap11 (fun g => frzL_two (cacheOf_frz o3 _) (cacheOf_frz o4 _))
    have hcf := conf_way (fillR a0 ln st data).2 hgw
    have heq := eq_way (fillR a0 ln st data).2
    have hwl := way_len hgw
    have hwlf := leaf_ints _ (way_ints (fillR a0 ln st data).2)
    have hzl : zeroW.enc.length = 19 := rfl
    have hzleaf := zenc_leaf
    have hzs : splice zeroW.enc 0 (fillR a0 ln st data).2.enc = (fillR a0 ln st data).2.enc := splice_all (by rw [hwl]; rfl)
    have hcw : cut (fillR a0 ln st data).2.enc 0 19 = (fillR a0 ln st data).2.enc := cut_all hwl
    obtain ⟨fa, ya, rfl, _⟩ := id o1
    obtain ⟨fb, yb, rfl, _⟩ := id o2
    generalize (fillR a0 ln st data).2.enc = gw at *
    generalize (fillR a0 ln st data).1 = R1 at *
    have hca : cut [T.imm fa R1.length ya] 0 1 = [T.imm fa R1.length ya] := rfl
    have hcb : cut [T.imm fb R1.length yb] 0 1 = [T.imm fb R1.length yb] := rfl
    have hbody : f6.body = f6.body := rfl
    conv at hbody => rhs; simp only [f6]
    simp only [← zero_enc] at hbody
    have hgo := hbody
    clear hbody
    generalize hM : n9' + M1 + M2 + M3 + M4 + M5 + M6 = M
    have r9 := c9 M (by omega)
    have r1 := k1 M (by omega)
    have r2 := k2 M (by omega)
    have r3 := k3 M (by omega)
    have r4 := k4 M (by omega)
    have r5 := k5 M (by omega)
    have r6 := k6 M (by omega)
    generalize hdt : dataT data = dt at *
    have hzu : [T.int .i64 0, T.int .u32 0, T.int .u8 0, T.int .u8 0, T.int .u8 0, T.int .u8 0, T.int .u8 0, T.int .u8 0, T.int .u8 0, T.int .u8 0, T.int .u8 0, T.int .u8 0, T.int .u8 0, T.int .u8 0, T.int .u8 0, T.int .u8 0, T.int .u8 0, T.int .u8 0, T.int .i64 0] = zeroW.enc := rfl
    generalize zeroW.enc = zc at *
    refine W_seqn (W_seqn (W_regionN ⟨n8', by simp (decide := true) (disch := first | omega | (simp (decide := true) only [List.length_set, hl]; done) | fail) only [sims, evRegion, evOps, evOp, evG, evR, guardT, callee, opRes, pureR, binT, unT, T.cells, T.leaf, fillT, splice, Nat.reduceLT, Nat.reduceAdd, Nat.reduceMul, Nat.reduceLeDiff, Nat.reduceEqDiff, reduceIte, Int.reduceBEq, Int.reduceBNe, Int.reduceLT, Int.reduceLE, Int.reduceGT, Int.reduceGE, Int.reduceNeg, reduceCtorEq, hps, hcut, ap8, p8, n8, q8]; rfl⟩ ⟨rfl, W_false (by simp (decide := true) (disch := first | omega | (simp (decide := true) only [List.length_set, hl]; done) | fail) only [sims, evRegion, evOps, evOp, evG, evR, guardT, callee, opRes, pureR, binT, unT, T.cells, T.leaf, fillT, splice, Nat.reduceLT, Nat.reduceAdd, Nat.reduceMul, Nat.reduceLeDiff, Nat.reduceEqDiff, reduceIte, Int.reduceBEq, Int.reduceBNe, Int.reduceLT, Int.reduceLE, Int.reduceGT, Int.reduceGE, Int.reduceNeg, reduceCtorEq] <;> rfl) (W_skip ⟨rfl, ?_⟩)⟩))
    refine W_seqn (W_regionN ⟨M, by simp (decide := true) (disch := first | omega | (simp (decide := true) only [List.length_set, hl]; done) | fail) only [sims, evRegion, evOps, evOp, evG, evR, guardT, callee, opRes, pureR, binT, unT, T.cells, T.leaf, fillT, splice, Nat.reduceLT, Nat.reduceAdd, Nat.reduceMul, Nat.reduceLeDiff, Nat.reduceEqDiff, reduceIte, Int.reduceBEq, Int.reduceBNe, Int.reduceLT, Int.reduceLE, Int.reduceGT, Int.reduceGE, Int.reduceNeg, reduceCtorEq, hps, hzu, hcut, hlen2, hg0, hg1, hg2, ap25, p25, n25, r1, hzl, hzleaf, hwl, hwlf, hzs]; rfl⟩ ⟨rfl, ?_⟩)
    refine W_seqn (W_regionN ⟨M, by simp (decide := true) (disch := first | omega | (simp (decide := true) only [List.length_set, hl]; done) | fail) only [sims, evRegion, evOps, evOp, evG, evR, guardT, callee, opRes, pureR, binT, unT, T.cells, T.leaf, fillT, splice, Nat.reduceLT, Nat.reduceAdd, Nat.reduceMul, Nat.reduceLeDiff, Nat.reduceEqDiff, reduceIte, Int.reduceBEq, Int.reduceBNe, Int.reduceLT, Int.reduceLE, Int.reduceGT, Int.reduceGE, Int.reduceNeg, reduceCtorEq, hps, hzu, hcut, hlen2, hg0, hg1, hg2, ap26, p26, n26, r2, hzl, hzleaf, hwl, hwlf, hzs]; rfl⟩ ⟨rfl, ?_⟩)
    refine W_seqn (W_regionN ⟨M, by simp (decide := true) (disch := first | omega | (simp (decide := true) only [List.length_set, hl]; done) | fail) only [sims, evRegion, evOps, evOp, evG, evR, guardT, callee, opRes, pureR, binT, unT, T.cells, T.leaf, fillT, splice, Nat.reduceLT, Nat.reduceAdd, Nat.reduceMul, Nat.reduceLeDiff, Nat.reduceEqDiff, reduceIte, Int.reduceBEq, Int.reduceBNe, Int.reduceLT, Int.reduceLE, Int.reduceGT, Int.reduceGE, Int.reduceNeg, reduceCtorEq, hps, hcut, hlen2, hg0, hg1, hca, hcb, hwl, hcw, hcf, heq, ap9, p9, n9, r9, ap27, p27, n27, ap28, p28, n28, ap11, p11, n11, r3, r4, r5, r6]; rfl⟩ ⟨rfl, W_ret ?_⟩)
    refine fin_of (F := f6) rfl (fun _ => rfl) ?_
    simp (decide := true) (disch := first | omega | (simp (decide := true) only [List.length_set, hl]; done) | fail) only [sims, evRegion, evOps, evOp, evG, evR, guardT, callee, opRes, pureR, binT, unT, T.cells, T.leaf, fillT, splice, Nat.reduceLT, Nat.reduceAdd, Nat.reduceMul, Nat.reduceLeDiff, Nat.reduceEqDiff, reduceIte, Int.reduceBEq, Int.reduceBNe, Int.reduceLT, Int.reduceLE, Int.reduceGT, Int.reduceGE, Int.reduceNeg, reduceCtorEq]
end Go.Proofs.Ythanlobfjpjegaa.Abs
