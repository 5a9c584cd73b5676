/- The program's threads behind an operation. -/
import Derived.Test.YtmihmodlilebbaaAfter
namespace Go.Proofs.Ytmihmodlilebbaa.Abs
open Go Go.RowKit Fn
set_option linter.unusedVariables false
set_option linter.unusedSimpArgs false
set_option linter.unnecessarySimpa false
set_option maxRecDepth 100000
set_option maxHeartbeats 1000000

theorem ap24 : ap 24 = some f24 := rfl
theorem p24 : f24.pure = true := rfl
theorem n24 : f24.nat = none := rfl
theorem frz_bus {g : Mem} {nx : Nat} {p : List (List Op)} {m8 : List Int} {n : Int} {fs : List Nat} {ss : List T} {S : List (List Int)} (h : SeenO g ss S) : ∃ ss', SeenT ss' S ∧ ∃ ids, frz ⟨g, nx⟩ frzDepth (.agg (busC (pT p) (wordsT m8) (.int .i64 n) (intsT fs) ss)) = some (.agg (busC (pT p) (wordsT m8) (.int .i64 n) (intsT fs) ss'), ids) := by
  obtain ⟨ss', h1, h2⟩ := frz_seenO (nx := nx) (d := 9) h
  refine ⟨ss', h1, frz_agg (d := 11) ?_⟩
  unfold busC
  refine frzAll_app (a := [pT p]) (a' := [pT p]) (frzAll_still (d := 10) (fun x hx => by rw [List.mem_singleton] at hx; subst hx; trivial)) (frzAll_app (frzAll_still (d := 10) (words_still _)) (frzAll_app (a := [.int .i64 n]) (a' := [.int .i64 n]) (frzAll_still (d := 10) (fun x hx => by rw [List.mem_singleton] at hx; subst hx; trivial)) (frzAll_app (frzAll_still (d := 10) (ints_still _)) h2)))
theorem seenO_get {g : Mem} {ss : List T} {S : List (List Int)} (h : SeenT ss S) {j : Nat} {l : List Int} (hj : S[j]? = some l) : ∃ f, ss[j]? = some (.imm f l.length (wordsT l)) := seenT_get h hj
def z14 : List T := [(.imm true 0 []), (.int .u32 0), (.int .u32 0), (.int .u32 0), (.int .u32 0), (.int .u32 0), (.int .u32 0), (.int .u32 0), (.int .u32 0), (.int .i64 0), (.int .i64 0), (.int .i64 0), (.imm true 0 []), (.imm true 0 [])]
theorem bus_after (p : List (List Op)) (hR : RightP p) (s : PS) (hG : Good p s) (t : T) (hB : BusS p s t) (w : Nat) (hw : w < p.length) (hlf : farN s w < (thr p w).length) : ∃ v, E ap 24 [t, .int .i64 (w : Int)] v ∧ BusS p (stepS p s w) v := by
  obtain ⟨ss, rfl, hS⟩ := hB
  refine E_bodyV (F := f24) rfl rfl rfl (P := BusS p (stepS p s w)) ?_
  have hw2 : w < 2 := by have := hR.1; omega
  have hm8 : (wordsT (padM s.mem)).length = 8 := by rw [words_len, padM_len hG.1]
  have hfl : (intsT (padF s.far)).length = 2 := by rw [ints_len, padF_len (by rw [hG.2.1]; exact hR.1)]
  have hsl : ss.length = 2 := by rw [hS.1, padS_len (by rw [hG.2.2.1]; exact hR.1)]
  have hpT : thr p w = p[w] := thr_eq hw
  have hpt : pT p = .imm false p.length (p.flatMap (fun l => [rowT l])) := rfl
  have hpl := p_len p
  have hpr := p_row p w hw
  rw [← hpT] at hpr
  rw [show rowT (thr p w) = .imm false (thr p w).length ((thr p w).flatMap Op.enc) from rfl] at hpr
  obtain ⟨hgf, hgs⟩ := hG.2.2.2 w hw
  have hthr8 : (thr p w).length ≤ 8 := by rw [hpT]; exact hR.2 w hw
  have hol := ops_len (thr p w)
  have hoc := op_cut (thr p w) (farN s w) hlf
  have hoN : opN p s w = (thr p w)[farN s w] := by unfold opN; rw [List.getElem?_eq_getElem hlf]; rfl
  rw [← hoN] at hoc
  have hfarI := ints_get' (by rw [padF_get _ _ (by rw [hG.2.1]; exact hw)]; exact far_get hG hw : (padF s.far)[w]? = some (farN s w))
  obtain ⟨fs0, hsg⟩ := seenT_get hS (by rw [padS_get _ _ (by rw [hG.2.2.1]; exact hw)]; exact seen_get hG hw : (padS s.seen)[w]? = some (seenN s w))
  have hfset : intsT (padF (stepS p s w).far) = (intsT (padF s.far)).set w (.int .i64 ((farN s w + 1 : Nat) : Int)) := by
    show intsT (padF (s.far.set w (farN s w + 1))) = _
    rw [padF_set _ _ _ (by rw [hG.2.1]; exact hw), ints_set]
  have hclf := leaf_still (bus_still (p := p) (m8 := padM s.mem) (n := (s.mem.length : Int)) (fs := padF s.far) hS)
  have hlen := fun (fs ss : List T) (h2 : fs.length = 2) (h3 : ss.length = 2) => busC_len (pc := pT p) (lc := .int .i64 (s.mem.length : Int)) hm8 h2 h3
  have hcl := hlen _ ss hfl hsl
  have hc0 : (busC (pT p) (wordsT (padM s.mem)) (.int .i64 (s.mem.length : Int)) (intsT (padF s.far)) ss)[0]? = some (pT p) := rfl
  have hcfar := busC_far (pc := pT p) (lc := .int .i64 (s.mem.length : Int)) (ss := ss) hm8 hfl w hw2
  rw [hfarI] at hcfar
  have hcset := busC_setfar (pc := pT p) (lc := .int .i64 (s.mem.length : Int)) (ss := ss) hm8 hfl w hw2 (.int .i64 ((farN s w + 1 : Nat) : Int))
  rw [← hfset] at hcset
  have hfl2 : (intsT (padF (stepS p s w).far)).length = 2 := by rw [hfset, List.length_set]; exact hfl
  generalize hs0 : (_ : List T) ++ List.replicate _ T.undef = s0
  have e0 : s0.length = 85 ∧ rho s0 (.tmp 0) = .agg (busC (pT p) (wordsT (padM s.mem)) (.int .i64 (s.mem.length : Int)) (intsT (padF s.far)) ss) ∧ rho s0 (.tmp 1) = .int .i64 (w : Int) := by subst hs0; exact ⟨rfl, rfl, rfl⟩
  clear hs0
  obtain ⟨hl, h0, h1⟩ := e0
  have hstep : stepS p s w = ⟨memS s (opN p s w), s.far.set w (farN s w + 1), seenS s w (opN p s w)⟩ := rfl
  generalize hoE : opN p s w = o at *
  have hoel : o.enc.length = 3 := rfl
  have hoelf : allLeaf o.enc = true := rfl
  have hok : o.enc[0]? = some (.int .i64 o.kind) := rfl
  have holc : o.enc[1]? = some (.int .i64 o.loc) := rfl
  have hov : o.enc[2]? = some (.int .u32 o.val) := rfl
  have hosp : splice [T.int .i64 0, T.int .i64 0, T.int .u32 0] 0 o.enc = o.enc := splice_all rfl
  have hadd : IntKind.i64.wrap ((farN s w : Int) + 1) = ((farN s w + 1 : Nat) : Int) := by rw [wrap_id (by omega)]; omega
  have hb1 : w * 1 + 1 ≤ p.length := by omega
  have hb2 : 10 + w * 1 + 1 ≤ 14 := by omega
  have hb3 : farN s w * 3 + 3 ≤ (thr p w).length * 3 := by omega
  have hz : allLeaf z14 = true := rfl
  have hzu : [(T.imm true 0 []), (.int .u32 0), (.int .u32 0), (.int .u32 0), (.int .u32 0), (.int .u32 0), (.int .u32 0), (.int .u32 0), (.int .u32 0), (.int .i64 0), (.int .i64 0), (.int .i64 0), (.imm true 0 []), (.imm true 0 [])] = z14 := rfl
  have hzl : z14.length = 14 := rfl
  generalize hoe : o.enc = oe at *
  generalize hC1 : busC (pT p) (wordsT (padM s.mem)) (.int .i64 (s.mem.length : Int)) (intsT (padF s.far)) ss = C1 at *
  rw [hpt] at hc0
  generalize z14 = zz at *
  refine W_seqn (W_region (fun k => by simp (decide := true) (disch := first | omega | (simp (decide := true) only [List.length_set, hl]; done) | fail) only [sims, evRegion, evOps, evOp, evG, evR, guardT, callee, opRes, pureR, binT, unT, T.cells, T.leaf, fillT, splice, Nat.reduceLT, Nat.reduceAdd, Nat.reduceMul, Nat.reduceLeDiff, Nat.reduceEqDiff, reduceIte, Int.reduceBEq, Int.reduceBNe, Int.reduceLT, Int.reduceLE, Int.reduceGT, Int.reduceGE, Int.reduceNeg, reduceCtorEq, hps, hzu, h0, hclf, hz]; rfl) ⟨rfl, ?_⟩)
  refine W_seqn (W_region (fun k => by simp (decide := true) (disch := first | omega | (simp (decide := true) only [List.length_set, hl]; done) | fail) only [sims, evRegion, evOps, evOp, evG, evR, guardT, callee, opRes, pureR, binT, unT, T.cells, T.leaf, fillT, splice, Nat.reduceLT, Nat.reduceAdd, Nat.reduceMul, Nat.reduceLeDiff, Nat.reduceEqDiff, reduceIte, Int.reduceBEq, Int.reduceBNe, Int.reduceLT, Int.reduceLE, Int.reduceGT, Int.reduceGE, Int.reduceNeg, reduceCtorEq, hps, h1, hcl, hc0, hpl, hw, hb1, hpr, hw2, hb2, hcfar, hlf, hol, hb3, hoc, hoel, hoelf, hosp]; rfl) ⟨rfl, ?_⟩)
  refine W_seqn (W_region (fun k => by simp (decide := true) (disch := first | omega | (simp (decide := true) only [List.length_set, hl]; done) | fail) only [sims, evRegion, evOps, evOp, evG, evR, guardT, callee, opRes, pureR, binT, unT, T.cells, T.leaf, fillT, splice, Nat.reduceLT, Nat.reduceAdd, Nat.reduceMul, Nat.reduceLeDiff, Nat.reduceEqDiff, reduceIte, Int.reduceBEq, Int.reduceBNe, Int.reduceLT, Int.reduceLE, Int.reduceGT, Int.reduceGE, Int.reduceNeg, reduceCtorEq, hps, h1, hcl, hw2, hb2, hcfar, hadd, hcset]; rfl) ⟨rfl, ?_⟩)
  have hcl2 := hlen _ ss hfl2 hsl
  have hclc := busC_lc (pc := pT p) (lc := .int .i64 (s.mem.length : Int)) (fs := intsT (padF (stepS p s w).far)) (ss := ss) hm8
  have hcmem := fun j hj => busC_mem (pc := pT p) (lc := .int .i64 (s.mem.length : Int)) (fs := intsT (padF (stepS p s w).far)) (ss := ss) hm8 j hj
  have hcseen := busC_seen (pc := pT p) (lc := .int .i64 (s.mem.length : Int)) (ss := ss) hm8 hfl2 w
  rw [hsg] at hcseen
  have hcss := fun v => busC_setseen (pc := pT p) (lc := .int .i64 (s.mem.length : Int)) (ss := ss) hm8 hfl2 w v
  have hC2 : ∀ ss', busC (pT p) (wordsT (padM s.mem)) (.int .i64 (s.mem.length : Int)) (intsT (padF (stepS p s w).far)) ss' = busC (pT p) (wordsT (padM s.mem)) (.int .i64 (s.mem.length : Int)) (intsT (padF (stepS p s w).far)) ss' := fun _ => rfl
  generalize hC2 : busC (pT p) (wordsT (padM s.mem)) (.int .i64 (s.mem.length : Int)) (intsT (padF (stepS p s w).far)) ss = C2 at *
  refine W_cut (fun st => st.s.length = 85 ∧ rho st.s (.tmp 1) = .int .i64 (w : Int) ∧ rho st.s (.tmp 2) = .ptr 0 0 ∧ rho st.s (.tmp 4) = .ptr 1 0 ∧ rho st.s (.tmp 5) = .ptr 13 0 ∧ rho st.s (.tmp 6) = .bool (decide (isL s o)) ∧ st.g 0 = some C2 ∧ st.g 1 = some zz ∧ st.g 13 = some oe ∧ 14 ≤ st.nx) ?_ ?_
  · by_cases hl0 : o.loc ≥ 0
    · have d1 : decide (o.loc ≥ 0) = true := decide_eq_true hl0
      have hd : decide (o.loc < (s.mem.length : Int)) = decide (isL s o) := decide_eq_decide.mpr ⟨fun h => ⟨hl0, h⟩, fun h => h.2⟩
      refine W_region (fun k => by simp (decide := true) (disch := first | omega | (simp (decide := true) only [List.length_set, hl]; done) | fail) only [sims, evRegion, evOps, evOp, evG, evR, guardT, callee, opRes, pureR, binT, unT, T.cells, T.leaf, fillT, splice, Nat.reduceLT, Nat.reduceAdd, Nat.reduceMul, Nat.reduceLeDiff, Nat.reduceEqDiff, reduceIte, Int.reduceBEq, Int.reduceBNe, Int.reduceLT, Int.reduceLE, Int.reduceGT, Int.reduceGE, Int.reduceNeg, reduceCtorEq, hps, hcl2, hoel, holc, hclc, d1, hd]; rfl) ⟨rfl, ?_⟩
      refine ⟨?_, ?_, ?_, ?_, ?_, ?_, ?_, ?_, ?_, by show 14 ≤ 0 + 2 + 13 + 8 + 11; omega⟩
      all_goals simp (decide := true) (disch := first | omega | (simp (decide := true) only [List.length_set, hl]; done) | fail) only [sims, evRegion, evOps, evOp, evG, evR, guardT, callee, opRes, pureR, binT, unT, T.cells, T.leaf, fillT, splice, Nat.reduceLT, Nat.reduceAdd, Nat.reduceMul, Nat.reduceLeDiff, Nat.reduceEqDiff, reduceIte, Int.reduceBEq, Int.reduceBNe, Int.reduceLT, Int.reduceLE, Int.reduceGT, Int.reduceGE, Int.reduceNeg, reduceCtorEq, hps, hl, h1]
    · have d1 : decide (o.loc ≥ 0) = false := decide_eq_false hl0
      have hd : decide (isL s o) = false := decide_eq_false (fun h => hl0 h.1)
      rw [hd]
      refine W_region (fun k => by simp (decide := true) (disch := first | omega | (simp (decide := true) only [List.length_set, hl]; done) | fail) only [sims, evRegion, evOps, evOp, evG, evR, guardT, callee, opRes, pureR, binT, unT, T.cells, T.leaf, fillT, splice, Nat.reduceLT, Nat.reduceAdd, Nat.reduceMul, Nat.reduceLeDiff, Nat.reduceEqDiff, reduceIte, Int.reduceBEq, Int.reduceBNe, Int.reduceLT, Int.reduceLE, Int.reduceGT, Int.reduceGE, Int.reduceNeg, reduceCtorEq, hps, hcl2, hoel, holc, hclc, d1]; rfl) ⟨rfl, ?_⟩
      refine ⟨?_, ?_, ?_, ?_, ?_, ?_, ?_, ?_, ?_, by show 14 ≤ 0 + 2 + 13 + 8 + 11; omega⟩
      all_goals simp (decide := true) (disch := first | omega | (simp (decide := true) only [List.length_set, hl]; done) | fail) only [sims, evRegion, evOps, evOp, evG, evR, guardT, callee, opRes, pureR, binT, unT, T.cells, T.leaf, fillT, splice, Nat.reduceLT, Nat.reduceAdd, Nat.reduceMul, Nat.reduceLeDiff, Nat.reduceEqDiff, reduceIte, Int.reduceBEq, Int.reduceBNe, Int.reduceLT, Int.reduceLE, Int.reduceGT, Int.reduceGE, Int.reduceNeg, reduceCtorEq, hps, hl, h1]
  clear hl h0 h1
  rintro ⟨sl, g, nx⟩ ⟨hl, h1, h2, h4, h5, h6, g0, g1, g13, hnx⟩
  simp only at hl h1 h2 h4 h5 h6 g0 g1 g13 hnx
  refine W_cut (fun st => st.s.length = 85 ∧ rho st.s (.tmp 2) = .ptr 0 0 ∧ rho st.s (.tmp 4) = .ptr 1 0 ∧ rho st.s (.tmp 5) = .ptr 13 0 ∧ rho st.s (.tmp 6) = .bool (decide (isL s o)) ∧ st.g 1 = some zz ∧ st.g 13 = some oe ∧ ∃ ss2, st.g 0 = some (busC (pT p) (wordsT (padM s.mem)) (.int .i64 (s.mem.length : Int)) (intsT (padF (stepS p s w).far)) ss2) ∧ SeenO st.g ss2 (padS (seenS s w o)) ∧ ss2.length = 2) ?_ ?_
  · have skip : ¬ rds o → ∀ st : St, (st.s.length = 85 ∧ rho st.s (.tmp 2) = .ptr 0 0 ∧ rho st.s (.tmp 4) = .ptr 1 0 ∧ rho st.s (.tmp 5) = .ptr 13 0 ∧ rho st.s (.tmp 6) = .bool (decide (isL s o)) ∧ st.g 0 = some C2 ∧ st.g 1 = some zz ∧ st.g 13 = some oe) → (st.s.length = 85 ∧ rho st.s (.tmp 2) = .ptr 0 0 ∧ rho st.s (.tmp 4) = .ptr 1 0 ∧ rho st.s (.tmp 5) = .ptr 13 0 ∧ rho st.s (.tmp 6) = .bool (decide (isL s o)) ∧ st.g 1 = some zz ∧ st.g 13 = some oe ∧ ∃ ss2, st.g 0 = some (busC (pT p) (wordsT (padM s.mem)) (.int .i64 (s.mem.length : Int)) (intsT (padF (stepS p s w).far)) ss2) ∧ SeenO st.g ss2 (padS (seenS s w o)) ∧ ss2.length = 2) := by
      rintro hno st ⟨a, b, c, d, e, f, g, h⟩
      refine ⟨a, b, c, d, e, g, h, ss, by rw [hC2]; exact f, ?_, hsl⟩
      unfold seenS
      rw [if_neg hno]
      exact seenO_of hS
    have read : rds o → ∀ st : St, (st.s.length = 85 ∧ rho st.s (.tmp 1) = .int .i64 (w : Int) ∧ rho st.s (.tmp 2) = .ptr 0 0 ∧ rho st.s (.tmp 4) = .ptr 1 0 ∧ rho st.s (.tmp 5) = .ptr 13 0 ∧ rho st.s (.tmp 6) = .bool (decide (isL s o)) ∧ st.g 0 = some C2 ∧ st.g 1 = some zz ∧ st.g 13 = some oe ∧ 14 ≤ st.nx) → W ap (match f24.body with | .seq _ (.seq _ (.seq _ (.seq _ (.seq (.seq _ (.cond _ c _)) _)))) => c | _ => .skip) st (fun e st => e = .normal ∧ (st.s.length = 85 ∧ rho st.s (.tmp 2) = .ptr 0 0 ∧ rho st.s (.tmp 4) = .ptr 1 0 ∧ rho st.s (.tmp 5) = .ptr 13 0 ∧ rho st.s (.tmp 6) = .bool (decide (isL s o)) ∧ st.g 1 = some zz ∧ st.g 13 = some oe ∧ ∃ ss2, st.g 0 = some (busC (pT p) (wordsT (padM s.mem)) (.int .i64 (s.mem.length : Int)) (intsT (padF (stepS p s w).far)) ss2) ∧ SeenO st.g ss2 (padS (seenS s w o)) ∧ ss2.length = 2)) := by
      rintro hrd ⟨sl, g, nx⟩ ⟨hl, h1, h2, h4, h5, h6, g0, g1, g13, hnx⟩
      simp only at hl h1 h2 h4 h5 h6 g0 g1 g13 hnx
      simp only [f24]
      refine W_seqn (W_region (fun k => by simp (decide := true) (disch := first | omega | (simp (decide := true) only [List.length_set, hl]; done) | fail) only [sims, evRegion, evOps, evOp, evG, evR, guardT, callee, opRes, pureR, binT, unT, T.cells, T.leaf, fillT, splice, Nat.reduceLT, Nat.reduceAdd, Nat.reduceMul, Nat.reduceLeDiff, Nat.reduceEqDiff, reduceIte, Int.reduceBEq, Int.reduceBNe, Int.reduceLT, Int.reduceLE, Int.reduceGT, Int.reduceGE, Int.reduceNeg, reduceCtorEq]; rfl) ⟨rfl, ?_⟩)
      refine W_cut (fun st => st.s.length = 85 ∧ rho st.s (.tmp 1) = .int .i64 (w : Int) ∧ rho st.s (.tmp 2) = .ptr 0 0 ∧ rho st.s (.tmp 4) = .ptr 1 0 ∧ rho st.s (.tmp 5) = .ptr 13 0 ∧ rho st.s (.tmp 6) = .bool (decide (isL s o)) ∧ rho st.s (.tmp 7) = .int .u32 (valL s o) ∧ st.g = g ∧ 14 ≤ st.nx) ?_ ?_
      · by_cases his : isL s o
        · rw [decide_eq_true his] at h6 ⊢
          obtain ⟨j, hj⟩ : ∃ j : Nat, o.loc = j := ⟨o.loc.toNat, by have := his.1; omega⟩
          have hjm : j < s.mem.length := by have := his.2; omega
          have hj8 : j < 8 := by have := hG.1; omega
          have hv : valL s o = s.mem[j] := by unfold valL; rw [if_pos his, hj, Int.toNat_natCast, List.getElem?_eq_getElem hjm]; rfl
          have hcm := hcmem j hj8
          rw [words_get' (by rw [padM_get _ _ hjm]; exact List.getElem?_eq_getElem hjm : (padM s.mem)[j]? = some s.mem[j])] at hcm
          rw [hj] at holc
          rw [hv]
          have hb4 : 1 + j * 1 + 1 ≤ 14 := by omega
          refine W_seqn (W_region (fun k => by simp (decide := true) (disch := first | omega | (simp (decide := true) only [List.length_set, hl]; done) | fail) only [sims, evRegion, evOps, evOp, evG, evR, guardT, callee, opRes, pureR, binT, unT, T.cells, T.leaf, fillT, splice, Nat.reduceLT, Nat.reduceAdd, Nat.reduceMul, Nat.reduceLeDiff, Nat.reduceEqDiff, reduceIte, Int.reduceBEq, Int.reduceBNe, Int.reduceLT, Int.reduceLE, Int.reduceGT, Int.reduceGE, Int.reduceNeg, reduceCtorEq, h6]; rfl) ⟨rfl, W_true (by simp (decide := true) (disch := first | omega | (simp (decide := true) only [List.length_set, hl]; done) | fail) only [sims, evRegion, evOps, evOp, evG, evR, guardT, callee, opRes, pureR, binT, unT, T.cells, T.leaf, fillT, splice, Nat.reduceLT, Nat.reduceAdd, Nat.reduceMul, Nat.reduceLeDiff, Nat.reduceEqDiff, reduceIte, Int.reduceBEq, Int.reduceBNe, Int.reduceLT, Int.reduceLE, Int.reduceGT, Int.reduceGE, Int.reduceNeg, reduceCtorEq] <;> rfl) ?_⟩)
          refine W_region (fun k => by simp (decide := true) (disch := first | omega | (simp (decide := true) only [List.length_set, hl]; done) | fail) only [sims, evRegion, evOps, evOp, evG, evR, guardT, callee, opRes, pureR, binT, unT, T.cells, T.leaf, fillT, splice, Nat.reduceLT, Nat.reduceAdd, Nat.reduceMul, Nat.reduceLeDiff, Nat.reduceEqDiff, reduceIte, Int.reduceBEq, Int.reduceBNe, Int.reduceLT, Int.reduceLE, Int.reduceGT, Int.reduceGE, Int.reduceNeg, reduceCtorEq, hps, h2, h5, g0, g13, hcl2, hoel, holc, hj8, hb4, hcm]; rfl) ⟨rfl, ?_⟩
          refine ⟨?_, ?_, ?_, ?_, ?_, ?_, ?_, rfl, by show 14 ≤ nx + 1 + 1 + 6; omega⟩
          all_goals simp (decide := true) (disch := first | omega | (simp (decide := true) only [List.length_set, hl]; done) | fail) only [sims, evRegion, evOps, evOp, evG, evR, guardT, callee, opRes, pureR, binT, unT, T.cells, T.leaf, fillT, splice, Nat.reduceLT, Nat.reduceAdd, Nat.reduceMul, Nat.reduceLeDiff, Nat.reduceEqDiff, reduceIte, Int.reduceBEq, Int.reduceBNe, Int.reduceLT, Int.reduceLE, Int.reduceGT, Int.reduceGE, Int.reduceNeg, reduceCtorEq, hps, hl, h1, h2, h4, h5, h6]
        · rw [decide_eq_false his] at h6 ⊢
          have hv : valL s o = 0 := by unfold valL; rw [if_neg his]
          rw [hv]
          refine W_seqn (W_region (fun k => by simp (decide := true) (disch := first | omega | (simp (decide := true) only [List.length_set, hl]; done) | fail) only [sims, evRegion, evOps, evOp, evG, evR, guardT, callee, opRes, pureR, binT, unT, T.cells, T.leaf, fillT, splice, Nat.reduceLT, Nat.reduceAdd, Nat.reduceMul, Nat.reduceLeDiff, Nat.reduceEqDiff, reduceIte, Int.reduceBEq, Int.reduceBNe, Int.reduceLT, Int.reduceLE, Int.reduceGT, Int.reduceGE, Int.reduceNeg, reduceCtorEq, h6]; rfl) ⟨rfl, W_false (by simp (decide := true) (disch := first | omega | (simp (decide := true) only [List.length_set, hl]; done) | fail) only [sims, evRegion, evOps, evOp, evG, evR, guardT, callee, opRes, pureR, binT, unT, T.cells, T.leaf, fillT, splice, Nat.reduceLT, Nat.reduceAdd, Nat.reduceMul, Nat.reduceLeDiff, Nat.reduceEqDiff, reduceIte, Int.reduceBEq, Int.reduceBNe, Int.reduceLT, Int.reduceLE, Int.reduceGT, Int.reduceGE, Int.reduceNeg, reduceCtorEq] <;> rfl) (W_skip ⟨rfl, ?_⟩)⟩)
          refine ⟨?_, ?_, ?_, ?_, ?_, ?_, ?_, rfl, by show 14 ≤ nx + 1 + 1; omega⟩
          all_goals simp (decide := true) (disch := first | omega | (simp (decide := true) only [List.length_set, hl]; done) | fail) only [sims, evRegion, evOps, evOp, evG, evR, guardT, callee, opRes, pureR, binT, unT, T.cells, T.leaf, fillT, splice, Nat.reduceLT, Nat.reduceAdd, Nat.reduceMul, Nat.reduceLeDiff, Nat.reduceEqDiff, reduceIte, Int.reduceBEq, Int.reduceBNe, Int.reduceLT, Int.reduceLE, Int.reduceGT, Int.reduceGE, Int.reduceNeg, reduceCtorEq, hps, hl, h1, h2, h4, h5, h6]
      clear hl h1 h2 h4 h5 h6
      rintro ⟨sl, g', nx'⟩ ⟨hl, h1, h2, h4, h5, h6, h7, hgg, hnx'⟩
      simp only at hl h1 h2 h4 h5 h6 h7 hgg hnx'
      subst hgg
      have hwlen := words_len (seenN s w)
      have hwlf := leaf_still (words_still (seenN s w))
      have hb5 : 12 + w * 1 + 1 ≤ 14 := by omega
      have hr1 : ((seenN s w).length + 1) * 4 ≤ 549755813888 := by omega
      have hr2 : (seenN s w).length + 1 ≤ 549755813888 := by omega
      have hle0 : 0 ≤ (seenN s w).length := Nat.zero_le _
      have hle1 : (seenN s w).length ≤ (seenN s w).length := Nat.le_refl _
      have hsub : (seenN s w).length - 0 = (seenN s w).length := rfl
      have hz0 : 0 * 1 = 0 := rfl
      have hcw : cut (wordsT (seenN s w)) 0 ((seenN s w).length * 1) = wordsT (seenN s w) := cut_all (by rw [words_len]; omega)
      have hwa : wordsT (seenN s w ++ [valL s o]) = wordsT (seenN s w) ++ [.int .u32 (valL s o)] := words_app _ _
      have hc1 : cut [T.int .u32 (valL s o)] 0 1 = [T.int .u32 (valL s o)] := rfl
      have hmo : ((seenN s w).length = (seenN s w).length * 1) = True := by simp
      refine W_seqn (W_region (fun k => by simp (decide := true) (disch := first | omega | (simp (decide := true) only [List.length_set, hl]; done) | fail) only [sims, evRegion, evOps, evOp, evG, evR, guardT, callee, opRes, pureR, binT, unT, T.cells, T.leaf, fillT, splice, Nat.reduceLT, Nat.reduceAdd, Nat.reduceMul, Nat.reduceLeDiff, Nat.reduceEqDiff, reduceIte, Int.reduceBEq, Int.reduceBNe, Int.reduceLT, Int.reduceLE, Int.reduceGT, Int.reduceGE, Int.reduceNeg, reduceCtorEq, hps, h1, h2, g0, hcl2, hw2, hb5, hcseen]; rfl) ⟨rfl, ?_⟩)
      refine W_region (fun k => by simp (decide := true) (disch := first | omega | (simp (decide := true) only [List.length_set, hl]; done) | fail) only [sims, evRegion, evOps, evOp, evG, evR, guardT, callee, opRes, pureR, binT, unT, T.cells, T.leaf, fillT, splice, Nat.reduceLT, Nat.reduceAdd, Nat.reduceMul, Nat.reduceLeDiff, Nat.reduceEqDiff, reduceIte, Int.reduceBEq, Int.reduceBNe, Int.reduceLT, Int.reduceLE, Int.reduceGT, Int.reduceGE, Int.reduceNeg, reduceCtorEq, hps, cellsOf, h1, h2, h7, g0, hcl2, hw2, hb5, Option.map_none, Option.map_some, Option.isSome_some, hle0, hle1, hsub, hz0, hcw, hwlen, hwlf, hr1, hr2, hc1, hmo, beq_self_eq_true, List.all, hcss]; rfl) ⟨rfl, ?_⟩
      have hseen : seenS s w o = s.seen.set w (seenN s w ++ [valL s o]) := by unfold seenS; rw [if_pos hrd]
      have hso : SeenO (put1 (put1 (put1 g' (nx' + 5 + 8, some [.int .u32 (valL s o)])) (nx' + 5 + 9, some (wordsT (seenN s w ++ [valL s o])))) (0, some (busC (pT p) (wordsT (padM s.mem)) (.int .i64 (s.mem.length : Int)) (intsT (padF (stepS p s w).far)) (ss.set w (.own (nx' + 5 + 9) 0 (seenN s w ++ [valL s o]).length 1))))) (ss.set w (.own (nx' + 5 + 9) 0 (seenN s w ++ [valL s o]).length 1)) (padS (seenS s w o)) := by
        rw [hseen, padS_set _ _ _ (by rw [hG.2.2.1]; exact hw)]
        exact seenO_set (g := g') hS w (by rw [padS_len (by rw [hG.2.2.1]; exact hR.1)]; exact hw2) _ _ (by omega) (by rw [put1_ne (by omega)]; exact put1_eq)
      have hlap : (seenN s w ++ [valL s o]).length = (seenN s w).length + 1 := by rw [List.length_append]; rfl
      rw [hlap, hwa] at hso
      refine ⟨?_, ?_, ?_, ?_, ?_, ?_, ?_, _, ?_, hso, by rw [List.length_set]; exact hsl⟩
      all_goals first | (simp (decide := true) (disch := first | omega | (simp (decide := true) only [List.length_set, hl]; done) | fail) only [sims, evRegion, evOps, evOp, evG, evR, guardT, callee, opRes, pureR, binT, unT, T.cells, T.leaf, fillT, splice, Nat.reduceLT, Nat.reduceAdd, Nat.reduceMul, Nat.reduceLeDiff, Nat.reduceEqDiff, reduceIte, Int.reduceBEq, Int.reduceBNe, Int.reduceLT, Int.reduceLE, Int.reduceGT, Int.reduceGE, Int.reduceNeg, reduceCtorEq, hps, hl, h2, h4, h5, h6, g1, g13]; done) | (simp (decide := true) (disch := first | omega | (simp (decide := true) only [List.length_set, hl]; done) | fail) only [sims, evRegion, evOps, evOp, evG, evR, guardT, callee, opRes, pureR, binT, unT, T.cells, T.leaf, fillT, splice, Nat.reduceLT, Nat.reduceAdd, Nat.reduceMul, Nat.reduceLeDiff, Nat.reduceEqDiff, reduceIte, Int.reduceBEq, Int.reduceBNe, Int.reduceLT, Int.reduceLE, Int.reduceGT, Int.reduceGE, Int.reduceNeg, reduceCtorEq, hps, hl, h2, h4, h5, h6, g1, g13]; rfl)
    by_cases k1 : o.kind = 1
    · have e1 : (o.kind == 1) = true := by simp [k1]
      refine W_seqn (W_region (fun k => by simp (decide := true) (disch := first | omega | (simp (decide := true) only [List.length_set, hl]; done) | fail) only [sims, evRegion, evOps, evOp, evG, evR, guardT, callee, opRes, pureR, binT, unT, T.cells, T.leaf, fillT, splice, Nat.reduceLT, Nat.reduceAdd, Nat.reduceMul, Nat.reduceLeDiff, Nat.reduceEqDiff, reduceIte, Int.reduceBEq, Int.reduceBNe, Int.reduceLT, Int.reduceLE, Int.reduceGT, Int.reduceGE, Int.reduceNeg, reduceCtorEq, hps, h5, g13, hoel, hok, e1]; rfl) ⟨rfl, W_true (by simp (decide := true) (disch := first | omega | (simp (decide := true) only [List.length_set, hl]; done) | fail) only [sims, evRegion, evOps, evOp, evG, evR, guardT, callee, opRes, pureR, binT, unT, T.cells, T.leaf, fillT, splice, Nat.reduceLT, Nat.reduceAdd, Nat.reduceMul, Nat.reduceLeDiff, Nat.reduceEqDiff, reduceIte, Int.reduceBEq, Int.reduceBNe, Int.reduceLT, Int.reduceLE, Int.reduceGT, Int.reduceGE, Int.reduceNeg, reduceCtorEq] <;> rfl) ?_⟩)
      refine read (.inl k1) _ ⟨?_, ?_, ?_, ?_, ?_, ?_, ?_, ?_, ?_, by show 14 ≤ nx + 8; omega⟩
      all_goals first | (simp (decide := true) (disch := first | omega | (simp (decide := true) only [List.length_set, hl]; done) | fail) only [sims, evRegion, evOps, evOp, evG, evR, guardT, callee, opRes, pureR, binT, unT, T.cells, T.leaf, fillT, splice, Nat.reduceLT, Nat.reduceAdd, Nat.reduceMul, Nat.reduceLeDiff, Nat.reduceEqDiff, reduceIte, Int.reduceBEq, Int.reduceBNe, Int.reduceLT, Int.reduceLE, Int.reduceGT, Int.reduceGE, Int.reduceNeg, reduceCtorEq, hps, hl, h1, h2, h4, h5, h6, g0, g1, g13]; done) | (simp (decide := true) (disch := first | omega | (simp (decide := true) only [List.length_set, hl]; done) | fail) only [sims, evRegion, evOps, evOp, evG, evR, guardT, callee, opRes, pureR, binT, unT, T.cells, T.leaf, fillT, splice, Nat.reduceLT, Nat.reduceAdd, Nat.reduceMul, Nat.reduceLeDiff, Nat.reduceEqDiff, reduceIte, Int.reduceBEq, Int.reduceBNe, Int.reduceLT, Int.reduceLE, Int.reduceGT, Int.reduceGE, Int.reduceNeg, reduceCtorEq, hps, hl, h1, h2, h4, h5, h6, g0, g1, g13]; rfl)
    have e1 : (o.kind == 1) = false := beq_eq_false_iff_ne.mpr k1
    by_cases k4 : o.kind = 4
    · have e4 : (o.kind == 4) = true := by simp [k4]
      refine W_seqn (W_region (fun k => by simp (decide := true) (disch := first | omega | (simp (decide := true) only [List.length_set, hl]; done) | fail) only [sims, evRegion, evOps, evOp, evG, evR, guardT, callee, opRes, pureR, binT, unT, T.cells, T.leaf, fillT, splice, Nat.reduceLT, Nat.reduceAdd, Nat.reduceMul, Nat.reduceLeDiff, Nat.reduceEqDiff, reduceIte, Int.reduceBEq, Int.reduceBNe, Int.reduceLT, Int.reduceLE, Int.reduceGT, Int.reduceGE, Int.reduceNeg, reduceCtorEq, hps, h5, g13, hoel, hok, e1, e4]; rfl) ⟨rfl, W_true (by simp (decide := true) (disch := first | omega | (simp (decide := true) only [List.length_set, hl]; done) | fail) only [sims, evRegion, evOps, evOp, evG, evR, guardT, callee, opRes, pureR, binT, unT, T.cells, T.leaf, fillT, splice, Nat.reduceLT, Nat.reduceAdd, Nat.reduceMul, Nat.reduceLeDiff, Nat.reduceEqDiff, reduceIte, Int.reduceBEq, Int.reduceBNe, Int.reduceLT, Int.reduceLE, Int.reduceGT, Int.reduceGE, Int.reduceNeg, reduceCtorEq] <;> rfl) ?_⟩)
      refine read (.inr k4) _ ⟨?_, ?_, ?_, ?_, ?_, ?_, ?_, ?_, ?_, by show 14 ≤ nx + 8; omega⟩
      all_goals first | (simp (decide := true) (disch := first | omega | (simp (decide := true) only [List.length_set, hl]; done) | fail) only [sims, evRegion, evOps, evOp, evG, evR, guardT, callee, opRes, pureR, binT, unT, T.cells, T.leaf, fillT, splice, Nat.reduceLT, Nat.reduceAdd, Nat.reduceMul, Nat.reduceLeDiff, Nat.reduceEqDiff, reduceIte, Int.reduceBEq, Int.reduceBNe, Int.reduceLT, Int.reduceLE, Int.reduceGT, Int.reduceGE, Int.reduceNeg, reduceCtorEq, hps, hl, h1, h2, h4, h5, h6, g0, g1, g13]; done) | (simp (decide := true) (disch := first | omega | (simp (decide := true) only [List.length_set, hl]; done) | fail) only [sims, evRegion, evOps, evOp, evG, evR, guardT, callee, opRes, pureR, binT, unT, T.cells, T.leaf, fillT, splice, Nat.reduceLT, Nat.reduceAdd, Nat.reduceMul, Nat.reduceLeDiff, Nat.reduceEqDiff, reduceIte, Int.reduceBEq, Int.reduceBNe, Int.reduceLT, Int.reduceLE, Int.reduceGT, Int.reduceGE, Int.reduceNeg, reduceCtorEq, hps, hl, h1, h2, h4, h5, h6, g0, g1, g13]; rfl)
    · have e4 : (o.kind == 4) = false := beq_eq_false_iff_ne.mpr k4
      refine W_seqn (W_region (fun k => by simp (decide := true) (disch := first | omega | (simp (decide := true) only [List.length_set, hl]; done) | fail) only [sims, evRegion, evOps, evOp, evG, evR, guardT, callee, opRes, pureR, binT, unT, T.cells, T.leaf, fillT, splice, Nat.reduceLT, Nat.reduceAdd, Nat.reduceMul, Nat.reduceLeDiff, Nat.reduceEqDiff, reduceIte, Int.reduceBEq, Int.reduceBNe, Int.reduceLT, Int.reduceLE, Int.reduceGT, Int.reduceGE, Int.reduceNeg, reduceCtorEq, hps, h5, g13, hoel, hok, e1, e4]; rfl) ⟨rfl, W_false (by simp (decide := true) (disch := first | omega | (simp (decide := true) only [List.length_set, hl]; done) | fail) only [sims, evRegion, evOps, evOp, evG, evR, guardT, callee, opRes, pureR, binT, unT, T.cells, T.leaf, fillT, splice, Nat.reduceLT, Nat.reduceAdd, Nat.reduceMul, Nat.reduceLeDiff, Nat.reduceEqDiff, reduceIte, Int.reduceBEq, Int.reduceBNe, Int.reduceLT, Int.reduceLE, Int.reduceGT, Int.reduceGE, Int.reduceNeg, reduceCtorEq] <;> rfl) (W_skip ⟨rfl, ?_⟩)⟩)
      refine skip (fun h => by rcases h with h | h; exact k1 h; exact k4 h) _ ⟨?_, ?_, ?_, ?_, ?_, ?_, ?_, ?_⟩
      all_goals first | (simp (decide := true) (disch := first | omega | (simp (decide := true) only [List.length_set, hl]; done) | fail) only [sims, evRegion, evOps, evOp, evG, evR, guardT, callee, opRes, pureR, binT, unT, T.cells, T.leaf, fillT, splice, Nat.reduceLT, Nat.reduceAdd, Nat.reduceMul, Nat.reduceLeDiff, Nat.reduceEqDiff, reduceIte, Int.reduceBEq, Int.reduceBNe, Int.reduceLT, Int.reduceLE, Int.reduceGT, Int.reduceGE, Int.reduceNeg, reduceCtorEq, hps, hl, h1, h2, h4, h5, h6, g0, g1, g13]; done) | (simp (decide := true) (disch := first | omega | (simp (decide := true) only [List.length_set, hl]; done) | fail) only [sims, evRegion, evOps, evOp, evG, evR, guardT, callee, opRes, pureR, binT, unT, T.cells, T.leaf, fillT, splice, Nat.reduceLT, Nat.reduceAdd, Nat.reduceMul, Nat.reduceLeDiff, Nat.reduceEqDiff, reduceIte, Int.reduceBEq, Int.reduceBNe, Int.reduceLT, Int.reduceLE, Int.reduceGT, Int.reduceGE, Int.reduceNeg, reduceCtorEq, hps, hl, h1, h2, h4, h5, h6, g0, g1, g13]; rfl)
  clear hl h1 h2 h4 h5 h6 g0 g1 g13 hnx
  rintro ⟨sl, g, nx⟩ ⟨hl, h2, h4, h5, h6, g1, g13, ss2, g0, hso, hsl2⟩
  simp only at hl h2 h4 h5 h6 g1 g13 g0 hso
  have hcl3 := hlen _ ss2 hfl2 hsl2
  have hm8' : (wordsT (padM (memS s o))).length = 8 := by rw [words_len, padM_len (by rw [memS_len]; exact hG.1)]
  refine W_cut (fun st => st.s.length = 85 ∧ rho st.s (.tmp 2) = .ptr 0 0 ∧ rho st.s (.tmp 4) = .ptr 1 0 ∧ st.g 1 = some zz ∧ st.g 0 = some (busC (pT p) (wordsT (padM (memS s o))) (.int .i64 (s.mem.length : Int)) (intsT (padF (stepS p s w).far)) ss2) ∧ SeenO st.g ss2 (padS (seenS s w o))) ?_ ?_
  · have skip : ¬ (isL s o ∧ wrs o) → ∀ st : St, (st.s.length = 85 ∧ rho st.s (.tmp 2) = .ptr 0 0 ∧ rho st.s (.tmp 4) = .ptr 1 0 ∧ st.g = g) → (st.s.length = 85 ∧ rho st.s (.tmp 2) = .ptr 0 0 ∧ rho st.s (.tmp 4) = .ptr 1 0 ∧ st.g 1 = some zz ∧ st.g 0 = some (busC (pT p) (wordsT (padM (memS s o))) (.int .i64 (s.mem.length : Int)) (intsT (padF (stepS p s w).far)) ss2) ∧ SeenO st.g ss2 (padS (seenS s w o))) := by
      rintro hno st ⟨a, b, c, d⟩
      refine ⟨a, b, c, by rw [d]; exact g1, ?_, by rw [d]; exact hso⟩
      have : memS s o = s.mem := by unfold memS; exact if_neg hno
      rw [d, this]; exact g0
    have write : (isL s o ∧ wrs o) → ∀ st : St, (st.s.length = 85 ∧ rho st.s (.tmp 2) = .ptr 0 0 ∧ rho st.s (.tmp 4) = .ptr 1 0 ∧ rho st.s (.tmp 5) = .ptr 13 0 ∧ st.g = g) → W ap (.region [⟨some 78, .faddr (.tmp 5) 1, none⟩, ⟨some 79, .load true 1 (.tmp 78), none⟩, ⟨some 80, .faddr (.tmp 5) 2, none⟩, ⟨some 81, .load true 1 (.tmp 80), none⟩, ⟨some 82, .faddr (.tmp 2) 1, none⟩, ⟨some 83, .iarr 8 1 (.tmp 82) (.tmp 79), none⟩, ⟨none, .store 1 (.tmp 83) (.tmp 81), none⟩] []) st (fun e st => e = .normal ∧ (st.s.length = 85 ∧ rho st.s (.tmp 2) = .ptr 0 0 ∧ rho st.s (.tmp 4) = .ptr 1 0 ∧ st.g 1 = some zz ∧ st.g 0 = some (busC (pT p) (wordsT (padM (memS s o))) (.int .i64 (s.mem.length : Int)) (intsT (padF (stepS p s w).far)) ss2) ∧ SeenO st.g ss2 (padS (seenS s w o)))) := by
      rintro hyes ⟨sl, g', nx⟩ ⟨hl, h2, h4, h5, hgg⟩
      simp only at hl h2 h4 h5 hgg
      subst hgg
      have his := hyes.1
      obtain ⟨j, hj⟩ : ∃ j : Nat, o.loc = j := ⟨o.loc.toNat, by have := his.1; omega⟩
      have hjm : j < s.mem.length := by have := his.2; omega
      have hj8 : j < 8 := by have := hG.1; omega
      have hms : memS s o = s.mem.set j o.val := by unfold memS; rw [if_pos hyes, hj, Int.toNat_natCast]
      have hset := busC_setmem (pc := pT p) (lc := .int .i64 (s.mem.length : Int)) (fs := intsT (padF (stepS p s w).far)) (ss := ss2) hm8 j hj8 (.int .u32 o.val)
      rw [← words_set, ← padM_set _ _ _ hjm, ← hms] at hset
      rw [hj] at holc
      have hb4 : 1 + j * 1 + 1 ≤ 14 := by omega
      refine W_region (fun k => by simp (decide := true) (disch := first | omega | (simp (decide := true) only [List.length_set, hl]; done) | fail) only [sims, evRegion, evOps, evOp, evG, evR, guardT, callee, opRes, pureR, binT, unT, T.cells, T.leaf, fillT, splice, Nat.reduceLT, Nat.reduceAdd, Nat.reduceMul, Nat.reduceLeDiff, Nat.reduceEqDiff, reduceIte, Int.reduceBEq, Int.reduceBNe, Int.reduceLT, Int.reduceLE, Int.reduceGT, Int.reduceGE, Int.reduceNeg, reduceCtorEq, hps, h2, h5, g0, g13, hcl3, hoel, holc, hov, hj8, hb4, hset]; rfl) ⟨rfl, ?_⟩
      refine ⟨?_, ?_, ?_, ?_, ?_, seenO_mono hso (fun t ht => put1_ne (by omega))⟩
      all_goals first | (simp (decide := true) (disch := first | omega | (simp (decide := true) only [List.length_set, hl]; done) | fail) only [sims, evRegion, evOps, evOp, evG, evR, guardT, callee, opRes, pureR, binT, unT, T.cells, T.leaf, fillT, splice, Nat.reduceLT, Nat.reduceAdd, Nat.reduceMul, Nat.reduceLeDiff, Nat.reduceEqDiff, reduceIte, Int.reduceBEq, Int.reduceBNe, Int.reduceLT, Int.reduceLE, Int.reduceGT, Int.reduceGE, Int.reduceNeg, reduceCtorEq, hps, hl, h2, h4, g1]; done) | (simp (decide := true) (disch := first | omega | (simp (decide := true) only [List.length_set, hl]; done) | fail) only [sims, evRegion, evOps, evOp, evG, evR, guardT, callee, opRes, pureR, binT, unT, T.cells, T.leaf, fillT, splice, Nat.reduceLT, Nat.reduceAdd, Nat.reduceMul, Nat.reduceLeDiff, Nat.reduceEqDiff, reduceIte, Int.reduceBEq, Int.reduceBNe, Int.reduceLT, Int.reduceLE, Int.reduceGT, Int.reduceGE, Int.reduceNeg, reduceCtorEq, hps, hl, h2, h4, g1]; rfl)
    by_cases his : isL s o
    · rw [decide_eq_true his] at h6
      by_cases k2 : o.kind = 2
      · have e2 : (o.kind == 2) = true := by simp [k2]
        refine W_seqn (W_region (fun k => by simp (decide := true) (disch := first | omega | (simp (decide := true) only [List.length_set, hl]; done) | fail) only [sims, evRegion, evOps, evOp, evG, evR, guardT, callee, opRes, pureR, binT, unT, T.cells, T.leaf, fillT, splice, Nat.reduceLT, Nat.reduceAdd, Nat.reduceMul, Nat.reduceLeDiff, Nat.reduceEqDiff, reduceIte, Int.reduceBEq, Int.reduceBNe, Int.reduceLT, Int.reduceLE, Int.reduceGT, Int.reduceGE, Int.reduceNeg, reduceCtorEq, hps, h5, h6, g13, hoel, hok, e2]; rfl) ⟨rfl, W_true (by simp (decide := true) (disch := first | omega | (simp (decide := true) only [List.length_set, hl]; done) | fail) only [sims, evRegion, evOps, evOp, evG, evR, guardT, callee, opRes, pureR, binT, unT, T.cells, T.leaf, fillT, splice, Nat.reduceLT, Nat.reduceAdd, Nat.reduceMul, Nat.reduceLeDiff, Nat.reduceEqDiff, reduceIte, Int.reduceBEq, Int.reduceBNe, Int.reduceLT, Int.reduceLE, Int.reduceGT, Int.reduceGE, Int.reduceNeg, reduceCtorEq] <;> rfl) ?_⟩)
        refine write ⟨his, .inl k2⟩ _ ⟨?_, ?_, ?_, ?_, rfl⟩
        all_goals simp (decide := true) (disch := first | omega | (simp (decide := true) only [List.length_set, hl]; done) | fail) only [sims, evRegion, evOps, evOp, evG, evR, guardT, callee, opRes, pureR, binT, unT, T.cells, T.leaf, fillT, splice, Nat.reduceLT, Nat.reduceAdd, Nat.reduceMul, Nat.reduceLeDiff, Nat.reduceEqDiff, reduceIte, Int.reduceBEq, Int.reduceBNe, Int.reduceLT, Int.reduceLE, Int.reduceGT, Int.reduceGE, Int.reduceNeg, reduceCtorEq, hps, hl, h2, h4, h5]
      have e2 : (o.kind == 2) = false := beq_eq_false_iff_ne.mpr k2
      by_cases k4 : o.kind = 4
      · have e4 : (o.kind == 4) = true := by simp [k4]
        refine W_seqn (W_region (fun k => by simp (decide := true) (disch := first | omega | (simp (decide := true) only [List.length_set, hl]; done) | fail) only [sims, evRegion, evOps, evOp, evG, evR, guardT, callee, opRes, pureR, binT, unT, T.cells, T.leaf, fillT, splice, Nat.reduceLT, Nat.reduceAdd, Nat.reduceMul, Nat.reduceLeDiff, Nat.reduceEqDiff, reduceIte, Int.reduceBEq, Int.reduceBNe, Int.reduceLT, Int.reduceLE, Int.reduceGT, Int.reduceGE, Int.reduceNeg, reduceCtorEq, hps, h5, h6, g13, hoel, hok, e2, e4]; rfl) ⟨rfl, W_true (by simp (decide := true) (disch := first | omega | (simp (decide := true) only [List.length_set, hl]; done) | fail) only [sims, evRegion, evOps, evOp, evG, evR, guardT, callee, opRes, pureR, binT, unT, T.cells, T.leaf, fillT, splice, Nat.reduceLT, Nat.reduceAdd, Nat.reduceMul, Nat.reduceLeDiff, Nat.reduceEqDiff, reduceIte, Int.reduceBEq, Int.reduceBNe, Int.reduceLT, Int.reduceLE, Int.reduceGT, Int.reduceGE, Int.reduceNeg, reduceCtorEq] <;> rfl) ?_⟩)
        refine write ⟨his, .inr k4⟩ _ ⟨?_, ?_, ?_, ?_, rfl⟩
        all_goals simp (decide := true) (disch := first | omega | (simp (decide := true) only [List.length_set, hl]; done) | fail) only [sims, evRegion, evOps, evOp, evG, evR, guardT, callee, opRes, pureR, binT, unT, T.cells, T.leaf, fillT, splice, Nat.reduceLT, Nat.reduceAdd, Nat.reduceMul, Nat.reduceLeDiff, Nat.reduceEqDiff, reduceIte, Int.reduceBEq, Int.reduceBNe, Int.reduceLT, Int.reduceLE, Int.reduceGT, Int.reduceGE, Int.reduceNeg, reduceCtorEq, hps, hl, h2, h4, h5]
      · have e4 : (o.kind == 4) = false := beq_eq_false_iff_ne.mpr k4
        refine W_seqn (W_region (fun k => by simp (decide := true) (disch := first | omega | (simp (decide := true) only [List.length_set, hl]; done) | fail) only [sims, evRegion, evOps, evOp, evG, evR, guardT, callee, opRes, pureR, binT, unT, T.cells, T.leaf, fillT, splice, Nat.reduceLT, Nat.reduceAdd, Nat.reduceMul, Nat.reduceLeDiff, Nat.reduceEqDiff, reduceIte, Int.reduceBEq, Int.reduceBNe, Int.reduceLT, Int.reduceLE, Int.reduceGT, Int.reduceGE, Int.reduceNeg, reduceCtorEq, hps, h5, h6, g13, hoel, hok, e2, e4]; rfl) ⟨rfl, W_false (by simp (decide := true) (disch := first | omega | (simp (decide := true) only [List.length_set, hl]; done) | fail) only [sims, evRegion, evOps, evOp, evG, evR, guardT, callee, opRes, pureR, binT, unT, T.cells, T.leaf, fillT, splice, Nat.reduceLT, Nat.reduceAdd, Nat.reduceMul, Nat.reduceLeDiff, Nat.reduceEqDiff, reduceIte, Int.reduceBEq, Int.reduceBNe, Int.reduceLT, Int.reduceLE, Int.reduceGT, Int.reduceGE, Int.reduceNeg, reduceCtorEq] <;> rfl) (W_skip ⟨rfl, ?_⟩)⟩)
        refine skip (fun h => by rcases h.2 with h | h; exact k2 h; exact k4 h) _ ⟨?_, ?_, ?_, rfl⟩
        all_goals simp (decide := true) (disch := first | omega | (simp (decide := true) only [List.length_set, hl]; done) | fail) only [sims, evRegion, evOps, evOp, evG, evR, guardT, callee, opRes, pureR, binT, unT, T.cells, T.leaf, fillT, splice, Nat.reduceLT, Nat.reduceAdd, Nat.reduceMul, Nat.reduceLeDiff, Nat.reduceEqDiff, reduceIte, Int.reduceBEq, Int.reduceBNe, Int.reduceLT, Int.reduceLE, Int.reduceGT, Int.reduceGE, Int.reduceNeg, reduceCtorEq, hps, hl, h2, h4]
    · rw [decide_eq_false his] at h6
      refine W_seqn (W_region (fun k => by simp (decide := true) (disch := first | omega | (simp (decide := true) only [List.length_set, hl]; done) | fail) only [sims, evRegion, evOps, evOp, evG, evR, guardT, callee, opRes, pureR, binT, unT, T.cells, T.leaf, fillT, splice, Nat.reduceLT, Nat.reduceAdd, Nat.reduceMul, Nat.reduceLeDiff, Nat.reduceEqDiff, reduceIte, Int.reduceBEq, Int.reduceBNe, Int.reduceLT, Int.reduceLE, Int.reduceGT, Int.reduceGE, Int.reduceNeg, reduceCtorEq, hps, h5, h6, g13, hoel, hok]; rfl) ⟨rfl, W_false (by simp (decide := true) (disch := first | omega | (simp (decide := true) only [List.length_set, hl]; done) | fail) only [sims, evRegion, evOps, evOp, evG, evR, guardT, callee, opRes, pureR, binT, unT, T.cells, T.leaf, fillT, splice, Nat.reduceLT, Nat.reduceAdd, Nat.reduceMul, Nat.reduceLeDiff, Nat.reduceEqDiff, reduceIte, Int.reduceBEq, Int.reduceBNe, Int.reduceLT, Int.reduceLE, Int.reduceGT, Int.reduceGE, Int.reduceNeg, reduceCtorEq] <;> rfl) (W_skip ⟨rfl, ?_⟩)⟩)
      refine skip (fun h => his h.1) _ ⟨?_, ?_, ?_, rfl⟩
      all_goals simp (decide := true) (disch := first | omega | (simp (decide := true) only [List.length_set, hl]; done) | fail) only [sims, evRegion, evOps, evOp, evG, evR, guardT, callee, opRes, pureR, binT, unT, T.cells, T.leaf, fillT, splice, Nat.reduceLT, Nat.reduceAdd, Nat.reduceMul, Nat.reduceLeDiff, Nat.reduceEqDiff, reduceIte, Int.reduceBEq, Int.reduceBNe, Int.reduceLT, Int.reduceLE, Int.reduceGT, Int.reduceGE, Int.reduceNeg, reduceCtorEq, hps, hl, h2, h4]
  clear hl h2 h4 h5 h6 g1 g13 g0 hso
  rintro ⟨sl, g, nx⟩ ⟨hl, h2, h4, g1, g0, hso⟩
  simp only at hl h2 h4 g1 g0 hso
  have hcl4 : (busC (pT p) (wordsT (padM (memS s o))) (.int .i64 (s.mem.length : Int)) (intsT (padF (stepS p s w).far)) ss2).length = 14 := busC_len hm8' hfl2 hsl2
  have hlf4 : allLeaf (busC (pT p) (wordsT (padM (memS s o))) (.int .i64 (s.mem.length : Int)) (intsT (padF (stepS p s w).far)) ss2) = true := by
    unfold busC
    exact leaf_append (l := [pT p]) rfl (leaf_append (leaf_still (words_still _)) (leaf_append (l := [.int .i64 (s.mem.length : Int)]) rfl (leaf_append (leaf_still (ints_still _)) (seenO_leaf hso))))
  have hcut4 : cut (busC (pT p) (wordsT (padM (memS s o))) (.int .i64 (s.mem.length : Int)) (intsT (padF (stepS p s w).far)) ss2) 0 14 = busC (pT p) (wordsT (padM (memS s o))) (.int .i64 (s.mem.length : Int)) (intsT (padF (stepS p s w).far)) ss2 := cut_all hcl4
  have hspl : splice zz 0 (busC (pT p) (wordsT (padM (memS s o))) (.int .i64 (s.mem.length : Int)) (intsT (padF (stepS p s w).far)) ss2) = busC (pT p) (wordsT (padM (memS s o))) (.int .i64 (s.mem.length : Int)) (intsT (padF (stepS p s w).far)) ss2 := splice_all (by rw [hcl4, hzl])
  obtain ⟨ss3, h3, ids, hfz⟩ := frz_bus (nx := nx + 2) (p := p) (m8 := padM (memS s o)) (n := (s.mem.length : Int)) (fs := padF (stepS p s w).far) (seenO_mono (g' := put1 g (1, some (busC (pT p) (wordsT (padM (memS s o))) (.int .i64 (s.mem.length : Int)) (intsT (padF (stepS p s w).far)) ss2))) hso (fun t ht => put1_ne (by omega)))
  have hres : BusS p (stepS p s w) (.agg (busC (pT p) (wordsT (padM (memS s o))) (.int .i64 (s.mem.length : Int)) (intsT (padF (stepS p s w).far)) ss3)) := by
    refine ⟨ss3, ?_, ?_⟩
    · have e1 : (stepS p s w).mem = memS s o := by rw [hstep]
      rw [e1, memS_len]
    · have e2 : (stepS p s w).seen = seenS s w o := by rw [hstep]
      rw [e2]; exact h3
  generalize hC4 : busC (pT p) (wordsT (padM (memS s o))) (.int .i64 (s.mem.length : Int)) (intsT (padF (stepS p s w).far)) ss2 = C4 at *
  refine W_seqn (W_region (fun k => by simp (decide := true) (disch := first | omega | (simp (decide := true) only [List.length_set, hl]; done) | fail) only [sims, evRegion, evOps, evOp, evG, evR, guardT, callee, opRes, pureR, binT, unT, T.cells, T.leaf, fillT, splice, Nat.reduceLT, Nat.reduceAdd, Nat.reduceMul, Nat.reduceLeDiff, Nat.reduceEqDiff, reduceIte, Int.reduceBEq, Int.reduceBNe, Int.reduceLT, Int.reduceLE, Int.reduceGT, Int.reduceGE, Int.reduceNeg, reduceCtorEq, hps, h2, h4, g0, g1, hcl4, hcut4, hlf4, hzl, hspl]; rfl) ⟨rfl, W_ret ?_⟩)
  refine ⟨rfl, _, hres, fin_cells (F := f24) (p := 1) rfl hfz ?_ ?_ hcl4⟩
  · simp (decide := true) (disch := first | omega | (simp (decide := true) only [List.length_set, hl]; done) | fail) only [sims, evRegion, evOps, evOp, evG, evR, guardT, callee, opRes, pureR, binT, unT, T.cells, T.leaf, fillT, splice, Nat.reduceLT, Nat.reduceAdd, Nat.reduceMul, Nat.reduceLeDiff, Nat.reduceEqDiff, reduceIte, Int.reduceBEq, Int.reduceBNe, Int.reduceLT, Int.reduceLE, Int.reduceGT, Int.reduceGE, Int.reduceNeg, reduceCtorEq, h4]
  · simp (decide := true) (disch := first | omega | (simp (decide := true) only [List.length_set, hl]; done) | fail) only [sims, evRegion, evOps, evOp, evG, evR, guardT, callee, opRes, pureR, binT, unT, T.cells, T.leaf, fillT, splice, Nat.reduceLT, Nat.reduceAdd, Nat.reduceMul, Nat.reduceLeDiff, Nat.reduceEqDiff, reduceIte, Int.reduceBEq, Int.reduceBNe, Int.reduceLT, Int.reduceLE, Int.reduceGT, Int.reduceGE, Int.reduceNeg, reduceCtorEq, hps]
end Go.Proofs.Ytmihmodlilebbaa.Abs
