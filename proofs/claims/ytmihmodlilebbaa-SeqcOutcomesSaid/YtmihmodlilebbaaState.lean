/- Threads under way: what holds of them, a step; the program's begin and left. -/
import Derived.Test.YtmihmodlilebbaaRights
namespace Go.Proofs.Ytmihmodlilebbaa.Abs
open Go Go.RowKit Fn
set_option linter.unusedVariables false
set_option linter.unusedSimpArgs false
set_option linter.unnecessarySimpa false
set_option maxRecDepth 100000
set_option maxHeartbeats 1000000

structure PS where
  mem : List Int
  far : List Nat
  seen : List (List Int)
def thr (p : List (List Op)) (w : Nat) : List Op := (p[w]?).getD []
def farN (s : PS) (w : Nat) : Nat := (s.far[w]?).getD 0
def seenN (s : PS) (w : Nat) : List Int := (s.seen[w]?).getD []
def Good (p : List (List Op)) (s : PS) : Prop := s.mem.length ≤ 8 ∧ s.far.length = p.length ∧ s.seen.length = p.length ∧ ∀ j, j < p.length → farN s j ≤ (thr p j).length ∧ (seenN s j).length ≤ farN s j
def opN (p : List (List Op)) (s : PS) (w : Nat) : Op := ((thr p w)[farN s w]?).getD default
def isL (s : PS) (o : Op) : Prop := 0 ≤ o.loc ∧ o.loc < s.mem.length
instance (s : PS) (o : Op) : Decidable (isL s o) := by unfold isL; infer_instance
def rds (o : Op) : Prop := o.kind = 1 ∨ o.kind = 4
instance (o : Op) : Decidable (rds o) := by unfold rds; infer_instance
def wrs (o : Op) : Prop := o.kind = 2 ∨ o.kind = 4
instance (o : Op) : Decidable (wrs o) := by unfold wrs; infer_instance
def valL (s : PS) (o : Op) : Int := if isL s o then (s.mem[o.loc.toNat]?).getD 0 else 0
def memS (s : PS) (o : Op) : List Int := if isL s o ∧ wrs o then s.mem.set o.loc.toNat o.val else s.mem
def seenS (s : PS) (w : Nat) (o : Op) : List (List Int) := if rds o then s.seen.set w (seenN s w ++ [valL s o]) else s.seen
def stepS (p : List (List Op)) (s : PS) (w : Nat) : PS := ⟨memS s (opN p s w), s.far.set w (farN s w + 1), seenS s w (opN p s w)⟩
def leftS (p : List (List Op)) (s : PS) (w : Int) : Prop := 0 ≤ w ∧ w < p.length ∧ farN s w.toNat < (thr p w.toNat).length
instance (p : List (List Op)) (s : PS) (w : Int) : Decidable (leftS p s w) := by unfold leftS; infer_instance
theorem memS_len (s : PS) (o : Op) : (memS s o).length = s.mem.length := by unfold memS; split; rw [List.length_set]; rfl
theorem seenS_len (s : PS) (w : Nat) (o : Op) : (seenS s w o).length = s.seen.length := by unfold seenS; split; rw [List.length_set]; rfl
theorem good_step {p : List (List Op)} {s : PS} (h : Good p s) {w : Nat} (hw : w < p.length) (hl : farN s w < (thr p w).length) : Good p (stepS p s w) := by
  obtain ⟨h1, h2, h3, h4⟩ := h
  refine ⟨by show (memS s _).length ≤ 8; rw [memS_len]; exact h1, by show (s.far.set w _).length = _; rw [List.length_set]; exact h2, by show (seenS s w _).length = _; rw [seenS_len]; exact h3, fun j hj => ?_⟩
  obtain ⟨a1, a2⟩ := h4 j hj
  obtain ⟨b1, b2⟩ := h4 w hw
  have hf : farN (stepS p s w) j = if w = j then farN s w + 1 else farN s j := by
    show ((s.far.set w (farN s w + 1))[j]?).getD 0 = _
    rw [List.getElem?_set]
    by_cases hwj : w = j
    · rw [if_pos hwj, if_pos hwj, if_pos (by omega)]; rfl
    · rw [if_neg hwj, if_neg hwj]; rfl
  have hs : (seenN (stepS p s w) j).length ≤ if w = j then farN s w + 1 else farN s j := by
    show (((seenS s w (opN p s w))[j]?).getD []).length ≤ _
    unfold seenS
    split
    · rw [List.getElem?_set]
      by_cases hwj : w = j
      · rw [if_pos hwj, if_pos hwj, if_pos (by omega), Option.getD_some, List.length_append]
        simp only [List.length_cons, List.length_nil]
        omega
      · rw [if_neg hwj, if_neg hwj]; exact a2
    · by_cases hwj : w = j
      · subst hwj; rw [if_pos rfl]; exact Nat.le_succ_of_le a2
      · rw [if_neg hwj]; exact a2
  rw [hf]
  refine ⟨?_, hs⟩
  by_cases hwj : w = j
  · subst hwj; rw [if_pos rfl]; omega
  · rw [if_neg hwj]; exact a1
/-! The program's threads under way, as cells. -/
def busC (pc : T) (m8 : List T) (lc : T) (fs ss : List T) : List T := pc :: (m8 ++ (lc :: (fs ++ ss)))
theorem busC_len {pc : T} {m8 : List T} {lc : T} {fs ss : List T} (h1 : m8.length = 8) (h2 : fs.length = 2) (h3 : ss.length = 2) : (busC pc m8 lc fs ss).length = 14 := by
  unfold busC; simp only [List.length_cons, List.length_append]; omega
theorem busC_mem {pc : T} {m8 : List T} {lc : T} {fs ss : List T} (h1 : m8.length = 8) (j : Nat) (hj : j < 8) : (busC pc m8 lc fs ss)[1 + j * 1]? = m8[j]? := by
  unfold busC; rw [Nat.mul_one, Nat.add_comm, List.getElem?_cons_succ, List.getElem?_append_left (by omega)]
theorem busC_lc {pc : T} {m8 : List T} {lc : T} {fs ss : List T} (h1 : m8.length = 8) : (busC pc m8 lc fs ss)[9]? = some lc := by
  unfold busC; rw [List.getElem?_cons_succ, List.getElem?_append_right (by omega), h1]; rfl
theorem busC_far {pc : T} {m8 : List T} {lc : T} {fs ss : List T} (h1 : m8.length = 8) (h2 : fs.length = 2) (w : Nat) (hw : w < 2) : (busC pc m8 lc fs ss)[10 + w * 1]? = fs[w]? := by
  unfold busC
  rw [Nat.mul_one, show 10 + w = (w + 9) + 1 by omega, List.getElem?_cons_succ, List.getElem?_append_right (by omega), h1, show w + 9 - 8 = w + 1 by omega, List.getElem?_cons_succ, List.getElem?_append_left (by omega)]
theorem busC_seen {pc : T} {m8 : List T} {lc : T} {fs ss : List T} (h1 : m8.length = 8) (h2 : fs.length = 2) (w : Nat) : (busC pc m8 lc fs ss)[12 + w * 1]? = ss[w]? := by
  unfold busC
  rw [Nat.mul_one, show 12 + w = (w + 11) + 1 by omega, List.getElem?_cons_succ, List.getElem?_append_right (by omega), h1, show w + 11 - 8 = (w + 2) + 1 by omega, List.getElem?_cons_succ, List.getElem?_append_right (by omega), h2]
  rfl
theorem busC_setmem {pc : T} {m8 : List T} {lc : T} {fs ss : List T} (h1 : m8.length = 8) (j : Nat) (hj : j < 8) (v : T) : (busC pc m8 lc fs ss).set (1 + j * 1) v = busC pc (m8.set j v) lc fs ss := by
  unfold busC; rw [Nat.mul_one, Nat.add_comm, List.set_cons_succ, List.set_append_left _ _ (by omega)]
theorem busC_setfar {pc : T} {m8 : List T} {lc : T} {fs ss : List T} (h1 : m8.length = 8) (h2 : fs.length = 2) (w : Nat) (hw : w < 2) (v : T) : (busC pc m8 lc fs ss).set (10 + w * 1) v = busC pc m8 lc (fs.set w v) ss := by
  unfold busC
  rw [Nat.mul_one, show 10 + w = (w + 9) + 1 by omega, List.set_cons_succ, List.set_append_right _ _ (by omega), h1, show w + 9 - 8 = w + 1 by omega, List.set_cons_succ, List.set_append_left _ _ (by omega)]
theorem busC_setseen {pc : T} {m8 : List T} {lc : T} {fs ss : List T} (h1 : m8.length = 8) (h2 : fs.length = 2) (w : Nat) (v : T) : (busC pc m8 lc fs ss).set (12 + w * 1) v = busC pc m8 lc fs (ss.set w v) := by
  unfold busC
  rw [Nat.mul_one, show 12 + w = (w + 11) + 1 by omega, List.set_cons_succ, List.set_append_right _ _ (by omega), h1, show w + 11 - 8 = (w + 2) + 1 by omega, List.set_cons_succ, List.set_append_right _ _ (by omega), h2]
  rfl
def padM (l : List Int) : List Int := l ++ List.replicate (8 - l.length) 0
def padF (l : List Nat) : List Nat := l ++ List.replicate (2 - l.length) 0
def padS (l : List (List Int)) : List (List Int) := l ++ List.replicate (2 - l.length) []
theorem padM_len {l : List Int} (h : l.length ≤ 8) : (padM l).length = 8 := by unfold padM; rw [List.length_append, List.length_replicate]; omega
theorem padF_len {l : List Nat} (h : l.length ≤ 2) : (padF l).length = 2 := by unfold padF; rw [List.length_append, List.length_replicate]; omega
theorem padS_len {l : List (List Int)} (h : l.length ≤ 2) : (padS l).length = 2 := by unfold padS; rw [List.length_append, List.length_replicate]; omega
theorem padM_set (l : List Int) (i : Nat) (v : Int) (h : i < l.length) : padM (l.set i v) = (padM l).set i v := by unfold padM; rw [List.length_set, List.set_append_left _ _ h]
theorem padF_set (l : List Nat) (i v : Nat) (h : i < l.length) : padF (l.set i v) = (padF l).set i v := by unfold padF; rw [List.length_set, List.set_append_left _ _ h]
theorem padS_set (l : List (List Int)) (i : Nat) (v : List Int) (h : i < l.length) : padS (l.set i v) = (padS l).set i v := by unfold padS; rw [List.length_set, List.set_append_left _ _ h]
theorem padM_get (l : List Int) (i : Nat) (h : i < l.length) : (padM l)[i]? = l[i]? := by unfold padM; rw [List.getElem?_append_left h]
theorem padF_get (l : List Nat) (i : Nat) (h : i < l.length) : (padF l)[i]? = l[i]? := by unfold padF; rw [List.getElem?_append_left h]
theorem padS_get (l : List (List Int)) (i : Nat) (h : i < l.length) : (padS l)[i]? = l[i]? := by unfold padS; rw [List.getElem?_append_left h]
def BusS (p : List (List Op)) (s : PS) (t : T) : Prop := ∃ ss, t = .agg (busC (pT p) (wordsT (padM s.mem)) (.int .i64 (s.mem.length : Int)) (intsT (padF s.far)) ss) ∧ SeenT ss (padS s.seen)
theorem bus_still {p : List (List Op)} {m8 : List Int} {n : Int} {fs : List Nat} {ss : List T} {S : List (List Int)} (h : SeenT ss S) : ∀ x ∈ busC (pT p) (wordsT m8) (.int .i64 n) (intsT fs) ss, Still x := by
  intro x hx
  unfold busC at hx
  simp only [List.mem_cons, List.mem_append] at hx
  rcases hx with rfl | h1 | rfl | h1 | h1
  · trivial
  · exact words_still _ _ h1
  · trivial
  · exact ints_still _ _ h1
  · exact seen_still h _ h1
def beginS (p : List (List Op)) (locs : Int) : PS := ⟨List.replicate (min locs.toNat 8) 0, List.replicate p.length 0, List.replicate p.length []⟩
theorem fin_cells {F : AFun} {t n p : Nat} {c : List T} {v : T} {ids : List Nat} (hF : F.res = [.cell t false n]) {s : List T} {g : Mem} {nx : Nat} (hv : frz ⟨g, nx⟩ frzDepth (.agg c) = some (v, ids)) (hs : rho s (.tmp t) = .ptr p 0) (hg : g p = some c) (hc : c.length = n) : ∃ u ids, resT s g F.res = some u ∧ frz ⟨g, nx⟩ frzDepth u = some (v, ids) := by
  refine ⟨.agg c, ids, ?_, hv⟩
  rw [hF]
  have h1 : (0 : Nat) + n ≤ c.length := by omega
  simp only [resT, resL, resOne, opRes, hs, hg, h1, if_true, Bool.false_eq_true, if_false, cut_all hc]
theorem bus_begin (p : List (List Op)) (hp : p.length ≤ 2) (locs : Int) : ∃ v, E ap 18 [pT p, .int .i64 locs] v ∧ BusS p (beginS p locs) v := by
  refine E_bodyV (F := f18) rfl rfl rfl (P := BusS p (beginS p locs)) ?_
  generalize hs0 : (_ : List T) ++ List.replicate _ T.undef = s0
  have e0 : s0.length = 10 ∧ rho s0 (.tmp 0) = pT p ∧ rho s0 (.tmp 1) = .int .i64 locs := by subst hs0; exact ⟨rfl, rfl, rfl⟩
  clear hs0
  obtain ⟨hl, h0, h1⟩ := e0
  have hmn : (if (8 : Int) < (if (0 : Int) > locs then (0 : Int) else locs) then (8 : Int) else (if (0 : Int) > locs then (0 : Int) else locs)) = ((min locs.toNat 8 : Nat) : Int) := by split <;> (try split) <;> omega
  have hpl : allLeaf [pT p] = true := rfl
  have hpc : (pT p).cells = [pT p] := rfl
  have hpf : T.leaf (pT p) = true := rfl
  have hpt : pT p = .imm false p.length (p.flatMap (fun l => [rowT l])) := rfl
  generalize hmx : (if (0 : Int) > locs then (0 : Int) else locs) = y at *
  rw [hpt] at h0 hpl hpf hpc
  refine W_seqn (W_region (fun k => by simp (decide := true) (disch := first | omega | (simp (decide := true) only [List.length_set, hl]; done) | fail) only [sims, evRegion, evOps, evOp, evG, evR, guardT, callee, opRes, pureR, binT, unT, T.cells, T.leaf, fillT, splice, Nat.reduceLT, Nat.reduceAdd, Nat.reduceMul, Nat.reduceLeDiff, Nat.reduceEqDiff, reduceIte, Int.reduceBEq, Int.reduceBNe, Int.reduceLT, Int.reduceLE, Int.reduceGT, Int.reduceGE, Int.reduceNeg, reduceCtorEq, hps]; rfl) ⟨rfl, ?_⟩)
  have hstill : ∀ (h : Hp), frz h frzDepth (.agg [pT p, .int .u32 0, .int .u32 0, .int .u32 0, .int .u32 0, .int .u32 0, .int .u32 0, .int .u32 0, .int .u32 0, .int .i64 ((min locs.toNat 8 : Nat) : Int), .int .i64 0, .int .i64 0, .imm true 0 [], .imm true 0 []]) = some (.agg [pT p, .int .u32 0, .int .u32 0, .int .u32 0, .int .u32 0, .int .u32 0, .int .u32 0, .int .u32 0, .int .u32 0, .int .i64 ((min locs.toNat 8 : Nat) : Int), .int .i64 0, .int .i64 0, .imm true 0 [], .imm true 0 []], []) := fun h => rfl
  refine W_seqn (W_region (fun k => by simp (decide := true) (disch := first | omega | (simp (decide := true) only [List.length_set, hl]; done) | fail) only [sims, evRegion, evOps, evOp, evG, evR, guardT, callee, opRes, pureR, binT, unT, T.cells, T.leaf, fillT, splice, Nat.reduceLT, Nat.reduceAdd, Nat.reduceMul, Nat.reduceLeDiff, Nat.reduceEqDiff, reduceIte, Int.reduceBEq, Int.reduceBNe, Int.reduceLT, Int.reduceLE, Int.reduceGT, Int.reduceGE, Int.reduceNeg, reduceCtorEq, hps, h0, h1, minL, maxL, List.foldlM_cons, List.foldlM_nil, hmx, hmn, bind, Option.bind_some, pure, List.all]; rfl) ⟨rfl, W_ret ?_⟩)
  refine ⟨rfl, _, ?_, fin_cells (F := f18) (p := 0) rfl (hstill _) ?_ ?_ rfl⟩
  · refine ⟨[.imm true 0 [], .imm true 0 []], ?_, ?_⟩
    · have e1 : padM (beginS p locs).mem = List.replicate 8 0 := by
        unfold beginS padM
        simp only [List.length_replicate]
        rw [List.replicate_append_replicate]
        congr 1; omega
      have e2 : padF (beginS p locs).far = [0, 0] := by
        unfold beginS padF
        simp only [List.length_replicate]
        rw [List.replicate_append_replicate, show p.length + (2 - p.length) = 2 by omega]; rfl
      have e3 : (beginS p locs).mem.length = min locs.toNat 8 := by unfold beginS; simp only [List.length_replicate]
      rw [e1, e2, e3]; rfl
    · have e4 : padS (beginS p locs).seen = [[], []] := by
        unfold beginS padS
        simp only [List.length_replicate]
        rw [List.replicate_append_replicate, show p.length + (2 - p.length) = 2 by omega]; rfl
      rw [e4]
      refine ⟨rfl, fun j hj => ⟨true, ?_⟩⟩
      have hj : j < 2 := hj
      rcases (show j = 0 ∨ j = 1 by omega) with rfl | rfl <;> rfl
  · simp (decide := true) (disch := first | omega | (simp (decide := true) only [List.length_set, hl]; done) | fail) only [sims, evRegion, evOps, evOp, evG, evR, guardT, callee, opRes, pureR, binT, unT, T.cells, T.leaf, fillT, splice, Nat.reduceLT, Nat.reduceAdd, Nat.reduceMul, Nat.reduceLeDiff, Nat.reduceEqDiff, reduceIte, Int.reduceBEq, Int.reduceBNe, Int.reduceLT, Int.reduceLE, Int.reduceGT, Int.reduceGE, Int.reduceNeg, reduceCtorEq, hps]
  · simp (decide := true) (disch := first | omega | (simp (decide := true) only [List.length_set, hl]; done) | fail) only [sims, evRegion, evOps, evOp, evG, evR, guardT, callee, opRes, pureR, binT, unT, T.cells, T.leaf, fillT, splice, Nat.reduceLT, Nat.reduceAdd, Nat.reduceMul, Nat.reduceLeDiff, Nat.reduceEqDiff, reduceIte, Int.reduceBEq, Int.reduceBNe, Int.reduceLT, Int.reduceLE, Int.reduceGT, Int.reduceGE, Int.reduceNeg, reduceCtorEq, hps]
    rfl
theorem good_begin (p : List (List Op)) (locs : Int) : Good p (beginS p locs) := by
  refine ⟨?_, ?_, ?_, fun j hj => ?_⟩
  · show (List.replicate _ _).length ≤ 8; rw [List.length_replicate]; omega
  · show (List.replicate _ _).length = _; rw [List.length_replicate]
  · show (List.replicate _ _).length = _; rw [List.length_replicate]
  · have e1 : farN (beginS p locs) j = 0 := by show ((List.replicate p.length 0)[j]?).getD 0 = 0; rw [List.getElem?_replicate, if_pos hj]; rfl
    have e2 : seenN (beginS p locs) j = [] := by show ((List.replicate p.length ([] : List Int))[j]?).getD [] = []; rw [List.getElem?_replicate, if_pos hj]; rfl
    rw [e1, e2]
    exact ⟨Nat.zero_le _, Nat.le_refl _⟩
end Go.Proofs.Ytmihmodlilebbaa.Abs
