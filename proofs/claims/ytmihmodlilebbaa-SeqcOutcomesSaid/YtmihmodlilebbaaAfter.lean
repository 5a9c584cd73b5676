/- A step of the program's threads: has one an operation left; behind it. -/
import Derived.Test.YtmihmodlilebbaaState
namespace Go.Proofs.Ytmihmodlilebbaa.Abs
open Go Go.RowKit Fn
set_option linter.unusedVariables false
set_option linter.unusedSimpArgs false
set_option linter.unnecessarySimpa false
set_option maxRecDepth 100000
set_option maxHeartbeats 1000000

theorem ap23 : ap 23 = some f23 := rfl
theorem p23 : f23.pure = true := rfl
theorem n23 : f23.nat = none := rfl
theorem thr_eq {p : List (List Op)} {w : Nat} (h : w < p.length) : thr p w = p[w] := by unfold thr; rw [List.getElem?_eq_getElem h]; rfl
theorem far_get {p : List (List Op)} {s : PS} (h : Good p s) {w : Nat} (hw : w < p.length) : s.far[w]? = some (farN s w) := by
  unfold farN; rw [List.getElem?_eq_getElem (by rw [h.2.1]; exact hw)]; rfl
theorem seen_get {p : List (List Op)} {s : PS} (h : Good p s) {w : Nat} (hw : w < p.length) : s.seen[w]? = some (seenN s w) := by
  unfold seenN; rw [List.getElem?_eq_getElem (by rw [h.2.2.1]; exact hw)]; rfl
theorem ints_get' {l : List Nat} {i v : Nat} (h : l[i]? = some v) : (intsT l)[i]? = some (.int .i64 (v : Int)) := by unfold intsT; rw [List.getElem?_map, h]; rfl
theorem words_get' {l : List Int} {i : Nat} {v : Int} (h : l[i]? = some v) : (wordsT l)[i]? = some (.int .u32 v) := by unfold wordsT; rw [List.getElem?_map, h]; rfl
theorem seenT_get {cs : List T} {S : List (List Int)} (h : SeenT cs S) {j : Nat} {l : List Int} (hj : S[j]? = some l) : ∃ f, cs[j]? = some (.imm f l.length (wordsT l)) := by
  have hlt : j < S.length := by
    rcases Nat.lt_or_ge j S.length with h | h
    · exact h
    · rw [List.getElem?_eq_none h] at hj; cases hj
  obtain ⟨f, hf⟩ := h.2 j hlt
  rw [List.getElem?_eq_getElem hlt] at hj
  rw [Option.some.inj hj] at hf
  exact ⟨f, hf⟩
theorem bus_left (p : List (List Op)) (hR : RightP p) (s : PS) (hG : Good p s) (t : T) (hB : BusS p s t) (w : Int) : E ap 23 [t, .int .i64 w] (.bool (decide (leftS p s w))) := by
  obtain ⟨ss, rfl, hS⟩ := hB
  refine E_body (F := f23) rfl rfl rfl ?_
  have hm8 : (wordsT (padM s.mem)).length = 8 := by rw [words_len, padM_len hG.1]
  have hfl : (intsT (padF s.far)).length = 2 := by rw [ints_len, padF_len (by rw [hG.2.1]; exact hR.1)]
  have hsl : ss.length = 2 := by rw [hS.1, padS_len (by rw [hG.2.2.1]; exact hR.1)]
  have hcl := busC_len (pc := pT p) (lc := .int .i64 (s.mem.length : Int)) hm8 hfl hsl
  have hclf := leaf_still (bus_still (p := p) (m8 := padM s.mem) (n := (s.mem.length : Int)) (fs := padF s.far) hS)
  have hc0 : (busC (pT p) (wordsT (padM s.mem)) (.int .i64 (s.mem.length : Int)) (intsT (padF s.far)) ss)[0]? = some (pT p) := rfl
  have hcf := fun w hw => busC_far (pc := pT p) (lc := .int .i64 (s.mem.length : Int)) (ss := ss) hm8 hfl w hw
  generalize hs0 : (_ : List T) ++ List.replicate _ T.undef = s0
  have e0 : s0.length = 27 ∧ rho s0 (.tmp 0) = .agg (busC (pT p) (wordsT (padM s.mem)) (.int .i64 (s.mem.length : Int)) (intsT (padF s.far)) ss) ∧ rho s0 (.tmp 1) = .int .i64 w := by subst hs0; exact ⟨rfl, rfl, rfl⟩
  clear hs0
  obtain ⟨hl, h0, h1⟩ := e0
  have hpt : pT p = .imm false p.length (p.flatMap (fun l => [rowT l])) := rfl
  have hpl := p_len p
  generalize busC (pT p) (wordsT (padM s.mem)) (.int .i64 (s.mem.length : Int)) (intsT (padF s.far)) ss = C at *
  rw [hpt] at hc0
  refine W_seqn (W_region (fun k => by simp (decide := true) (disch := first | omega | (simp (decide := true) only [List.length_set, hl]; done) | fail) only [sims, evRegion, evOps, evOp, evG, evR, guardT, callee, opRes, pureR, binT, unT, T.cells, T.leaf, fillT, splice, Nat.reduceLT, Nat.reduceAdd, Nat.reduceMul, Nat.reduceLeDiff, Nat.reduceEqDiff, reduceIte, Int.reduceBEq, Int.reduceBNe, Int.reduceLT, Int.reduceLE, Int.reduceGT, Int.reduceGE, Int.reduceNeg, reduceCtorEq, hps, h0, hclf]; rfl) ⟨rfl, ?_⟩)
  by_cases hw0 : w < 0
  · have d1 : decide (w ≥ 0) = false := decide_eq_false (by omega)
    have hd : decide (leftS p s w) = false := decide_eq_false (fun h => by have := h.1; omega)
    rw [hd]
    refine W_seqn (W_region (fun k => by simp (decide := true) (disch := first | omega | (simp (decide := true) only [List.length_set, hl]; done) | fail) only [sims, evRegion, evOps, evOp, evG, evR, guardT, callee, opRes, pureR, binT, unT, T.cells, T.leaf, fillT, splice, Nat.reduceLT, Nat.reduceAdd, Nat.reduceMul, Nat.reduceLeDiff, Nat.reduceEqDiff, reduceIte, Int.reduceBEq, Int.reduceBNe, Int.reduceLT, Int.reduceLE, Int.reduceGT, Int.reduceGE, Int.reduceNeg, reduceCtorEq, hps, h1, d1]; rfl) ⟨rfl, W_ret ?_⟩)
    refine fin_of (F := f23) rfl (fun _ => rfl) ?_
    simp (decide := true) (disch := first | omega | (simp (decide := true) only [List.length_set, hl]; done) | fail) only [sims, evRegion, evOps, evOp, evG, evR, guardT, callee, opRes, pureR, binT, unT, T.cells, T.leaf, fillT, splice, Nat.reduceLT, Nat.reduceAdd, Nat.reduceMul, Nat.reduceLeDiff, Nat.reduceEqDiff, reduceIte, Int.reduceBEq, Int.reduceBNe, Int.reduceLT, Int.reduceLE, Int.reduceGT, Int.reduceGE, Int.reduceNeg, reduceCtorEq]
  have d1 : decide (w ≥ 0) = true := decide_eq_true (by omega)
  by_cases hw1 : w < p.length
  · have d2 : decide (w < (p.length : Int)) = true := decide_eq_true hw1
    obtain ⟨i, rfl⟩ : ∃ i : Nat, w = i := ⟨w.toNat, by omega⟩
    have hil : i < p.length := by omega
    have hi2 : i < 2 := by have := hR.1; omega
    have hpr := p_row p i hil
    rw [show rowT p[i] = .imm false p[i].length (p[i].flatMap Op.enc) from rfl] at hpr
    have hfar := hcf i hi2
    rw [ints_get' (by rw [padF_get _ _ (by rw [hG.2.1]; exact hil)]; exact far_get hG hil)] at hfar
    have hb : i * 1 + 1 ≤ p.length := by omega
    have hb2 : 10 + i * 1 + 1 ≤ 14 := by omega
    have hiff : (farN s i : Int) < (p[i].length : Int) ↔ leftS p s (i : Int) := ⟨fun h => ⟨by omega, by omega, by rw [Int.toNat_natCast, thr_eq hil]; omega⟩, fun h => by have := h.2.2; rw [Int.toNat_natCast, thr_eq hil] at this; omega⟩
    have hd : decide ((farN s i : Int) < (p[i].length : Int)) = decide (leftS p s (i : Int)) := decide_eq_decide.mpr hiff
    refine W_seqn (W_region (fun k => by simp (decide := true) (disch := first | omega | (simp (decide := true) only [List.length_set, hl]; done) | fail) only [sims, evRegion, evOps, evOp, evG, evR, guardT, callee, opRes, pureR, binT, unT, T.cells, T.leaf, fillT, splice, Nat.reduceLT, Nat.reduceAdd, Nat.reduceMul, Nat.reduceLeDiff, Nat.reduceEqDiff, reduceIte, Int.reduceBEq, Int.reduceBNe, Int.reduceLT, Int.reduceLE, Int.reduceGT, Int.reduceGE, Int.reduceNeg, reduceCtorEq, hps, h1, d1, d2, hc0, hcl, hpl, hil, hi2, hb, hb2, hpr, hfar, hd]; rfl) ⟨rfl, W_ret ?_⟩)
    refine fin_of (F := f23) rfl (fun _ => rfl) ?_
    simp (decide := true) (disch := first | omega | (simp (decide := true) only [List.length_set, hl]; done) | fail) only [sims, evRegion, evOps, evOp, evG, evR, guardT, callee, opRes, pureR, binT, unT, T.cells, T.leaf, fillT, splice, Nat.reduceLT, Nat.reduceAdd, Nat.reduceMul, Nat.reduceLeDiff, Nat.reduceEqDiff, reduceIte, Int.reduceBEq, Int.reduceBNe, Int.reduceLT, Int.reduceLE, Int.reduceGT, Int.reduceGE, Int.reduceNeg, reduceCtorEq]
  · have d2 : decide (w < (p.length : Int)) = false := decide_eq_false hw1
    have hd : decide (leftS p s w) = false := decide_eq_false (fun h => by have := h.2.1; omega)
    rw [hd]
    refine W_seqn (W_region (fun k => by simp (decide := true) (disch := first | omega | (simp (decide := true) only [List.length_set, hl]; done) | fail) only [sims, evRegion, evOps, evOp, evG, evR, guardT, callee, opRes, pureR, binT, unT, T.cells, T.leaf, fillT, splice, Nat.reduceLT, Nat.reduceAdd, Nat.reduceMul, Nat.reduceLeDiff, Nat.reduceEqDiff, reduceIte, Int.reduceBEq, Int.reduceBNe, Int.reduceLT, Int.reduceLE, Int.reduceGT, Int.reduceGE, Int.reduceNeg, reduceCtorEq, hps, h1, d1, d2, hc0, hcl]; rfl) ⟨rfl, W_ret ?_⟩)
    refine fin_of (F := f23) rfl (fun _ => rfl) ?_
    simp (decide := true) (disch := first | omega | (simp (decide := true) only [List.length_set, hl]; done) | fail) only [sims, evRegion, evOps, evOp, evG, evR, guardT, callee, opRes, pureR, binT, unT, T.cells, T.leaf, fillT, splice, Nat.reduceLT, Nat.reduceAdd, Nat.reduceMul, Nat.reduceLeDiff, Nat.reduceEqDiff, reduceIte, Int.reduceBEq, Int.reduceBNe, Int.reduceLT, Int.reduceLE, Int.reduceGT, Int.reduceGE, Int.reduceNeg, reduceCtorEq]
/-- What is seen, with lists of one's own. -/
def SeenO (g : Mem) (ss : List T) (S : List (List Int)) : Prop := ss.length = S.length ∧ ∀ j (h : j < S.length), (∃ f, ss[j]? = some (.imm f S[j].length (wordsT S[j]))) ∨ (∃ b, 2 ≤ b ∧ ss[j]? = some (.own b 0 S[j].length 1) ∧ g b = some (wordsT S[j]))
theorem seenO_of {g : Mem} {ss : List T} {S : List (List Int)} (h : SeenT ss S) : SeenO g ss S := ⟨h.1, fun j hj => .inl (h.2 j hj)⟩
theorem seenO_leaf {g : Mem} {ss : List T} {S : List (List Int)} (h : SeenO g ss S) : allLeaf ss = true := by
  unfold allLeaf
  rw [List.all_eq_true]
  intro x hx
  obtain ⟨i, hi, rfl⟩ := List.getElem_of_mem hx
  rcases h.2 i (by rw [← h.1]; exact hi) with ⟨f, hf⟩ | ⟨b, _, hf, _⟩
  · rw [List.getElem?_eq_getElem hi] at hf; rw [Option.some.inj hf]; rfl
  · rw [List.getElem?_eq_getElem hi] at hf; rw [Option.some.inj hf]; rfl
theorem seenO_mono {g g' : Mem} {ss : List T} {S : List (List Int)} (h : SeenO g ss S) (hg : ∀ t, 2 ≤ t → g' t = g t) : SeenO g' ss S := by
  refine ⟨h.1, fun j hj => ?_⟩
  rcases h.2 j hj with h' | ⟨b, h1, h2, h3⟩
  · exact .inl h'
  · exact .inr ⟨b, h1, h2, by rw [hg b h1]; exact h3⟩
theorem seenO_set {g g' : Mem} {ss : List T} {S : List (List Int)} (h : SeenT ss S) (w : Nat) (hw : w < S.length) (l : List Int) (b : Nat) (hb : 2 ≤ b) (hg : g' b = some (wordsT l)) : SeenO g' (ss.set w (.own b 0 l.length 1)) (S.set w l) := by
  refine ⟨by rw [List.length_set, List.length_set, h.1], fun j hj => ?_⟩
  rw [List.length_set] at hj
  by_cases hwj : w = j
  · subst hwj
    refine .inr ⟨b, hb, ?_, ?_⟩
    · rw [List.getElem?_set, if_pos rfl, if_pos (by rw [h.1]; exact hw), List.getElem_set_self]
    · rw [List.getElem_set_self]; exact hg
  · obtain ⟨f, hf⟩ := h.2 j hj
    refine .inl ⟨f, ?_⟩
    rw [List.getElem?_set, if_neg hwj, hf, List.getElem_set_ne hwj]
theorem frz_seenO {g : Mem} {nx d : Nat} {ss : List T} {S : List (List Int)} (h : SeenO g ss S) : ∃ ss', SeenT ss' S ∧ ∃ ids, frzAll (frz ⟨g, nx⟩ (d + 2)) ss = some (ss', ids) := by
  refine ⟨(List.range S.length).map fun (j : Nat) => (match ss[j]? with | some (T.imm f n c) => T.imm f n c | _ => T.imm false ((S[j]?).getD []).length (wordsT ((S[j]?).getD [])) : T), ⟨by rw [List.length_map, List.length_range], fun j hj => ?_⟩, frzAll_pt _ _ (by rw [List.length_map, List.length_range, h.1]) (fun j hj hj' => ?_)⟩
  · rw [List.getElem?_map, List.getElem?_range hj]
    rcases h.2 j hj with ⟨f, hf⟩ | ⟨b, _, hf, _⟩
    · exact ⟨f, by simp only [Option.map_some, hf]⟩
    · refine ⟨false, ?_⟩
      simp only [Option.map_some, hf, List.getElem?_eq_getElem hj, Option.getD_some]
  · have hj2 : j < S.length := by rw [← h.1]; exact hj
    rw [List.getElem_map, List.getElem_range]
    rcases h.2 j hj2 with ⟨f, hf⟩ | ⟨b, _, hf, hg⟩
    · rw [hf]
      rw [List.getElem?_eq_getElem hj] at hf
      rw [Option.some.inj hf]
      exact ⟨[], rfl⟩
    · rw [hf]
      rw [List.getElem?_eq_getElem hj] at hf
      rw [Option.some.inj hf]
      simp only [List.getElem?_eq_getElem hj2, Option.getD_some]
      exact frz_own hg (by rw [words_len]; omega) (frzAll_still (words_still _))
end Go.Proofs.Ytmihmodlilebbaa.Abs
