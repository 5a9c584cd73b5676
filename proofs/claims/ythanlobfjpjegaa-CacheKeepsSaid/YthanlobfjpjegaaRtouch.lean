/- A way is used: what the given function asks, and its loop. -/
import Derived.Test.YthanlobfjpjegaaCopied2
import Derived.Test.YthanlobfjpjegaaBtouch3
namespace Go.Proofs.Ythanlobfjpjegaa.Abs
open Go Go.RowKit Fn
set_option linter.unusedVariables false
set_option linter.unusedSimpArgs false
set_option linter.unnecessarySimpa false
set_option maxRecDepth 100000

theorem ap42 : ap 42 = some f42 := rfl
theorem p42 : f42.pure = true := rfl
theorem n42 : f42.nat = none := rfl
theorem is_bad (fx : Bool) (R : List (List Way)) (xs : List T) (hx : Tells xs R) (a b : Int) (h : Bad R a b) : E ap 42 [.agg [.imm fx R.length xs], .int .i64 a, .int .i64 b] (.bool false) := by
  refine E_body (F := f42) rfl rfl rfl ?_
  generalize hs0 : (_ : List T) ++ List.replicate _ T.undef = s0
  have e0 : s0.length = 30 ∧ rho s0 (.tmp 0) = .agg [.imm fx R.length xs] ∧ rho s0 (.tmp 1) = .int .i64 a ∧ rho s0 (.tmp 2) = .int .i64 b := by subst hs0; exact ⟨rfl, rfl, rfl, rfl⟩
  clear hs0
  obtain ⟨hl, h0, h1, h2⟩ := e0
  have hxl := hx.1
  refine W_seqn (W_region (fun k => by simp (decide := true) (disch := first | omega | (simp (decide := true) only [List.length_set, hl]; done) | fail) only [sims, evRegion, evOps, evOp, evG, evR, guardT, callee, opRes, pureR, binT, unT, T.cells, T.leaf, fillT, splice, Nat.reduceLT, Nat.reduceAdd, Nat.reduceMul, Nat.reduceLeDiff, Nat.reduceEqDiff, reduceIte, Int.reduceBEq, Int.reduceBNe, Int.reduceLT, Int.reduceLE, Int.reduceGT, Int.reduceGE, Int.reduceNeg, reduceCtorEq, hps, h0]; rfl) ⟨rfl, ?_⟩)
  rcases bad_cases h with hb | ⟨ha, hb⟩ | ⟨i, rfl, hi, hb⟩ | ⟨i, hi, rfl, hb0, hb⟩
  · have d1 : decide (a ≥ 0) = false := decide_eq_false (by omega)
    refine W_seqn (W_region (fun k => by simp (decide := true) (disch := first | omega | (simp (decide := true) only [List.length_set, hl]; done) | fail) only [sims, evRegion, evOps, evOp, evG, evR, guardT, callee, opRes, pureR, binT, unT, T.cells, T.leaf, fillT, splice, Nat.reduceLT, Nat.reduceAdd, Nat.reduceMul, Nat.reduceLeDiff, Nat.reduceEqDiff, reduceIte, Int.reduceBEq, Int.reduceBNe, Int.reduceLT, Int.reduceLE, Int.reduceGT, Int.reduceGE, Int.reduceNeg, reduceCtorEq, hps, h1, h2, d1]; rfl) ⟨rfl, W_ret ?_⟩)
    refine fin_of (F := f42) rfl (fun _ => rfl) ?_
    simp (decide := true) (disch := first | omega | (simp (decide := true) only [List.length_set, hl]; done) | fail) only [sims, evRegion, evOps, evOp, evG, evR, guardT, callee, opRes, pureR, binT, unT, T.cells, T.leaf, fillT, splice, Nat.reduceLT, Nat.reduceAdd, Nat.reduceMul, Nat.reduceLeDiff, Nat.reduceEqDiff, reduceIte, Int.reduceBEq, Int.reduceBNe, Int.reduceLT, Int.reduceLE, Int.reduceGT, Int.reduceGE, Int.reduceNeg, reduceCtorEq, hps]
  · have d1 : decide (a ≥ 0) = true := decide_eq_true ha
    have d2 : decide (a < (R.length : Int)) = false := decide_eq_false (by omega)
    refine W_seqn (W_region (fun k => by simp (decide := true) (disch := first | omega | (simp (decide := true) only [List.length_set, hl]; done) | fail) only [sims, evRegion, evOps, evOp, evG, evR, guardT, callee, opRes, pureR, binT, unT, T.cells, T.leaf, fillT, splice, Nat.reduceLT, Nat.reduceAdd, Nat.reduceMul, Nat.reduceLeDiff, Nat.reduceEqDiff, reduceIte, Int.reduceBEq, Int.reduceBNe, Int.reduceLT, Int.reduceLE, Int.reduceGT, Int.reduceGE, Int.reduceNeg, reduceCtorEq, hps, h1, h2, d1, d2]; rfl) ⟨rfl, W_ret ?_⟩)
    refine fin_of (F := f42) rfl (fun _ => rfl) ?_
    simp (decide := true) (disch := first | omega | (simp (decide := true) only [List.length_set, hl]; done) | fail) only [sims, evRegion, evOps, evOp, evG, evR, guardT, callee, opRes, pureR, binT, unT, T.cells, T.leaf, fillT, splice, Nat.reduceLT, Nat.reduceAdd, Nat.reduceMul, Nat.reduceLeDiff, Nat.reduceEqDiff, reduceIte, Int.reduceBEq, Int.reduceBNe, Int.reduceLT, Int.reduceLE, Int.reduceGT, Int.reduceGE, Int.reduceNeg, reduceCtorEq, hps]
  · have d1 : decide ((i : Int) ≥ 0) = true := decide_eq_true (by omega)
    have d2 : decide ((i : Int) < (R.length : Int)) = true := decide_eq_true (by omega)
    have d3 : decide (b ≥ 0) = false := decide_eq_false (by omega)
    refine W_seqn (W_region (fun k => by simp (decide := true) (disch := first | omega | (simp (decide := true) only [List.length_set, hl]; done) | fail) only [sims, evRegion, evOps, evOp, evG, evR, guardT, callee, opRes, pureR, binT, unT, T.cells, T.leaf, fillT, splice, Nat.reduceLT, Nat.reduceAdd, Nat.reduceMul, Nat.reduceLeDiff, Nat.reduceEqDiff, reduceIte, Int.reduceBEq, Int.reduceBNe, Int.reduceLT, Int.reduceLE, Int.reduceGT, Int.reduceGE, Int.reduceNeg, reduceCtorEq, hps, h1, h2, d1, d2, d3]; rfl) ⟨rfl, W_ret ?_⟩)
    refine fin_of (F := f42) rfl (fun _ => rfl) ?_
    simp (decide := true) (disch := first | omega | (simp (decide := true) only [List.length_set, hl]; done) | fail) only [sims, evRegion, evOps, evOp, evG, evR, guardT, callee, opRes, pureR, binT, unT, T.cells, T.leaf, fillT, splice, Nat.reduceLT, Nat.reduceAdd, Nat.reduceMul, Nat.reduceLeDiff, Nat.reduceEqDiff, reduceIte, Int.reduceBEq, Int.reduceBNe, Int.reduceLT, Int.reduceLE, Int.reduceGT, Int.reduceGE, Int.reduceNeg, reduceCtorEq, hps]
  · have d1 : decide ((i : Int) ≥ 0) = true := decide_eq_true (by omega)
    have d2 : decide ((i : Int) < (R.length : Int)) = true := decide_eq_true (by omega)
    have d3 : decide (b ≥ 0) = true := decide_eq_true (by omega)
    have d4 : decide (b < (R[i].length : Int)) = false := decide_eq_false (by omega)
    obtain ⟨f, hxi⟩ := hx.2 i hi
    have hbb : i * 1 + 1 ≤ R.length := by omega
    refine W_seqn (W_region (fun k => by simp (decide := true) (disch := first | omega | (simp (decide := true) only [List.length_set, hl]; done) | fail) only [sims, evRegion, evOps, evOp, evG, evR, guardT, callee, opRes, pureR, binT, unT, T.cells, T.leaf, fillT, splice, Nat.reduceLT, Nat.reduceAdd, Nat.reduceMul, Nat.reduceLeDiff, Nat.reduceEqDiff, reduceIte, Int.reduceBEq, Int.reduceBNe, Int.reduceLT, Int.reduceLE, Int.reduceGT, Int.reduceGE, Int.reduceNeg, reduceCtorEq, hps, h1, h2, d1, d2, d3, d4, hxl, hi, hbb, hxi]; rfl) ⟨rfl, W_ret ?_⟩)
    refine fin_of (F := f42) rfl (fun _ => rfl) ?_
    simp (decide := true) (disch := first | omega | (simp (decide := true) only [List.length_set, hl]; done) | fail) only [sims, evRegion, evOps, evOp, evG, evR, guardT, callee, opRes, pureR, binT, unT, T.cells, T.leaf, fillT, splice, Nat.reduceLT, Nat.reduceAdd, Nat.reduceMul, Nat.reduceLeDiff, Nat.reduceEqDiff, reduceIte, Int.reduceBEq, Int.reduceBNe, Int.reduceLT, Int.reduceLE, Int.reduceGT, Int.reduceGE, Int.reduceNeg, reduceCtorEq, hps]
theorem is_ok (fx : Bool) (R : List (List Way)) (xs : List T) (hx : Tells xs R) (i w : Nat) (hi : i < R.length) (hwl : w < R[i].length) : E ap 42 [.agg [.imm fx R.length xs], .int .i64 (i : Int), .int .i64 (w : Int)] (.bool true) := by
  refine E_body (F := f42) rfl rfl rfl ?_
  generalize hs0 : (_ : List T) ++ List.replicate _ T.undef = s0
  have e0 : s0.length = 30 ∧ rho s0 (.tmp 0) = .agg [.imm fx R.length xs] ∧ rho s0 (.tmp 1) = .int .i64 (i : Int) ∧ rho s0 (.tmp 2) = .int .i64 (w : Int) := by subst hs0; exact ⟨rfl, rfl, rfl, rfl⟩
  clear hs0
  obtain ⟨hl, h0, h1, h2⟩ := e0
  have hxl := hx.1
  have d1 : decide ((i : Int) ≥ 0) = true := decide_eq_true (by omega)
  have d2 : decide ((i : Int) < (R.length : Int)) = true := decide_eq_true (by omega)
  have d3 : decide ((w : Int) ≥ 0) = true := decide_eq_true (by omega)
  have d4 : decide ((w : Int) < (R[i].length : Int)) = true := decide_eq_true (by omega)
  obtain ⟨f, hxi⟩ := hx.2 i hi
  have hbb : i * 1 + 1 ≤ R.length := by omega
  refine W_seqn (W_region (fun k => by simp (decide := true) (disch := first | omega | (simp (decide := true) only [List.length_set, hl]; done) | fail) only [sims, evRegion, evOps, evOp, evG, evR, guardT, callee, opRes, pureR, binT, unT, T.cells, T.leaf, fillT, splice, Nat.reduceLT, Nat.reduceAdd, Nat.reduceMul, Nat.reduceLeDiff, Nat.reduceEqDiff, reduceIte, Int.reduceBEq, Int.reduceBNe, Int.reduceLT, Int.reduceLE, Int.reduceGT, Int.reduceGE, Int.reduceNeg, reduceCtorEq, hps, h0]; rfl) ⟨rfl, ?_⟩)
  refine W_seqn (W_region (fun k => by simp (decide := true) (disch := first | omega | (simp (decide := true) only [List.length_set, hl]; done) | fail) only [sims, evRegion, evOps, evOp, evG, evR, guardT, callee, opRes, pureR, binT, unT, T.cells, T.leaf, fillT, splice, Nat.reduceLT, Nat.reduceAdd, Nat.reduceMul, Nat.reduceLeDiff, Nat.reduceEqDiff, reduceIte, Int.reduceBEq, Int.reduceBNe, Int.reduceLT, Int.reduceLE, Int.reduceGT, Int.reduceGE, Int.reduceNeg, reduceCtorEq, hps, h1, h2, d1, d2, d3, d4, hxl, hi, hbb, hxi]; rfl) ⟨rfl, W_ret ?_⟩)
  refine fin_of (F := f42) rfl (fun _ => rfl) ?_
  simp (decide := true) (disch := first | omega | (simp (decide := true) only [List.length_set, hl]; done) | fail) only [sims, evRegion, evOps, evOp, evG, evR, guardT, callee, opRes, pureR, binT, unT, T.cells, T.leaf, fillT, splice, Nat.reduceLT, Nat.reduceAdd, Nat.reduceMul, Nat.reduceLeDiff, Nat.reduceEqDiff, reduceIte, Int.reduceBEq, Int.reduceBNe, Int.reduceLT, Int.reduceLE, Int.reduceGT, Int.reduceGE, Int.reduceNeg, reduceCtorEq, hps]

/-- Slices, each in a block of its own. -/
def RowsAt (g : Mem) (els : List T) (L : List (List Way)) : Prop := els.length = L.length ∧ ∀ j (h : j < L.length), ∃ b, els[j]? = some (.own b 0 L[j].length 19) ∧ g b = some (L[j].flatMap Way.enc)
def rowsT (L : List (List Way)) : List T := L.map fun l => .imm false l.length (l.flatMap Way.enc)
theorem tells_rows (L : List (List Way)) : Tells (rowsT L) L := by
  refine ⟨by unfold rowsT; rw [List.length_map], fun i h => ⟨false, ?_⟩⟩
  unfold rowsT
  rw [Nat.mul_one, List.getElem?_map, List.getElem?_eq_getElem h]; rfl
theorem frz_copied {g : Mem} {nx d A : Nat} {els : List T} {L : List (List Way)} (hL : ∀ l ∈ L, ∀ w ∈ l, w.wf) (hA : g A = some els) (hr : RowsAt g els L) : ∃ ids, frz ⟨g, nx⟩ (d + 4) (.agg [.own A 0 L.length 1]) = some (.agg [.imm false L.length (rowsT L)], ids) := by
  refine frz_agg1 (frz_own (h := ⟨g, nx⟩) hA (by rw [hr.1]; omega) (frzAll_pt _ _ (by rw [hr.1]; unfold rowsT; rw [List.length_map]) (fun j hj hj' => ?_)))
  have hj2 : j < L.length := by rw [← hr.1]; exact hj
  obtain ⟨b, h1, h2⟩ := hr.2 j hj2
  rw [List.getElem?_eq_getElem hj] at h1
  rw [Option.some.inj h1]
  have e : (rowsT L)[j] = .imm false L[j].length (L[j].flatMap Way.enc) := by simp [rowsT]
  rw [e]
  exact frz_own h2 (enc_len _ (hL _ (List.getElem_mem hj2))) ⟨[], frzAll_int _ (enc_ints _)⟩
def rtLoop : ACode := match f20.body with | .seq _ (.seq _ (.seq _ (.seq (.seq _ (.block _ (.loop c))) _))) => c | _ => .skip
theorem rt_loop (fx : Bool) (n i w A B : Nat) (a : Int) (xs els : List T) (hxl : xs.length = n) (hel : els.length = n) (hi : i < n) (f : Bool) (l : List Way) (hw : ∀ x ∈ l, x.wf) (hll : l.length ≤ 1000) (hwl : w < l.length) (haw : a = (wayN l w).age) (hxi : xs[i * 1]? = some (.imm f l.length (l.flatMap Way.enc))) (hei : els[i * 1]? = some (.own B 0 l.length 19)) (g1 : Mem) (g10 : g1 0 = some [.imm fx n xs]) (g14 : g1 4 = some [.own A 0 n 1]) (g1A : g1 A = some els) (hB0 : 6 ≤ B) (hAB : B < A) (Q : AExit → St → Prop)
    (hQe : ∀ st : St, st.s.length = 73 → rho st.s (.tmp 1) = .int .i64 (i : Int) → rho st.s (.tmp 2) = .int .i64 (w : Int) → rho st.s (.tmp 6) = .ptr 1 0 → rho st.s (.tmp 7) = .ptr 4 0 → (∀ t, t ≠ B → st.g t = g1 t) → st.g B = some ((bumpK a l.length l).flatMap Way.enc) → Q (.exit 0) st) :
    ∀ (m : Nat) (st : St), (∃ k : Nat, st.s.length = 73 ∧ rho st.s (.tmp 1) = .int .i64 (i : Int) ∧ rho st.s (.tmp 2) = .int .i64 (w : Int) ∧ rho st.s (.tmp 3) = .ptr 0 0 ∧ rho st.s (.tmp 6) = .ptr 1 0 ∧ rho st.s (.tmp 7) = .ptr 4 0 ∧ (∀ t, t ≠ B → st.g t = g1 t) ∧ st.g B = some ((bumpK a k l).flatMap Way.enc) ∧ rho st.s (.tmp 8) = .int .i64 (k : Int) ∧ k ≤ l.length ∧ m = l.length - k) → W ap (.loop rtLoop) st Q := by
  refine W_loop _ ?_
  rintro m st ⟨k, hl, h1, h2, h3, h6, h7, hg, gB, h8, hk, hm⟩
  have hb : i * 1 + 1 ≤ n := by omega
  have g0 := hg 0 (by omega)
  have g4 := hg 4 (by omega)
  have gA := hg A (by omega)
  rw [g10] at g0
  rw [g14] at g4
  rw [g1A] at gA
  by_cases hend : k = l.length
  · have hlt : decide ((k : Int) < (l.length : Int)) = false := decide_eq_false (by omega)
    refine W_seq (W_seqn (W_region (fun k => by simp (decide := true) (disch := first | omega | (simp (decide := true) only [List.length_set, hl]; done) | fail) only [sims, evRegion, evOps, evOp, evG, evR, guardT, callee, opRes, pureR, binT, unT, T.cells, T.leaf, fillT, splice, Nat.reduceLT, Nat.reduceAdd, Nat.reduceMul, Nat.reduceLeDiff, Nat.reduceEqDiff, reduceIte, Int.reduceBEq, Int.reduceBNe, Int.reduceLT, Int.reduceLE, Int.reduceGT, Int.reduceGE, Int.reduceNeg, reduceCtorEq, h7, h1, h8, g4, gA, hel, hi, hb, hei, hlt]; rfl) ⟨rfl, W_false (by simp (decide := true) (disch := first | omega | (simp (decide := true) only [List.length_set, hl]; done) | fail) only [sims, evRegion, evOps, evOp, evG, evR, guardT, callee, opRes, pureR, binT, unT, T.cells, T.leaf, fillT, splice, Nat.reduceLT, Nat.reduceAdd, Nat.reduceMul, Nat.reduceLeDiff, Nat.reduceEqDiff, reduceIte, Int.reduceBEq, Int.reduceBNe, Int.reduceLT, Int.reduceLE, Int.reduceGT, Int.reduceGE, Int.reduceNeg, reduceCtorEq] <;> rfl) (W_exit ?_)⟩))
    refine (.inr ⟨by simp, .inr ⟨by simp, hQe _ ?_ ?_ ?_ ?_ ?_ hg (by rw [← hend]; exact gB)⟩⟩)
    all_goals simp (decide := true) (disch := first | omega | (simp (decide := true) only [List.length_set, hl]; done) | fail) only [sims, evRegion, evOps, evOp, evG, evR, guardT, callee, opRes, pureR, binT, unT, T.cells, T.leaf, fillT, splice, Nat.reduceLT, Nat.reduceAdd, Nat.reduceMul, Nat.reduceLeDiff, Nat.reduceEqDiff, reduceIte, Int.reduceBEq, Int.reduceBNe, Int.reduceLT, Int.reduceLE, Int.reduceGT, Int.reduceGE, Int.reduceNeg, reduceCtorEq, hl, h1, h2, h6, h7]
  · have hlt : decide ((k : Int) < (l.length : Int)) = true := decide_eq_true (by omega)
    have hkl : k < l.length := by omega
    have hw2 : IntKind.i64.wrap ((k : Int) + 1) = ((k + 1 : Nat) : Int) := by rw [wrap_id (by omega)]; omega
    have hww := wf_i64 (wayN_wf hw hwl).2.2.2
    have ha : a ≤ 9223372036854775807 := by rw [haw]; exact hww.2
    have hbw := mem_bump (k := k) hw ha
    have hbl := bump_len a k l
    have hcl := enc_len _ hbw
    have hset := set_age _ hbw k (by omega)
    have hsucc := bump_succ a k l hkl
    have hagk := age_at l hw k hkl
    have hagw := age_at l hw w hwl
    rw [← haw] at hagw
    have hcl0 := enc_len l hw
    rw [hbl] at hcl
    have hb2 : k * 19 + 18 + 1 ≤ l.length * 19 := by omega
    have hb4 : k * 19 + 19 ≤ l.length * 19 := by omega
    have hb5 : w * 19 + 19 ≤ l.length * 19 := by omega
    have hb3 : w * 19 + 18 + 1 ≤ l.length * 19 := by omega
    have hwk := wf_i64 (wayN_wf hw hkl).2.2.2
    have hagb := age_at _ hbw k (by omega)
    rw [bump_get a k l hkl] at hset hagb
    generalize hx : wayN l k = x at *
    generalize hws : (bumpK a k l).flatMap Way.enc = ws at *
    generalize l.flatMap Way.enc = ls at *
    refine W_seqn (W_seqn (W_region (fun k => by simp (decide := true) (disch := first | omega | (simp (decide := true) only [List.length_set, hl]; done) | fail) only [sims, evRegion, evOps, evOp, evG, evR, guardT, callee, opRes, pureR, binT, unT, T.cells, T.leaf, fillT, splice, Nat.reduceLT, Nat.reduceAdd, Nat.reduceMul, Nat.reduceLeDiff, Nat.reduceEqDiff, reduceIte, Int.reduceBEq, Int.reduceBNe, Int.reduceLT, Int.reduceLE, Int.reduceGT, Int.reduceGE, Int.reduceNeg, reduceCtorEq, h7, h1, h8, g4, gA, hel, hi, hb, hei, hlt]; rfl) ⟨rfl, W_true (by simp (decide := true) (disch := first | omega | (simp (decide := true) only [List.length_set, hl]; done) | fail) only [sims, evRegion, evOps, evOp, evG, evR, guardT, callee, opRes, pureR, binT, unT, T.cells, T.leaf, fillT, splice, Nat.reduceLT, Nat.reduceAdd, Nat.reduceMul, Nat.reduceLeDiff, Nat.reduceEqDiff, reduceIte, Int.reduceBEq, Int.reduceBNe, Int.reduceLT, Int.reduceLE, Int.reduceGT, Int.reduceGE, Int.reduceNeg, reduceCtorEq] <;> rfl) (W_skip ⟨rfl, ?_⟩)⟩))
    by_cases hlt2 : x.age < a
    · have hd : decide (x.age < a) = true := decide_eq_true hlt2
      have hw3 : IntKind.i64.wrap (x.age + 1) = x.age + 1 := wrap_id (by omega)
      have hup : up a x = aged x (x.age + 1) := by unfold up; rw [if_pos hlt2]
      refine W_seqn (W_block (W_seqn (W_region (fun k => by simp (decide := true) (disch := first | omega | (simp (decide := true) only [List.length_set, hl]; done) | fail) only [sims, evRegion, evOps, evOp, evG, evR, guardT, callee, opRes, pureR, binT, unT, T.cells, T.leaf, fillT, splice, Nat.reduceLT, Nat.reduceAdd, Nat.reduceMul, Nat.reduceLeDiff, Nat.reduceEqDiff, reduceIte, Int.reduceBEq, Int.reduceBNe, Int.reduceLT, Int.reduceLE, Int.reduceGT, Int.reduceGE, Int.reduceNeg, reduceCtorEq, h3, h1, h2, h8, g0, hxl, hi, hb, hxi, hkl, hwl, hcl0, hb2, hb3, hb4, hb5, hagk, hagw, hd]; rfl) ⟨rfl, W_true (by simp (decide := true) (disch := first | omega | (simp (decide := true) only [List.length_set, hl]; done) | fail) only [sims, evRegion, evOps, evOp, evG, evR, guardT, callee, opRes, pureR, binT, unT, T.cells, T.leaf, fillT, splice, Nat.reduceLT, Nat.reduceAdd, Nat.reduceMul, Nat.reduceLeDiff, Nat.reduceEqDiff, reduceIte, Int.reduceBEq, Int.reduceBNe, Int.reduceLT, Int.reduceLE, Int.reduceGT, Int.reduceGE, Int.reduceNeg, reduceCtorEq] <;> rfl) ?_⟩)))
      refine W_region (fun k => by simp (decide := true) (disch := first | omega | (simp (decide := true) only [List.length_set, hl]; done) | fail) only [sims, evRegion, evOps, evOp, evG, evR, guardT, callee, opRes, pureR, binT, unT, T.cells, T.leaf, fillT, splice, Nat.reduceLT, Nat.reduceAdd, Nat.reduceMul, Nat.reduceLeDiff, Nat.reduceEqDiff, reduceIte, Int.reduceBEq, Int.reduceBNe, Int.reduceLT, Int.reduceLE, Int.reduceGT, Int.reduceGE, Int.reduceNeg, reduceCtorEq, hps, h3, h7, h1, h2, h8, g0, g4, gA, gB, hel, hei, hxl, hi, hb, hxi, hkl, hwl, hcl0, hcl, hb2, hb4, hagk, hw3]; rfl) (.inr (.inl ⟨by simp, rfl, ?_⟩))
      refine W_region (fun k => by simp (decide := true) (disch := first | omega | (simp (decide := true) only [List.length_set, hl]; done) | fail) only [sims, evRegion, evOps, evOp, evG, evR, guardT, callee, opRes, pureR, binT, unT, T.cells, T.leaf, fillT, splice, Nat.reduceLT, Nat.reduceAdd, Nat.reduceMul, Nat.reduceLeDiff, Nat.reduceEqDiff, reduceIte, Int.reduceBEq, Int.reduceBNe, Int.reduceLT, Int.reduceLE, Int.reduceGT, Int.reduceGE, Int.reduceNeg, reduceCtorEq, h8, hw2]; rfl) ?_
      refine (.inl ⟨rfl, l.length - (k + 1), by omega, k + 1, ?_, ?_, ?_, ?_, ?_, ?_, ?_, ?_, ?_, by omega, rfl⟩)
      rotate_left 6
      · intro t ht
        rw [← hg t ht]
        simp (decide := true) (disch := first | omega | (simp (decide := true) only [List.length_set, hl]; done) | fail) only [sims, evRegion, evOps, evOp, evG, evR, guardT, callee, opRes, pureR, binT, unT, T.cells, T.leaf, fillT, splice, Nat.reduceLT, Nat.reduceAdd, Nat.reduceMul, Nat.reduceLeDiff, Nat.reduceEqDiff, reduceIte, Int.reduceBEq, Int.reduceBNe, Int.reduceLT, Int.reduceLE, Int.reduceGT, Int.reduceGE, Int.reduceNeg, reduceCtorEq, hps]
      · rw [hsucc, hup, hset]
        simp (decide := true) (disch := first | omega | (simp (decide := true) only [List.length_set, hl]; done) | fail) only [sims, evRegion, evOps, evOp, evG, evR, guardT, callee, opRes, pureR, binT, unT, T.cells, T.leaf, fillT, splice, Nat.reduceLT, Nat.reduceAdd, Nat.reduceMul, Nat.reduceLeDiff, Nat.reduceEqDiff, reduceIte, Int.reduceBEq, Int.reduceBNe, Int.reduceLT, Int.reduceLE, Int.reduceGT, Int.reduceGE, Int.reduceNeg, reduceCtorEq, hps]
      all_goals simp (decide := true) (disch := first | omega | (simp (decide := true) only [List.length_set, hl]; done) | fail) only [sims, evRegion, evOps, evOp, evG, evR, guardT, callee, opRes, pureR, binT, unT, T.cells, T.leaf, fillT, splice, Nat.reduceLT, Nat.reduceAdd, Nat.reduceMul, Nat.reduceLeDiff, Nat.reduceEqDiff, reduceIte, Int.reduceBEq, Int.reduceBNe, Int.reduceLT, Int.reduceLE, Int.reduceGT, Int.reduceGE, Int.reduceNeg, reduceCtorEq, hl, h1, h2, h3, h6, h7, h8]
    · have hd : decide (x.age < a) = false := decide_eq_false hlt2
      have hup : up a x = aged x x.age := by unfold up; rw [if_neg hlt2]; rfl
      have hsame : ws.set (k * 19 + 18) (.int .i64 x.age) = ws := by
        apply List.ext_getElem?
        intro j
        rw [List.getElem?_set]
        by_cases hj : k * 19 + 18 = j
        · subst hj; rw [if_pos rfl, if_pos (by omega), hagb]
        · rw [if_neg hj]
      refine W_seqn (W_block (W_seqn (W_region (fun k => by simp (decide := true) (disch := first | omega | (simp (decide := true) only [List.length_set, hl]; done) | fail) only [sims, evRegion, evOps, evOp, evG, evR, guardT, callee, opRes, pureR, binT, unT, T.cells, T.leaf, fillT, splice, Nat.reduceLT, Nat.reduceAdd, Nat.reduceMul, Nat.reduceLeDiff, Nat.reduceEqDiff, reduceIte, Int.reduceBEq, Int.reduceBNe, Int.reduceLT, Int.reduceLE, Int.reduceGT, Int.reduceGE, Int.reduceNeg, reduceCtorEq, h3, h1, h2, h8, g0, hxl, hi, hb, hxi, hkl, hwl, hcl0, hb2, hb3, hb4, hb5, hagk, hagw, hd]; rfl) ⟨rfl, W_false (by simp (decide := true) (disch := first | omega | (simp (decide := true) only [List.length_set, hl]; done) | fail) only [sims, evRegion, evOps, evOp, evG, evR, guardT, callee, opRes, pureR, binT, unT, T.cells, T.leaf, fillT, splice, Nat.reduceLT, Nat.reduceAdd, Nat.reduceMul, Nat.reduceLeDiff, Nat.reduceEqDiff, reduceIte, Int.reduceBEq, Int.reduceBNe, Int.reduceLT, Int.reduceLE, Int.reduceGT, Int.reduceGE, Int.reduceNeg, reduceCtorEq] <;> rfl) (W_skip (.inr (.inl ⟨by simp, rfl, ?_⟩)))⟩)))
      refine W_region (fun k => by simp (decide := true) (disch := first | omega | (simp (decide := true) only [List.length_set, hl]; done) | fail) only [sims, evRegion, evOps, evOp, evG, evR, guardT, callee, opRes, pureR, binT, unT, T.cells, T.leaf, fillT, splice, Nat.reduceLT, Nat.reduceAdd, Nat.reduceMul, Nat.reduceLeDiff, Nat.reduceEqDiff, reduceIte, Int.reduceBEq, Int.reduceBNe, Int.reduceLT, Int.reduceLE, Int.reduceGT, Int.reduceGE, Int.reduceNeg, reduceCtorEq, h8, hw2]; rfl) ?_
      refine (.inl ⟨rfl, l.length - (k + 1), by omega, k + 1, ?_, ?_, ?_, ?_, ?_, ?_, hg, ?_, ?_, by omega, rfl⟩)
      rotate_left 6
      · rw [hsucc, hup, hset, hsame]
        exact gB
      all_goals simp (decide := true) (disch := first | omega | (simp (decide := true) only [List.length_set, hl]; done) | fail) only [sims, evRegion, evOps, evOp, evG, evR, guardT, callee, opRes, pureR, binT, unT, T.cells, T.leaf, fillT, splice, Nat.reduceLT, Nat.reduceAdd, Nat.reduceMul, Nat.reduceLeDiff, Nat.reduceEqDiff, reduceIte, Int.reduceBEq, Int.reduceBNe, Int.reduceLT, Int.reduceLE, Int.reduceGT, Int.reduceGE, Int.reduceNeg, reduceCtorEq, hl, h1, h2, h3, h6, h7, h8]
end Go.Proofs.Ythanlobfjpjegaa.Abs
