/- An empty cache: the program's function. -/
import Derived.Test.YthanlobfjpjegaaRight2
namespace Go.Proofs.Ythanlobfjpjegaa.Abs
open Go Go.RowKit Fn
set_option linter.unusedVariables false
set_option linter.unusedSimpArgs false
set_option linter.unnecessarySimpa false
set_option maxRecDepth 100000
set_option maxHeartbeats 1000000

theorem ap30 : ap 30 = some f30 := rfl
theorem p30 : f30.pure = true := rfl
theorem n30 : f30.nat = none := rfl
def clampN (x : Int) (hi : Nat) : Nat := if x < 1 then 1 else if x > hi then hi else x.toNat
theorem clampN_range (x : Int) (hi : Nat) (h : 1 ≤ hi) : 1 ≤ clampN x hi ∧ clampN x hi ≤ hi := by
  unfold clampN; split
  · omega
  · split <;> omega
theorem clamp_val (x : Int) (hi : Nat) (h : 1 ≤ hi) : (if ((hi : Nat) : Int) < (if (1 : Int) > x then (1 : Int) else x) then ((hi : Nat) : Int) else (if (1 : Int) > x then (1 : Int) else x)) = (clampN x hi : Int) := by
  unfold clampN
  by_cases h1 : x < 1
  · rw [if_pos (show (1 : Int) > x by omega), if_pos h1, if_neg (by omega)]; rfl
  · rw [if_neg (show ¬ (1 : Int) > x by omega), if_neg h1]
    by_cases h2 : x > hi
    · rw [if_pos h2, if_pos h2]
    · rw [if_neg h2, if_neg h2]; omega
theorem clampE (x : Int) (hi : Nat) (h : 1 ≤ hi) : E ap 30 [.int .i64 x, .int .i64 1, .int .i64 (hi : Int)] (.int .i64 (clampN x hi : Int)) := by
  refine E_body (F := f30) rfl rfl rfl ?_
  generalize hs0 : (_ : List T) ++ List.replicate _ T.undef = s0
  have e0 : s0.length = 12 ∧ rho s0 (.tmp 0) = .int .i64 x ∧ rho s0 (.tmp 1) = .int .i64 1 ∧ rho s0 (.tmp 2) = .int .i64 (hi : Int) := by subst hs0; exact ⟨rfl, rfl, rfl, rfl⟩
  clear hs0
  obtain ⟨hl, h0, h1, h2⟩ := e0
  have hv := clamp_val x hi h
  generalize hm : (if (1 : Int) > x then (1 : Int) else x) = y at *
  refine W_seqn (W_region (fun k => by simp (decide := true) (disch := first | omega | (simp (decide := true) only [List.length_set, hl]; done) | fail) only [sims, evRegion, evOps, evOp, evG, evR, guardT, callee, opRes, pureR, binT, unT, T.cells, T.leaf, fillT, splice, Nat.reduceLT, Nat.reduceAdd, Nat.reduceMul, Nat.reduceLeDiff, Nat.reduceEqDiff, reduceIte, Int.reduceBEq, Int.reduceBNe, Int.reduceLT, Int.reduceLE, Int.reduceGT, Int.reduceGE, Int.reduceNeg, reduceCtorEq]; rfl) ⟨rfl, ?_⟩)
  refine W_seqn (W_region (fun k => by simp (decide := true) (disch := first | omega | (simp (decide := true) only [List.length_set, hl]; done) | fail) only [sims, evRegion, evOps, evOp, evG, evR, guardT, callee, opRes, pureR, binT, unT, T.cells, T.leaf, fillT, splice, Nat.reduceLT, Nat.reduceAdd, Nat.reduceMul, Nat.reduceLeDiff, Nat.reduceEqDiff, reduceIte, Int.reduceBEq, Int.reduceBNe, Int.reduceLT, Int.reduceLE, Int.reduceGT, Int.reduceGE, Int.reduceNeg, reduceCtorEq, h0, h1, h2, minL, maxL, List.foldlM_cons, List.foldlM_nil, hm, hv, bind, Option.bind_some, pure]; rfl) ⟨rfl, W_ret ?_⟩)
  refine fin_of (F := f30) rfl (fun _ => rfl) ?_
  simp (decide := true) (disch := first | omega | (simp (decide := true) only [List.length_set, hl]; done) | fail) only [sims, evRegion, evOps, evOp, evG, evR, guardT, callee, opRes, pureR, binT, unT, T.cells, T.leaf, fillT, splice, Nat.reduceLT, Nat.reduceAdd, Nat.reduceMul, Nat.reduceLeDiff, Nat.reduceEqDiff, reduceIte, Int.reduceBEq, Int.reduceBNe, Int.reduceLT, Int.reduceLE, Int.reduceGT, Int.reduceGE, Int.reduceNeg, reduceCtorEq]
def newK (m k : Nat) : List Way := (List.range m).map fun (j : Nat) => if j < k then aged zeroW (j : Int) else zeroW
def newRow (m : Nat) : List Way := (List.range m).map fun (j : Nat) => aged zeroW (j : Int)
def newR (n m : Nat) : List (List Way) := List.replicate n (newRow m)
theorem newK_len (m k : Nat) : (newK m k).length = m := by unfold newK; rw [List.length_map, List.length_range]
theorem newRow_len (m : Nat) : (newRow m).length = m := by unfold newRow; rw [List.length_map, List.length_range]
theorem newK_get (m k j : Nat) (h : j < m) : wayN (newK m k) j = if j < k then aged zeroW (j : Int) else zeroW := by
  unfold wayN newK; rw [List.getElem?_map, List.getElem?_range h]; rfl
theorem newRow_get (m j : Nat) (h : j < m) : wayN (newRow m) j = aged zeroW (j : Int) := by
  unfold wayN newRow; rw [List.getElem?_map, List.getElem?_range h]; rfl
theorem newK_all (m : Nat) : newK m m = newRow m := by
  unfold newK newRow
  refine List.map_congr_left (fun j hj => ?_)
  rw [if_pos (List.mem_range.mp hj)]
theorem newK_wf (m k : Nat) (hm : m ≤ 1000) : ∀ w ∈ newK m k, w.wf := by
  intro w hw
  unfold newK at hw
  rw [List.mem_map] at hw
  obtain ⟨j, hj, rfl⟩ := hw
  have := List.mem_range.mp hj
  split
  · exact aged_wf zeroW_wf (lit_i64 (by omega))
  · exact zeroW_wf
theorem newRow_wf (m : Nat) (hm : m ≤ 1000) : ∀ w ∈ newRow m, w.wf := by rw [← newK_all]; exact newK_wf m m hm
theorem newK_succ (m k : Nat) (h : k < m) : newK m (k + 1) = (newK m k).set k (aged (wayN (newK m k) k) (k : Int)) := by
  apply List.ext_getElem?
  intro j
  rw [List.getElem?_set, newK_len, newK_get m k k h, if_neg (show ¬ k < k by omega)]
  unfold newK
  rw [List.getElem?_map, List.getElem?_map]
  by_cases hj : k = j
  · subst hj
    rw [if_pos rfl, if_pos h, List.getElem?_range h]
    show some (if k < k + 1 then aged zeroW (k : Int) else zeroW) = _
    rw [if_pos (by omega)]
  · rw [if_neg hj]
    by_cases hjm : j < m
    · rw [List.getElem?_range hjm]
      show some (if j < k + 1 then aged zeroW (j : Int) else zeroW) = some (if j < k then aged zeroW (j : Int) else zeroW)
      by_cases hjk : j < k
      · rw [if_pos hjk, if_pos (by omega)]
      · rw [if_neg hjk, if_neg (by omega)]
    · rw [List.getElem?_eq_none (by rw [List.length_range]; omega)]; rfl
theorem newK_zero (m : Nat) : (List.replicate m zeroW.enc).flatten = (newK m 0).flatMap Way.enc := by
  have e : newK m 0 = List.replicate m zeroW := by
    unfold newK
    apply List.ext_getElem?
    intro j
    rw [List.getElem?_map, List.getElem?_replicate]
    by_cases hj : j < m
    · rw [List.getElem?_range hj, if_pos hj]; rfl
    · rw [List.getElem?_eq_none (by rw [List.length_range]; omega), if_neg hj]; rfl
  rw [e, List.flatMap_def, List.map_replicate]
theorem nil_rows (n : Nat) : ((List.replicate n [T.imm true 0 []]).flatten).length = n := by
  induction n with
  | zero => rfl
  | succ m ih => rw [List.replicate_succ, List.flatten_cons, List.length_append, ih]; simp; omega
/-- The first i rows made, each in a block of its own. -/
def NewAt (g : Mem) (els : List T) (n m i lo hi : Nat) : Prop := els.length = n ∧ ∀ j, j < i → ∃ b, lo ≤ b ∧ b < hi ∧ els[j]? = some (.own b 0 m 19) ∧ g b = some ((newRow m).flatMap Way.enc)
def nwOut : ACode := match f10.body with | .seq _ (.seq _ (.seq (.seq _ (.block _ (.loop c))) _)) => c | _ => .skip
def nwIn : ACode := match nwOut with | .seq _ (.seq _ (.seq (.block _ (.seq _ (.seq _ (.seq _ (.block _ (.loop c)))))) _)) => c | _ => .skip
theorem nw_in (n m i b : Nat) (hm4 : m ≤ 4) (els : List T) (hel : els.length = n) (hi : i < n) (hei : els[i * 1]? = some (.own b 0 m 19)) (g1 : Mem) (g15 : g1 5 = some [.own 3 0 n 1]) (g13 : g1 3 = some els) (hb7 : 7 ≤ b) (v1 : T) (Q : AExit → St → Prop)
    (hQe : ∀ st : St, st.s.length = 46 → rho st.s (.tmp 1) = v1 → rho st.s (.tmp 4) = .ptr 0 0 → rho st.s (.tmp 5) = .ptr 5 0 → rho st.s (.tmp 14) = .int .i64 (n : Int) → rho st.s (.tmp 15) = .int .i64 (i : Int) → (∀ t, t ≠ b → st.g t = g1 t) → st.g b = some ((newRow m).flatMap Way.enc) → b < st.nx → Q (.exit 2) st) :
    ∀ (d : Nat) (st : St), (∃ k : Nat, st.s.length = 46 ∧ rho st.s (.tmp 1) = v1 ∧ rho st.s (.tmp 4) = .ptr 0 0 ∧ rho st.s (.tmp 5) = .ptr 5 0 ∧ rho st.s (.tmp 6) = .int .i64 (i : Int) ∧ rho st.s (.tmp 14) = .int .i64 (n : Int) ∧ rho st.s (.tmp 15) = .int .i64 (i : Int) ∧ rho st.s (.tmp 30) = .int .i64 (m : Int) ∧ rho st.s (.tmp 31) = .int .i64 (k : Int) ∧ (∀ t, t ≠ b → st.g t = g1 t) ∧ st.g b = some ((newK m k).flatMap Way.enc) ∧ b < st.nx ∧ k ≤ m ∧ d = m - k) → W ap (.loop nwIn) st Q := by
  refine W_loop _ ?_
  rintro d st ⟨k, hl, h1, h4, h5, h6, h14, h15, h30, h31, hg, gb, hnx, hk, hd⟩
  by_cases hend : k = m
  · have hlt : decide ((k : Int) < (m : Int)) = false := decide_eq_false (by omega)
    refine W_seqn (W_region (fun k => by simp (decide := true) (disch := first | omega | (simp (decide := true) only [List.length_set, hl]; done) | fail) only [sims, evRegion, evOps, evOp, evG, evR, guardT, callee, opRes, pureR, binT, unT, T.cells, T.leaf, fillT, splice, Nat.reduceLT, Nat.reduceAdd, Nat.reduceMul, Nat.reduceLeDiff, Nat.reduceEqDiff, reduceIte, Int.reduceBEq, Int.reduceBNe, Int.reduceLT, Int.reduceLE, Int.reduceGT, Int.reduceGE, Int.reduceNeg, reduceCtorEq, h30, h31, hlt]; rfl) ⟨rfl, ?_⟩)
    refine W_seq (W_false (by simp (decide := true) (disch := first | omega | (simp (decide := true) only [List.length_set, hl]; done) | fail) only [sims, evRegion, evOps, evOp, evG, evR, guardT, callee, opRes, pureR, binT, unT, T.cells, T.leaf, fillT, splice, Nat.reduceLT, Nat.reduceAdd, Nat.reduceMul, Nat.reduceLeDiff, Nat.reduceEqDiff, reduceIte, Int.reduceBEq, Int.reduceBNe, Int.reduceLT, Int.reduceLE, Int.reduceGT, Int.reduceGE, Int.reduceNeg, reduceCtorEq] <;> rfl) (W_exit ?_))
    refine (.inr ⟨by simp, .inr ⟨by simp, hQe _ ?_ ?_ ?_ ?_ ?_ ?_ hg (by rw [← newK_all, ← hend]; rw [hend] at gb ⊢; exact gb) (Nat.lt_add_right _ hnx)⟩⟩)
    all_goals simp (decide := true) (disch := first | omega | (simp (decide := true) only [List.length_set, hl]; done) | fail) only [sims, evRegion, evOps, evOp, evG, evR, guardT, callee, opRes, pureR, binT, unT, T.cells, T.leaf, fillT, splice, Nat.reduceLT, Nat.reduceAdd, Nat.reduceMul, Nat.reduceLeDiff, Nat.reduceEqDiff, reduceIte, Int.reduceBEq, Int.reduceBNe, Int.reduceLT, Int.reduceLE, Int.reduceGT, Int.reduceGE, Int.reduceNeg, reduceCtorEq, hl, h1, h4, h5, h14, h15]
  have hlt : decide ((k : Int) < (m : Int)) = true := decide_eq_true (by omega)
  have hkm : k < m := by omega
  have hw2 : IntKind.i64.wrap ((k : Int) + 1) = ((k + 1 : Nat) : Int) := by rw [wrap_id (by omega)]; omega
  have g5 := hg 5 (by omega)
  have g3 := hg 3 (by omega)
  rw [g15] at g5
  rw [g13] at g3
  have hcl := enc_len _ (newK_wf m k (by omega))
  rw [newK_len] at hcl
  have hset := set_age _ (newK_wf m k (by omega)) k (by rw [newK_len]; exact hkm) (k : Int)
  rw [← newK_succ m k hkm] at hset
  have hb : i * 1 + 1 ≤ n := by omega
  have hb2 : k * 19 + 18 + 1 ≤ m * 19 := by omega
  generalize hd' : (newK m (k + 1)).flatMap Way.enc = us' at *
  generalize (newK m k).flatMap Way.enc = us at *
  refine W_seqn (W_region (fun k => by simp (decide := true) (disch := first | omega | (simp (decide := true) only [List.length_set, hl]; done) | fail) only [sims, evRegion, evOps, evOp, evG, evR, guardT, callee, opRes, pureR, binT, unT, T.cells, T.leaf, fillT, splice, Nat.reduceLT, Nat.reduceAdd, Nat.reduceMul, Nat.reduceLeDiff, Nat.reduceEqDiff, reduceIte, Int.reduceBEq, Int.reduceBNe, Int.reduceLT, Int.reduceLE, Int.reduceGT, Int.reduceGE, Int.reduceNeg, reduceCtorEq, h30, h31, hlt]; rfl) ⟨rfl, ?_⟩)
  refine W_seqn (W_true (by simp (decide := true) (disch := first | omega | (simp (decide := true) only [List.length_set, hl]; done) | fail) only [sims, evRegion, evOps, evOp, evG, evR, guardT, callee, opRes, pureR, binT, unT, T.cells, T.leaf, fillT, splice, Nat.reduceLT, Nat.reduceAdd, Nat.reduceMul, Nat.reduceLeDiff, Nat.reduceEqDiff, reduceIte, Int.reduceBEq, Int.reduceBNe, Int.reduceLT, Int.reduceLE, Int.reduceGT, Int.reduceGE, Int.reduceNeg, reduceCtorEq] <;> rfl) (W_skip ⟨rfl, ?_⟩))
  refine W_seqn (W_block (W_seqn (W_region (fun k => by simp (decide := true) (disch := first | omega | (simp (decide := true) only [List.length_set, hl]; done) | fail) only [sims, evRegion, evOps, evOp, evG, evR, guardT, callee, opRes, pureR, binT, unT, T.cells, T.leaf, fillT, splice, Nat.reduceLT, Nat.reduceAdd, Nat.reduceMul, Nat.reduceLeDiff, Nat.reduceEqDiff, reduceIte, Int.reduceBEq, Int.reduceBNe, Int.reduceLT, Int.reduceLE, Int.reduceGT, Int.reduceGE, Int.reduceNeg, reduceCtorEq, h31]; rfl) ⟨rfl, ?_⟩)))
  refine W_region (fun k => by simp (decide := true) (disch := first | omega | (simp (decide := true) only [List.length_set, hl]; done) | fail) only [sims, evRegion, evOps, evOp, evG, evR, guardT, callee, opRes, pureR, binT, unT, T.cells, T.leaf, fillT, splice, Nat.reduceLT, Nat.reduceAdd, Nat.reduceMul, Nat.reduceLeDiff, Nat.reduceEqDiff, reduceIte, Int.reduceBEq, Int.reduceBNe, Int.reduceLT, Int.reduceLE, Int.reduceGT, Int.reduceGE, Int.reduceNeg, reduceCtorEq, hps, h5, h6, g5, g3, gb, hel, hi, hb, hei, hkm, hcl, hb2]; rfl) (.inr (.inl ⟨by simp, rfl, ?_⟩))
  refine W_region (fun k => by simp (decide := true) (disch := first | omega | (simp (decide := true) only [List.length_set, hl]; done) | fail) only [sims, evRegion, evOps, evOp, evG, evR, guardT, callee, opRes, pureR, binT, unT, T.cells, T.leaf, fillT, splice, Nat.reduceLT, Nat.reduceAdd, Nat.reduceMul, Nat.reduceLeDiff, Nat.reduceEqDiff, reduceIte, Int.reduceBEq, Int.reduceBNe, Int.reduceLT, Int.reduceLE, Int.reduceGT, Int.reduceGE, Int.reduceNeg, reduceCtorEq, h31, hw2]; rfl) ?_
  refine (.inl ⟨rfl, m - (k + 1), by omega, k + 1, ?_, ?_, ?_, ?_, ?_, ?_, ?_, ?_, ?_, ?_, ?_, ?_, by omega, rfl⟩)
  rotate_left 9
  · intro t ht
    rw [← hg t ht]
    simp (decide := true) (disch := first | omega | (simp (decide := true) only [List.length_set, hl]; done) | fail) only [sims, evRegion, evOps, evOp, evG, evR, guardT, callee, opRes, pureR, binT, unT, T.cells, T.leaf, fillT, splice, Nat.reduceLT, Nat.reduceAdd, Nat.reduceMul, Nat.reduceLeDiff, Nat.reduceEqDiff, reduceIte, Int.reduceBEq, Int.reduceBNe, Int.reduceLT, Int.reduceLE, Int.reduceGT, Int.reduceGE, Int.reduceNeg, reduceCtorEq, hps]
  · rw [hd', hset]
    simp (decide := true) (disch := first | omega | (simp (decide := true) only [List.length_set, hl]; done) | fail) only [sims, evRegion, evOps, evOp, evG, evR, guardT, callee, opRes, pureR, binT, unT, T.cells, T.leaf, fillT, splice, Nat.reduceLT, Nat.reduceAdd, Nat.reduceMul, Nat.reduceLeDiff, Nat.reduceEqDiff, reduceIte, Int.reduceBEq, Int.reduceBNe, Int.reduceLT, Int.reduceLE, Int.reduceGT, Int.reduceGE, Int.reduceNeg, reduceCtorEq, hps]
  · exact Nat.lt_add_right _ (Nat.lt_add_right _ (Nat.lt_add_right _ (Nat.lt_add_right _ hnx)))
  all_goals simp (decide := true) (disch := first | omega | (simp (decide := true) only [List.length_set, hl]; done) | fail) only [sims, evRegion, evOps, evOp, evG, evR, guardT, callee, opRes, pureR, binT, unT, T.cells, T.leaf, fillT, splice, Nat.reduceLT, Nat.reduceAdd, Nat.reduceMul, Nat.reduceLeDiff, Nat.reduceEqDiff, reduceIte, Int.reduceBEq, Int.reduceBNe, Int.reduceLT, Int.reduceLE, Int.reduceGT, Int.reduceGE, Int.reduceNeg, reduceCtorEq, hps, hl, h1, h4, h5, h6, h14, h15, h30]
theorem nw_out (ways : Int) (n m : Nat) (hn8 : n ≤ 8) (hm : m = clampN ways 4) (Q : AExit → St → Prop)
    (hQe : ∀ st : St, (∃ els, st.s.length = 46 ∧ rho st.s (.tmp 4) = .ptr 0 0 ∧ rho st.s (.tmp 5) = .ptr 5 0 ∧ st.g 0 = some [.imm true 0 []] ∧ st.g 5 = some [.own 3 0 n 1] ∧ st.g 3 = some els ∧ NewAt st.g els n m n 7 st.nx) → Q (.exit 0) st) :
    ∀ (d : Nat) (st : St), (∃ (i : Nat) (els : List T), st.s.length = 46 ∧ rho st.s (.tmp 1) = .int .i64 ways ∧ rho st.s (.tmp 4) = .ptr 0 0 ∧ rho st.s (.tmp 5) = .ptr 5 0 ∧ rho st.s (.tmp 14) = .int .i64 (n : Int) ∧ rho st.s (.tmp 15) = .int .i64 (i : Int) ∧ st.g 0 = some [.imm true 0 []] ∧ st.g 5 = some [.own 3 0 n 1] ∧ st.g 3 = some els ∧ NewAt st.g els n m i 7 st.nx ∧ 7 ≤ st.nx ∧ i ≤ n ∧ d = n - i) → W ap (.loop nwOut) st Q := by
  have hmr := clampN_range ways 4 (by omega)
  rw [← hm] at hmr
  refine W_loop _ ?_
  rintro d st ⟨i, els, hl, h1, h4, h5, h14, h15, g0, g5, g3, ⟨hel, hrows⟩, hnx, hi, hd⟩
  by_cases hend : i = n
  · have hlt : decide ((i : Int) < (n : Int)) = false := decide_eq_false (by omega)
    refine W_seqn (W_region (fun k => by simp (decide := true) (disch := first | omega | (simp (decide := true) only [List.length_set, hl]; done) | fail) only [sims, evRegion, evOps, evOp, evG, evR, guardT, callee, opRes, pureR, binT, unT, T.cells, T.leaf, fillT, splice, Nat.reduceLT, Nat.reduceAdd, Nat.reduceMul, Nat.reduceLeDiff, Nat.reduceEqDiff, reduceIte, Int.reduceBEq, Int.reduceBNe, Int.reduceLT, Int.reduceLE, Int.reduceGT, Int.reduceGE, Int.reduceNeg, reduceCtorEq, h14, h15, hlt]; rfl) ⟨rfl, ?_⟩)
    refine W_seq (W_false (by simp (decide := true) (disch := first | omega | (simp (decide := true) only [List.length_set, hl]; done) | fail) only [sims, evRegion, evOps, evOp, evG, evR, guardT, callee, opRes, pureR, binT, unT, T.cells, T.leaf, fillT, splice, Nat.reduceLT, Nat.reduceAdd, Nat.reduceMul, Nat.reduceLeDiff, Nat.reduceEqDiff, reduceIte, Int.reduceBEq, Int.reduceBNe, Int.reduceLT, Int.reduceLE, Int.reduceGT, Int.reduceGE, Int.reduceNeg, reduceCtorEq] <;> rfl) (W_exit ?_))
    refine (.inr ⟨by simp, .inr ⟨by simp, hQe _ ⟨els, ?_, ?_, ?_, g0, g5, g3, hel, fun j hj => ?_⟩⟩⟩)
    rotate_right 1
    · obtain ⟨b, b1, b2, b3, b4⟩ := hrows j (by omega)
      exact ⟨b, b1, Nat.lt_add_right _ b2, b3, b4⟩
    all_goals simp (decide := true) (disch := first | omega | (simp (decide := true) only [List.length_set, hl]; done) | fail) only [sims, evRegion, evOps, evOp, evG, evR, guardT, callee, opRes, pureR, binT, unT, T.cells, T.leaf, fillT, splice, Nat.reduceLT, Nat.reduceAdd, Nat.reduceMul, Nat.reduceLeDiff, Nat.reduceEqDiff, reduceIte, Int.reduceBEq, Int.reduceBNe, Int.reduceLT, Int.reduceLE, Int.reduceGT, Int.reduceGE, Int.reduceNeg, reduceCtorEq, hl, h4, h5]
  have hlt : decide ((i : Int) < (n : Int)) = true := decide_eq_true (by omega)
  have hin : i < n := by omega
  have hw2 : IntKind.i64.wrap ((i : Int) + 1) = ((i + 1 : Nat) : Int) := by rw [wrap_id (by omega)]; omega
  obtain ⟨N1, c30⟩ := (clampE ways 4 (by omega)).call ap30 (fun g => rfl)
  have q30 := c30 N1 (Nat.le_refl _)
  rw [← hm] at q30
  rw [show (((4 : Nat) : Int)) = 4 from rfl] at q30
  have hr1 : m * 40 ≤ 549755813888 := by omega
  have hr2 : m ≤ 549755813888 := by omega
  have hmm : m ≤ m := Nat.le_refl _
  have hzl : zeroW.enc.length = 19 := rfl
  have hzleaf := zenc_leaf
  have hnz := newK_zero m
  have hb : i + 1 ≤ n := by omega
  have hb1 : i * 1 + 1 ≤ n := by omega
  have hout : nwOut = nwOut := rfl
  conv at hout => rhs; simp only [nwOut, f10]
  have hzu : [T.int .i64 0, T.int .u32 0, T.int .u8 0, T.int .u8 0, T.int .u8 0, T.int .u8 0, T.int .u8 0, T.int .u8 0, T.int .u8 0, T.int .u8 0, T.int .u8 0, T.int .u8 0, T.int .u8 0, T.int .u8 0, T.int .u8 0, T.int .u8 0, T.int .u8 0, T.int .u8 0, T.int .i64 0] = zeroW.enc := rfl
  rw [hout]
  clear hout
  generalize zeroW.enc = zc at *
  have hcl0 := enc_len _ (newK_wf m 0 (by omega))
  refine W_seqn (W_region (fun k => by simp (decide := true) (disch := first | omega | (simp (decide := true) only [List.length_set, hl]; done) | fail) only [sims, evRegion, evOps, evOp, evG, evR, guardT, callee, opRes, pureR, binT, unT, T.cells, T.leaf, fillT, splice, Nat.reduceLT, Nat.reduceAdd, Nat.reduceMul, Nat.reduceLeDiff, Nat.reduceEqDiff, reduceIte, Int.reduceBEq, Int.reduceBNe, Int.reduceLT, Int.reduceLE, Int.reduceGT, Int.reduceGE, Int.reduceNeg, reduceCtorEq, h14, h15, hlt]; rfl) ⟨rfl, ?_⟩)
  refine W_seqn (W_true (by simp (decide := true) (disch := first | omega | (simp (decide := true) only [List.length_set, hl]; done) | fail) only [sims, evRegion, evOps, evOp, evG, evR, guardT, callee, opRes, pureR, binT, unT, T.cells, T.leaf, fillT, splice, Nat.reduceLT, Nat.reduceAdd, Nat.reduceMul, Nat.reduceLeDiff, Nat.reduceEqDiff, reduceIte, Int.reduceBEq, Int.reduceBNe, Int.reduceLT, Int.reduceLE, Int.reduceGT, Int.reduceGE, Int.reduceNeg, reduceCtorEq] <;> rfl) (W_skip ⟨rfl, ?_⟩))
  refine W_seqn (W_block ?_)
  refine W_seqn (W_region (fun k => by simp (decide := true) (disch := first | omega | (simp (decide := true) only [List.length_set, hl]; done) | fail) only [sims, evRegion, evOps, evOp, evG, evR, guardT, callee, opRes, pureR, binT, unT, T.cells, T.leaf, fillT, splice, Nat.reduceLT, Nat.reduceAdd, Nat.reduceMul, Nat.reduceLeDiff, Nat.reduceEqDiff, reduceIte, Int.reduceBEq, Int.reduceBNe, Int.reduceLT, Int.reduceLE, Int.reduceGT, Int.reduceGE, Int.reduceNeg, reduceCtorEq, h15]; rfl) ⟨rfl, ?_⟩)
  refine W_seqn (W_regionN ⟨N1, by simp (decide := true) (disch := first | omega | (simp (decide := true) only [List.length_set, hl]; done) | fail) only [sims, evRegion, evOps, evOp, evG, evR, guardT, callee, opRes, pureR, binT, unT, T.cells, T.leaf, fillT, splice, Nat.reduceLT, Nat.reduceAdd, Nat.reduceMul, Nat.reduceLeDiff, Nat.reduceEqDiff, reduceIte, Int.reduceBEq, Int.reduceBNe, Int.reduceLT, Int.reduceLE, Int.reduceGT, Int.reduceGE, Int.reduceNeg, reduceCtorEq, hps, hzu, h1, h5, g5, g3, hel, hin, hb, hb1, ap30, p30, n30, q30, hr1, hr2, hmm, hzl, hzleaf, hnz, Nat.mul_one]; rfl⟩ ⟨rfl, ?_⟩)
  refine W_abs (fun s => s.s.length = 46 ∧ rho s.s (.tmp 1) = .int .i64 ways ∧ rho s.s (.tmp 4) = .ptr 0 0 ∧ rho s.s (.tmp 5) = .ptr 5 0 ∧ rho s.s (.tmp 6) = .int .i64 (i : Int) ∧ rho s.s (.tmp 14) = .int .i64 (n : Int) ∧ rho s.s (.tmp 15) = .int .i64 (i : Int) ∧ s.g 0 = some [.imm true 0 []] ∧ s.g 5 = some [.own 3 0 n 1] ∧ ∃ b, st.nx ≤ b ∧ b < s.nx ∧ s.g 3 = some (els.set i (.own b 0 m 19)) ∧ s.g b = some ((newK m 0).flatMap Way.enc) ∧ ∀ t, t < st.nx → t ≠ 3 → s.g t = st.g t) ?_ ?_
  · refine ⟨?_, ?_, ?_, ?_, ?_, ?_, ?_, ?_, ?_, st.nx + 1 + 2 + 5, by omega, ?_, ?_, ?_, fun t ht1 ht2 => ?_⟩
    rotate_left 9
    · show st.nx + 1 + 2 + 5 < st.nx + 1 + 2 + 8; omega
    all_goals first | (simp (decide := true) (disch := first | omega | (simp (decide := true) only [List.length_set, hl]; done) | fail) only [sims, evRegion, evOps, evOp, evG, evR, guardT, callee, opRes, pureR, binT, unT, T.cells, T.leaf, fillT, splice, Nat.reduceLT, Nat.reduceAdd, Nat.reduceMul, Nat.reduceLeDiff, Nat.reduceEqDiff, reduceIte, Int.reduceBEq, Int.reduceBNe, Int.reduceLT, Int.reduceLE, Int.reduceGT, Int.reduceGE, Int.reduceNeg, reduceCtorEq, hps, hl, h1, h4, h5, h14, h15, g0, g5]; done) | (simp (decide := true) (disch := first | omega | (simp (decide := true) only [List.length_set, hl]; done) | fail) only [sims, evRegion, evOps, evOp, evG, evR, guardT, callee, opRes, pureR, binT, unT, T.cells, T.leaf, fillT, splice, Nat.reduceLT, Nat.reduceAdd, Nat.reduceMul, Nat.reduceLeDiff, Nat.reduceEqDiff, reduceIte, Int.reduceBEq, Int.reduceBNe, Int.reduceLT, Int.reduceLE, Int.reduceGT, Int.reduceGE, Int.reduceNeg, reduceCtorEq, hps, hl, h1, h4, h5, h14, h15, g0, g5]; rfl)
  rintro ⟨s, g, nx⟩ ⟨hl, h1, h4, h5, h6, h14, h15, k0, k5, b, hb1', hb2', k3, kb, hkg⟩
  simp only at hl h1 h4 h5 h6 h14 h15 k0 k5 hb2' k3 kb hkg
  have hei : (els.set i (.own b 0 m 19))[i * 1]? = some (.own b 0 m 19) := by rw [Nat.mul_one, List.getElem?_set, if_pos rfl, if_pos (by omega)]
  have hel' : (els.set i (.own b 0 m 19)).length = n := by rw [List.length_set]; exact hel
  generalize hels' : els.set i (.own b 0 m 19) = els' at *
  refine W_seqn (W_region (fun k => by simp (decide := true) (disch := first | omega | (simp (decide := true) only [List.length_set, hl]; done) | fail) only [sims, evRegion, evOps, evOp, evG, evR, guardT, callee, opRes, pureR, binT, unT, T.cells, T.leaf, fillT, splice, Nat.reduceLT, Nat.reduceAdd, Nat.reduceMul, Nat.reduceLeDiff, Nat.reduceEqDiff, reduceIte, Int.reduceBEq, Int.reduceBNe, Int.reduceLT, Int.reduceLE, Int.reduceGT, Int.reduceGE, Int.reduceNeg, reduceCtorEq, hps, h5, h6, k5, k3, hel', hin, hb1, hei]; rfl) ⟨rfl, ?_⟩)
  refine W_block ?_
  refine nw_in n m i b hmr.2 els' hel' hin hei g k5 k3 (by omega) (.int .i64 ways) _ (fun st' hst h1 h4 h5 h14 h15 hg gb hnx' => ?_) (m - 0) _ ⟨0, ?_, ?_, ?_, ?_, ?_, ?_, ?_, ?_, ?_, fun t ht => rfl, kb, ?_, by omega, rfl⟩
  · have hl := hst
    refine .inl ⟨rfl, .inr (.inl ⟨by simp, rfl, ?_⟩)⟩
    refine W_region (fun k => by simp (decide := true) (disch := first | omega | (simp (decide := true) only [List.length_set, hl]; done) | fail) only [sims, evRegion, evOps, evOp, evG, evR, guardT, callee, opRes, pureR, binT, unT, T.cells, T.leaf, fillT, splice, Nat.reduceLT, Nat.reduceAdd, Nat.reduceMul, Nat.reduceLeDiff, Nat.reduceEqDiff, reduceIte, Int.reduceBEq, Int.reduceBNe, Int.reduceLT, Int.reduceLE, Int.reduceGT, Int.reduceGE, Int.reduceNeg, reduceCtorEq, h15, hw2]; rfl) ?_
    refine (.inl ⟨rfl, n - (i + 1), by omega, i + 1, els', ?_, ?_, ?_, ?_, ?_, ?_, ?_, ?_, ?_, ⟨hel', fun j hj => ?_⟩, ?_, by omega, rfl⟩)
    rotate_left 6
    · show st'.g 0 = _
      rw [hg 0 (by omega)]; exact k0
    · show st'.g 5 = _
      rw [hg 5 (by omega)]; exact k5
    · show st'.g 3 = _
      rw [hg 3 (by omega)]; exact k3
    · by_cases hji : j = i
      · subst hji
        rw [Nat.mul_one] at hei
        exact ⟨b, by omega, Nat.lt_add_right _ hnx', hei, gb⟩
      · obtain ⟨b', b1, b2, b3, b4⟩ := hrows j (by omega)
        refine ⟨b', b1, Nat.lt_add_right _ (by omega), ?_, ?_⟩
        · rw [← hels', List.getElem?_set, if_neg (fun e => hji e.symm)]; exact b3
        · show st'.g b' = _
          rw [hg b' (by omega), hkg b' b2 (by omega)]; exact b4
    · show 7 ≤ st'.nx + 2; omega
    all_goals simp (decide := true) (disch := first | omega | (simp (decide := true) only [List.length_set, hl]; done) | fail) only [sims, evRegion, evOps, evOp, evG, evR, guardT, callee, opRes, pureR, binT, unT, T.cells, T.leaf, fillT, splice, Nat.reduceLT, Nat.reduceAdd, Nat.reduceMul, Nat.reduceLeDiff, Nat.reduceEqDiff, reduceIte, Int.reduceBEq, Int.reduceBNe, Int.reduceLT, Int.reduceLE, Int.reduceGT, Int.reduceGE, Int.reduceNeg, reduceCtorEq, hl, h1, h4, h5, h14]
  rotate_right 1
  · show b < nx + 7; omega
  all_goals first | (simp (decide := true) (disch := first | omega | (simp (decide := true) only [List.length_set, hl]; done) | fail) only [sims, evRegion, evOps, evOp, evG, evR, guardT, callee, opRes, pureR, binT, unT, T.cells, T.leaf, fillT, splice, Nat.reduceLT, Nat.reduceAdd, Nat.reduceMul, Nat.reduceLeDiff, Nat.reduceEqDiff, reduceIte, Int.reduceBEq, Int.reduceBNe, Int.reduceLT, Int.reduceLE, Int.reduceGT, Int.reduceGE, Int.reduceNeg, reduceCtorEq, hl, h1, h4, h5, h6, h14, h15]; done) | (simp (decide := true) (disch := first | omega | (simp (decide := true) only [List.length_set, hl]; done) | fail) only [sims, evRegion, evOps, evOp, evG, evR, guardT, callee, opRes, pureR, binT, unT, T.cells, T.leaf, fillT, splice, Nat.reduceLT, Nat.reduceAdd, Nat.reduceMul, Nat.reduceLeDiff, Nat.reduceEqDiff, reduceIte, Int.reduceBEq, Int.reduceBNe, Int.reduceLT, Int.reduceLE, Int.reduceGT, Int.reduceGE, Int.reduceNeg, reduceCtorEq, hl, h1, h4, h5, h6, h14, h15]; rfl)
theorem rows_eq (L : List (List Way)) : L.flatMap (fun l => [rowT l]) = rowsT L := by
  unfold rowsT
  induction L with
  | nil => rfl
  | cons l L ih => rw [List.flatMap_cons, ih]; rfl
def newC (sets ways : Int) : Cache := ⟨newR (clampN sets 8) (clampN ways 4)⟩
theorem newR_get (n m j : Nat) (h : j < (newR n m).length) : (newR n m)[j] = newRow m := by simp only [newR, List.getElem_replicate]
theorem newR_len (n m : Nat) : (newR n m).length = n := by unfold newR; rw [List.length_replicate]
theorem newR_wf (n m : Nat) (hm : m ≤ 1000) : ∀ l ∈ newR n m, ∀ w ∈ l, w.wf := by
  intro l hl
  unfold newR at hl
  rw [List.mem_replicate] at hl
  rw [hl.2]; exact newRow_wf m hm
theorem bus_new (sets ways : Int) : E ap 10 [.int .i64 sets, .int .i64 ways] (.agg [setsT (newC sets ways)]) := by
  refine E_body (F := f10) rfl rfl rfl ?_
  generalize hs0 : (_ : List T) ++ List.replicate _ T.undef = s0
  have e0 : s0.length = 46 ∧ rho s0 (.tmp 0) = .int .i64 sets ∧ rho s0 (.tmp 1) = .int .i64 ways := by subst hs0; exact ⟨rfl, rfl, rfl⟩
  clear hs0
  obtain ⟨hl, h0, h1⟩ := e0
  obtain ⟨N1, c30⟩ := (clampE sets 8 (by omega)).call ap30 (fun g => rfl)
  have q30 := c30 N1 (Nat.le_refl _)
  rw [show (((8 : Nat) : Int)) = 8 from rfl] at q30
  have hnr := clampN_range sets 8 (by omega)
  have hmr := clampN_range ways 4 (by omega)
  have hset : setsT (newC sets ways) = .imm false (clampN sets 8) (rowsT (newR (clampN sets 8) (clampN ways 4))) := by
    unfold setsT newC
    simp only [rows_eq, newR_len]
  rw [hset]
  generalize clampN sets 8 = n at *
  have hr1 : n * 24 ≤ 549755813888 := by omega
  have hr2 : n ≤ 549755813888 := by omega
  have hnn : n ≤ n := Nat.le_refl _
  have hnl := nil_rows n
  generalize hels : (List.replicate n [T.imm true 0 []]).flatten = els at *
  have hcA : cut [T.own 3 0 n 1] 0 1 = [T.own 3 0 n 1] := rfl
  refine W_seqn (W_region (fun k => by simp (decide := true) (disch := first | omega | (simp (decide := true) only [List.length_set, hl]; done) | fail) only [sims, evRegion, evOps, evOp, evG, evR, guardT, callee, opRes, pureR, binT, unT, T.cells, T.leaf, fillT, splice, Nat.reduceLT, Nat.reduceAdd, Nat.reduceMul, Nat.reduceLeDiff, Nat.reduceEqDiff, reduceIte, Int.reduceBEq, Int.reduceBNe, Int.reduceLT, Int.reduceLE, Int.reduceGT, Int.reduceGE, Int.reduceNeg, reduceCtorEq, hps]; rfl) ⟨rfl, ?_⟩)
  refine W_seqn (W_regionN ⟨N1, by simp (decide := true) (disch := first | omega | (simp (decide := true) only [List.length_set, hl]; done) | fail) only [sims, evRegion, evOps, evOp, evG, evR, guardT, callee, opRes, pureR, binT, unT, T.cells, T.leaf, fillT, splice, Nat.reduceLT, Nat.reduceAdd, Nat.reduceMul, Nat.reduceLeDiff, Nat.reduceEqDiff, reduceIte, Int.reduceBEq, Int.reduceBNe, Int.reduceLT, Int.reduceLE, Int.reduceGT, Int.reduceGE, Int.reduceNeg, reduceCtorEq, hps, h0, ap30, p30, n30, q30, hr1, hr2, hnn, hels]; rfl⟩ ⟨rfl, ?_⟩)
  refine W_seq (W_seqn (W_region (fun k => by simp (decide := true) (disch := first | omega | (simp (decide := true) only [List.length_set, hl]; done) | fail) only [sims, evRegion, evOps, evOp, evG, evR, guardT, callee, opRes, pureR, binT, unT, T.cells, T.leaf, fillT, splice, Nat.reduceLT, Nat.reduceAdd, Nat.reduceMul, Nat.reduceLeDiff, Nat.reduceEqDiff, reduceIte, Int.reduceBEq, Int.reduceBNe, Int.reduceLT, Int.reduceLE, Int.reduceGT, Int.reduceGE, Int.reduceNeg, reduceCtorEq, hps]; rfl) ⟨rfl, W_block ?_⟩))
  refine nw_out ways n (clampN ways 4) hnr.2 rfl _ (fun st hex => ?_) (n - 0) _ ⟨0, els, ?_, ?_, ?_, ?_, ?_, ?_, ?_, ?_, ?_, ⟨hnl, fun j hj => by omega⟩, ?_, by omega, rfl⟩
  · obtain ⟨els', hst, h4, h5, g0, g5, g3, hel, hrows⟩ := hex
    have hl := hst
    refine .inl ⟨rfl, .inl ⟨rfl, ?_⟩⟩
    refine W_seqn (W_region (fun k => by simp (decide := true) (disch := first | omega | (simp (decide := true) only [List.length_set, hl]; done) | fail) only [sims, evRegion, evOps, evOp, evG, evR, guardT, callee, opRes, pureR, binT, unT, T.cells, T.leaf, fillT, splice, Nat.reduceLT, Nat.reduceAdd, Nat.reduceMul, Nat.reduceLeDiff, Nat.reduceEqDiff, reduceIte, Int.reduceBEq, Int.reduceBNe, Int.reduceLT, Int.reduceLE, Int.reduceGT, Int.reduceGE, Int.reduceNeg, reduceCtorEq, hps, h4, h5, g0, g5, hcA]; rfl) ⟨rfl, W_ret ?_⟩)
    have hRA : RowsAt (put1 st.g (0, some [.own 3 0 n 1])) els' (newR n (clampN ways 4)) := by
      refine ⟨by rw [newR_len]; exact hel, fun j hj => ?_⟩
      obtain ⟨b, b1, b2, b3, b4⟩ := hrows j (by rw [newR_len] at hj; exact hj)
      exact ⟨b, by rw [newR_get, newRow_len]; exact b3, by rw [newR_get, put1_ne (by omega)]; exact b4⟩
    obtain ⟨ids, e1⟩ := frz_copied (nx := st.nx + 2) (d := 8) (newR_wf n (clampN ways 4) (by omega)) (show put1 st.g (0, some [.own 3 0 n 1]) 3 = some els' by rw [put1_ne (by omega)]; exact g3) hRA
    rw [newR_len] at e1
    refine fin_cellV (F := f10) (t := 4) (p := 0) rfl e1 ?_ ?_
    · simp (decide := true) (disch := first | omega | (simp (decide := true) only [List.length_set, hl]; done) | fail) only [sims, evRegion, evOps, evOp, evG, evR, guardT, callee, opRes, pureR, binT, unT, T.cells, T.leaf, fillT, splice, Nat.reduceLT, Nat.reduceAdd, Nat.reduceMul, Nat.reduceLeDiff, Nat.reduceEqDiff, reduceIte, Int.reduceBEq, Int.reduceBNe, Int.reduceLT, Int.reduceLE, Int.reduceGT, Int.reduceGE, Int.reduceNeg, reduceCtorEq, h4]
    · simp (decide := true) (disch := first | omega | (simp (decide := true) only [List.length_set, hl]; done) | fail) only [sims, evRegion, evOps, evOp, evG, evR, guardT, callee, opRes, pureR, binT, unT, T.cells, T.leaf, fillT, splice, Nat.reduceLT, Nat.reduceAdd, Nat.reduceMul, Nat.reduceLeDiff, Nat.reduceEqDiff, reduceIte, Int.reduceBEq, Int.reduceBNe, Int.reduceLT, Int.reduceLE, Int.reduceGT, Int.reduceGE, Int.reduceNeg, reduceCtorEq, hps]
  rotate_right 1
  · show 7 ≤ 0 + 1 + 6 + 4; omega
  all_goals first | (simp (decide := true) (disch := first | omega | (simp (decide := true) only [List.length_set, hl]; done) | fail) only [sims, evRegion, evOps, evOp, evG, evR, guardT, callee, opRes, pureR, binT, unT, T.cells, T.leaf, fillT, splice, Nat.reduceLT, Nat.reduceAdd, Nat.reduceMul, Nat.reduceLeDiff, Nat.reduceEqDiff, reduceIte, Int.reduceBEq, Int.reduceBNe, Int.reduceLT, Int.reduceLE, Int.reduceGT, Int.reduceGE, Int.reduceNeg, reduceCtorEq, hps, hl, h1]; done) | (simp (decide := true) (disch := first | omega | (simp (decide := true) only [List.length_set, hl]; done) | fail) only [sims, evRegion, evOps, evOp, evG, evR, guardT, callee, opRes, pureR, binT, unT, T.cells, T.leaf, fillT, splice, Nat.reduceLT, Nat.reduceAdd, Nat.reduceMul, Nat.reduceLeDiff, Nat.reduceEqDiff, reduceIte, Int.reduceBEq, Int.reduceBNe, Int.reduceLT, Int.reduceLE, Int.reduceGT, Int.reduceGE, Int.reduceNeg, reduceCtorEq, hps, hl, h1]; rfl)
end Go.Proofs.Ythanlobfjpjegaa.Abs
