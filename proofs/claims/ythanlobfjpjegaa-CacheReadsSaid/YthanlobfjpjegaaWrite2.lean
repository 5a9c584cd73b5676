/- Another number in a cache: the given function. -/
import Derived.Test.YthanlobfjpjegaaWrite
namespace Go.Proofs.Ythanlobfjpjegaa.Abs
open Go Go.RowKit Fn
set_option linter.unusedVariables false
set_option linter.unusedSimpArgs false
set_option linter.unnecessarySimpa false
set_option maxRecDepth 100000
set_option maxHeartbeats 1000000

def rwLoop : ACode := match f24.body with | .seq _ (.seq _ (.seq _ (.seq _ (.seq (.seq _ (.block _ (.loop c))) _)))) => c | _ => .skip
theorem rw_loop (m0 : Nat) (A B : Nat) (els : List T) (hel : els.length = m0) (i : Nat) (hi : i < m0) (l : List Way) (hw : ∀ w ∈ l, w.wf) (hei : els[i * 1]? = some (.own B 0 l.length 19)) (k : Nat) (hkl : k < l.length) (addr a n : Nat) (haa : a = addr % 16) (han : a + n ≤ 16) (hn4 : n ≤ 4) (v : Int) (hv : 0 ≤ v ∧ v ≤ 4294967295) (g1 : Mem) (g148 : g1 48 = some [.own A 0 m0 1]) (g1A : g1 A = some els) (hB0 : 50 ≤ B) (hAB : B < A) (Q : AExit → St → Prop)
    (hQe : ∀ st : St, st.s.length = 91 → rho st.s (.tmp 8) = .ptr 1 0 → rho st.s (.tmp 10) = .int .i64 (i : Int) → rho st.s (.tmp 11) = .int .i64 (k : Int) → rho st.s (.tmp 13) = .ptr 48 0 → (∀ t, t ≠ B → st.g t = g1 t) → st.g B = some ((l.set k (updW (wayN l k) a (bytesOf v n))).flatMap Way.enc) → Q (.exit 0) st) :
    ∀ (m : Nat) (st : St), (∃ j : Nat, st.s.length = 91 ∧ rho st.s (.tmp 1) = .int .u32 (addr : Int) ∧ rho st.s (.tmp 2) = .int .i64 (n : Int) ∧ rho st.s (.tmp 3) = .int .u32 (v / 256 ^ j) ∧ rho st.s (.tmp 8) = .ptr 1 0 ∧ rho st.s (.tmp 10) = .int .i64 (i : Int) ∧ rho st.s (.tmp 11) = .int .i64 (k : Int) ∧ rho st.s (.tmp 13) = .ptr 48 0 ∧ (∀ t, t ≠ B → st.g t = g1 t) ∧ st.g B = some ((l.set k (updW (wayN l k) a ((bytesOf v n).take j))).flatMap Way.enc) ∧ rho st.s (.tmp 14) = .int .i64 (j : Int) ∧ j ≤ n ∧ m = n - j) → W ap (.loop rwLoop) st Q := by
  refine W_loop _ ?_
  rintro m st ⟨j, hl, h1, h2, h3, h8, h10, h11, h13, hg, gB, h14, hj, hm⟩
  have hbl := bytesOf_len n v
  have g48 := hg 48 (by omega)
  have gA := hg A (by omega)
  rw [g148] at g48
  rw [g1A] at gA
  by_cases hend : j = n
  · have hlt : decide ((j : Int) < (n : Int)) = false := decide_eq_false (by omega)
    refine W_seq (W_seqn (W_region (fun k => by simp (decide := true) (disch := first | omega | (simp (decide := true) only [List.length_set, hl]; done) | fail) only [sims, evRegion, evOps, evOp, evG, evR, guardT, callee, opRes, pureR, binT, unT, T.cells, T.leaf, fillT, splice, Nat.reduceLT, Nat.reduceAdd, Nat.reduceMul, Nat.reduceLeDiff, Nat.reduceEqDiff, reduceIte, Int.reduceBEq, Int.reduceBNe, Int.reduceLT, Int.reduceLE, Int.reduceGT, Int.reduceGE, Int.reduceNeg, reduceCtorEq, h2, h14, hlt]; rfl) ⟨rfl, W_false (by simp (decide := true) (disch := first | omega | (simp (decide := true) only [List.length_set, hl]; done) | fail) only [sims, evRegion, evOps, evOp, evG, evR, guardT, callee, opRes, pureR, binT, unT, T.cells, T.leaf, fillT, splice, Nat.reduceLT, Nat.reduceAdd, Nat.reduceMul, Nat.reduceLeDiff, Nat.reduceEqDiff, reduceIte, Int.reduceBEq, Int.reduceBNe, Int.reduceLT, Int.reduceLE, Int.reduceGT, Int.reduceGE, Int.reduceNeg, reduceCtorEq] <;> rfl) (W_exit ?_)⟩))
    refine (.inr ⟨by simp, .inr ⟨by simp, hQe _ ?_ ?_ ?_ ?_ ?_ hg ?_⟩⟩)
    rotate_right 1
    · show st.g B = _
      rw [gB, hend, List.take_of_length_le (by omega)]
    all_goals simp (decide := true) (disch := first | omega | (simp (decide := true) only [List.length_set, hl]; done) | fail) only [sims, evRegion, evOps, evOp, evG, evR, guardT, callee, opRes, pureR, binT, unT, T.cells, T.leaf, fillT, splice, Nat.reduceLT, Nat.reduceAdd, Nat.reduceMul, Nat.reduceLeDiff, Nat.reduceEqDiff, reduceIte, Int.reduceBEq, Int.reduceBNe, Int.reduceLT, Int.reduceLE, Int.reduceGT, Int.reduceGE, Int.reduceNeg, reduceCtorEq, hl, h8, h10, h11, h13]
  · have hlt : decide ((j : Int) < (n : Int)) = true := decide_eq_true (by omega)
    have hjn : j < n := by omega
    have hjb : j < (bytesOf v n).length := by omega
    have hw2 : IntKind.i64.wrap ((j : Int) + 1) = ((j + 1 : Nat) : Int) := by rw [wrap_id (by omega)]; omega
    have hu := updW_wf (wayN_wf hw hkl) a ((bytesOf v n).take j) (fun b h => bytesOf_byte n v b (List.mem_of_mem_take h)) (by rw [List.length_take]; omega)
    have hcl := enc_len _ (mem_setw hw k hu)
    rw [List.length_set] at hcl
    have hset := set_byte l hw k hkl a (bytesOf v n) (bytesOf_byte n v) (by omega) j hjb
    have hbj := bytesOf_get n v j hjn
    rw [List.getElem?_eq_getElem hjb] at hbj
    have hbj := Option.some.inj hbj
    have hp : 0 < (256 : Int) ^ j := Int.pow_pos (by decide)
    have hvj : 0 ≤ v / 256 ^ j := Int.ediv_nonneg hv.1 (Int.le_of_lt hp)
    have hvj2 : v / 256 ^ j ≤ 4294967295 := Int.le_trans (Int.ediv_le_self _ hv.1) hv.2
    have hrem : (v / 256 ^ j).tmod 256 = (bytesOf v n)[j] := by rw [Int.tmod_eq_emod_of_nonneg hvj, hbj]
    have hcb : IntKind.u8.wrap (bytesOf v n)[j] = (bytesOf v n)[j] := by rw [wrap_u8, hbj]; omega
    have hquo : IntKind.u32.wrap ((v / 256 ^ j).tdiv 256) = v / 256 ^ (j + 1) := by
      have e : v / 256 ^ j / 256 = v / 256 ^ (j + 1) := by rw [Int.ediv_ediv_of_nonneg (Int.le_of_lt hp), Int.pow_succ]
      rw [wrap_u32, Int.tdiv_eq_ediv_of_nonneg hvj, e]
      have h1 : 0 ≤ v / 256 ^ (j + 1) := Int.ediv_nonneg hv.1 (Int.le_of_lt (Int.pow_pos (by decide)))
      have h2 : v / 256 ^ (j + 1) ≤ 4294967295 := Int.le_trans (Int.ediv_le_self _ hv.1) hv.2
      omega
    have hmd : (addr : Int).tmod 16 = (a : Int) := by rw [Int.tmod_eq_emod_of_nonneg (by omega)]; omega
    have h16 : ((16 : Int) = 0) = False := by simp
    have h256 : ((256 : Int) = 0) = False := by simp
    have hca : IntKind.i64.wrap (a : Int) = (a : Int) := wrap_id (by omega)
    have haj : IntKind.i64.wrap ((a : Int) + (j : Int)) = ((a + j : Nat) : Int) := by rw [wrap_id (by omega)]; omega
    have hb : i * 1 + 1 ≤ m0 := by omega
    have hb3 : a + j < 16 := by omega
    have hb4 : k * 19 + 2 + (a + j) * 1 + 1 ≤ l.length * 19 := by omega
    generalize (bytesOf v n)[j] = b at *
    generalize hd' : (l.set k (updW (wayN l k) a ((bytesOf v n).take (j + 1)))).flatMap Way.enc = us' at *
    generalize (l.set k (updW (wayN l k) a ((bytesOf v n).take j))).flatMap Way.enc = us at *
    generalize hvj' : v / 256 ^ j = vj at *
    refine W_seqn (W_seqn (W_region (fun k => by simp (decide := true) (disch := first | omega | (simp (decide := true) only [List.length_set, hl]; done) | fail) only [sims, evRegion, evOps, evOp, evG, evR, guardT, callee, opRes, pureR, binT, unT, T.cells, T.leaf, fillT, splice, Nat.reduceLT, Nat.reduceAdd, Nat.reduceMul, Nat.reduceLeDiff, Nat.reduceEqDiff, reduceIte, Int.reduceBEq, Int.reduceBNe, Int.reduceLT, Int.reduceLE, Int.reduceGT, Int.reduceGE, Int.reduceNeg, reduceCtorEq, h2, h14, hlt]; rfl) ⟨rfl, W_true (by simp (decide := true) (disch := first | omega | (simp (decide := true) only [List.length_set, hl]; done) | fail) only [sims, evRegion, evOps, evOp, evG, evR, guardT, callee, opRes, pureR, binT, unT, T.cells, T.leaf, fillT, splice, Nat.reduceLT, Nat.reduceAdd, Nat.reduceMul, Nat.reduceLeDiff, Nat.reduceEqDiff, reduceIte, Int.reduceBEq, Int.reduceBNe, Int.reduceLT, Int.reduceLE, Int.reduceGT, Int.reduceGE, Int.reduceNeg, reduceCtorEq] <;> rfl) (W_skip ⟨rfl, ?_⟩)⟩))
    refine W_seqn (W_block (W_seqn (W_region (fun k => by simp (decide := true) (disch := first | omega | (simp (decide := true) only [List.length_set, hl]; done) | fail) only [sims, evRegion, evOps, evOp, evG, evR, guardT, callee, opRes, pureR, binT, unT, T.cells, T.leaf, fillT, splice, Nat.reduceLT, Nat.reduceAdd, Nat.reduceMul, Nat.reduceLeDiff, Nat.reduceEqDiff, reduceIte, Int.reduceBEq, Int.reduceBNe, Int.reduceLT, Int.reduceLE, Int.reduceGT, Int.reduceGE, Int.reduceNeg, reduceCtorEq, hps, h1, h3, h13, h10, h11, h14, g48, gA, gB, hel, hi, hb, hei, hkl, hcl, hmd, h16, h256, hca, haj, hrem, hcb, hb3, hb4]; rfl) ⟨rfl, ?_⟩)))
    refine W_region (fun k => by simp (decide := true) (disch := first | omega | (simp (decide := true) only [List.length_set, hl]; done) | fail) only [sims, evRegion, evOps, evOp, evG, evR, guardT, callee, opRes, pureR, binT, unT, T.cells, T.leaf, fillT, splice, Nat.reduceLT, Nat.reduceAdd, Nat.reduceMul, Nat.reduceLeDiff, Nat.reduceEqDiff, reduceIte, Int.reduceBEq, Int.reduceBNe, Int.reduceLT, Int.reduceLE, Int.reduceGT, Int.reduceGE, Int.reduceNeg, reduceCtorEq, h3, h256, hquo]; rfl) (.inr (.inl ⟨by simp, rfl, ?_⟩))
    refine W_region (fun k => by simp (decide := true) (disch := first | omega | (simp (decide := true) only [List.length_set, hl]; done) | fail) only [sims, evRegion, evOps, evOp, evG, evR, guardT, callee, opRes, pureR, binT, unT, T.cells, T.leaf, fillT, splice, Nat.reduceLT, Nat.reduceAdd, Nat.reduceMul, Nat.reduceLeDiff, Nat.reduceEqDiff, reduceIte, Int.reduceBEq, Int.reduceBNe, Int.reduceLT, Int.reduceLE, Int.reduceGT, Int.reduceGE, Int.reduceNeg, reduceCtorEq, h14, hw2]; rfl) ?_
    refine (.inl ⟨rfl, n - (j + 1), by omega, j + 1, ?_, ?_, ?_, ?_, ?_, ?_, ?_, ?_, ?_, ?_, ?_, by omega, rfl⟩)
    rotate_left 8
    · intro t ht
      rw [← hg t ht]
      simp (decide := true) (disch := first | omega | (simp (decide := true) only [List.length_set, hl]; done) | fail) only [sims, evRegion, evOps, evOp, evG, evR, guardT, callee, opRes, pureR, binT, unT, T.cells, T.leaf, fillT, splice, Nat.reduceLT, Nat.reduceAdd, Nat.reduceMul, Nat.reduceLeDiff, Nat.reduceEqDiff, reduceIte, Int.reduceBEq, Int.reduceBNe, Int.reduceLT, Int.reduceLE, Int.reduceGT, Int.reduceGE, Int.reduceNeg, reduceCtorEq, hps]
    all_goals simp (decide := true) (disch := first | omega | (simp (decide := true) only [List.length_set, hl]; done) | fail) only [sims, evRegion, evOps, evOp, evG, evR, guardT, callee, opRes, pureR, binT, unT, T.cells, T.leaf, fillT, splice, Nat.reduceLT, Nat.reduceAdd, Nat.reduceMul, Nat.reduceLeDiff, Nat.reduceEqDiff, reduceIte, Int.reduceBEq, Int.reduceBNe, Int.reduceLT, Int.reduceLE, Int.reduceGT, Int.reduceGE, Int.reduceNeg, reduceCtorEq, hps, hl, h1, h2, h3, h8, h10, h11, h13, hd', hset]
theorem ref_write (c : Cache) (hc : c.wf) (hfit : Fit c.sets) (addr : Nat) (ha : addr ≤ 4294967295) (size v : Int) (hv : 0 ≤ v ∧ v ≤ 4294967295) :
    ∃ u, E ap 24 [.agg [setsT c], .int .u32 (addr : Int), .int .i64 size, .int .u32 v] (.tup [u, .bool (writeR c addr size v).2]) ∧ CacheOf (writeR c addr size v).1 u := by
  have hmain : ∃ r, E ap 24 [.agg [setsT c], .int .u32 (addr : Int), .int .i64 size, .int .u32 v] r ∧ ∃ u, r = .tup [u, .bool (writeR c addr size v).2] ∧ CacheOf (writeR c addr size v).1 u := by
    have hx := tells_cache c
    have hxl := hx.1
    refine E_bodyV (F := f24) rfl rfl rfl (P := fun r => ∃ u, r = .tup [u, .bool (writeR c addr size v).2] ∧ CacheOf (writeR c addr size v).1 u) ?_
    generalize hs0 : (_ : List T) ++ List.replicate _ T.undef = s0
    have e0 : s0.length = 91 ∧ rho s0 (.tmp 0) = .agg [setsT c] ∧ rho s0 (.tmp 1) = .int .u32 (addr : Int) ∧ rho s0 (.tmp 2) = .int .i64 size ∧ rho s0 (.tmp 3) = .int .u32 v := by subst hs0; exact ⟨rfl, rfl, rfl, rfl, rfl⟩
    clear hs0
    obtain ⟨hl, h0, h1, h2, h3⟩ := e0
    obtain ⟨N1, c16⟩ := (ref_find c hc (addr / 16) (by omega)).call ap16 (fun g => rfl)
    obtain ⟨N2, c45⟩ := (ref_within addr ha size).call ap45 (fun g => rfl)
    have q16 := c16 N1 (Nat.le_refl _)
    have q45 := c45 N2 (Nat.le_refl _)
    have hsc : setsT c = .imm false c.sets.length (c.sets.flatMap (fun l => [rowT l])) := rfl
    rw [hsc] at h0 q16
    clear hsc c16 c45
    generalize hX : c.sets.flatMap (fun l => [rowT l]) = xs at *
    have hleaf : allLeaf [T.imm false c.sets.length xs] = true := rfl
    have hcut : cut [T.imm false c.sets.length xs] 0 1 = [T.imm false c.sets.length xs] := rfl
    have hdiv : IntKind.u32.wrap ((addr : Int).tdiv 16) = ((addr / 16 : Nat) : Int) := by rw [wrap_u32, Int.tdiv_eq_ediv_of_nonneg (by omega)]; omega
    have h16 : ((16 : Int) = 0) = False := by simp
    have tail : ∀ st' : St, writeK c addr size = none → (st'.s.length = 91 ∧ rho st'.s (.tmp 8) = .ptr 1 0 ∧ st'.g 1 = some [.imm true 0 []]) → W ap (.seq (.region [⟨some 55, .build [(.imm true 0 [])] [], none⟩, ⟨none, .store 1 (.tmp 8) (.tmp 55), none⟩, ⟨some 9, .mv (.con (.bool false)), none⟩] []) .ret) st' (fun e s => e = .ret ∧ ∃ r, (∃ u, r = .tup [u, .bool (writeR c addr size v).2] ∧ CacheOf (writeR c addr size v).1 u) ∧ ∃ u ids, resT s.s s.g f24.res = some u ∧ frz ⟨s.g, s.nx⟩ frzDepth u = some (r, ids)) := by
      rintro ⟨s, g, nx⟩ hK ⟨hl, h8, g1⟩
      simp only at hl h8 g1
      have hR : writeR c addr size v = ([], false) := by unfold writeR; rw [hK]
      rw [hR]
      refine W_seqn (W_region (fun k => by simp (decide := true) (disch := first | omega | (simp (decide := true) only [List.length_set, hl]; done) | fail) only [sims, evRegion, evOps, evOp, evG, evR, guardT, callee, opRes, pureR, binT, unT, T.cells, T.leaf, fillT, splice, Nat.reduceLT, Nat.reduceAdd, Nat.reduceMul, Nat.reduceLeDiff, Nat.reduceEqDiff, reduceIte, Int.reduceBEq, Int.reduceBNe, Int.reduceLT, Int.reduceLE, Int.reduceGT, Int.reduceGE, Int.reduceNeg, reduceCtorEq, hps, h8, g1]; rfl) ⟨rfl, W_ret ?_⟩)
      refine ⟨rfl, _, ⟨_, rfl, cacheOf_nil⟩, fin_wr (F := f24) (t1 := 8) (t2 := 9) (p1 := 1) (x := .imm true 0 []) (ids := []) rfl rfl ?_ ?_ ?_⟩
      · simp (decide := true) (disch := first | omega | (simp (decide := true) only [List.length_set, hl]; done) | fail) only [sims, evRegion, evOps, evOp, evG, evR, guardT, callee, opRes, pureR, binT, unT, T.cells, T.leaf, fillT, splice, Nat.reduceLT, Nat.reduceAdd, Nat.reduceMul, Nat.reduceLeDiff, Nat.reduceEqDiff, reduceIte, Int.reduceBEq, Int.reduceBNe, Int.reduceLT, Int.reduceLE, Int.reduceGT, Int.reduceGE, Int.reduceNeg, reduceCtorEq, hps, h8]
      · simp (decide := true) (disch := first | omega | (simp (decide := true) only [List.length_set, hl]; done) | fail) only [sims, evRegion, evOps, evOp, evG, evR, guardT, callee, opRes, pureR, binT, unT, T.cells, T.leaf, fillT, splice, Nat.reduceLT, Nat.reduceAdd, Nat.reduceMul, Nat.reduceLeDiff, Nat.reduceEqDiff, reduceIte, Int.reduceBEq, Int.reduceBNe, Int.reduceLT, Int.reduceLE, Int.reduceGT, Int.reduceGE, Int.reduceNeg, reduceCtorEq, hps]
      · simp (decide := true) (disch := first | omega | (simp (decide := true) only [List.length_set, hl]; done) | fail) only [sims, evRegion, evOps, evOp, evG, evR, guardT, callee, opRes, pureR, binT, unT, T.cells, T.leaf, fillT, splice, Nat.reduceLT, Nat.reduceAdd, Nat.reduceMul, Nat.reduceLeDiff, Nat.reduceEqDiff, reduceIte, Int.reduceBEq, Int.reduceBNe, Int.reduceLT, Int.reduceLE, Int.reduceGT, Int.reduceGE, Int.reduceNeg, reduceCtorEq, hps]
    refine W_seqn (W_region (fun k => by simp (decide := true) (disch := first | omega | (simp (decide := true) only [List.length_set, hl]; done) | fail) only [sims, evRegion, evOps, evOp, evG, evR, guardT, callee, opRes, pureR, binT, unT, T.cells, T.leaf, fillT, splice, Nat.reduceLT, Nat.reduceAdd, Nat.reduceMul, Nat.reduceLeDiff, Nat.reduceEqDiff, reduceIte, Int.reduceBEq, Int.reduceBNe, Int.reduceLT, Int.reduceLE, Int.reduceGT, Int.reduceGE, Int.reduceNeg, reduceCtorEq, hps, h0, hleaf]; rfl) ⟨rfl, ?_⟩)
    cases hf : find c (addr / 16) with
    | none =>
      rw [findT_no c _ hf] at q16
      have hK : writeK c addr size = none := by unfold writeK readK; rw [hf, ite_self]
      refine W_seqn (W_regionN ⟨N1, by simp (decide := true) (disch := first | omega | (simp (decide := true) only [List.length_set, hl]; done) | fail) only [sims, evRegion, evOps, evOp, evG, evR, guardT, callee, opRes, pureR, binT, unT, T.cells, T.leaf, fillT, splice, Nat.reduceLT, Nat.reduceAdd, Nat.reduceMul, Nat.reduceLeDiff, Nat.reduceEqDiff, reduceIte, Int.reduceBEq, Int.reduceBNe, Int.reduceLT, Int.reduceLE, Int.reduceGT, Int.reduceGE, Int.reduceNeg, reduceCtorEq, hps, h1, h2, hcut, hdiv, h16, ap16, p16, n16, q16]; rfl⟩ ⟨rfl, ?_⟩)
      refine W_seq (W_seqn (W_region (fun k => by simp (decide := true) (disch := first | omega | (simp (decide := true) only [List.length_set, hl]; done) | fail) only [sims, evRegion, evOps, evOp, evG, evR, guardT, callee, opRes, pureR, binT, unT, T.cells, T.leaf, fillT, splice, Nat.reduceLT, Nat.reduceAdd, Nat.reduceMul, Nat.reduceLeDiff, Nat.reduceEqDiff, reduceIte, Int.reduceBEq, Int.reduceBNe, Int.reduceLT, Int.reduceLE, Int.reduceGT, Int.reduceGE, Int.reduceNeg, reduceCtorEq]; rfl) ⟨rfl, W_true (by simp (decide := true) (disch := first | omega | (simp (decide := true) only [List.length_set, hl]; done) | fail) only [sims, evRegion, evOps, evOp, evG, evR, guardT, callee, opRes, pureR, binT, unT, T.cells, T.leaf, fillT, splice, Nat.reduceLT, Nat.reduceAdd, Nat.reduceMul, Nat.reduceLeDiff, Nat.reduceEqDiff, reduceIte, Int.reduceBEq, Int.reduceBNe, Int.reduceLT, Int.reduceLE, Int.reduceGT, Int.reduceGE, Int.reduceNeg, reduceCtorEq] <;> rfl) ?_⟩))
      refine (tail _ hK ⟨by simp (decide := true) (disch := first | omega | (simp (decide := true) only [List.length_set, hl]; done) | fail) only [sims, evRegion, evOps, evOp, evG, evR, guardT, callee, opRes, pureR, binT, unT, T.cells, T.leaf, fillT, splice, Nat.reduceLT, Nat.reduceAdd, Nat.reduceMul, Nat.reduceLeDiff, Nat.reduceEqDiff, reduceIte, Int.reduceBEq, Int.reduceBNe, Int.reduceLT, Int.reduceLE, Int.reduceGT, Int.reduceGE, Int.reduceNeg, reduceCtorEq, hps, hl], by simp (decide := true) (disch := first | omega | (simp (decide := true) only [List.length_set, hl]; done) | fail) only [sims, evRegion, evOps, evOp, evG, evR, guardT, callee, opRes, pureR, binT, unT, T.cells, T.leaf, fillT, splice, Nat.reduceLT, Nat.reduceAdd, Nat.reduceMul, Nat.reduceLeDiff, Nat.reduceEqDiff, reduceIte, Int.reduceBEq, Int.reduceBNe, Int.reduceLT, Int.reduceLE, Int.reduceGT, Int.reduceGE, Int.reduceNeg, reduceCtorEq, hps], by simp (decide := true) (disch := first | omega | (simp (decide := true) only [List.length_set, hl]; done) | fail) only [sims, evRegion, evOps, evOp, evG, evR, guardT, callee, opRes, pureR, binT, unT, T.cells, T.leaf, fillT, splice, Nat.reduceLT, Nat.reduceAdd, Nat.reduceMul, Nat.reduceLeDiff, Nat.reduceEqDiff, reduceIte, Int.reduceBEq, Int.reduceBNe, Int.reduceLT, Int.reduceLE, Int.reduceGT, Int.reduceGE, Int.reduceNeg, reduceCtorEq, hps]⟩).mono ?_
      rintro e s ⟨rfl, h⟩
      simp only [reduceCtorEq, false_and, false_or, or_false, exists_false, exists_const, ne_eq, not_false_eq_true, true_and, implies_true]
      exact ⟨rfl, h⟩
    | some k =>
      rw [findT_is c _ k hf] at q16
      refine W_seqn (W_regionN ⟨N1, by simp (decide := true) (disch := first | omega | (simp (decide := true) only [List.length_set, hl]; done) | fail) only [sims, evRegion, evOps, evOp, evG, evR, guardT, callee, opRes, pureR, binT, unT, T.cells, T.leaf, fillT, splice, Nat.reduceLT, Nat.reduceAdd, Nat.reduceMul, Nat.reduceLeDiff, Nat.reduceEqDiff, reduceIte, Int.reduceBEq, Int.reduceBNe, Int.reduceLT, Int.reduceLE, Int.reduceGT, Int.reduceGE, Int.reduceNeg, reduceCtorEq, hps, h1, h2, hcut, hdiv, h16, ap16, p16, n16, q16]; rfl⟩ ⟨rfl, ?_⟩)
      by_cases hok : ¬ Okay addr size
      · rw [decide_eq_false hok] at q45
        have hK : writeK c addr size = none := by unfold writeK readK; rw [if_neg hok]
        refine W_seq (W_seqn (W_regionN ⟨N2, by simp (decide := true) (disch := first | omega | (simp (decide := true) only [List.length_set, hl]; done) | fail) only [sims, evRegion, evOps, evOp, evG, evR, guardT, callee, opRes, pureR, binT, unT, T.cells, T.leaf, fillT, splice, Nat.reduceLT, Nat.reduceAdd, Nat.reduceMul, Nat.reduceLeDiff, Nat.reduceEqDiff, reduceIte, Int.reduceBEq, Int.reduceBNe, Int.reduceLT, Int.reduceLE, Int.reduceGT, Int.reduceGE, Int.reduceNeg, reduceCtorEq, hps, h1, h2, ap45, p45, n45, q45]; rfl⟩ ⟨rfl, W_true (by simp (decide := true) (disch := first | omega | (simp (decide := true) only [List.length_set, hl]; done) | fail) only [sims, evRegion, evOps, evOp, evG, evR, guardT, callee, opRes, pureR, binT, unT, T.cells, T.leaf, fillT, splice, Nat.reduceLT, Nat.reduceAdd, Nat.reduceMul, Nat.reduceLeDiff, Nat.reduceEqDiff, reduceIte, Int.reduceBEq, Int.reduceBNe, Int.reduceLT, Int.reduceLE, Int.reduceGT, Int.reduceGE, Int.reduceNeg, reduceCtorEq] <;> rfl) ?_⟩))
        refine (tail _ hK ⟨by simp (decide := true) (disch := first | omega | (simp (decide := true) only [List.length_set, hl]; done) | fail) only [sims, evRegion, evOps, evOp, evG, evR, guardT, callee, opRes, pureR, binT, unT, T.cells, T.leaf, fillT, splice, Nat.reduceLT, Nat.reduceAdd, Nat.reduceMul, Nat.reduceLeDiff, Nat.reduceEqDiff, reduceIte, Int.reduceBEq, Int.reduceBNe, Int.reduceLT, Int.reduceLE, Int.reduceGT, Int.reduceGE, Int.reduceNeg, reduceCtorEq, hps, hl], by simp (decide := true) (disch := first | omega | (simp (decide := true) only [List.length_set, hl]; done) | fail) only [sims, evRegion, evOps, evOp, evG, evR, guardT, callee, opRes, pureR, binT, unT, T.cells, T.leaf, fillT, splice, Nat.reduceLT, Nat.reduceAdd, Nat.reduceMul, Nat.reduceLeDiff, Nat.reduceEqDiff, reduceIte, Int.reduceBEq, Int.reduceBNe, Int.reduceLT, Int.reduceLE, Int.reduceGT, Int.reduceGE, Int.reduceNeg, reduceCtorEq, hps], by simp (decide := true) (disch := first | omega | (simp (decide := true) only [List.length_set, hl]; done) | fail) only [sims, evRegion, evOps, evOp, evG, evR, guardT, callee, opRes, pureR, binT, unT, T.cells, T.leaf, fillT, splice, Nat.reduceLT, Nat.reduceAdd, Nat.reduceMul, Nat.reduceLeDiff, Nat.reduceEqDiff, reduceIte, Int.reduceBEq, Int.reduceBNe, Int.reduceLT, Int.reduceLE, Int.reduceGT, Int.reduceGE, Int.reduceNeg, reduceCtorEq, hps]⟩).mono ?_
        rintro e s ⟨rfl, h⟩
        simp only [reduceCtorEq, false_and, false_or, or_false, exists_false, exists_const, ne_eq, not_false_eq_true, true_and, implies_true]
        exact ⟨rfl, h⟩
      have hok := Classical.not_not.mp hok
      rw [decide_eq_true hok] at q45
      have hk : readK c addr size = some k := by unfold readK; rw [if_pos hok, hf]
      obtain ⟨hil, hkl⟩ := find_lt hf
      have hrow := fit_row hfit _ hil
      obtain ⟨n, rfl, hn, hn1, hn4, han⟩ := okay_nat hok
      obtain ⟨f0, hxi⟩ := hx.2 _ hil
      rw [← row_eq c _ hil] at hxi
      have hget := way_get (row c (seti c (addr / 16))) hrow.2 k hkl 0 (by omega)
      rw [show ((row c (seti c (addr / 16)))[k]?).getD default = wayN (row c (seti c (addr / 16))) k from rfl, way_state, Nat.add_zero] at hget
      have hcl := enc_len (row c (seti c (addr / 16))) hrow.2
      have hb : seti c (addr / 16) * 1 + 1 ≤ c.sets.length := by omega
      have hb2 : k * 19 + 19 ≤ (row c (seti c (addr / 16))).length * 19 := by omega
      have hb1 : k * 19 + 1 ≤ (row c (seti c (addr / 16))).length * 19 := by omega
      have hgo : (wayN (row c (seti c (addr / 16))) k).state = 2 ∨ (wayN (row c (seti c (addr / 16))) k).state = 3 → ∀ st' : St, (st'.s.length = 91 ∧ rho st'.s (.tmp 1) = .int .u32 (addr : Int) ∧ rho st'.s (.tmp 2) = .int .i64 (n : Int) ∧ rho st'.s (.tmp 3) = .int .u32 v ∧ rho st'.s (.tmp 4) = .ptr 0 0 ∧ rho st'.s (.tmp 8) = .ptr 1 0 ∧ rho st'.s (.tmp 10) = .int .i64 (seti c (addr / 16) : Int) ∧ rho st'.s (.tmp 11) = .int .i64 (k : Int) ∧ st'.g 0 = some [.imm false c.sets.length xs] ∧ st'.g 1 = some [.imm true 0 []] ∧ st'.nx = 46) → W ap (match f24.body with | .seq _ (.seq _ (.seq _ r)) => r | _ => .skip) st' (fun e s => e.leaves = true ∧ ∃ r, (∃ u, r = .tup [u, .bool (writeR c addr (n : Int) v).2] ∧ CacheOf (writeR c addr (n : Int) v).1 u) ∧ ∃ u ids, resT s.s s.g f24.res = some u ∧ frz ⟨s.g, s.nx⟩ frzDepth u = some (r, ids)) := by
        intro hst
        have hK : writeK c addr (n : Int) = some k := by unfold writeK; rw [hk]; exact if_pos hst
        have hR : writeR c addr (n : Int) v = (c.sets.set (seti c (addr / 16)) ((row c (seti c (addr / 16))).set k (wrW (wayN (row c (seti c (addr / 16))) k) (addr % 16) n v)), true) := by unfold writeR; rw [hK]; rfl
        rw [hR]
        clear tail hR hK
        obtain ⟨hu1, hu2, hu3⟩ := set_wr (row c (seti c (addr / 16))) hrow.2 k hkl (addr % 16) n v han
        have hul := enc_len _ hu1
        rw [List.length_set] at hul
        generalize hi : seti c (addr / 16) = i at *
        generalize hL : row c i = l at *
        have hRi : c.sets[i] = l := by rw [← hL, row_eq c i hil]
        generalize haa : addr % 16 = a at *
        rintro ⟨s, g, nx⟩ ⟨hl, h1, h2, h3, h4, h8, h10, h11, g0, g1, hnx⟩
        simp only at hl h1 h2 h3 h4 h8 h10 h11 g0 g1 hnx
        subst hnx
        obtain ⟨N, v', g', nx', hN, c', rfl, hC, hg', hnx'⟩ := copied_run false c.sets xs hx hfit.big.1 hfit.big.2 g (46 + 4)
        have q41 := hN N (Nat.le_refl _)
        obtain ⟨A, els, bf, rfl, gA, hA0, hel, hrows⟩ := rows_copyP hC (by omega)
        obtain ⟨hei, gB, hB0, hBA, hBne⟩ := hrows i hil
        have w1 : g' 1 = some [.imm true 0 []] := by rw [hg' 1 (by omega)]; exact g1
        have hei2 : els[i * 1]? = some (.own (bf i) 0 l.length 19) := by rw [Nat.mul_one, hei, hRi]
        have hcA : cut [T.own A 0 c.sets.length 1] 0 1 = [T.own A 0 c.sets.length 1] := rfl
        have gB' : g' (bf i) = some ((l.set k (updW (wayN l k) a ((bytesOf v n).take 0))).flatMap Way.enc) := by
          have e : updW (wayN l k) a ((bytesOf v n).take 0) = wayN l k := by
            rw [List.take_zero]; unfold updW; rw [updD_nil]
          rw [gB, hRi, e, wayN_eq hkl, List.set_getElem_self]
        simp only [f24]
        refine W_seqn (W_regionN ⟨N, by simp (decide := true) (disch := first | omega | (simp (decide := true) only [List.length_set, hl]; done) | fail) only [sims, evRegion, evOps, evOp, evG, evR, guardT, callee, opRes, pureR, binT, unT, T.cells, T.leaf, fillT, splice, Nat.reduceLT, Nat.reduceAdd, Nat.reduceMul, Nat.reduceLeDiff, Nat.reduceEqDiff, reduceIte, Int.reduceBEq, Int.reduceBNe, Int.reduceLT, Int.reduceLE, Int.reduceGT, Int.reduceGE, Int.reduceNeg, reduceCtorEq, hps, evI, h4, g0, hcut, ap41, p41, n41, q41]; rfl⟩ ⟨rfl, ?_⟩)
        refine W_abs (fun s => s.s.length = 91 ∧ rho s.s (.tmp 1) = .int .u32 (addr : Int) ∧ rho s.s (.tmp 2) = .int .i64 (n : Int) ∧ rho s.s (.tmp 3) = .int .u32 v ∧ rho s.s (.tmp 8) = .ptr 1 0 ∧ rho s.s (.tmp 10) = .int .i64 (i : Int) ∧ rho s.s (.tmp 11) = .int .i64 (k : Int) ∧ rho s.s (.tmp 13) = .ptr 48 0 ∧ s.g 1 = some [.imm true 0 []] ∧ s.g 48 = some [.own A 0 c.sets.length 1] ∧ s.g A = some els ∧ (∀ j, j < c.sets.length → s.g (bf j) = g' (bf j))) ?_ ?_
        · refine ⟨?_, ?_, ?_, ?_, ?_, ?_, ?_, ?_, ?_, ?_, ?_, fun j hj => ?_⟩
          rotate_right 1
          · have := (hrows j hj).2.2.1
            simp (decide := true) (disch := first | omega | (simp (decide := true) only [List.length_set, hl]; done) | fail) only [sims, evRegion, evOps, evOp, evG, evR, guardT, callee, opRes, pureR, binT, unT, T.cells, T.leaf, fillT, splice, Nat.reduceLT, Nat.reduceAdd, Nat.reduceMul, Nat.reduceLeDiff, Nat.reduceEqDiff, reduceIte, Int.reduceBEq, Int.reduceBNe, Int.reduceLT, Int.reduceLE, Int.reduceGT, Int.reduceGE, Int.reduceNeg, reduceCtorEq, hps]
          all_goals first | (simp (decide := true) (disch := first | omega | (simp (decide := true) only [List.length_set, hl]; done) | fail) only [sims, evRegion, evOps, evOp, evG, evR, guardT, callee, opRes, pureR, binT, unT, T.cells, T.leaf, fillT, splice, Nat.reduceLT, Nat.reduceAdd, Nat.reduceMul, Nat.reduceLeDiff, Nat.reduceEqDiff, reduceIte, Int.reduceBEq, Int.reduceBNe, Int.reduceLT, Int.reduceLE, Int.reduceGT, Int.reduceGE, Int.reduceNeg, reduceCtorEq, hps, hl, h1, h2, h3, h8, h10, h11, w1, gA]; done) | (simp (decide := true) (disch := first | omega | (simp (decide := true) only [List.length_set, hl]; done) | fail) only [sims, evRegion, evOps, evOp, evG, evR, guardT, callee, opRes, pureR, binT, unT, T.cells, T.leaf, fillT, splice, Nat.reduceLT, Nat.reduceAdd, Nat.reduceMul, Nat.reduceLeDiff, Nat.reduceEqDiff, reduceIte, Int.reduceBEq, Int.reduceBNe, Int.reduceLT, Int.reduceLE, Int.reduceGT, Int.reduceGE, Int.reduceNeg, reduceCtorEq, hps, hl, h1, h2, h3, h8, h10, h11, w1, gA]; rfl)
        clear hl h1 h2 h3 h4 h8 h10 h11 g0 g1 w1 hg' hC
        rintro ⟨s, g, nx⟩ ⟨hl, h1, h2, h3, h8, h10, h11, h13, g1, g48, gA', hgb⟩
        simp only at hl h1 h2 h3 h8 h10 h11 h13 g1 g48 gA' hgb
        refine W_seq (W_seqn (W_region (fun k => by simp (decide := true) (disch := first | omega | (simp (decide := true) only [List.length_set, hl]; done) | fail) only [sims, evRegion, evOps, evOp, evG, evR, guardT, callee, opRes, pureR, binT, unT, T.cells, T.leaf, fillT, splice, Nat.reduceLT, Nat.reduceAdd, Nat.reduceMul, Nat.reduceLeDiff, Nat.reduceEqDiff, reduceIte, Int.reduceBEq, Int.reduceBNe, Int.reduceLT, Int.reduceLE, Int.reduceGT, Int.reduceGE, Int.reduceNeg, reduceCtorEq, hps]; rfl) ⟨rfl, W_block ?_⟩))
        refine rw_loop c.sets.length A (bf i) els hel i hil l hrow.2 hei2 k hkl addr a n haa.symm han hn4 v hv g g48 gA' hB0 hBA _ (fun st hst h8 h10 h11 h13 hg hgB => ?_) (n - 0) _ ⟨0, ?_, ?_, ?_, ?_, ?_, ?_, ?_, ?_, fun t ht => rfl, ?_, ?_, by omega, rfl⟩
        · have hl := hst
          have k1 := hg 1 (by omega)
          have k48 := hg 48 (by omega)
          have kA := hg A (by omega)
          rw [g1] at k1
          rw [g48] at k48
          rw [gA'] at kA
          generalize hE : (l.set k (updW (wayN l k) a (bytesOf v n))).flatMap Way.enc = us at *
          refine .inl ⟨rfl, .inl ⟨rfl, ?_⟩⟩
          refine W_seqn (W_region (fun k => by simp (decide := true) (disch := first | omega | (simp (decide := true) only [List.length_set, hl]; done) | fail) only [sims, evRegion, evOps, evOp, evG, evR, guardT, callee, opRes, pureR, binT, unT, T.cells, T.leaf, fillT, splice, Nat.reduceLT, Nat.reduceAdd, Nat.reduceMul, Nat.reduceLeDiff, Nat.reduceEqDiff, reduceIte, Int.reduceBEq, Int.reduceBNe, Int.reduceLT, Int.reduceLE, Int.reduceGT, Int.reduceGE, Int.reduceNeg, reduceCtorEq, hps, h13, h10, h11, k48, kA, hgB, hel, hil, hb, hei2, hkl, hul, hb1]; rfl) ⟨rfl, ?_⟩)
          refine W_seqn (W_region (fun k => by simp (decide := true) (disch := first | omega | (simp (decide := true) only [List.length_set, hl]; done) | fail) only [sims, evRegion, evOps, evOp, evG, evR, guardT, callee, opRes, pureR, binT, unT, T.cells, T.leaf, fillT, splice, Nat.reduceLT, Nat.reduceAdd, Nat.reduceMul, Nat.reduceLeDiff, Nat.reduceEqDiff, reduceIte, Int.reduceBEq, Int.reduceBNe, Int.reduceLT, Int.reduceLE, Int.reduceGT, Int.reduceGE, Int.reduceNeg, reduceCtorEq, hps, h13, h8, k48, k1, hcA]; rfl) ⟨rfl, W_ret ?_⟩)
          generalize hfl : l.set k (wrW (wayN l k) a n v) = fl at *
          have hfll : fl.length = l.length := by rw [← hfl, List.length_set]
          have hRA : RowsAtP (fun _ => True) (put1 (put1 st.g (bf i, some (us.set (k * 19) (.int .i64 3)))) (1, some [.own A 0 c.sets.length 1])) els (c.sets.set i fl) := by
            refine rowsAt_set (g := g') (bf := bf) hel (fun j hj => ?_) i hil fl (by rw [hfll, hRi]) (by rw [put1_ne (by omega), hu2]; exact put1_eq) (fun j hj hji => ?_)
            · obtain ⟨a1, a2, a3, a4, a5⟩ := hrows j hj
              exact ⟨a1, a2, trivial, a5⟩
            · have h1 := (hrows j hj).2.2.1
              have h2 := hBne j hj (fun e => hji e.symm)
              rw [put1_ne (by omega), put1_ne (by omega), hg _ (by omega)]
              exact hgb j hj
          have hL2 : ∀ r ∈ c.sets.set i fl, ∀ w ∈ r, w.wf := fun r hr => by
            rcases List.mem_or_eq_of_mem_set hr with h | rfl
            · exact (hfit.2 r h).2
            · exact hu3
          obtain ⟨ids, e1, _⟩ := frzP_rows (nx := st.nx + 9 + 3) (d := 7) (show c.sets.length = (c.sets.set i fl).length by rw [List.length_set]) hL2 (show put1 (put1 st.g (bf i, some (us.set (k * 19) (.int .i64 3)))) (1, some [.own A 0 c.sets.length 1]) A = some els by rw [put1_ne (by omega), put1_ne (by omega)]; exact kA) trivial hRA
          refine ⟨rfl, _, ⟨_, rfl, ⟨false, _, by rw [List.length_set], tells_rows _⟩⟩, fin_wr (F := f24) (t1 := 8) (t2 := 9) (p1 := 1) rfl e1 ?_ ?_ ?_⟩
          · simp (decide := true) (disch := first | omega | (simp (decide := true) only [List.length_set, hl]; done) | fail) only [sims, evRegion, evOps, evOp, evG, evR, guardT, callee, opRes, pureR, binT, unT, T.cells, T.leaf, fillT, splice, Nat.reduceLT, Nat.reduceAdd, Nat.reduceMul, Nat.reduceLeDiff, Nat.reduceEqDiff, reduceIte, Int.reduceBEq, Int.reduceBNe, Int.reduceLT, Int.reduceLE, Int.reduceGT, Int.reduceGE, Int.reduceNeg, reduceCtorEq, hps, h8]
          · simp (decide := true) (disch := first | omega | (simp (decide := true) only [List.length_set, hl]; done) | fail) only [sims, evRegion, evOps, evOp, evG, evR, guardT, callee, opRes, pureR, binT, unT, T.cells, T.leaf, fillT, splice, Nat.reduceLT, Nat.reduceAdd, Nat.reduceMul, Nat.reduceLeDiff, Nat.reduceEqDiff, reduceIte, Int.reduceBEq, Int.reduceBNe, Int.reduceLT, Int.reduceLE, Int.reduceGT, Int.reduceGE, Int.reduceNeg, reduceCtorEq, hps]
          · simp (decide := true) (disch := first | omega | (simp (decide := true) only [List.length_set, hl]; done) | fail) only [sims, evRegion, evOps, evOp, evG, evR, guardT, callee, opRes, pureR, binT, unT, T.cells, T.leaf, fillT, splice, Nat.reduceLT, Nat.reduceAdd, Nat.reduceMul, Nat.reduceLeDiff, Nat.reduceEqDiff, reduceIte, Int.reduceBEq, Int.reduceBNe, Int.reduceLT, Int.reduceLE, Int.reduceGT, Int.reduceGE, Int.reduceNeg, reduceCtorEq, hps]
        rotate_right 2
        · rw [← gB']; exact hgb i hil
        all_goals first | (simp (decide := true) (disch := first | omega | (simp (decide := true) only [List.length_set, hl]; done) | fail) only [sims, evRegion, evOps, evOp, evG, evR, guardT, callee, opRes, pureR, binT, unT, T.cells, T.leaf, fillT, splice, Nat.reduceLT, Nat.reduceAdd, Nat.reduceMul, Nat.reduceLeDiff, Nat.reduceEqDiff, reduceIte, Int.reduceBEq, Int.reduceBNe, Int.reduceLT, Int.reduceLE, Int.reduceGT, Int.reduceGE, Int.reduceNeg, reduceCtorEq, hps, hl, h1, h2, h3, h8, h10, h11, h13, Int.pow_zero, Int.ediv_one]; done) | (simp (decide := true) (disch := first | omega | (simp (decide := true) only [List.length_set, hl]; done) | fail) only [sims, evRegion, evOps, evOp, evG, evR, guardT, callee, opRes, pureR, binT, unT, T.cells, T.leaf, fillT, splice, Nat.reduceLT, Nat.reduceAdd, Nat.reduceMul, Nat.reduceLeDiff, Nat.reduceEqDiff, reduceIte, Int.reduceBEq, Int.reduceBNe, Int.reduceLT, Int.reduceLE, Int.reduceGT, Int.reduceGE, Int.reduceNeg, reduceCtorEq, hps, hl, h1, h2, h3, h8, h10, h11, h13]; rfl)
      rcases st_cases (wayN (row c (seti c (addr / 16))) k).state with ⟨k2, hs⟩ | ⟨k2, k3, hs⟩ | ⟨k2, k3, hs⟩
      · refine W_seqn (W_seqn (W_regionN ⟨N2, by simp (decide := true) (disch := first | omega | (simp (decide := true) only [List.length_set, hl]; done) | fail) only [sims, evRegion, evOps, evOp, evG, evR, guardT, callee, opRes, pureR, binT, unT, T.cells, T.leaf, fillT, splice, Nat.reduceLT, Nat.reduceAdd, Nat.reduceMul, Nat.reduceLeDiff, Nat.reduceEqDiff, reduceIte, Int.reduceBEq, Int.reduceBNe, Int.reduceLT, Int.reduceLE, Int.reduceGT, Int.reduceGE, Int.reduceNeg, reduceCtorEq, hps, h1, h2, ap45, p45, n45, q45, hxl, hil, hb, hxi, hkl, hcl, hb1, hb2, hget, k2]; rfl⟩ ⟨rfl, W_false (by simp (decide := true) (disch := first | omega | (simp (decide := true) only [List.length_set, hl]; done) | fail) only [sims, evRegion, evOps, evOp, evG, evR, guardT, callee, opRes, pureR, binT, unT, T.cells, T.leaf, fillT, splice, Nat.reduceLT, Nat.reduceAdd, Nat.reduceMul, Nat.reduceLeDiff, Nat.reduceEqDiff, reduceIte, Int.reduceBEq, Int.reduceBNe, Int.reduceLT, Int.reduceLE, Int.reduceGT, Int.reduceGE, Int.reduceNeg, reduceCtorEq] <;> rfl) (W_skip ⟨rfl, ?_⟩)⟩))
        refine hgo (.inl hs) _ ⟨?_, ?_, ?_, ?_, ?_, ?_, ?_, ?_, ?_, ?_, ?_⟩
        all_goals first | (simp (decide := true) (disch := first | omega | (simp (decide := true) only [List.length_set, hl]; done) | fail) only [sims, evRegion, evOps, evOp, evG, evR, guardT, callee, opRes, pureR, binT, unT, T.cells, T.leaf, fillT, splice, Nat.reduceLT, Nat.reduceAdd, Nat.reduceMul, Nat.reduceLeDiff, Nat.reduceEqDiff, reduceIte, Int.reduceBEq, Int.reduceBNe, Int.reduceLT, Int.reduceLE, Int.reduceGT, Int.reduceGE, Int.reduceNeg, reduceCtorEq, hps, hl, h1, h2, h3]; done) | rfl
      · refine W_seqn (W_seqn (W_regionN ⟨N2, by simp (decide := true) (disch := first | omega | (simp (decide := true) only [List.length_set, hl]; done) | fail) only [sims, evRegion, evOps, evOp, evG, evR, guardT, callee, opRes, pureR, binT, unT, T.cells, T.leaf, fillT, splice, Nat.reduceLT, Nat.reduceAdd, Nat.reduceMul, Nat.reduceLeDiff, Nat.reduceEqDiff, reduceIte, Int.reduceBEq, Int.reduceBNe, Int.reduceLT, Int.reduceLE, Int.reduceGT, Int.reduceGE, Int.reduceNeg, reduceCtorEq, hps, h1, h2, ap45, p45, n45, q45, hxl, hil, hb, hxi, hkl, hcl, hb1, hb2, hget, k2, k3]; rfl⟩ ⟨rfl, W_false (by simp (decide := true) (disch := first | omega | (simp (decide := true) only [List.length_set, hl]; done) | fail) only [sims, evRegion, evOps, evOp, evG, evR, guardT, callee, opRes, pureR, binT, unT, T.cells, T.leaf, fillT, splice, Nat.reduceLT, Nat.reduceAdd, Nat.reduceMul, Nat.reduceLeDiff, Nat.reduceEqDiff, reduceIte, Int.reduceBEq, Int.reduceBNe, Int.reduceLT, Int.reduceLE, Int.reduceGT, Int.reduceGE, Int.reduceNeg, reduceCtorEq] <;> rfl) (W_skip ⟨rfl, ?_⟩)⟩))
        refine hgo (.inr hs) _ ⟨?_, ?_, ?_, ?_, ?_, ?_, ?_, ?_, ?_, ?_, ?_⟩
        all_goals first | (simp (decide := true) (disch := first | omega | (simp (decide := true) only [List.length_set, hl]; done) | fail) only [sims, evRegion, evOps, evOp, evG, evR, guardT, callee, opRes, pureR, binT, unT, T.cells, T.leaf, fillT, splice, Nat.reduceLT, Nat.reduceAdd, Nat.reduceMul, Nat.reduceLeDiff, Nat.reduceEqDiff, reduceIte, Int.reduceBEq, Int.reduceBNe, Int.reduceLT, Int.reduceLE, Int.reduceGT, Int.reduceGE, Int.reduceNeg, reduceCtorEq, hps, hl, h1, h2, h3]; done) | rfl
      · have hK : writeK c addr (n : Int) = none := by unfold writeK; rw [hk]; exact if_neg hs
        refine W_seq (W_seqn (W_regionN ⟨N2, by simp (decide := true) (disch := first | omega | (simp (decide := true) only [List.length_set, hl]; done) | fail) only [sims, evRegion, evOps, evOp, evG, evR, guardT, callee, opRes, pureR, binT, unT, T.cells, T.leaf, fillT, splice, Nat.reduceLT, Nat.reduceAdd, Nat.reduceMul, Nat.reduceLeDiff, Nat.reduceEqDiff, reduceIte, Int.reduceBEq, Int.reduceBNe, Int.reduceLT, Int.reduceLE, Int.reduceGT, Int.reduceGE, Int.reduceNeg, reduceCtorEq, hps, h1, h2, ap45, p45, n45, q45, hxl, hil, hb, hxi, hkl, hcl, hb1, hb2, hget, k2, k3]; rfl⟩ ⟨rfl, W_true (by simp (decide := true) (disch := first | omega | (simp (decide := true) only [List.length_set, hl]; done) | fail) only [sims, evRegion, evOps, evOp, evG, evR, guardT, callee, opRes, pureR, binT, unT, T.cells, T.leaf, fillT, splice, Nat.reduceLT, Nat.reduceAdd, Nat.reduceMul, Nat.reduceLeDiff, Nat.reduceEqDiff, reduceIte, Int.reduceBEq, Int.reduceBNe, Int.reduceLT, Int.reduceLE, Int.reduceGT, Int.reduceGE, Int.reduceNeg, reduceCtorEq] <;> rfl) ?_⟩))
        refine (tail _ hK ⟨by simp (decide := true) (disch := first | omega | (simp (decide := true) only [List.length_set, hl]; done) | fail) only [sims, evRegion, evOps, evOp, evG, evR, guardT, callee, opRes, pureR, binT, unT, T.cells, T.leaf, fillT, splice, Nat.reduceLT, Nat.reduceAdd, Nat.reduceMul, Nat.reduceLeDiff, Nat.reduceEqDiff, reduceIte, Int.reduceBEq, Int.reduceBNe, Int.reduceLT, Int.reduceLE, Int.reduceGT, Int.reduceGE, Int.reduceNeg, reduceCtorEq, hps, hl], by simp (decide := true) (disch := first | omega | (simp (decide := true) only [List.length_set, hl]; done) | fail) only [sims, evRegion, evOps, evOp, evG, evR, guardT, callee, opRes, pureR, binT, unT, T.cells, T.leaf, fillT, splice, Nat.reduceLT, Nat.reduceAdd, Nat.reduceMul, Nat.reduceLeDiff, Nat.reduceEqDiff, reduceIte, Int.reduceBEq, Int.reduceBNe, Int.reduceLT, Int.reduceLE, Int.reduceGT, Int.reduceGE, Int.reduceNeg, reduceCtorEq, hps], by simp (decide := true) (disch := first | omega | (simp (decide := true) only [List.length_set, hl]; done) | fail) only [sims, evRegion, evOps, evOp, evG, evR, guardT, callee, opRes, pureR, binT, unT, T.cells, T.leaf, fillT, splice, Nat.reduceLT, Nat.reduceAdd, Nat.reduceMul, Nat.reduceLeDiff, Nat.reduceEqDiff, reduceIte, Int.reduceBEq, Int.reduceBNe, Int.reduceLT, Int.reduceLE, Int.reduceGT, Int.reduceGE, Int.reduceNeg, reduceCtorEq, hps]⟩).mono ?_
        rintro e s ⟨rfl, h⟩
        simp only [reduceCtorEq, false_and, false_or, or_false, exists_false, exists_const, ne_eq, not_false_eq_true, true_and, implies_true]
        exact ⟨rfl, h⟩
  obtain ⟨r, h, u, rfl, o⟩ := hmain
  exact ⟨u, h, o⟩
end Go.Proofs.Ythanlobfjpjegaa.Abs
