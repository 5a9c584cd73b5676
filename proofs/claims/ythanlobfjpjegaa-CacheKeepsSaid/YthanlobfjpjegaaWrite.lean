/- Another number in a cache: the program's function. -/
import Derived.Test.YthanlobfjpjegaaWbytes
namespace Go.Proofs.Ythanlobfjpjegaa.Abs
open Go Go.RowKit Fn
set_option linter.unusedVariables false
set_option linter.unusedSimpArgs false
set_option linter.unnecessarySimpa false
set_option maxRecDepth 100000
set_option maxHeartbeats 1000000

def wrW (old : Way) (a n : Nat) (v : Int) : Way := stW (updW old a (bytesOf v n)) 3
def writeK (c : Cache) (addr : Nat) (size : Int) : Option Nat := match readK c addr size with
  | some k => if (wayN (row c (seti c (addr / 16))) k).state = 2 ∨ (wayN (row c (seti c (addr / 16))) k).state = 3 then some k else none
  | none => none
def writeR (c : Cache) (addr : Nat) (size v : Int) : List (List Way) × Bool := match writeK c addr size with
  | some k => (c.sets.set (seti c (addr / 16)) ((row c (seti c (addr / 16))).set k (wrW (wayN (row c (seti c (addr / 16))) k) (addr % 16) size.toNat v)), true)
  | none => ([], false)
theorem cacheOf_nil : CacheOf [] (.agg [.imm true 0 []]) := ⟨true, [], rfl, rfl, fun i h => by simp at h⟩
theorem updW_state (old : Way) (a : Nat) (bs : List Int) : (updW old a bs).state = old.state := rfl
theorem set_wr (l : List Way) (hw : ∀ w ∈ l, w.wf) (k : Nat) (h : k < l.length) (a n : Nat) (v : Int) (han : a + n ≤ 16) : (∀ w ∈ l.set k (updW (wayN l k) a (bytesOf v n)), w.wf) ∧ (l.set k (wrW (wayN l k) a n v)).flatMap Way.enc = ((l.set k (updW (wayN l k) a (bytesOf v n))).flatMap Way.enc).set (k * 19) (.int .i64 3) ∧ (∀ w ∈ l.set k (wrW (wayN l k) a n v), w.wf) := by
  have hu := updW_wf (wayN_wf hw h) a (bytesOf v n) (bytesOf_byte n v) (by rw [bytesOf_len]; exact han)
  have hl1 := mem_setw hw k hu
  have e := set_st (l.set k (updW (wayN l k) a (bytesOf v n))) hl1 k (by rw [List.length_set]; exact h) 3 (by omega)
  rw [wayN_set l k h, List.set_set] at e
  exact ⟨hl1, e, mem_setw hw k (stW_wf hu (by omega))⟩
theorem fin_wr {F : AFun} {t1 t2 p1 : Nat} {x y : T} {b : Bool} (hF : F.res = [.cell t1 false 1, .tmp t2]) {s : List T} {g : Mem} {nx : Nat} {ids : List Nat} (hx : frz ⟨g, nx⟩ 11 (.agg [x]) = some (y, ids)) (h1 : rho s (.tmp t1) = .ptr p1 0) (h2 : rho s (.tmp t2) = .bool b) (g1 : g p1 = some [x]) : ∃ u ids, resT s g F.res = some u ∧ frz ⟨g, nx⟩ frzDepth u = some (.tup [y, .bool b], ids) := by
  refine ⟨.tup [.agg [x], .bool b], ids ++ ([] ++ []), ?_, ?_⟩
  · rw [hF]
    have hc1 : cut [x] 0 1 = [x] := rfl
    simp (decide := true) only [resT, resL, resOne, opRes, h1, h2, g1, hc1, List.length_cons, List.length_nil, if_true, Bool.false_eq_true, if_false]
  · have e1 : frz ⟨g, nx⟩ 11 (.bool b) = some (.bool b, []) := rfl
    show frz ⟨g, nx⟩ (11 + 1) _ = _
    rw [frz]
    simp only [frzAll, e1, hx, List.append_nil]
theorem st_cases (s : Int) : ((s != 2) = false ∧ s = 2) ∨ ((s != 2) = true ∧ (s != 3) = false ∧ s = 3) ∨ ((s != 2) = true ∧ (s != 3) = true ∧ ¬ (s = 2 ∨ s = 3)) := by
  by_cases h2 : s = 2
  · left; subst h2; exact ⟨rfl, rfl⟩
  by_cases h3 : s = 3
  · right; left; subst h3; exact ⟨rfl, rfl, rfl⟩
  · right; right
    refine ⟨?_, ?_, by omega⟩ <;> simp [h2, h3]
theorem bus_write (c : Cache) (hc : c.wf) (hfit : Fit c.sets) (addr : Nat) (ha : addr ≤ 4294967295) (size v : Int) (hv : 0 ≤ v ∧ v ≤ 4294967295) :
    ∃ u, E ap 23 [.agg [setsT c], .int .u32 (addr : Int), .int .i64 size, .int .u32 v] (.tup [u, .bool (writeR c addr size v).2]) ∧ (CacheOf (writeR c addr size v).1 u ∧ ((writeR c addr size v).2 = true → CacheEx (writeR c addr size v).1 u)) := by
  have hmain : ∃ r, E ap 23 [.agg [setsT c], .int .u32 (addr : Int), .int .i64 size, .int .u32 v] r ∧ ∃ u, r = .tup [u, .bool (writeR c addr size v).2] ∧ (CacheOf (writeR c addr size v).1 u ∧ ((writeR c addr size v).2 = true → CacheEx (writeR c addr size v).1 u)) := by
    have hx := tells_cache c
    have hxl := hx.1
    have hxf := tells_leaf hx
    refine E_bodyV (F := f23) rfl rfl rfl (P := fun r => ∃ u, r = .tup [u, .bool (writeR c addr size v).2] ∧ (CacheOf (writeR c addr size v).1 u ∧ ((writeR c addr size v).2 = true → CacheEx (writeR c addr size v).1 u))) ?_
    generalize hs0 : (_ : List T) ++ List.replicate _ T.undef = s0
    have e0 : s0.length = 75 ∧ rho s0 (.tmp 0) = .agg [setsT c] ∧ rho s0 (.tmp 1) = .int .u32 (addr : Int) ∧ rho s0 (.tmp 2) = .int .i64 size ∧ rho s0 (.tmp 3) = .int .u32 v := by subst hs0; exact ⟨rfl, rfl, rfl, rfl, rfl⟩
    clear hs0
    obtain ⟨hl, h0, h1, h2, h3⟩ := e0
    obtain ⟨N1, c43⟩ := (bus_place c hc addr ha size).call ap43 (fun g => rfl)
    have q43 := c43 N1 (Nat.le_refl _)
    have hsc : setsT c = .imm false c.sets.length (c.sets.flatMap (fun l => [rowT l])) := rfl
    rw [hsc] at h0 q43
    clear hsc c43
    generalize hX : c.sets.flatMap (fun l => [rowT l]) = xs at *
    have hleaf : allLeaf [T.imm false c.sets.length xs] = true := rfl
    have hcut : cut [T.imm false c.sets.length xs] 0 1 = [T.imm false c.sets.length xs] := rfl
    have tail : ∀ st' : St, writeK c addr size = none → (st'.s.length = 75 ∧ rho st'.s (.tmp 8) = .ptr 1 0 ∧ st'.g 1 = some [.imm true 0 []]) → W ap (.seq (.region [⟨some 51, .build [(.imm true 0 [])] [], none⟩, ⟨none, .store 1 (.tmp 8) (.tmp 51), none⟩, ⟨some 9, .mv (.con (.bool false)), none⟩] []) .ret) st' (fun e s => e = .ret ∧ ∃ r, (∃ u, r = .tup [u, .bool (writeR c addr size v).2] ∧ (CacheOf (writeR c addr size v).1 u ∧ ((writeR c addr size v).2 = true → CacheEx (writeR c addr size v).1 u))) ∧ ∃ u ids, resT s.s s.g f23.res = some u ∧ frz ⟨s.g, s.nx⟩ frzDepth u = some (r, ids)) := by
      rintro ⟨s, g, nx⟩ hK ⟨hl, h8, g1⟩
      simp only at hl h8 g1
      have hR : writeR c addr size v = ([], false) := by unfold writeR; rw [hK]
      rw [hR]
      refine W_seqn (W_region (fun k => by simp (decide := true) (disch := first | omega | (simp (decide := true) only [List.length_set, hl]; done) | fail) only [sims, evRegion, evOps, evOp, evG, evR, guardT, callee, opRes, pureR, binT, unT, T.cells, T.leaf, fillT, splice, Nat.reduceLT, Nat.reduceAdd, Nat.reduceMul, Nat.reduceLeDiff, Nat.reduceEqDiff, reduceIte, Int.reduceBEq, Int.reduceBNe, Int.reduceLT, Int.reduceLE, Int.reduceGT, Int.reduceGE, Int.reduceNeg, reduceCtorEq, hps, h8, g1]; rfl) ⟨rfl, W_ret ?_⟩)
      refine ⟨rfl, _, ⟨_, rfl, cacheOf_nil, fun h => by cases h⟩, fin_wr (F := f23) (t1 := 8) (t2 := 9) (p1 := 1) (x := .imm true 0 []) (ids := []) rfl rfl ?_ ?_ ?_⟩
      · simp (decide := true) (disch := first | omega | (simp (decide := true) only [List.length_set, hl]; done) | fail) only [sims, evRegion, evOps, evOp, evG, evR, guardT, callee, opRes, pureR, binT, unT, T.cells, T.leaf, fillT, splice, Nat.reduceLT, Nat.reduceAdd, Nat.reduceMul, Nat.reduceLeDiff, Nat.reduceEqDiff, reduceIte, Int.reduceBEq, Int.reduceBNe, Int.reduceLT, Int.reduceLE, Int.reduceGT, Int.reduceGE, Int.reduceNeg, reduceCtorEq, hps, h8]
      · simp (decide := true) (disch := first | omega | (simp (decide := true) only [List.length_set, hl]; done) | fail) only [sims, evRegion, evOps, evOp, evG, evR, guardT, callee, opRes, pureR, binT, unT, T.cells, T.leaf, fillT, splice, Nat.reduceLT, Nat.reduceAdd, Nat.reduceMul, Nat.reduceLeDiff, Nat.reduceEqDiff, reduceIte, Int.reduceBEq, Int.reduceBNe, Int.reduceLT, Int.reduceLE, Int.reduceGT, Int.reduceGE, Int.reduceNeg, reduceCtorEq, hps]
      · simp (decide := true) (disch := first | omega | (simp (decide := true) only [List.length_set, hl]; done) | fail) only [sims, evRegion, evOps, evOp, evG, evR, guardT, callee, opRes, pureR, binT, unT, T.cells, T.leaf, fillT, splice, Nat.reduceLT, Nat.reduceAdd, Nat.reduceMul, Nat.reduceLeDiff, Nat.reduceEqDiff, reduceIte, Int.reduceBEq, Int.reduceBNe, Int.reduceLT, Int.reduceLE, Int.reduceGT, Int.reduceGE, Int.reduceNeg, reduceCtorEq, hps]
    refine W_seqn (W_region (fun k => by simp (decide := true) (disch := first | omega | (simp (decide := true) only [List.length_set, hl]; done) | fail) only [sims, evRegion, evOps, evOp, evG, evR, guardT, callee, opRes, pureR, binT, unT, T.cells, T.leaf, fillT, splice, Nat.reduceLT, Nat.reduceAdd, Nat.reduceMul, Nat.reduceLeDiff, Nat.reduceEqDiff, reduceIte, Int.reduceBEq, Int.reduceBNe, Int.reduceLT, Int.reduceLE, Int.reduceGT, Int.reduceGE, Int.reduceNeg, reduceCtorEq, hps, h0, hleaf]; rfl) ⟨rfl, ?_⟩)
    cases hk : readK c addr size with
    | none =>
      obtain ⟨x, hx⟩ := place_none hk
      rw [hx] at q43
      have hK : writeK c addr size = none := by unfold writeK; rw [hk]
      refine W_seqn (W_regionN ⟨N1, by simp (decide := true) (disch := first | omega | (simp (decide := true) only [List.length_set, hl]; done) | fail) only [sims, evRegion, evOps, evOp, evG, evR, guardT, callee, opRes, pureR, binT, unT, T.cells, T.leaf, fillT, splice, Nat.reduceLT, Nat.reduceAdd, Nat.reduceMul, Nat.reduceLeDiff, Nat.reduceEqDiff, reduceIte, Int.reduceBEq, Int.reduceBNe, Int.reduceLT, Int.reduceLE, Int.reduceGT, Int.reduceGE, Int.reduceNeg, reduceCtorEq, hps, h1, h2, hcut, ap43, p43, n43, q43]; rfl⟩ ⟨rfl, ?_⟩)
      refine W_seq (W_seqn (W_region (fun k => by simp (decide := true) (disch := first | omega | (simp (decide := true) only [List.length_set, hl]; done) | fail) only [sims, evRegion, evOps, evOp, evG, evR, guardT, callee, opRes, pureR, binT, unT, T.cells, T.leaf, fillT, splice, Nat.reduceLT, Nat.reduceAdd, Nat.reduceMul, Nat.reduceLeDiff, Nat.reduceEqDiff, reduceIte, Int.reduceBEq, Int.reduceBNe, Int.reduceLT, Int.reduceLE, Int.reduceGT, Int.reduceGE, Int.reduceNeg, reduceCtorEq]; rfl) ⟨rfl, W_true (by simp (decide := true) (disch := first | omega | (simp (decide := true) only [List.length_set, hl]; done) | fail) only [sims, evRegion, evOps, evOp, evG, evR, guardT, callee, opRes, pureR, binT, unT, T.cells, T.leaf, fillT, splice, Nat.reduceLT, Nat.reduceAdd, Nat.reduceMul, Nat.reduceLeDiff, Nat.reduceEqDiff, reduceIte, Int.reduceBEq, Int.reduceBNe, Int.reduceLT, Int.reduceLE, Int.reduceGT, Int.reduceGE, Int.reduceNeg, reduceCtorEq] <;> rfl) ?_⟩))
      refine (tail _ hK ⟨by simp (decide := true) (disch := first | omega | (simp (decide := true) only [List.length_set, hl]; done) | fail) only [sims, evRegion, evOps, evOp, evG, evR, guardT, callee, opRes, pureR, binT, unT, T.cells, T.leaf, fillT, splice, Nat.reduceLT, Nat.reduceAdd, Nat.reduceMul, Nat.reduceLeDiff, Nat.reduceEqDiff, reduceIte, Int.reduceBEq, Int.reduceBNe, Int.reduceLT, Int.reduceLE, Int.reduceGT, Int.reduceGE, Int.reduceNeg, reduceCtorEq, hps, hl], by simp (decide := true) (disch := first | omega | (simp (decide := true) only [List.length_set, hl]; done) | fail) only [sims, evRegion, evOps, evOp, evG, evR, guardT, callee, opRes, pureR, binT, unT, T.cells, T.leaf, fillT, splice, Nat.reduceLT, Nat.reduceAdd, Nat.reduceMul, Nat.reduceLeDiff, Nat.reduceEqDiff, reduceIte, Int.reduceBEq, Int.reduceBNe, Int.reduceLT, Int.reduceLE, Int.reduceGT, Int.reduceGE, Int.reduceNeg, reduceCtorEq, hps], by simp (decide := true) (disch := first | omega | (simp (decide := true) only [List.length_set, hl]; done) | fail) only [sims, evRegion, evOps, evOp, evG, evR, guardT, callee, opRes, pureR, binT, unT, T.cells, T.leaf, fillT, splice, Nat.reduceLT, Nat.reduceAdd, Nat.reduceMul, Nat.reduceLeDiff, Nat.reduceEqDiff, reduceIte, Int.reduceBEq, Int.reduceBNe, Int.reduceLT, Int.reduceLE, Int.reduceGT, Int.reduceGE, Int.reduceNeg, reduceCtorEq, hps]⟩).mono ?_
      rintro e s ⟨rfl, h⟩
      simp only [reduceCtorEq, false_and, false_or, or_false, exists_false, exists_const, ne_eq, not_false_eq_true, true_and, implies_true]
      exact ⟨rfl, h⟩
    | some k =>
      obtain ⟨hok, hf, hp⟩ := place_some hk
      obtain ⟨hil, hkl⟩ := find_lt hf
      have hrow := fit_row hfit _ hil
      obtain ⟨n, rfl, hn, hn1, hn4, han⟩ := okay_nat hok
      rw [hp] at q43
      obtain ⟨f0, hxi⟩ := hx.2 _ hil
      rw [← row_eq c _ hil] at hxi
      have hstv : (wayN (row c (seti c (addr / 16))) k).state = (wayN (row c (seti c (addr / 16))) k).state := rfl
      have hget := way_get (row c (seti c (addr / 16))) hrow.2 k hkl 0 (by omega)
      rw [show ((row c (seti c (addr / 16)))[k]?).getD default = wayN (row c (seti c (addr / 16))) k from rfl, way_state, Nat.add_zero] at hget
      have hcl := enc_len (row c (seti c (addr / 16))) hrow.2
      have hclf := enc_leaf (row c (seti c (addr / 16)))
      have hb : seti c (addr / 16) * 1 + 1 ≤ c.sets.length := by omega
      have hb2 : k * 19 + 19 ≤ (row c (seti c (addr / 16))).length * 19 := by omega
      have hb1 : k * 19 + 1 ≤ (row c (seti c (addr / 16))).length * 19 := by omega
      have hb5 : k * 19 + 2 + 16 * 1 ≤ (row c (seti c (addr / 16))).length * 19 := by omega
      refine W_seqn (W_regionN ⟨N1, by simp (decide := true) (disch := first | omega | (simp (decide := true) only [List.length_set, hl]; done) | fail) only [sims, evRegion, evOps, evOp, evG, evR, guardT, callee, opRes, pureR, binT, unT, T.cells, T.leaf, fillT, splice, Nat.reduceLT, Nat.reduceAdd, Nat.reduceMul, Nat.reduceLeDiff, Nat.reduceEqDiff, reduceIte, Int.reduceBEq, Int.reduceBNe, Int.reduceLT, Int.reduceLE, Int.reduceGT, Int.reduceGE, Int.reduceNeg, reduceCtorEq, hps, h1, h2, hcut, ap43, p43, n43, q43]; rfl⟩ ⟨rfl, ?_⟩)
      have hgo : (wayN (row c (seti c (addr / 16))) k).state = 2 ∨ (wayN (row c (seti c (addr / 16))) k).state = 3 → ∀ st' : St, (st'.s.length = 75 ∧ rho st'.s (.tmp 2) = .int .i64 (n : Int) ∧ rho st'.s (.tmp 3) = .int .u32 v ∧ rho st'.s (.tmp 4) = .ptr 0 0 ∧ rho st'.s (.tmp 8) = .ptr 1 0 ∧ rho st'.s (.tmp 10) = .int .i64 (seti c (addr / 16) : Int) ∧ rho st'.s (.tmp 11) = .int .i64 (k : Int) ∧ rho st'.s (.tmp 12) = .int .i64 ((addr % 16 : Nat) : Int) ∧ st'.g 0 = some [.imm false c.sets.length xs] ∧ st'.g 1 = some [.imm true 0 []] ∧ st'.nx = 42) → W ap (match f23.body with | .seq _ (.seq _ (.seq _ r)) => r | _ => .skip) st' (fun e s => e.leaves = true ∧ ∃ r, (∃ u, r = .tup [u, .bool (writeR c addr (n : Int) v).2] ∧ (CacheOf (writeR c addr (n : Int) v).1 u ∧ ((writeR c addr (n : Int) v).2 = true → CacheEx (writeR c addr (n : Int) v).1 u))) ∧ ∃ u ids, resT s.s s.g f23.res = some u ∧ frz ⟨s.g, s.nx⟩ frzDepth u = some (r, ids)) := by
        intro hst
        have hK : writeK c addr (n : Int) = some k := by unfold writeK; rw [hk]; exact if_pos hst
        have hR : writeR c addr (n : Int) v = (c.sets.set (seti c (addr / 16)) ((row c (seti c (addr / 16))).set k (wrW (wayN (row c (seti c (addr / 16))) k) (addr % 16) n v)), true) := by unfold writeR; rw [hK]; rfl
        rw [hR]
        clear tail hR hK
        obtain ⟨hu1, hu2, hu3⟩ := set_wr (row c (seti c (addr / 16))) hrow.2 k hkl (addr % 16) n v han
        have hspl := set_upd (row c (seti c (addr / 16))) hrow.2 k hkl (addr % 16) (bytesOf v n) (bytesOf_byte n v) (by rw [bytesOf_len]; exact han)
        have hul := enc_len _ hu1
        rw [List.length_set] at hul
        generalize hi : seti c (addr / 16) = i at *
        generalize hL : row c i = l at *
        generalize addr % 16 = a at *
        obtain ⟨N2, c46⟩ := (bits_bytes v hv n hn4).call ap46 (fun g => rfl)
        have q46 := c46 N2 (Nat.le_refl _)
        have hbl : (dataT (bytesOf v n)).length = n * 1 := by rw [data_len, bytesOf_len]; omega
        have hbf := leaf_ints _ (data_ints (bytesOf v n))
        have hmin : min n (16 - a) = n := by omega
        have htk : (dataT (bytesOf v n)).take (n * 1) = dataT (bytesOf v n) := List.take_of_length_le (by omega)
        have hb6 : a ≤ 16 := by omega
        have hb7 : k * 19 + 2 + a * 1 + (16 - a) * 1 ≤ l.length * 19 := by omega
        generalize hE : (l.set k (updW (wayN l k) a (bytesOf v n))).flatMap Way.enc = us at *
        generalize hwsE : l.flatMap Way.enc = ws at *
        generalize dataT (bytesOf v n) = bs at *
        rintro ⟨s, g, nx⟩ ⟨hl, h2, h3, h4, h8, h10, h11, h12, g0, g1, hnx⟩
        simp only at hl h2 h3 h4 h8 h10 h11 h12 g0 g1 hnx
        subst hnx
        obtain ⟨N, g', nx', hN, w1, w2, w3, w4, w5, w6⟩ := with_run false c.sets.length xs hxl hxf hfit.big.1 i hil f0 l.length ws hxi hcl hclf (by omega) (by have := hrow.1; omega) g (42 + 5)
        have q40 := hN N (Nat.le_refl _)
        have w1' : g' 1 = some [.imm true 0 []] := by rw [w6 1 (by omega)]; exact g1
        simp only [f23]
        refine W_seqn (W_regionN ⟨N, by simp (decide := true) (disch := first | omega | (simp (decide := true) only [List.length_set, hl]; done) | fail) only [sims, evRegion, evOps, evOp, evG, evR, guardT, callee, opRes, pureR, binT, unT, T.cells, T.leaf, fillT, splice, Nat.reduceLT, Nat.reduceAdd, Nat.reduceMul, Nat.reduceLeDiff, Nat.reduceEqDiff, reduceIte, Int.reduceBEq, Int.reduceBNe, Int.reduceLT, Int.reduceLE, Int.reduceGT, Int.reduceGE, Int.reduceNeg, reduceCtorEq, hps, evI, h4, h10, g0, hcut, ap40, p40, n40, q40]; rfl⟩ ⟨rfl, ?_⟩)
        refine W_abs (fun s => s.s.length = 75 ∧ rho s.s (.tmp 2) = .int .i64 (n : Int) ∧ rho s.s (.tmp 3) = .int .u32 v ∧ rho s.s (.tmp 8) = .ptr 1 0 ∧ rho s.s (.tmp 10) = .int .i64 (i : Int) ∧ rho s.s (.tmp 11) = .int .i64 (k : Int) ∧ rho s.s (.tmp 12) = .int .i64 (a : Int) ∧ rho s.s (.tmp 14) = .ptr 45 0 ∧ s.g 1 = some [.imm true 0 []] ∧ s.g 45 = some [.own 51 0 c.sets.length 1] ∧ s.g 51 = some (xs.set i (.own 63 0 l.length 19)) ∧ s.g 63 = some ws) ?_ ?_
        · refine ⟨?_, ?_, ?_, ?_, ?_, ?_, ?_, ?_, ?_, ?_, ?_, ?_⟩
          all_goals first | (simp (decide := true) (disch := first | omega | (simp (decide := true) only [List.length_set, hl]; done) | fail) only [sims, evRegion, evOps, evOp, evG, evR, guardT, callee, opRes, pureR, binT, unT, T.cells, T.leaf, fillT, splice, Nat.reduceLT, Nat.reduceAdd, Nat.reduceMul, Nat.reduceLeDiff, Nat.reduceEqDiff, reduceIte, Int.reduceBEq, Int.reduceBNe, Int.reduceLT, Int.reduceLE, Int.reduceGT, Int.reduceGE, Int.reduceNeg, reduceCtorEq, hps, hl, h2, h3, h8, h10, h11, h12]; done) | (simp (decide := true) only [sims, evRegion, evOps, evOp, evG, evR, guardT, callee, opRes, pureR, binT, unT, T.cells, T.leaf, fillT, splice, Nat.reduceLT, Nat.reduceAdd, Nat.reduceMul, Nat.reduceLeDiff, Nat.reduceEqDiff, reduceIte, Int.reduceBEq, Int.reduceBNe, Int.reduceLT, Int.reduceLE, Int.reduceGT, Int.reduceGE, Int.reduceNeg, reduceCtorEq, hps, w1, w2, w1']; done) | (simp (decide := true) only [sims, evRegion, evOps, evOp, evG, evR, guardT, callee, opRes, pureR, binT, unT, T.cells, T.leaf, fillT, splice, Nat.reduceLT, Nat.reduceAdd, Nat.reduceMul, Nat.reduceLeDiff, Nat.reduceEqDiff, reduceIte, Int.reduceBEq, Int.reduceBNe, Int.reduceLT, Int.reduceLE, Int.reduceGT, Int.reduceGE, Int.reduceNeg, reduceCtorEq, hps, w1, w2, w1']; rfl)
        clear hl h2 h3 h4 h8 h10 h11 h12 g0 g1 w1 w2 w3 w4 w5 w6 w1'
        rintro ⟨s, g, nx⟩ ⟨hl, h2, h3, h8, h10, h11, h12, h14, g1, g45, g51, g63⟩
        simp only at hl h2 h3 h8 h10 h11 h12 h14 g1 g45 g51 g63
        have hxs2 : (xs.set i (.own 63 0 l.length 19))[i * 1]? = some (.own 63 0 l.length 19) := by rw [Nat.mul_one, List.getElem?_set, if_pos rfl, if_pos (by omega)]
        have hx3l : (xs.set i (.own 63 0 l.length 19)).length = c.sets.length := by rw [List.length_set]; exact hxl
        generalize hxs3 : xs.set i (.own 63 0 l.length 19) = xs3 at *
        have hcA : cut [T.own 51 0 c.sets.length 1] 0 1 = [T.own 51 0 c.sets.length 1] := rfl
        refine W_seqn (W_region (fun k => by simp (decide := true) (disch := first | omega | (simp (decide := true) only [List.length_set, hl]; done) | fail) only [sims, evRegion, evOps, evOp, evG, evR, guardT, callee, opRes, pureR, binT, unT, T.cells, T.leaf, fillT, splice, Nat.reduceLT, Nat.reduceAdd, Nat.reduceMul, Nat.reduceLeDiff, Nat.reduceEqDiff, reduceIte, Int.reduceBEq, Int.reduceBNe, Int.reduceLT, Int.reduceLE, Int.reduceGT, Int.reduceGE, Int.reduceNeg, reduceCtorEq, hps, h14, h10, h11, g45, g51, hx3l, hil, hb, hxs2, hkl]; rfl) ⟨rfl, ?_⟩)
        refine W_seqn (W_regionN ⟨N2, by simp (decide := true) (disch := first | omega | (simp (decide := true) only [List.length_set, hl]; done) | fail) only [sims, evRegion, evOps, evOp, evG, evR, guardT, callee, opRes, pureR, binT, unT, T.cells, T.leaf, fillT, splice, Nat.reduceLT, Nat.reduceAdd, Nat.reduceMul, Nat.reduceLeDiff, Nat.reduceEqDiff, reduceIte, Int.reduceBEq, Int.reduceBNe, Int.reduceLT, Int.reduceLE, Int.reduceGT, Int.reduceGE, Int.reduceNeg, reduceCtorEq, hps, cellsOf, h2, h3, h12, g63, hcl, Option.map_none, Option.map_some, hb6, hb5, hb7, hbl, hbf, hmin, htk, ap46, p46, n46, q46]; rfl⟩ ⟨rfl, ?_⟩)
        rw [← hspl]
        refine W_seqn (W_region (fun k => by simp (decide := true) (disch := first | omega | (simp (decide := true) only [List.length_set, hl]; done) | fail) only [sims, evRegion, evOps, evOp, evG, evR, guardT, callee, opRes, pureR, binT, unT, T.cells, T.leaf, fillT, splice, Nat.reduceLT, Nat.reduceAdd, Nat.reduceMul, Nat.reduceLeDiff, Nat.reduceEqDiff, reduceIte, Int.reduceBEq, Int.reduceBNe, Int.reduceLT, Int.reduceLE, Int.reduceGT, Int.reduceGE, Int.reduceNeg, reduceCtorEq, hps, hul, hb1]; rfl) ⟨rfl, ?_⟩)
        refine W_seqn (W_region (fun k => by simp (decide := true) (disch := first | omega | (simp (decide := true) only [List.length_set, hl]; done) | fail) only [sims, evRegion, evOps, evOp, evG, evR, guardT, callee, opRes, pureR, binT, unT, T.cells, T.leaf, fillT, splice, Nat.reduceLT, Nat.reduceAdd, Nat.reduceMul, Nat.reduceLeDiff, Nat.reduceEqDiff, reduceIte, Int.reduceBEq, Int.reduceBNe, Int.reduceLT, Int.reduceLE, Int.reduceGT, Int.reduceGE, Int.reduceNeg, reduceCtorEq, hps, h14, h8, g45, g1, hcA]; rfl) ⟨rfl, W_ret ?_⟩)
        generalize hfl : l.set k (wrW (wayN l k) a n v) = fl at *
        have hx' : CacheEx (c.sets.set i fl) (.agg [.imm false c.sets.length (xs.set i (.imm false fl.length (fl.flatMap Way.enc)))]) := ex_set hX i fl
        have hfll : fl.length = l.length := by rw [← hfl, List.length_set]
        rw [← hxs3, ← hfll] at g51
        obtain ⟨ids, e1, _⟩ := frzP_with (h := ⟨put1 (put1 (put1 g (63, some us)) (63, some (us.set (k * 19) (.int .i64 3)))) (1, some [.own 51 0 c.sets.length 1]), nx + 7 + 9 + 4 + 3⟩) (d := 7) (A := 51) (B := 63) (P := fun _ => True) hx rfl i hil fl hu3 (by simp (decide := true) (disch := first | omega | (simp (decide := true) only [List.length_set, hl]; done) | fail) only [sims, evRegion, evOps, evOp, evG, evR, guardT, callee, opRes, pureR, binT, unT, T.cells, T.leaf, fillT, splice, Nat.reduceLT, Nat.reduceAdd, Nat.reduceMul, Nat.reduceLeDiff, Nat.reduceEqDiff, reduceIte, Int.reduceBEq, Int.reduceBNe, Int.reduceLT, Int.reduceLE, Int.reduceGT, Int.reduceGE, Int.reduceNeg, reduceCtorEq, hps, g51]) (by rw [hu2]; simp (decide := true) (disch := first | omega | (simp (decide := true) only [List.length_set, hl]; done) | fail) only [sims, evRegion, evOps, evOp, evG, evR, guardT, callee, opRes, pureR, binT, unT, T.cells, T.leaf, fillT, splice, Nat.reduceLT, Nat.reduceAdd, Nat.reduceMul, Nat.reduceLeDiff, Nat.reduceEqDiff, reduceIte, Int.reduceBEq, Int.reduceBNe, Int.reduceLT, Int.reduceLE, Int.reduceGT, Int.reduceGE, Int.reduceNeg, reduceCtorEq, hps]) trivial trivial
        refine ⟨rfl, _, ⟨_, rfl, hx'.of, fun _ => hx'⟩, fin_wr (F := f23) (t1 := 8) (t2 := 9) (p1 := 1) rfl e1 ?_ ?_ ?_⟩
        · simp (decide := true) (disch := first | omega | (simp (decide := true) only [List.length_set, hl]; done) | fail) only [sims, evRegion, evOps, evOp, evG, evR, guardT, callee, opRes, pureR, binT, unT, T.cells, T.leaf, fillT, splice, Nat.reduceLT, Nat.reduceAdd, Nat.reduceMul, Nat.reduceLeDiff, Nat.reduceEqDiff, reduceIte, Int.reduceBEq, Int.reduceBNe, Int.reduceLT, Int.reduceLE, Int.reduceGT, Int.reduceGE, Int.reduceNeg, reduceCtorEq, hps, h8]
        · simp (decide := true) (disch := first | omega | (simp (decide := true) only [List.length_set, hl]; done) | fail) only [sims, evRegion, evOps, evOp, evG, evR, guardT, callee, opRes, pureR, binT, unT, T.cells, T.leaf, fillT, splice, Nat.reduceLT, Nat.reduceAdd, Nat.reduceMul, Nat.reduceLeDiff, Nat.reduceEqDiff, reduceIte, Int.reduceBEq, Int.reduceBNe, Int.reduceLT, Int.reduceLE, Int.reduceGT, Int.reduceGE, Int.reduceNeg, reduceCtorEq, hps]
        · simp (decide := true) (disch := first | omega | (simp (decide := true) only [List.length_set, hl]; done) | fail) only [sims, evRegion, evOps, evOp, evG, evR, guardT, callee, opRes, pureR, binT, unT, T.cells, T.leaf, fillT, splice, Nat.reduceLT, Nat.reduceAdd, Nat.reduceMul, Nat.reduceLeDiff, Nat.reduceEqDiff, reduceIte, Int.reduceBEq, Int.reduceBNe, Int.reduceLT, Int.reduceLE, Int.reduceGT, Int.reduceGE, Int.reduceNeg, reduceCtorEq, hps]
      rcases st_cases (wayN (row c (seti c (addr / 16))) k).state with ⟨k2, hs⟩ | ⟨k2, k3, hs⟩ | ⟨k2, k3, hs⟩
      · refine W_seqn (W_seqn (W_region (fun k => by simp (decide := true) (disch := first | omega | (simp (decide := true) only [List.length_set, hl]; done) | fail) only [sims, evRegion, evOps, evOp, evG, evR, guardT, callee, opRes, pureR, binT, unT, T.cells, T.leaf, fillT, splice, Nat.reduceLT, Nat.reduceAdd, Nat.reduceMul, Nat.reduceLeDiff, Nat.reduceEqDiff, reduceIte, Int.reduceBEq, Int.reduceBNe, Int.reduceLT, Int.reduceLE, Int.reduceGT, Int.reduceGE, Int.reduceNeg, reduceCtorEq, hps, hxl, hil, hb, hxi, hkl, hcl, hb1, hb2, hget, k2]; rfl) ⟨rfl, W_false (by simp (decide := true) (disch := first | omega | (simp (decide := true) only [List.length_set, hl]; done) | fail) only [sims, evRegion, evOps, evOp, evG, evR, guardT, callee, opRes, pureR, binT, unT, T.cells, T.leaf, fillT, splice, Nat.reduceLT, Nat.reduceAdd, Nat.reduceMul, Nat.reduceLeDiff, Nat.reduceEqDiff, reduceIte, Int.reduceBEq, Int.reduceBNe, Int.reduceLT, Int.reduceLE, Int.reduceGT, Int.reduceGE, Int.reduceNeg, reduceCtorEq] <;> rfl) (W_skip ⟨rfl, ?_⟩)⟩))
        refine hgo (.inl hs) _ ⟨?_, ?_, ?_, ?_, ?_, ?_, ?_, ?_, ?_, ?_, ?_⟩
        all_goals first | (simp (decide := true) (disch := first | omega | (simp (decide := true) only [List.length_set, hl]; done) | fail) only [sims, evRegion, evOps, evOp, evG, evR, guardT, callee, opRes, pureR, binT, unT, T.cells, T.leaf, fillT, splice, Nat.reduceLT, Nat.reduceAdd, Nat.reduceMul, Nat.reduceLeDiff, Nat.reduceEqDiff, reduceIte, Int.reduceBEq, Int.reduceBNe, Int.reduceLT, Int.reduceLE, Int.reduceGT, Int.reduceGE, Int.reduceNeg, reduceCtorEq, hps, hl, h2, h3]; done) | rfl
      · refine W_seqn (W_seqn (W_region (fun k => by simp (decide := true) (disch := first | omega | (simp (decide := true) only [List.length_set, hl]; done) | fail) only [sims, evRegion, evOps, evOp, evG, evR, guardT, callee, opRes, pureR, binT, unT, T.cells, T.leaf, fillT, splice, Nat.reduceLT, Nat.reduceAdd, Nat.reduceMul, Nat.reduceLeDiff, Nat.reduceEqDiff, reduceIte, Int.reduceBEq, Int.reduceBNe, Int.reduceLT, Int.reduceLE, Int.reduceGT, Int.reduceGE, Int.reduceNeg, reduceCtorEq, hps, hxl, hil, hb, hxi, hkl, hcl, hb1, hb2, hget, k2, k3]; rfl) ⟨rfl, W_false (by simp (decide := true) (disch := first | omega | (simp (decide := true) only [List.length_set, hl]; done) | fail) only [sims, evRegion, evOps, evOp, evG, evR, guardT, callee, opRes, pureR, binT, unT, T.cells, T.leaf, fillT, splice, Nat.reduceLT, Nat.reduceAdd, Nat.reduceMul, Nat.reduceLeDiff, Nat.reduceEqDiff, reduceIte, Int.reduceBEq, Int.reduceBNe, Int.reduceLT, Int.reduceLE, Int.reduceGT, Int.reduceGE, Int.reduceNeg, reduceCtorEq] <;> rfl) (W_skip ⟨rfl, ?_⟩)⟩))
        refine hgo (.inr hs) _ ⟨?_, ?_, ?_, ?_, ?_, ?_, ?_, ?_, ?_, ?_, ?_⟩
        all_goals first | (simp (decide := true) (disch := first | omega | (simp (decide := true) only [List.length_set, hl]; done) | fail) only [sims, evRegion, evOps, evOp, evG, evR, guardT, callee, opRes, pureR, binT, unT, T.cells, T.leaf, fillT, splice, Nat.reduceLT, Nat.reduceAdd, Nat.reduceMul, Nat.reduceLeDiff, Nat.reduceEqDiff, reduceIte, Int.reduceBEq, Int.reduceBNe, Int.reduceLT, Int.reduceLE, Int.reduceGT, Int.reduceGE, Int.reduceNeg, reduceCtorEq, hps, hl, h2, h3]; done) | rfl
      · have hK : writeK c addr (n : Int) = none := by unfold writeK; rw [hk]; exact if_neg hs
        refine W_seq (W_seqn (W_region (fun k => by simp (decide := true) (disch := first | omega | (simp (decide := true) only [List.length_set, hl]; done) | fail) only [sims, evRegion, evOps, evOp, evG, evR, guardT, callee, opRes, pureR, binT, unT, T.cells, T.leaf, fillT, splice, Nat.reduceLT, Nat.reduceAdd, Nat.reduceMul, Nat.reduceLeDiff, Nat.reduceEqDiff, reduceIte, Int.reduceBEq, Int.reduceBNe, Int.reduceLT, Int.reduceLE, Int.reduceGT, Int.reduceGE, Int.reduceNeg, reduceCtorEq, hps, hxl, hil, hb, hxi, hkl, hcl, hb1, hb2, hget, k2, k3]; rfl) ⟨rfl, W_true (by simp (decide := true) (disch := first | omega | (simp (decide := true) only [List.length_set, hl]; done) | fail) only [sims, evRegion, evOps, evOp, evG, evR, guardT, callee, opRes, pureR, binT, unT, T.cells, T.leaf, fillT, splice, Nat.reduceLT, Nat.reduceAdd, Nat.reduceMul, Nat.reduceLeDiff, Nat.reduceEqDiff, reduceIte, Int.reduceBEq, Int.reduceBNe, Int.reduceLT, Int.reduceLE, Int.reduceGT, Int.reduceGE, Int.reduceNeg, reduceCtorEq] <;> rfl) ?_⟩))
        refine (tail _ hK ⟨by simp (decide := true) (disch := first | omega | (simp (decide := true) only [List.length_set, hl]; done) | fail) only [sims, evRegion, evOps, evOp, evG, evR, guardT, callee, opRes, pureR, binT, unT, T.cells, T.leaf, fillT, splice, Nat.reduceLT, Nat.reduceAdd, Nat.reduceMul, Nat.reduceLeDiff, Nat.reduceEqDiff, reduceIte, Int.reduceBEq, Int.reduceBNe, Int.reduceLT, Int.reduceLE, Int.reduceGT, Int.reduceGE, Int.reduceNeg, reduceCtorEq, hps, hl], by simp (decide := true) (disch := first | omega | (simp (decide := true) only [List.length_set, hl]; done) | fail) only [sims, evRegion, evOps, evOp, evG, evR, guardT, callee, opRes, pureR, binT, unT, T.cells, T.leaf, fillT, splice, Nat.reduceLT, Nat.reduceAdd, Nat.reduceMul, Nat.reduceLeDiff, Nat.reduceEqDiff, reduceIte, Int.reduceBEq, Int.reduceBNe, Int.reduceLT, Int.reduceLE, Int.reduceGT, Int.reduceGE, Int.reduceNeg, reduceCtorEq, hps], by simp (decide := true) (disch := first | omega | (simp (decide := true) only [List.length_set, hl]; done) | fail) only [sims, evRegion, evOps, evOp, evG, evR, guardT, callee, opRes, pureR, binT, unT, T.cells, T.leaf, fillT, splice, Nat.reduceLT, Nat.reduceAdd, Nat.reduceMul, Nat.reduceLeDiff, Nat.reduceEqDiff, reduceIte, Int.reduceBEq, Int.reduceBNe, Int.reduceLT, Int.reduceLE, Int.reduceGT, Int.reduceGE, Int.reduceNeg, reduceCtorEq, hps]⟩).mono ?_
        rintro e s ⟨rfl, h⟩
        simp only [reduceCtorEq, false_and, false_or, or_false, exists_false, exists_const, ne_eq, not_false_eq_true, true_and, implies_true]
        exact ⟨rfl, h⟩
  obtain ⟨r, h, u, rfl, o⟩ := hmain
  exact ⟨u, h, o⟩
end Go.Proofs.Ythanlobfjpjegaa.Abs
