/- What a request does, and a line written back: the law's walk. -/
import Derived.Test.YtdkaclgfkgcmpaaRdo4
import Derived.Test.YtdkaclgfkgcmpaaSmall2
import Derived.Test.YtdkaclgfkgcmpaaScoh
namespace Go.Proofs.Ytdkaclgfkgcmpaa.Abs
open Go Go.RowKit Fn
set_option linter.unusedVariables false
set_option linter.unusedSimpArgs false
set_option linter.unnecessarySimpa false
set_option maxRecDepth 100000
set_option maxHeartbeats 4000000

theorem awake_runs : evF ap 400 9 [] = some (.bool true) := by kernel_rfl
theorem ap8 : ap 8 = some f8 := rfl
theorem p8 : f8.pure = true := rfl
theorem n8 : f8.nat = none := rfl
theorem ap9 : ap 9 = some f9 := rfl
theorem p9 : f9.pure = true := rfl
theorem n9 : f9.nat = none := rfl
theorem ap16' : ap 16 = some f16 := rfl
theorem p16' : f16.pure = true := rfl
theorem n16' : f16.nat = none := rfl
theorem ap17' : ap 17 = some f17 := rfl
theorem p17' : f17.pure = true := rfl
theorem n17' : f17.nat = none := rfl
theorem ap18' : ap 18 = some f18 := rfl
theorem p18' : f18.pure = true := rfl
theorem n18' : f18.nat = none := rfl
theorem frzL_back (m : Coh) (who : Int) (w : Way) (g : Mem) : frzL ⟨g, 0⟩ frzDepth [.agg [memT m, cachT m], .int .i64 who, .agg w.enc] = some ([.agg [memT m, cachT m], .int .i64 who, .agg w.enc], []) := by
  have e0 : frz ⟨g, 0⟩ frzDepth (.agg [memT m, cachT m]) = some (.agg [memT m, cachT m], []) := rfl
  have e1 : frz ⟨g, 0⟩ frzDepth (.int .i64 who) = some (.int .i64 who, []) := rfl
  have e2 := way_frz w ⟨g, 0⟩
  unfold frzL
  simp only [frzAll, e0, e1, e2, List.append_nil]
theorem back_pure (m : Coh) (hok : Ok m) (w : Way) (hw : w.wf) (who : Int) : ∃ N v, UpT (.agg (backM m w).enc) v ∧ ∀ k, N ≤ k → ∀ g, callPure (ev ap k) f19 [.agg [memT m, cachT m], .int .i64 who, .agg w.enc] g = some ⟨v, [], []⟩ := by
  obtain ⟨N, v0, g', nx', h1, x', rfl, h2, h3, h4⟩ := back_run m hok.1 hok.2.1 w hw who (memT m) (cachT m) (fun _ => none) 0 (coh_imm _ _ m)
  have hin : CohIn (fun _ => True) g' x' (cachT m) (backM m w) := by
    refine ⟨?_, _, by rw [backM_caches]; exact UpL.refl _, .inl ⟨false, cachT_is m⟩⟩
    rcases h2 with ⟨rfl, h2⟩ | ⟨A, _, _, h2, h5⟩
    · rw [h2]; exact .inl ⟨false, memT_is m⟩
    · exact .inr ⟨A, trivial, h2, h5⟩
  obtain ⟨v, ids, hv, hf⟩ := coh_frz hin nx'
  refine ⟨N, v, hv, fun k hk g => ?_⟩
  unfold callPure
  rw [frzL_back]
  simp only [runPure, h1 k hk, hf, List.map_nil, ite_self]
theorem coh_frzL {m m' : Coh} {u v : T} (hu : UpT (.agg m.enc) u) (hv : UpT (.agg m'.enc) v) (g : Mem) : frzL ⟨g, 0⟩ frzDepth [u, v] = some ([u, v], []) := by
  obtain ⟨_, _, _, _, _, _, rfl⟩ := coh_up hu
  obtain ⟨_, _, _, _, _, _, rfl⟩ := coh_up hv
  rfl
theorem still_ints {l : List T} (h : ∀ x ∈ l, ∃ k n, x = .int k n) : T.still (.agg l) = true := by
  show l.all still1 = true
  rw [List.all_eq_true]
  intro x hx
  obtain ⟨k, n, rfl⟩ := h x hx
  rfl
theorem ok_back {m : Coh} (h : Ok m) (w : Way) (hw : w.wf) : Ok (backM m w) := by
  unfold backM
  split
  · exact ok_put h _ hw.2.2.1.2
  · exact h
theorem ok_doGot {m : Coh} (h : Ok m) (w : Nat) (hw : w < m.caches.length) (kind : Int) (ln : Nat) (hln : ln ≤ 4294967295) (hlies : ln * 16 + 16 ≤ m.mem.length) : Ok (doGot m (w : Int) kind ln) := by
  unfold doGot
  rw [Int.toNat_natCast]
  split
  · exact ok_with h hw (fit_setR (h.2.2.2 w hw) _ _)
  · obtain ⟨h1, h2⟩ := fit_fillR (h.2.2.2 w hw) ln hln (gotv kind (sharedN m (w : Int) ln 0 m.caches.length)) (bytesM m ln) ⟨bytesM_len m ln hlies, bytesM_wf h.1 ln⟩
    exact ok_back (ok_with h hw h1) _ h2
theorem ok_do {m : Coh} (h : Ok m) (who kind : Int) (ln : Nat) (hln : ln ≤ 4294967295) : Ok (doM m who kind ln) := by
  unfold doM
  split
  · rename_i hg
    obtain ⟨⟨h1, h2⟩, h3, h4⟩ := hg
    obtain ⟨w, rfl⟩ : ∃ w : Nat, who = (w : Int) := ⟨who.toNat, by omega⟩
    have hsl := snoopN_len (w : Int) kind ln m m.caches.length
    exact ok_doGot (ok_snoopN h (w : Int) kind ln _ (Nat.le_refl _)) w (by rw [hsl.1]; omega) kind ln hln (by rw [hsl.2]; exact h4)
  · exact h
theorem Pure.BusDoes (a0 : Coh) (a1 : Ask) (a2 : Way) (h0 : Coh.wf a0) (h1 : Ask.wf a1) (h2 : Way.wf a2) :
    ∃ k, evF ap k 5 [T.agg (Coh.enc a0), T.agg (Ask.enc a1), T.agg (Way.enc a2)] = some (.bool true) := by
  refine E.get ?_
  obtain ⟨who, line, ask⟩ := a1
  have hln := wf_u32 h1.2.1
  obtain ⟨ln, rfl⟩ : ∃ ln : Nat, line = (ln : Int) := ⟨line.toNat, by have := hln.1; simp only at this; omega⟩
  have hln : ln ≤ 4294967295 := by have := hln.2; simp only at this; omega
  rw [coh_enc, show Ask.enc ⟨who, (ln : Int), ask⟩ = [T.int .i64 who, T.int .u32 (ln : Int), T.int .i64 ask] from rfl]
  refine E_body (F := f5) rfl rfl rfl ?_
  generalize hs0 : (_ : List T) ++ List.replicate _ T.undef = s0
  have e0 : s0.length = 44 ∧ rho s0 (.tmp 0) = .agg [memT a0, cachT a0] ∧ rho s0 (.tmp 1) = .agg [T.int .i64 who, T.int .u32 (ln : Int), T.int .i64 ask] ∧ rho s0 (.tmp 2) = .agg a2.enc := by subst hs0; exact ⟨rfl, rfl, rfl, rfl⟩
  clear hs0
  obtain ⟨hl, e0, e1, e2⟩ := e0
  have hcut : cut [memT a0, cachT a0] 0 2 = [memT a0, cachT a0] := rfl
  have hleaf : allLeaf [memT a0, cachT a0] = true := rfl
  have hleaf2 : allLeaf [T.int .i64 who, T.int .u32 (ln : Int), T.int .i64 ask] = true := rfl
  have hleaf3 := leaf_ints _ (way_ints a2)
  have hwlen := way_len h2
  have hcutw : cut a2.enc 0 19 = a2.enc := cut_all hwlen
  obtain ⟨b, h8, hsm⟩ := ref_small2 a0 h0
  obtain ⟨n8', c8⟩ := h8.call ap8 (fun g => rfl)
  obtain ⟨n9', c9⟩ := (E_of awake_runs).call ap9 (fun g => rfl)
  have q8 := c8 n8' (Nat.le_refl _)
  have q9' := c9 n9' (Nat.le_refl _)
  refine W_seqn (W_region (fun k => by simp (decide := true) (disch := first | omega | (simp (decide := true) only [List.length_set, hl]; done) | fail) only [sims, eqs, autos, T.cells, T.leaf, Nat.reduceLT, Nat.reduceAdd, Nat.reduceMul, Nat.reduceLeDiff, Nat.reduceEqDiff, reduceIte, Int.reduceBEq, Int.reduceBNe, Int.reduceLT, Int.reduceLE, Int.reduceGT, Int.reduceGE, Int.reduceNeg, reduceCtorEq, hps, e0, e1, e2, hleaf, hleaf2, hleaf3]; rfl) ⟨rfl, ?_⟩)
  cases b with
  | false =>
    refine W_seq (W_seqn (W_regionN ⟨n8', by simp (decide := true) (disch := first | omega | (simp (decide := true) only [List.length_set, hl]; done) | fail) only [sims, eqs, autos, T.cells, T.leaf, Nat.reduceLT, Nat.reduceAdd, Nat.reduceMul, Nat.reduceLeDiff, Nat.reduceEqDiff, reduceIte, Int.reduceBEq, Int.reduceBNe, Int.reduceLT, Int.reduceLE, Int.reduceGT, Int.reduceGE, Int.reduceNeg, reduceCtorEq, hps, hcut, ap8, p8, n8, q8]; rfl⟩ ⟨rfl, W_true (by simp (decide := true) (disch := first | omega | (simp (decide := true) only [List.length_set, hl]; done) | fail) only [sims, eqs, autos, T.cells, T.leaf, Nat.reduceLT, Nat.reduceAdd, Nat.reduceMul, Nat.reduceLeDiff, Nat.reduceEqDiff, reduceIte, Int.reduceBEq, Int.reduceBNe, Int.reduceLT, Int.reduceLE, Int.reduceGT, Int.reduceGE, Int.reduceNeg, reduceCtorEq] <;> rfl) ?_⟩))
    refine W_seqn (W_regionN ⟨n9', by simp (decide := true) (disch := first | omega | (simp (decide := true) only [List.length_set, hl]; done) | fail) only [sims, eqs, autos, T.cells, T.leaf, Nat.reduceLT, Nat.reduceAdd, Nat.reduceMul, Nat.reduceLeDiff, Nat.reduceEqDiff, reduceIte, Int.reduceBEq, Int.reduceBNe, Int.reduceLT, Int.reduceLE, Int.reduceGT, Int.reduceGE, Int.reduceNeg, reduceCtorEq, hps, ap9, p9, n9, q9']; rfl⟩ ⟨rfl, W_ret ?_⟩)
    simp only [reduceCtorEq, false_and, false_or, or_false, exists_false, exists_const, ne_eq, not_false_eq_true, true_and, implies_true]
    refine fin_of (F := f5) rfl (fun _ => rfl) ?_
    simp (decide := true) (disch := first | omega | (simp (decide := true) only [List.length_set, hl]; done) | fail) only [sims, eqs, autos, T.cells, T.leaf, Nat.reduceLT, Nat.reduceAdd, Nat.reduceMul, Nat.reduceLeDiff, Nat.reduceEqDiff, reduceIte, Int.reduceBEq, Int.reduceBNe, Int.reduceLT, Int.reduceLE, Int.reduceGT, Int.reduceGE, Int.reduceNeg, reduceCtorEq]
  | true =>
    have hok := ok_small h0 (hsm rfl)
    obtain ⟨v17, E17, u17⟩ := bus_do a0 hok who ask ln hln
    obtain ⟨v18, E18, u18⟩ := ref_do a0 hok who ask ln hln
    obtain ⟨v20, E20, u20⟩ := ref_back a0 hok.1 hok.2.1 hok.2.2.1 a2 h2 who
    obtain ⟨N19, v19, u19, c19⟩ := back_pure a0 hok a2 h2 who
    obtain ⟨N17, c17⟩ := E17.call ap17' (fun g => rfl)
    obtain ⟨N18, c18⟩ := E18.call ap18' (fun g => rfl)
    obtain ⟨N20, c20⟩ := E20.call ap20' (frzL_back a0 who a2)
    obtain ⟨NA, cA⟩ := (same_cohU _ (ok_do hok who ask ln hln) u17 u18).call ap16' (coh_frzL u17 u18)
    obtain ⟨NB, cB⟩ := (same_cohU _ (ok_back hok a2 h2) u19 u20).call ap16' (coh_frzL u19 u20)
    generalize hM : n9' + N17 + N18 + N19 + N20 + NA + NB = M
    have q9 := c9 M (by omega)
    have q17 := c17 M (by omega)
    have q18 := c18 M (by omega)
    have q19 := c19 M (by omega)
    have q20 := c20 M (by omega)
    have qA := cA M (by omega)
    have qB := cB M (by omega)
    have hs1 : T.still (.agg [memT a0, cachT a0]) = true := rfl
    have hs2 : T.still (.int .i64 who) = true := rfl
    have hs3 : T.still (.agg a2.enc) = true := still_ints (way_ints a2)
    have hl19 : 19 ≤ a2.enc.length := by omega
    generalize a2.enc = we at *
    generalize memT a0 = mt at *
    generalize cachT a0 = ct at *
    have hfa : fillT [T.int .i64 0, T.int .u32 0] [(0, 1, T.int .i64 ask), (1, 1, T.int .u32 (ln : Int))] = some [T.int .i64 ask, T.int .u32 (ln : Int)] := rfl
    have hcr : cut [T.int .i64 ask, T.int .u32 (ln : Int)] 0 2 = [T.int .i64 ask, T.int .u32 (ln : Int)] := rfl
    have hlr : allLeaf [T.int .i64 ask, T.int .u32 (ln : Int)] = true := rfl
    have hlz : allLeaf [T.int .i64 0, T.int .u32 0] = true := rfl
    refine W_seqn (W_seqn (W_regionN ⟨n8', by simp (decide := true) (disch := first | omega | (simp (decide := true) only [List.length_set, hl]; done) | fail) only [sims, eqs, autos, T.cells, T.leaf, Nat.reduceLT, Nat.reduceAdd, Nat.reduceMul, Nat.reduceLeDiff, Nat.reduceEqDiff, reduceIte, Int.reduceBEq, Int.reduceBNe, Int.reduceLT, Int.reduceLE, Int.reduceGT, Int.reduceGE, Int.reduceNeg, reduceCtorEq, hps, hcut, ap8, p8, n8, q8]; rfl⟩ ⟨rfl, W_false (by simp (decide := true) (disch := first | omega | (simp (decide := true) only [List.length_set, hl]; done) | fail) only [sims, eqs, autos, T.cells, T.leaf, Nat.reduceLT, Nat.reduceAdd, Nat.reduceMul, Nat.reduceLeDiff, Nat.reduceEqDiff, reduceIte, Int.reduceBEq, Int.reduceBNe, Int.reduceLT, Int.reduceLE, Int.reduceGT, Int.reduceGE, Int.reduceNeg, reduceCtorEq] <;> rfl) (W_skip ⟨rfl, ?_⟩)⟩))
    refine W_seqn (W_region (fun k => by simp (decide := true) (disch := first | omega | (simp (decide := true) only [List.length_set, hl]; done) | fail) only [sims, eqs, autos, T.cells, T.leaf, Nat.reduceLT, Nat.reduceAdd, Nat.reduceMul, Nat.reduceLeDiff, Nat.reduceEqDiff, reduceIte, Int.reduceBEq, Int.reduceBNe, Int.reduceLT, Int.reduceLE, Int.reduceGT, Int.reduceGE, Int.reduceNeg, reduceCtorEq, hps, hfa, hlr, hlz]; rfl) ⟨rfl, ?_⟩)
    refine W_seqn (W_regionN ⟨M, by simp (decide := true) (disch := first | omega | (simp (decide := true) only [List.length_set, hl]; done) | fail) only [sims, eqs, autos, T.cells, T.leaf, Nat.reduceLT, Nat.reduceAdd, Nat.reduceMul, Nat.reduceLeDiff, Nat.reduceEqDiff, reduceIte, Int.reduceBEq, Int.reduceBNe, Int.reduceLT, Int.reduceLE, Int.reduceGT, Int.reduceGE, Int.reduceNeg, reduceCtorEq, hps, hcut, hcr, hcutw, hwlen, hl19, hs1, hs2, hs3, ap9, p9, n9, q9, ap16', p16', n16', qA, qB, ap17', p17', n17', q17, ap18', p18', n18', q18, ap19, p19, n19, q19, ap20', p20', n20', q20]; rfl⟩ ⟨rfl, W_ret ?_⟩)
    refine fin_of (F := f5) rfl (fun _ => rfl) ?_
    simp (decide := true) (disch := first | omega | (simp (decide := true) only [List.length_set, hl]; done) | fail) only [sims, eqs, autos, T.cells, T.leaf, Nat.reduceLT, Nat.reduceAdd, Nat.reduceMul, Nat.reduceLeDiff, Nat.reduceEqDiff, reduceIte, Int.reduceBEq, Int.reduceBNe, Int.reduceLT, Int.reduceLE, Int.reduceGT, Int.reduceGE, Int.reduceNeg, reduceCtorEq]
end Go.Proofs.Ytdkaclgfkgcmpaa.Abs
