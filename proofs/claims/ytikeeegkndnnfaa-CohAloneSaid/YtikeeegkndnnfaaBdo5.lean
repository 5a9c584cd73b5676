/- What a request does: the program's walk, whole. -/
import Derived.Test.YtikeeegkndnnfaaBdo4
namespace Go.Proofs.Ytikeeegkndnnfaa.Abs
open Go Go.RowKit Fn
set_option linter.unusedVariables false
set_option linter.unusedSimpArgs false
set_option linter.unnecessarySimpa false
set_option maxRecDepth 100000
set_option maxHeartbeats 4000000

theorem ap74' : ap 74 = some f74 := rfl
theorem p74' : f74.pure = true := rfl
theorem n74' : f74.nat = none := rfl
theorem ap73 : ap 73 = some f73 := rfl
theorem p73 : f73.pure = true := rfl
theorem n73 : f73.nat = none := rfl
theorem doGot_mine {m : Coh} {w : Nat} {kind : Int} {ln : Nat} (h : kind = 3 ∧ (wayOf (cacheAt m w) ln).state ≠ 0) : doGot m (w : Int) kind ln = withC m w (setR (cacheAt m w) ln (gotv kind (sharedN m (w : Int) ln 0 m.caches.length))) := by
  unfold doGot; rw [Int.toNat_natCast, if_pos h]
theorem doGot_fill {m : Coh} {w : Nat} {kind : Int} {ln : Nat} (h : ¬ (kind = 3 ∧ (wayOf (cacheAt m w) ln).state ≠ 0)) : doGot m (w : Int) kind ln = backM (withC m w (fillR (cacheAt m w) ln (gotv kind (sharedN m (w : Int) ln 0 m.caches.length)) (bytesM m ln)).1) (fillR (cacheAt m w) ln (gotv kind (sharedN m (w : Int) ln 0 m.caches.length)) (bytesM m ln)).2 := by
  unfold doGot; rw [Int.toNat_natCast, if_neg h]
theorem bd_rest (m : Coh) (hok : Ok m) (w : Nat) (hw : w < m.caches.length) (kind : Int) (hk : kind = 1 ∨ kind = 2 ∨ kind = 3) (ln : Nat) (hln : ln ≤ 4294967295) (hlies : ln * 16 + 16 ≤ m.mem.length) (st : St) (x y : T) (hF : BdT (w : Int) kind ln st x y) (hc : CohAt (PN st) st.g x y m) : W ap bdRest st (fun e s => DoEnd (doGot m (w : Int) kind ln) e s) := by
  obtain ⟨hl, h1, h3, h5, h6, g0, g1, g2, hnx⟩ := hF
  have hcut : cut [x, y] 0 2 = [x, y] := rfl
  obtain ⟨x', y', hu, ids, hfz, hids⟩ := coh_args hc.coh [] [.int .i64 (w : Int), .int .u32 (ln : Int)] ints_nil (ints_two _ _ _ _)
  obtain ⟨N1, q1⟩ := (bus_shared m hok.1 (w : Int) ln hln).callF ap74' (up_tl hu [] _) (bool_up _) rfl
  have hgm := @doGot_mine m w kind ln
  have hgf := @doGot_fill m w kind ln
  generalize sharedN m (w : Int) ln 0 m.caches.length = sh at *
  obtain ⟨N2, q2⟩ := (bus_got kind sh hk).call ap73 (fun g => rfl)
  have q1 := q1 (N1 + N2) (by omega) st.g _ ids hfz
  have q2 := q2 (N1 + N2) (by omega)
  refine W_cut (fun s => rho s.s (.tmp 11) = .int .i64 (gotv kind sh) ∧ BdT (w : Int) kind ln s x y ∧ s.g = st.g ∧ st.nx ≤ s.nx) (W_regionN ⟨N1 + N2, by simp (decide := true) (disch := first | omega | simp (decide := true) only [List.length_set, hl]) only [sims, autos, simprocAttr, hps, h1, h3, h5, g0, g1, hcut, ap74', p74', n74', ap73, p73, n73, q1, q2]; rfl⟩ ⟨rfl, ?_⟩) ?_
  · refine ⟨?_, ⟨?_, ?_, ?_, ?_, ?_, ?_, ?_, ?_, by show 3 ≤ st.nx + 9; omega⟩, rfl, by show st.nx ≤ st.nx + 9; omega⟩ <;> simp (decide := true) (disch := first | omega | simp (decide := true) only [List.length_set, hl]) only [sims, autos, simprocAttr, hps, hl, h1, h3, h5, h6, g0, g1, g2]
  clear q1 q2 hfz hids hu
  rintro s ⟨h11, ⟨hl, h1, h3, h5, h6, g0, g1, g2, hnx2⟩, hg, hnn⟩
  have hc' : CohAt (PN s) s.g x y m := hc.mono (fun t h => ⟨h.1, by have := h.2; omega⟩) (fun t _ => by rw [hg])
  obtain ⟨x', y', hu, ids, hfz, hids⟩ := coh_args hc'.coh [.int .u32 (ln : Int)] [.int .i64 (w : Int)] (ints_one _ _) (ints_one _ _)
  obtain ⟨N, q⟩ := (bus_way m hok.1 (w : Int) ln hln).callF ap68 (up_tl hu [.int .u32 (ln : Int)] [.int .i64 (w : Int)]) (way_up _) (way_flat _)
  rw [wayAt_is m w ln hw] at q
  have q := q N (Nat.le_refl _) s.g _ ids hfz
  have hww := wayOf_wf (cacheAt_wf hok.1 w hw) ln
  have hlf := hc'.coh.leaf
  have hxl : fillT [.imm true 0 [], .imm true 0 [], .int .u32 0] [(0, 2, .agg [x, y]), (2, 1, .int .u32 (ln : Int))] = some [x, y, .int .u32 (ln : Int)] := by
    unfold allLeaf at hlf
    simp (decide := true) only [fillT, T.cells, List.length_cons, List.length_nil, hlf, if_true, splice, List.set_cons_zero, List.set_cons_succ]
    try rfl
  generalize wayOf (cacheAt m w) ln = W at *
  have hst := way_state W
  have hlen := way_len hww
  generalize W.enc = we at *
  have hlen1 : 0 + 1 ≤ we.length := by omega
  by_cases hk3 : kind = 3
  · have hd : (kind == 3) = true := by simpa using hk3
    by_cases hs0 : W.state = 0
    · have hd0 : (W.state != 0) = false := by rw [hs0]; rfl
      rw [hgf (fun h => h.2 hs0)]
      refine W_seqn (W_seqn (W_regionN ⟨N, by simp (decide := true) (disch := first | omega | simp (decide := true) only [List.length_set, hl]) only [sims, autos, simprocAttr, hps, h1, h3, h5, g0, g1, hcut, hxl, ap68, p68, n68, q, hd, hlen, hlen1, hst, hd0]; rfl⟩ ⟨rfl, W_fls (W_skip ⟨rfl, ?_⟩)⟩))
      refine W_abs (fun z => BdT (w : Int) kind ln z x y ∧ rho z.s (.tmp 11) = .int .i64 (gotv kind sh) ∧ CohAt (PN z) z.g x y m) ⟨⟨?_, ?_, ?_, ?_, ?_, ?_, ?_, ?_, by show 3 ≤ s.nx + 13; omega⟩, ?_, hc'.mono (fun t h => ⟨h.1, by show t < s.nx + 13; have := h.2; omega⟩) (fun _ _ => rfl)⟩ (fun z ⟨hF, a11, hC⟩ => bd_fill m hok w kind ln hln hlies _ hw z x y hF a11 hC)
      all_goals simp (decide := true) (disch := first | omega | simp (decide := true) only [List.length_set, hl]) only [sims, autos, simprocAttr, hps, hl, h1, h3, h5, h6, h11, g0, g1, g2]
    · have hd0 : (W.state != 0) = true := by simpa using hs0
      rw [hgm ⟨hk3, hs0⟩]
      refine W_seq (W_seqn (W_regionN ⟨N, by simp (decide := true) (disch := first | omega | simp (decide := true) only [List.length_set, hl]) only [sims, autos, simprocAttr, hps, h1, h3, h5, g0, g1, hcut, hxl, ap68, p68, n68, q, hd, hlen, hlen1, hst, hd0]; rfl⟩ ⟨rfl, W_tru ?_⟩))
      refine W_abs (fun z => BdT (w : Int) kind ln z x y ∧ rho z.s (.tmp 11) = .int .i64 (gotv kind sh) ∧ CohAt (PN z) z.g x y m) ⟨⟨?_, ?_, ?_, ?_, ?_, ?_, ?_, ?_, by show 3 ≤ s.nx + 13; omega⟩, ?_, hc'.mono (fun t h => ⟨h.1, by show t < s.nx + 13; have := h.2; omega⟩) (fun _ _ => rfl)⟩ (fun z ⟨hF, a11, hC⟩ => (bd_mine m hok w kind ln hln _ hw z x y hF a11 hC).mono (fun e s h => .inr h))
      all_goals simp (decide := true) (disch := first | omega | simp (decide := true) only [List.length_set, hl]) only [sims, autos, simprocAttr, hps, hl, h1, h3, h5, h6, h11, g0, g1, g2]
  · have hd : (kind == 3) = false := by simpa using hk3
    rw [hgf (fun h => hk3 h.1)]
    refine W_seqn (W_seqn (W_region (fun k => by simp (decide := true) (disch := first | omega | simp (decide := true) only [List.length_set, hl]) only [sims, autos, simprocAttr, hps, h5, g1, hd]; rfl) ⟨rfl, W_fls (W_skip ⟨rfl, ?_⟩)⟩))
    refine W_abs (fun z => BdT (w : Int) kind ln z x y ∧ rho z.s (.tmp 11) = .int .i64 (gotv kind sh) ∧ CohAt (PN z) z.g x y m) ⟨⟨?_, ?_, ?_, ?_, ?_, ?_, ?_, ?_, by show 3 ≤ s.nx + 13; omega⟩, ?_, hc'.mono (fun t h => ⟨h.1, by show t < s.nx + 13; have := h.2; omega⟩) (fun _ _ => rfl)⟩ (fun z ⟨hF, a11, hC⟩ => bd_fill m hok w kind ln hln hlies _ hw z x y hF a11 hC)
    all_goals simp (decide := true) (disch := first | omega | simp (decide := true) only [List.length_set, hl]) only [sims, autos, simprocAttr, hps, hl, h1, h3, h5, h6, h11, g0, g1, g2]
def bdFail : ACode := match f53.body with | .seq _ (.seq (.seq _ (.cond _ c _)) _) => c | _ => .skip
def bdStart (m : Coh) (st : St) : Prop := st.s.length = 163 ∧ rho st.s (.tmp 3) = .ptr 0 0 ∧ rho st.s (.tmp 6) = .ptr 2 0 ∧ st.g 0 = some [memT m, cachT m] ∧ st.g 2 = some [.imm true 0 [], .imm true 0 []]
theorem bd_fail (m : Coh) (st : St) (h : bdStart m st) : W ap bdFail st (fun e s => e ≠ .normal ∧ DoEnd m e s) := by
  obtain ⟨hl, h3, h6, g0, g2⟩ := h
  have hcut : cut [memT m, cachT m] 0 2 = [memT m, cachT m] := rfl
  have hleaf : allLeaf [memT m, cachT m] = true := rfl
  obtain ⟨v, ids, hv, hf⟩ := coh_frz (coh_imm (fun _ => True) (put1 st.g (2, some [memT m, cachT m])) m) (st.nx + 2)
  refine W_seqn (W_region (fun k => by simp (decide := true) (disch := first | omega | simp (decide := true) only [List.length_set, hl]) only [sims, autos, simprocAttr, hps, h3, h6, g0, g2, hcut, hleaf]; rfl) ⟨rfl, W_ret ⟨by simp, rfl, v, hv, .agg [memT m, cachT m], ids, ?_, hf⟩⟩)
  simp only [resT, resL, resOne, show f53.res = [.cell 6 false 2] from rfl]
  simp (decide := true) (disch := first | omega | simp (decide := true) only [List.length_set, hl]) only [sims, autos, simprocAttr, hps, h6]
  try rfl
theorem bus_do (m : Coh) (hok : Ok m) (who kind : Int) (ln : Nat) (hln : ln ≤ 4294967295) : ∃ v, E ap 53 [.agg [memT m, cachT m], .int .i64 who, .agg [.int .i64 kind, .int .u32 (ln : Int)]] v ∧ UpT (.agg (doM m who kind ln).enc) v := by
  refine E_bodyV (F := f53) rfl rfl rfl (P := fun v => UpT (.agg (doM m who kind ln).enc) v) ?_
  generalize hs0 : (_ : List T) ++ List.replicate _ T.undef = s0
  have e0 : s0.length = 163 ∧ rho s0 (.tmp 0) = .agg [memT m, cachT m] ∧ rho s0 (.tmp 1) = .int .i64 who ∧ rho s0 (.tmp 2) = .agg [.int .i64 kind, .int .u32 (ln : Int)] := by subst hs0; exact ⟨rfl, rfl, rfl, rfl⟩
  clear hs0
  obtain ⟨hl, h0, h1, h2⟩ := e0
  have hleaf : allLeaf [memT m, cachT m] = true := rfl
  have hleaf2 : allLeaf [T.int .i64 kind, T.int .u32 (ln : Int)] = true := rfl
  have hcut : cut [memT m, cachT m] 0 2 = [memT m, cachT m] := rfl
  have hcc : cachT m = .imm false m.caches.length (m.caches.flatMap Cache.enc) := rfl
  refine W_cut (fun st => st.s.length = 163 ∧ rho st.s (.tmp 1) = .int .i64 who ∧ rho st.s (.tmp 3) = .ptr 0 0 ∧ rho st.s (.tmp 5) = .ptr 1 0 ∧ rho st.s (.tmp 6) = .ptr 2 0 ∧ st.g 0 = some [memT m, cachT m] ∧ st.g 1 = some [.int .i64 kind, .int .u32 (ln : Int)] ∧ st.g 2 = some [.imm true 0 [], .imm true 0 []] ∧ st.nx = 3) (W_region (fun k => by simp (decide := true) (disch := first | omega | simp (decide := true) only [List.length_set, hl]) only [sims, autos, simprocAttr, hps, h0, h2, hleaf, hleaf2]; rfl) ⟨rfl, ?_⟩) ?_
  · refine ⟨?_, ?_, ?_, ?_, ?_, ?_, ?_, ?_, rfl⟩ <;> simp (decide := true) (disch := first | omega | simp (decide := true) only [List.length_set, hl]) only [sims, autos, simprocAttr, hps, hl, h1]
  clear hl h0 h1 h2
  rintro st ⟨hl, h1, h3, h5, h6, g0, g1, g2, hnx⟩
  have hdo : ∀ h : ¬ DoesGo m who kind ln, doM m who kind ln = m := fun h => if_neg h
  have hfail : ∀ z, bdStart m z → ¬ DoesGo m who kind ln → W ap bdFail z (fun e s => e ≠ .normal ∧ DoEnd (doM m who kind ln) e s) := fun z hz h => by rw [hdo h]; exact bd_fail m z hz
  obtain ⟨N, q⟩ := (bus_lies m hok.1 ln hln).call ap69 (fun g => rfl)
  have q := q N (Nat.le_refl _)
  by_cases c1 : who < 0
  · have d1 : decide (who < 0) = true := decide_eq_true c1
    refine W_seq (W_seqn (W_region (fun k => by simp (decide := true) (disch := first | omega | simp (decide := true) only [List.length_set, hl]) only [sims, autos, simprocAttr, hps, h1, d1]; rfl) ⟨rfl, W_tru ?_⟩))
    refine W_abs (bdStart m) ⟨?_, ?_, ?_, ?_, ?_⟩ (fun z hz => (hfail z hz (fun h => by have := h.1.1; omega)).mono (fun e s h => .inr h))
    all_goals simp (decide := true) (disch := first | omega | simp (decide := true) only [List.length_set, hl]) only [sims, autos, simprocAttr, hps, hl, h3, h6, g0, g2]
  have d1 : decide (who < 0) = false := decide_eq_false c1
  by_cases c2 : who ≥ (m.caches.length : Int)
  · have d2 : decide (who ≥ (m.caches.length : Int)) = true := decide_eq_true c2
    refine W_seq (W_seqn (W_region (fun k => by simp (decide := true) (disch := first | omega | simp (decide := true) only [List.length_set, hl]) only [sims, autos, simprocAttr, hps, h1, h3, g0, hcc, d1, d2]; rfl) ⟨rfl, W_tru ?_⟩))
    refine W_abs (bdStart m) ⟨?_, ?_, ?_, ?_, ?_⟩ (fun z hz => (hfail z hz (fun h => by have := h.1.2; omega)).mono (fun e s h => .inr h))
    all_goals simp (decide := true) (disch := first | omega | simp (decide := true) only [List.length_set, hl]) only [sims, autos, simprocAttr, hps, hl, h3, h6, g0, g2, hcc]
  have d2 : decide (who ≥ (m.caches.length : Int)) = false := decide_eq_false c2
  by_cases c3 : kind < 1
  · have d3 : decide (kind < 1) = true := decide_eq_true c3
    refine W_seq (W_seqn (W_region (fun k => by simp (decide := true) (disch := first | omega | simp (decide := true) only [List.length_set, hl]) only [sims, autos, simprocAttr, hps, h1, h3, h5, g0, g1, hcc, d1, d2, d3]; rfl) ⟨rfl, W_tru ?_⟩))
    refine W_abs (bdStart m) ⟨?_, ?_, ?_, ?_, ?_⟩ (fun z hz => (hfail z hz (fun h => by have := h.2.1.1; omega)).mono (fun e s h => .inr h))
    all_goals simp (decide := true) (disch := first | omega | simp (decide := true) only [List.length_set, hl]) only [sims, autos, simprocAttr, hps, hl, h3, h6, g0, g2, hcc]
  have d3 : decide (kind < 1) = false := decide_eq_false c3
  by_cases c4 : kind > 3
  · have d4 : decide (kind > 3) = true := decide_eq_true c4
    refine W_seq (W_seqn (W_region (fun k => by simp (decide := true) (disch := first | omega | simp (decide := true) only [List.length_set, hl]) only [sims, autos, simprocAttr, hps, h1, h3, h5, g0, g1, hcc, d1, d2, d3, d4]; rfl) ⟨rfl, W_tru ?_⟩))
    refine W_abs (bdStart m) ⟨?_, ?_, ?_, ?_, ?_⟩ (fun z hz => (hfail z hz (fun h => by have := h.2.1.2; omega)).mono (fun e s h => .inr h))
    all_goals simp (decide := true) (disch := first | omega | simp (decide := true) only [List.length_set, hl]) only [sims, autos, simprocAttr, hps, hl, h3, h6, g0, g2, hcc]
  have d4 : decide (kind > 3) = false := decide_eq_false c4
  by_cases c5 : ln * 16 + 16 ≤ m.mem.length
  · rw [decide_eq_true c5] at q
    obtain ⟨w, rfl⟩ : ∃ w : Nat, who = (w : Int) := ⟨who.toNat, by omega⟩
    have hw : w < m.caches.length := by omega
    have hgo : DoesGo m (w : Int) kind ln := ⟨⟨by omega, by omega⟩, ⟨by omega, by omega⟩, c5⟩
    have hdm : doM m (w : Int) kind ln = doGot (snoopN (w : Int) kind ln m m.caches.length) (w : Int) kind ln := if_pos hgo
    rw [hdm]
    have hk : kind = 1 ∨ kind = 2 ∨ kind = 3 := by omega
    have hsl := snoopN_len (w : Int) kind ln m m.caches.length
    have hCl := caches_len' m
    have hCf : allLeaf (m.caches.flatMap Cache.enc) = true := flat_leaf (f := Cache.enc) (fun _ => rfl) _
    have hm4 := hok.2.2.1
    have hC1 : (m.caches.length = 0) = False := eq_false (by omega)
    have hC2 : (m.caches.length = m.caches.length * 1) = True := by simp
    have hC3 : m.caches.length * 24 ≤ 549755813888 := by omega
    have hC4 : m.caches.length ≤ 549755813888 := by omega
    have hll : allLeaf ([] : List T) = true := rfl
    rw [hcc] at g0 q hcut
    have hbd := bd_loop m hok (w : Int) kind hk ln hln c5
    have hue : UpL (m.caches.flatMap Cache.enc) (m.caches.flatMap Cache.enc) := UpL.refl _
    generalize hCe : m.caches.flatMap Cache.enc = C at *
    refine W_seqn (W_seqn (W_regionN ⟨N, by simp (decide := true) (disch := first | omega | simp (decide := true) only [List.length_set, hl]) only [sims, autos, simprocAttr, hps, h1, h3, h5, g0, g1, d1, d2, d3, d4, hcut, ap69, p69, n69, q]; rfl⟩ ⟨rfl, W_fls (W_skip ⟨rfl, ?_⟩)⟩))
    refine W_cut (fun s => (∃ B, 2 < B ∧ B < s.nx ∧ s.g 0 = some [memT m, .own B 0 m.caches.length 1] ∧ s.g B = some C) ∧ s.s.length = 163 ∧ rho s.s (.tmp 1) = .int .i64 (w : Int) ∧ rho s.s (.tmp 3) = .ptr 0 0 ∧ rho s.s (.tmp 5) = .ptr 1 0 ∧ rho s.s (.tmp 6) = .ptr 2 0 ∧ s.g 1 = some [.int .i64 kind, .int .u32 (ln : Int)] ∧ s.g 2 = some [.imm true 0 [], .imm true 0 []] ∧ 3 ≤ s.nx) (W_region (fun k => by simp (decide := true) (disch := first | omega | simp (decide := true) only [List.length_set, hl]) only [sims, autos, simprocAttr, hps, h3, g0, cellsOf, hC1, hC2, hC3, hC4, hCl, hCf, hll]; rfl) ⟨rfl, ?_⟩) ?_
    · refine ⟨⟨st.nx + 26 + 2, by omega, by show st.nx + 26 + 2 < st.nx + 26 + 5; omega, ?_, ?_⟩, ?_, ?_, ?_, ?_, ?_, ?_, ?_, by show 3 ≤ st.nx + 26 + 5; omega⟩ <;> simp (decide := true) (disch := first | omega | simp (decide := true) only [List.length_set, hl]) only [sims, autos, simprocAttr, hps, hl, h1, h3, h5, h6, g1, g2]
    clear hl h1 h3 h5 h6 g0 g1 g2
    rintro s ⟨⟨B, hB1, hB2, g0, gB⟩, hl, h1, h3, h5, h6, g1, g2, hnx2⟩
    refine W_seq (W_seqn (W_region (fun k => by simp (decide := true) (disch := first | omega | simp (decide := true) only [List.length_set, hl]) only [sims, autos, simprocAttr, hps, h3, g0]; rfl) ⟨rfl, W_block ?_⟩))
    refine hbd _ (fun st x y hF hC => ?_) (m.caches.length - 0) _ ⟨0, memT m, .own B 0 m.caches.length 1, ⟨?_, ?_, ?_, ?_, ?_, ?_, ?_, ?_, ?_, ?_, ?_⟩, ⟨B, C, ⟨hB1, ?_⟩, by rw [hCl], ?_, by rw [show snoopN (w : Int) kind ln m 0 = m from rfl, hCe]; exact hue, .inl ⟨false, memT_is m⟩⟩, by omega, rfl⟩
    · refine .inl ⟨rfl, .inl ⟨rfl, ?_⟩⟩
      obtain ⟨a1, a2, a3, a4, a5, _, _, a6, a7, a8, a9⟩ := hF
      exact bd_rest _ (ok_snoopN hok (w : Int) kind ln _ (Nat.le_refl _)) w (by rw [hsl.1]; exact hw) kind hk ln hln (by rw [hsl.2]; exact c5) st x y ⟨a1, a2, a3, a4, a5, a6, a7, a8, a9⟩ hC
    all_goals first | (show 3 ≤ s.nx + 4; omega) | (show B < s.nx + 4; omega) | (simp (decide := true) (disch := first | omega | simp (decide := true) only [List.length_set, hl]) only [sims, autos, simprocAttr, hps, hl, h1, h3, h5, h6, g0, g1, g2, gB]; done) | (simp (decide := true) (disch := first | omega | simp (decide := true) only [List.length_set, hl]) only [sims, autos, simprocAttr, hps, hl, h1, h3, h5, h6, g0, g1, g2, gB]; rfl)
  · rw [decide_eq_false c5] at q
    rw [hcc] at g0 q hcut
    refine W_seq (W_seqn (W_regionN ⟨N, by simp (decide := true) (disch := first | omega | simp (decide := true) only [List.length_set, hl]) only [sims, autos, simprocAttr, hps, h1, h3, h5, g0, g1, d1, d2, d3, d4, hcut, ap69, p69, n69, q]; rfl⟩ ⟨rfl, W_tru ?_⟩))
    refine W_abs (bdStart m) ⟨?_, ?_, ?_, ?_, ?_⟩ (fun z hz => (hfail z hz (fun h => c5 h.2.2)).mono (fun e s h => .inr h))
    all_goals simp (decide := true) (disch := first | omega | simp (decide := true) only [List.length_set, hl]) only [sims, autos, simprocAttr, hps, hl, h3, h6, g0, g2, hcc]
end Go.Proofs.Ytikeeegkndnnfaa.Abs
