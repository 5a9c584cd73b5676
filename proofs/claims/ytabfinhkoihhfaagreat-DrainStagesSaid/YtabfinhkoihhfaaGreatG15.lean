/- Words of other seats' texts, as they are used here: Rdo4 Scoh Okd. -/
import Derived.Test.YtabfinhkoihhfaaGreatG14
namespace Go.Proofs.YtabfinhkoihhfaaGreat.Abs
open Go Go.RowKit Fn
set_option linter.unusedVariables false
set_option linter.unusedSimpArgs false
set_option linter.unnecessarySimpa false
set_option maxRecDepth 100000
set_option maxHeartbeats 4000000

theorem coh_up {m : Coh} {v : T} (h : UpT (.agg m.enc) v) : ∃ f1 n1 c1 f2 n2 c2, v = .agg [.imm f1 n1 c1, .imm f2 n2 c2] := by
  obtain ⟨l, rfl, h2⟩ := h.agg
  rw [coh_enc] at h2
  simp only [UpL] at h2
  obtain ⟨a, _, rfl, ha, b, _, rfl, hb, rfl⟩ := h2
  obtain ⟨f1, c1, rfl, _⟩ := UpT.imm (f := false) (n := m.mem.length) (c := m.mem.flatMap u8T) ha
  obtain ⟨f2, c2, rfl, _⟩ := UpT.imm (f := false) (n := m.caches.length) (c := m.caches.flatMap Cache.enc) hb
  exact ⟨_, _, _, _, _, _, rfl⟩
theorem rd_fill (m : Coh) (hok : Ok m) (w : Nat) (kind : Int) (ln : Nat) (hln : ln ≤ 4294967295) (hlies : ln * 16 + 16 ≤ m.mem.length) (nxt : Int) (hw : w < m.caches.length) (st : St) (x y : T) (hF : RdT (w : Int) kind ln st x y) (h11 : rho st.s (.tmp 11) = .int .i64 nxt) (hc : CohAt (PN st) st.g x y m) : W ap rdFill st (fun e s => RdoEnd (backM (withC m w (fillR (cacheAt m w) ln nxt (bytesM m ln)).1) (fillR (cacheAt m w) ln nxt (bytesM m ln)).2) e s) := by
  obtain ⟨hl, h1, h3, h5, h6, g0, g1, g2, hnx⟩ := hF
  have hci := hc.coh
  obtain ⟨B, ys, ⟨hB1, hB2⟩, rfl, gB, hu, hx⟩ := hc
  have hbl := bytesM_len m ln hlies
  have hDl := u8_len (bytesM m ln)
  have hDi := u8_ints (bytesM m ln)
  obtain ⟨z, hz, hzu, f, a, b, rfl⟩ := cache_cell hu hw
  have hyl := upL_len1 m hu
  have hbd : (bytesM m ln).length = 16 ∧ ∀ y ∈ bytesM m ln, (Lit.int .u8 y).wf = true := ⟨hbl, bytesM_wf hok.1 ln⟩
  obtain ⟨u0, hE, hex⟩ := ref_fill (cacheAt m w) (cacheAt_wf hok.1 w hw) (hok.2.2.2 w hw) ln hln nxt (bytesM m ln) hbd
  obtain ⟨hfit, hgw⟩ := fit_fillR (hok.2.2.2 w hw) ln hln nxt (bytesM m ln) hbd
  obtain ⟨N, v', hv, q⟩ := hE.callU ap82' (args' := [.agg [.imm f a b], .int .u32 (ln : Int), .int .i64 nxt, .agg (dataT (bytesM m ln))]) (UpL.cons (upT_agg (UpL.cons hzu UpL.nil)) (UpL.refl _))
  obtain ⟨x', y', hua, ids, hfz, hids⟩ := coh_args hci [] [.int .u32 (ln : Int)] ints_nil (ints_one _ _)
  obtain ⟨N1, q1⟩ := (ref_bytes m hok.1 hok.2.1 ln hlies).callF ap83 (up_tl hua [] _) (agg_up hDi) (flat_ints _ hDi)
  have q1 := q1 (N + N1) (by omega) st.g _ ids hfz
  generalize hFe : fillR (cacheAt m w) ln nxt (bytesM m ln) = F at *
  obtain ⟨c', rfl, hv2⟩ := hv.tup
  simp only [UpL] at hv2
  obtain ⟨u', _, rfl, hu', v2, _, rfl, hv3, rfl⟩ := hv2
  obtain rfl := way_up F.2 _ hv3
  obtain ⟨z', rfl, hz', hzl⟩ := cell_up ((up_of hex).trans hu')
  have q := q (N + N1) (by omega) st.g [.agg [.imm f a b], .int .u32 (ln : Int), .int .i64 nxt, .agg ((bytesM m ln).flatMap u8T)] [] (frzL_fill2 f a b (ln : Int) nxt (bytesM m ln) st.g)
  have hgl := leaf_ints _ (way_ints F.2)
  have hglen := way_len hgw
  have hgz : splice zeroW.enc 0 F.2.enc = F.2.enc := splice_all (by rw [hglen]; rfl)
  have hzzf := leaf_ints _ (way_ints zeroW)
  have hzzl : zeroW.enc.length = 19 := rfl
  have hcut := cell_at hz
  have hiy : w < ys.length := by omega
  have hib : w + 1 ≤ ys.length := by omega
  have hcutx : cut [x, .own B 0 ys.length 1] 0 2 = [x, .own B 0 ys.length 1] := rfl
  have hoff := off_lt (ids := ids) (n := st.nx) (fun t ht => (hids t ht).2)
  have hze := zero_enc
  refine W_cut (fun r => (∃ p94 p81, st.nx ≤ p94 ∧ p94 < r.nx ∧ st.nx ≤ p81 ∧ p81 < r.nx ∧ rho r.s (.tmp 12) = .ptr p94 0 ∧ rho r.s (.tmp 13) = .ptr p81 0 ∧ r.g p94 = some [z'] ∧ r.g p81 = some F.2.enc) ∧ RdT (w : Int) kind ln r x (.own B 0 ys.length 1) ∧ (∀ t, t < st.nx → r.g t = st.g t)) (W_regionN ⟨N + N1, by rw [← hze]; simp +decide (disch := first | omega | simp +decide [hl]) only [s9, simprocAttr, h1, h3, h5, h11, g0, g1, gB, hiy, hib, hcut, hcutx, ap82', p82', n82', ap83, p83, n83, q, q1, ite_self, hzl, Nat.mul_one, hgl, hglen, hgz, hzzf, hzzl, hoff, Nat.le_refl]; rfl⟩ ⟨rfl, ?_⟩) ?_
  · refine ⟨⟨st.nx + 16, st.nx + 17, by omega, by show st.nx + 16 < st.nx + 20; omega, by omega, by show st.nx + 17 < st.nx + 20; omega, ?_, ?_, ?_, ?_⟩, ⟨?_, ?_, ?_, ?_, ?_, ?_, ?_, ?_, by show 3 ≤ st.nx + 20; omega⟩, fun t ht => ?_⟩ <;> simp +decide (disch := first | omega | simp +decide [hl]) only [s9, simprocAttr, hl, h1, h3, h5, h6, g0, g1, g2]
  clear hl h1 h3 h5 h6 h11 g0 g1 g2 q q1 hfz hids hoff
  rintro r ⟨⟨p94, p81, b1, b2, b3, b4, h12, h13, gz, gw⟩, ⟨hl, h1, h3, h5, h6, g0, g1, g2, hnx4⟩, hg⟩
  have gB' := (hg B hB2).trans gB
  have hcz : cut [z'] 0 1 = [z'] := rfl
  refine W_cut (fun r' => rho r'.s (.tmp 13) = .ptr p81 0 ∧ r'.g p81 = some F.2.enc ∧ r.nx ≤ r'.nx ∧ RdT (w : Int) kind ln r' x (.own B 0 ys.length 1) ∧ CohAt (fun t => 2 < t ∧ t < st.nx) r'.g x (.own B 0 ys.length 1) (withC m w F.1)) (W_region (fun k => by simp +decide (disch := first | omega | simp +decide [hl]) only [s9, simprocAttr, h1, h3, h12, g0, gB', gz, hiy, hib, hcz, hzl, Nat.mul_one]; rfl) ⟨rfl, ?_⟩) ?_
  · refine ⟨?_, ?_, by show r.nx ≤ r.nx + 6; omega, ⟨?_, ?_, ?_, ?_, ?_, ?_, ?_, ?_, by show 3 ≤ r.nx + 6; omega⟩, ?_⟩
    iterate 10 (· simp +decide (disch := first | omega | simp +decide [hl]) only [s9, simprocAttr, hl, h1, h3, h5, h6, h13, g0, g1, g2, gw])
    refine CohAt.with (P := fun t => 2 < t ∧ t < st.nx) ⟨hB1, hB2⟩ hu (hx.mono (fun t h => h) (fun t h => hg t h.1.2)) w _ hz' ?_ (fun t ht hne => ?_)
    · simp +decide (disch := first | omega | simp +decide [hl]) only [s9, simprocAttr]
    · exact put1_ne hne
  clear hl h1 h3 h5 h6 h12 h13 g0 g1 g2 gz gw gB'
  rintro r' ⟨h13, gw, hnn2, ⟨hl, h1, h3, h5, h6, g0, g1, g2, hnx5⟩, hC⟩
  have hokW : Ok (withC m w F.1) := ok_with hok hw hfit
  obtain ⟨v0, hE0, hu0⟩ := ref_back (withC m w F.1) hokW.1 hokW.2.1 hokW.2.2.1 F.2 hgw (w : Int)
  have hrest : frzAll (frz ⟨r'.g, 0⟩ 12) [.int .i64 (w : Int), .agg F.2.enc] = some ([.int .i64 (w : Int), .agg F.2.enc], []) := by
    have e1 : frz ⟨r'.g, 0⟩ 12 (.agg F.2.enc) = some (.agg F.2.enc, []) := way_frz F.2 _
    have e2 : frz ⟨r'.g, 0⟩ 12 (.int .i64 (w : Int)) = some (.int .i64 (w : Int), []) := rfl
    simp only [frzAll, e1, e2, List.append_nil]
  obtain ⟨x3, y3, hu3, ids3, hfz3, hids3⟩ := coh_argsR hC.coh [.int .i64 (w : Int), .agg F.2.enc] hrest
  obtain ⟨N3, v3, hv3', q3⟩ := hE0.callU ap84' (up_tl hu3 [] [.int .i64 (w : Int), .agg F.2.enc])
  have q3 := q3 N3 (Nat.le_refl _) r'.g _ ids3 hfz3
  have hvu := hu0.trans hv3'
  obtain ⟨f1, n1, c1, f2, n2, c2, rfl⟩ := coh_up hvu
  have hed : ∀ e ∈ (if (T.agg [T.imm f1 n1 c1, T.imm f2 n2 c2]).flat = true then [] else ids3.map fun t => ((t, none) : Nat × Option (List T))), 2 ≠ e.1 := by
    intro e he
    split at he
    · simp at he
    · rw [List.mem_map] at he
      obtain ⟨t, ht, rfl⟩ := he
      have := (hids3 t ht).1
      show 2 ≠ t
      omega
  generalize (if (T.agg [T.imm f1 n1 c1, T.imm f2 n2 c2]).flat = true then [] else ids3.map fun t => ((t, none) : Nat × Option (List T))) = ed at *
  have hp2 : putAll r'.g ed 2 = some [.imm true 0 [], .imm true 0 []] := by rw [putAll_off ed r'.g 2 hed]; exact g2
  have hcutx : cut [x, .own B 0 ys.length 1] 0 2 = [x, .own B 0 ys.length 1] := rfl
  have hcutw : cut F.2.enc 0 19 = F.2.enc := cut_all hglen
  have hlf : allLeaf [T.imm f1 n1 c1, T.imm f2 n2 c2] = true := rfl
  refine W_seqn (W_regionN ⟨N3, by simp +decide (disch := first | omega | simp +decide [hl]) only [s9, simprocAttr, h1, h3, h6, h13, g0, gw, hcutx, hcutw, hglen, ap84', p84', n84', q3, hp2, hlf, Nat.le_refl]; rfl⟩ ⟨rfl, W_ret ⟨rfl, _, hvu, .agg [.imm f1 n1 c1, .imm f2 n2 c2], [], ?_, rfl⟩⟩)
  simp only [resT, resL, resOne, show f56.res = [.cell 6 false 2] from rfl]
  simp +decide (disch := first | omega | simp +decide [hl]) only [s9, simprocAttr, h6]
  try rfl
theorem ap81' : ap 81 = some f81 := rfl
theorem p81' : f81.pure = true := rfl
theorem n81' : f81.nat = none := rfl
theorem ap80 : ap 80 = some f80 := rfl
theorem p80 : f80.pure = true := rfl
theorem n80 : f80.nat = none := rfl
theorem rd_rest (m : Coh) (hok : Ok m) (w : Nat) (hw : w < m.caches.length) (kind : Int) (hk : kind = 1 ∨ kind = 2 ∨ kind = 3) (ln : Nat) (hln : ln ≤ 4294967295) (hlies : ln * 16 + 16 ≤ m.mem.length) (st : St) (x y : T) (hF : RdT (w : Int) kind ln st x y) (hc : CohAt (PN st) st.g x y m) : W ap rdRest st (fun e s => RdoEnd (doGot m (w : Int) kind ln) e s) := by
  obtain ⟨hl, h1, h3, h5, h6, g0, g1, g2, hnx⟩ := hF
  have hcut : cut [x, y] 0 2 = [x, y] := rfl
  obtain ⟨x', y', hu, ids, hfz, hids⟩ := coh_args hc.coh [] [.int .i64 (w : Int), .int .u32 (ln : Int)] ints_nil (ints_two _ _ _ _)
  obtain ⟨N1, q1⟩ := (ref_shared m hok.1 (w : Int) ln hln).callF ap81' (up_tl hu [] _) (bool_up _) rfl
  have hgm := @doGot_mine m w kind ln
  have hgf := @doGot_fill m w kind ln
  generalize sharedN m (w : Int) ln 0 m.caches.length = sh at *
  obtain ⟨N2, q2⟩ := (ref_got kind sh hk).call ap80 (fun g => rfl)
  have q1 := q1 (N1 + N2) (by omega) st.g _ ids hfz
  have q2 := q2 (N1 + N2) (by omega)
  refine W_cut (fun s => rho s.s (.tmp 11) = .int .i64 (gotv kind sh) ∧ RdT (w : Int) kind ln s x y ∧ s.g = st.g ∧ st.nx ≤ s.nx) (W_regionN ⟨N1 + N2, by simp +decide (disch := first | omega | simp +decide [hl]) only [s9, simprocAttr, h1, h3, h5, g0, g1, hcut, ap81', p81', n81', ap80, p80, n80, q1, q2]; rfl⟩ ⟨rfl, ?_⟩) ?_
  · refine ⟨?_, ⟨?_, ?_, ?_, ?_, ?_, ?_, ?_, ?_, by show 3 ≤ st.nx + 9; omega⟩, rfl, by show st.nx ≤ st.nx + 9; omega⟩ <;> simp +decide (disch := first | omega | simp +decide [hl]) only [s9, simprocAttr, hl, h1, h3, h5, h6, g0, g1, g2]
  clear q1 q2 hfz hids hu
  rintro s ⟨h11, ⟨hl, h1, h3, h5, h6, g0, g1, g2, hnx2⟩, hg, hnn⟩
  have hc' : CohAt (PN s) s.g x y m := hc.mono (fun t h => ⟨h.1, by have := h.2; omega⟩) (fun t _ => by rw [hg])
  obtain ⟨x', y', hu, ids, hfz, hids⟩ := coh_args hc'.coh [] [.int .i64 (w : Int), .int .u32 (ln : Int)] ints_nil (ints_two _ _ _ _)
  obtain ⟨N, q⟩ := (ref_state m hok.1 (w : Int) ln hln).callF ap73 (up_tl hu [] _) (int_up _ _) rfl
  have hst : stateOf m (w : Int) ln = (wayOf (cacheAt m w) ln).state := by unfold stateOf; rw [if_pos (show has m (w : Int) from ⟨by omega, by omega⟩), Int.toNat_natCast]
  rw [hst] at q
  have q := q N (Nat.le_refl _) s.g _ ids hfz
  generalize (wayOf (cacheAt m w) ln) = W at *
  by_cases hk3 : kind = 3
  · have hd : (kind == 3) = true := by simpa using hk3
    by_cases hs0 : W.state = 0
    · have hd0 : (W.state != 0) = false := by rw [hs0]; rfl
      rw [hgf (fun h => h.2 hs0)]
      refine W_seqn (W_seqn (W_regionN ⟨N, by simp +decide (disch := first | omega | simp +decide [hl]) only [s9, simprocAttr, h1, h3, h5, g0, g1, hcut, ap73, p73, n73, q, hd, hd0]; rfl⟩ ⟨rfl, W_fls (W_skip ⟨rfl, ?_⟩)⟩))
      refine W_abs (fun z => RdT (w : Int) kind ln z x y ∧ rho z.s (.tmp 11) = .int .i64 (gotv kind sh) ∧ CohAt (PN z) z.g x y m) ⟨⟨?_, ?_, ?_, ?_, ?_, ?_, ?_, ?_, by show 3 ≤ s.nx + 11; omega⟩, ?_, hc'.mono (fun t h => ⟨h.1, by show t < s.nx + 11; have := h.2; omega⟩) (fun _ _ => rfl)⟩ (fun z ⟨hF, a11, hC⟩ => rd_fill m hok w kind ln hln hlies _ hw z x y hF a11 hC)
      all_goals simp +decide (disch := first | omega | simp +decide [hl]) only [s9, simprocAttr, hl, h1, h3, h5, h6, h11, g0, g1, g2]
    · have hd0 : (W.state != 0) = true := by simpa using hs0
      rw [hgm ⟨hk3, hs0⟩]
      refine W_seq (W_seqn (W_regionN ⟨N, by simp +decide (disch := first | omega | simp +decide [hl]) only [s9, simprocAttr, h1, h3, h5, g0, g1, hcut, ap73, p73, n73, q, hd, hd0]; rfl⟩ ⟨rfl, W_tru ?_⟩))
      refine W_abs (fun z => RdT (w : Int) kind ln z x y ∧ rho z.s (.tmp 11) = .int .i64 (gotv kind sh) ∧ CohAt (PN z) z.g x y m) ⟨⟨?_, ?_, ?_, ?_, ?_, ?_, ?_, ?_, by show 3 ≤ s.nx + 11; omega⟩, ?_, hc'.mono (fun t h => ⟨h.1, by show t < s.nx + 11; have := h.2; omega⟩) (fun _ _ => rfl)⟩ (fun z ⟨hF, a11, hC⟩ => (rd_mine m hok w kind ln hln _ hw z x y hF a11 hC).mono (fun e s h => .inr h))
      all_goals simp +decide (disch := first | omega | simp +decide [hl]) only [s9, simprocAttr, hl, h1, h3, h5, h6, h11, g0, g1, g2]
  · have hd : (kind == 3) = false := by simpa using hk3
    rw [hgf (fun h => hk3 h.1)]
    refine W_seqn (W_seqn (W_region (fun k => by simp +decide (disch := first | omega | simp +decide [hl]) only [s9, simprocAttr, h5, g1, hd]; rfl) ⟨rfl, W_fls (W_skip ⟨rfl, ?_⟩)⟩))
    refine W_abs (fun z => RdT (w : Int) kind ln z x y ∧ rho z.s (.tmp 11) = .int .i64 (gotv kind sh) ∧ CohAt (PN z) z.g x y m) ⟨⟨?_, ?_, ?_, ?_, ?_, ?_, ?_, ?_, by show 3 ≤ s.nx + 11; omega⟩, ?_, hc'.mono (fun t h => ⟨h.1, by show t < s.nx + 11; have := h.2; omega⟩) (fun _ _ => rfl)⟩ (fun z ⟨hF, a11, hC⟩ => rd_fill m hok w kind ln hln hlies _ hw z x y hF a11 hC)
    all_goals simp +decide (disch := first | omega | simp +decide [hl]) only [s9, simprocAttr, hl, h1, h3, h5, h6, h11, g0, g1, g2]
def rdFail : ACode := match f56.body with | .seq _ (.seq (.seq _ (.cond _ c _)) _) => c | _ => .skip
theorem rd_fail (m : Coh) (st : St) (hl : st.s.length = 152) (h3 : rho st.s (.tmp 3) = .ptr 0 0) (h6 : rho st.s (.tmp 6) = .ptr 2 0) (g0 : st.g 0 = some [memT m, cachT m]) (g2 : st.g 2 = some [.imm true 0 [], .imm true 0 []]) : W ap rdFail st (fun e s => e ≠ .normal ∧ RdoEnd m e s) := by
  have hcut : cut [memT m, cachT m] 0 2 = [memT m, cachT m] := rfl
  have hleaf : allLeaf [memT m, cachT m] = true := rfl
  obtain ⟨v, ids, hv, hf⟩ := coh_frz (coh_imm (fun _ => True) (put1 st.g (2, some [memT m, cachT m])) m) (st.nx + 2)
  refine W_seqn (W_region (fun k => by simp +decide (disch := first | omega | simp +decide [hl]) only [s9, simprocAttr, h3, h6, g0, g2, hcut, hleaf]; rfl) ⟨rfl, W_ret ⟨by simp, rfl, v, hv, .agg [memT m, cachT m], ids, ?_, hf⟩⟩)
  simp only [resT, resL, resOne, show f56.res = [.cell 6 false 2] from rfl]
  simp +decide (disch := first | omega | simp +decide [hl]) only [s9, simprocAttr, h6]
  try rfl
def rdHead : ACode := match f56.body with | .seq _ (.seq (.seq c _) _) => c | _ => .skip
def RdS (m : Coh) (who kind : Int) (ln : Nat) (st : St) : Prop := st.s.length = 152 ∧ rho st.s (.tmp 1) = .int .i64 who ∧ rho st.s (.tmp 3) = .ptr 0 0 ∧ rho st.s (.tmp 5) = .ptr 1 0 ∧ rho st.s (.tmp 6) = .ptr 2 0 ∧ st.g 0 = some [memT m, cachT m] ∧ st.g 1 = some [.int .i64 kind, .int .u32 (ln : Int)] ∧ st.g 2 = some [.imm true 0 [], .imm true 0 []] ∧ 3 ≤ st.nx
theorem rd_head (m : Coh) (hok : Ok m) (who kind : Int) (ln : Nat) (hln : ln ≤ 4294967295) (st : St) (h : RdS m who kind ln st) : W ap rdHead st (fun e s => e = .normal ∧ RdS m who kind ln s ∧ rho s.s (.tmp 39) = .bool (!decide (DoesGo m who kind ln))) := by
  obtain ⟨hl, h1, h3, h5, h6, g0, g1, g2, hnx⟩ := h
  have hcut : cut [memT m, cachT m] 0 2 = [memT m, cachT m] := rfl
  obtain ⟨N1, q1⟩ := (ref_has m who).call ap71 (fun g => rfl)
  obtain ⟨N2, q2⟩ := (ref_lies m hok.1 ln hln).call ap74 (fun g => rfl)
  have q1 := q1 (N1 + N2) (by omega)
  have q2 := q2 (N1 + N2) (by omega)
  have fin : ∀ s : St, s.s.length = 152 → s.g = st.g → 3 ≤ s.nx → rho s.s (.tmp 1) = .int .i64 who → rho s.s (.tmp 3) = .ptr 0 0 → rho s.s (.tmp 5) = .ptr 1 0 → rho s.s (.tmp 6) = .ptr 2 0 → RdS m who kind ln s := fun s a1 a2 a3 a4 a5 a6 a7 => ⟨a1, a4, a5, a6, a7, by rw [a2]; exact g0, by rw [a2]; exact g1, by rw [a2]; exact g2, a3⟩
  by_cases c1 : has m who
  · rw [decide_eq_true c1] at q1
    by_cases c2 : kind = 1 ∨ kind = 2 ∨ kind = 3
    · by_cases c5 : ln * 16 + 16 ≤ m.mem.length
      · rw [decide_eq_true c5] at q2
        have hg : DoesGo m who kind ln := ⟨c1, ⟨by omega, by omega⟩, c5⟩
        rw [decide_eq_true hg]
        rcases c2 with rfl | rfl | rfl <;>
        · refine W_regionN ⟨N1 + N2, by simp +decide (disch := first | omega | simp +decide [hl]) only [s9, simprocAttr, h1, h3, h5, g0, g1, hcut, ap71, p71, n71, q1, ap74, p74, n74, q2]; rfl⟩ ?_
          refine ⟨rfl, fin _ ?_ ?_ ?_ ?_ ?_ ?_ ?_, ?_⟩
          · simp +decide (disch := first | omega | simp +decide [hl]) only [s8, simprocAttr, hl]
          · exact rfl
          · show 3 ≤ st.nx + 26
            omega
          · simp +decide (disch := first | omega | simp +decide [hl]) only [s8, simprocAttr, h1]
          · simp +decide (disch := first | omega | simp +decide [hl]) only [s8, simprocAttr, h3]
          · simp +decide (disch := first | omega | simp +decide [hl]) only [s8, simprocAttr, h5]
          · simp +decide (disch := first | omega | simp +decide [hl]) only [s8, simprocAttr, h6]
          · simp +decide (disch := first | omega | simp +decide [hl]) only [s8, simprocAttr]
      · rw [decide_eq_false c5] at q2
        have hg : ¬ DoesGo m who kind ln := fun h => c5 h.2.2
        rw [decide_eq_false hg]
        rcases c2 with rfl | rfl | rfl <;>
        · refine W_regionN ⟨N1 + N2, by simp +decide (disch := first | omega | simp +decide [hl]) only [s9, simprocAttr, h1, h3, h5, g0, g1, hcut, ap71, p71, n71, q1, ap74, p74, n74, q2]; rfl⟩ ?_
          refine ⟨rfl, fin _ ?_ ?_ ?_ ?_ ?_ ?_ ?_, ?_⟩
          · simp +decide (disch := first | omega | simp +decide [hl]) only [s8, simprocAttr, hl]
          · exact rfl
          · show 3 ≤ st.nx + 26
            omega
          · simp +decide (disch := first | omega | simp +decide [hl]) only [s8, simprocAttr, h1]
          · simp +decide (disch := first | omega | simp +decide [hl]) only [s8, simprocAttr, h3]
          · simp +decide (disch := first | omega | simp +decide [hl]) only [s8, simprocAttr, h5]
          · simp +decide (disch := first | omega | simp +decide [hl]) only [s8, simprocAttr, h6]
          · simp +decide (disch := first | omega | simp +decide [hl]) only [s8, simprocAttr]
    · have k1 : (kind != 1) = true := by simp; omega
      have k2 : (kind != 2) = true := by simp; omega
      have k3 : (kind != 3) = true := by simp; omega
      have hg : ¬ DoesGo m who kind ln := fun h => c2 (by have := h.2.1; omega)
      rw [decide_eq_false hg]
      refine W_regionN ⟨N1 + N2, by simp +decide (disch := first | omega | simp +decide [hl]) only [s9, simprocAttr, h1, h3, h5, g0, g1, hcut, ap71, p71, n71, q1, k1, k2, k3]; rfl⟩ ?_
      refine ⟨rfl, fin _ ?_ ?_ ?_ ?_ ?_ ?_ ?_, ?_⟩
      · simp +decide (disch := first | omega | simp +decide [hl]) only [s8, simprocAttr, hl]
      · exact rfl
      · show 3 ≤ st.nx + 26
        omega
      · simp +decide (disch := first | omega | simp +decide [hl]) only [s8, simprocAttr, h1]
      · simp +decide (disch := first | omega | simp +decide [hl]) only [s8, simprocAttr, h3]
      · simp +decide (disch := first | omega | simp +decide [hl]) only [s8, simprocAttr, h5]
      · simp +decide (disch := first | omega | simp +decide [hl]) only [s8, simprocAttr, h6]
      · simp +decide (disch := first | omega | simp +decide [hl]) only [s8, simprocAttr]
  · rw [decide_eq_false c1] at q1
    have hg : ¬ DoesGo m who kind ln := fun h => c1 h.1
    rw [decide_eq_false hg]
    refine W_regionN ⟨N1 + N2, by simp +decide (disch := first | omega | simp +decide [hl]) only [s9, simprocAttr, h1, h3, h5, g0, g1, hcut, ap71, p71, n71, q1]; rfl⟩ ?_
    refine ⟨rfl, fin _ ?_ ?_ ?_ ?_ ?_ ?_ ?_, ?_⟩
    · simp +decide (disch := first | omega | simp +decide [hl]) only [s8, simprocAttr, hl]
    · exact rfl
    · show 3 ≤ st.nx + 26
      omega
    · simp +decide (disch := first | omega | simp +decide [hl]) only [s8, simprocAttr, h1]
    · simp +decide (disch := first | omega | simp +decide [hl]) only [s8, simprocAttr, h3]
    · simp +decide (disch := first | omega | simp +decide [hl]) only [s8, simprocAttr, h5]
    · simp +decide (disch := first | omega | simp +decide [hl]) only [s8, simprocAttr, h6]
    · simp +decide (disch := first | omega | simp +decide [hl]) only [s8, simprocAttr]
theorem ref_do (m : Coh) (hok : Ok m) (who kind : Int) (ln : Nat) (hln : ln ≤ 4294967295) : ∃ v, E ap 56 [.agg [memT m, cachT m], .int .i64 who, .agg [.int .i64 kind, .int .u32 (ln : Int)]] v ∧ UpT (.agg (doM m who kind ln).enc) v := by
  refine E_bodyV (F := f56) rfl rfl rfl (P := fun v => UpT (.agg (doM m who kind ln).enc) v) ?_
  generalize hs0 : (_ : List T) ++ List.replicate _ T.undef = s0
  have e0 : s0.length = 152 ∧ rho s0 (.tmp 0) = .agg [memT m, cachT m] ∧ rho s0 (.tmp 1) = .int .i64 who ∧ rho s0 (.tmp 2) = .agg [.int .i64 kind, .int .u32 (ln : Int)] := by subst hs0; exact ⟨rfl, rfl, rfl, rfl⟩
  clear hs0
  obtain ⟨hl, h0, h1, h2⟩ := e0
  have hleaf : allLeaf [memT m, cachT m] = true := rfl
  have hleaf2 : allLeaf [T.int .i64 kind, T.int .u32 (ln : Int)] = true := rfl
  have hcut : cut [memT m, cachT m] 0 2 = [memT m, cachT m] := rfl
  refine W_cut (RdS m who kind ln) (W_region (fun k => by simp +decide (disch := first | omega | simp +decide [hl]) only [s9, simprocAttr, h0, h2, hleaf, hleaf2]; rfl) ⟨rfl, ?_⟩) ?_
  · refine ⟨?_, ?_, ?_, ?_, ?_, ?_, ?_, ?_, by show 3 ≤ 3; omega⟩ <;> simp +decide (disch := first | omega | simp +decide [hl]) only [s9, simprocAttr, hl, h1]
  clear hl h0 h1 h2
  rintro st ⟨hl, h1, h3, h5, h6, g0, g1, g2, hnx⟩
  have hhead := rd_head m hok who kind ln hln st ⟨hl, h1, h3, h5, h6, g0, g1, g2, hnx⟩
  clear hl h1 h3 h5 h6 g0 g1 g2
  by_cases hgo : DoesGo m who kind ln
  · rw [decide_eq_true hgo] at hhead
    obtain ⟨⟨hw0, hw1⟩, ⟨hk1, hk2⟩, hlies⟩ := hgo
    obtain ⟨w, rfl⟩ : ∃ w : Nat, who = (w : Int) := ⟨who.toNat, by omega⟩
    have hdm : doM m (w : Int) kind ln = doGot (snoopN (w : Int) kind ln m m.caches.length) (w : Int) kind ln := if_pos ⟨⟨hw0, hw1⟩, ⟨hk1, hk2⟩, hlies⟩
    rw [hdm]
    have hk : kind = 1 ∨ kind = 2 ∨ kind = 3 := by omega
    have hw : w < m.caches.length := by omega
    have hsl := snoopN_len (w : Int) kind ln m m.caches.length
    refine W_seqn (W_seqn (hhead.mono ?_))
    rintro e s ⟨rfl, ⟨hl, h1, h3, h5, h6, g0, g1, g2, hnx2⟩, h39⟩
    refine ⟨rfl, W_false h39 (W_skip ⟨rfl, ?_⟩)⟩
    have hue : UpL (m.caches.flatMap Cache.enc) (m.caches.flatMap Cache.enc) := UpL.refl _
    have hCl := caches_len' m
    have hcI := coh_imm (· < s.nx + 3) s.g m
    obtain ⟨k1, ys, k2, k3⟩ := hcI
    have hyl := upL_len1 m k2
    have hys : allLeaf ys = true := by have := k2.allLeaf; unfold allLeaf; rw [this]; exact flat_leaf (f := Cache.enc) (fun _ => rfl) _
    obtain ⟨N2, v, g', nx', q2, A, B, rfl, hA1, hB1, hA2, hB2, hAB, gA, gB, hg', hnx'⟩ := copied40 (m.mem.flatMap u8T) ys (by rw [u8_len]; have := hok.2.1; omega) (by have := hok.2.2.1; omega) (u8_leaf _) hys (memT m) (cachT m) s.g (s.nx + 3) k1 k3
    have q2 := q2 N2 (Nat.le_refl _)
    have e0 := (hg' 0 (by omega)).trans g0
    have e1 := (hg' 1 (by omega)).trans g1
    have e2 := (hg' 2 (by omega)).trans g2
    have hll : ∀ a b c d e f g h : Nat, allLeaf [T.own a b c d, T.own e f g h] = true := fun _ _ _ _ _ _ _ _ => rfl
    refine W_cut (fun z => (z.s.length = 152 ∧ rho z.s (.tmp 1) = .int .i64 (w : Int) ∧ rho z.s (.tmp 3) = .ptr 0 0 ∧ rho z.s (.tmp 5) = .ptr 1 0 ∧ rho z.s (.tmp 6) = .ptr 2 0 ∧ z.g 0 = some [.own A 0 (m.mem.flatMap u8T).length 1, .own B 0 ys.length 1] ∧ z.g 1 = some [.int .i64 kind, .int .u32 (ln : Int)] ∧ z.g 2 = some [.imm true 0 [], .imm true 0 []] ∧ z.nx = nx') ∧ z.g A = some (m.mem.flatMap u8T) ∧ z.g B = some ys) (W_regionN ⟨N2, by simp +decide (disch := first | omega | simp +decide [hl]) only [s9, simprocAttr, h3, g0, hcut, ap75, p75, n75, evI, q2, e0, hll]; rfl⟩ ⟨rfl, ?_⟩) ?_
    · refine ⟨⟨?_, ?_, ?_, ?_, ?_, ?_, ?_, ?_, rfl⟩, ?_, ?_⟩ <;> simp +decide (disch := first | omega | simp +decide [hl]) only [s9, simprocAttr, hl, h1, h3, h5, h6, e1, e2, gA, gB]
    clear hl h1 h3 h5 h6 h39 g0 g1 g2 e0 e1 e2 gA gB
    rintro z ⟨⟨hl, h1, h3, h5, h6, g0, g1, g2, hzn⟩, gA, gB⟩
    refine W_seq (W_seqn (W_region (fun k => by simp +decide (disch := first | omega | simp +decide [hl]) only [s9, simprocAttr]; rfl) ⟨rfl, W_block ?_⟩))
    refine rd_loop m hok (w : Int) kind hk ln hln hlies _ (fun st x y hF hC => ?_) (m.caches.length - 0) _ ⟨0, _, _, ⟨?_, ?_, ?_, ?_, ?_, ?_, g0, ?_, ?_, ?_⟩, ⟨B, ys, ⟨?_, ?_⟩, rfl, ?_, k2, .inr ⟨A, ⟨⟨?_, ?_⟩, hAB⟩, rfl, ?_⟩⟩, by omega, rfl⟩
    · refine .inl ⟨rfl, .inl ⟨rfl, ?_⟩⟩
      obtain ⟨a1, a2, a3, a4, a5, _, a6, a7, a8, a9⟩ := hF
      exact rd_rest _ (ok_snoopN hok (w : Int) kind ln _ (Nat.le_refl _)) w (by rw [hsl.1]; exact hw) kind hk ln hln (by rw [hsl.2]; exact hlies) st x y ⟨a1, a2, a3, a4, a5, a6, a7, a8, a9⟩ hC
    all_goals first | (show 3 ≤ z.nx + 1; omega) | (show B < z.nx + 1; omega) | (show A < z.nx + 1; omega) | (show 2 < B; omega) | (show 2 < A; omega) | (simp +decide (disch := first | omega | simp +decide [hl]) only [s9, simprocAttr, hl, h1, h3, h5, h6, g0, g1, g2, gA, gB]; done) | (simp +decide (disch := first | omega | simp +decide [hl]) only [s9, simprocAttr, hl, h1, h3, h5, h6, g0, g1, g2, gA, gB]; rfl)
  · rw [decide_eq_false hgo] at hhead
    rw [show doM m who kind ln = m from if_neg hgo]
    refine W_seq (W_seqn (hhead.mono ?_))
    rintro e s ⟨rfl, ⟨hl, h1, h3, h5, h6, g0, g1, g2, hnx2⟩, h39⟩
    exact ⟨rfl, W_true h39 ((rd_fail m s hl h3 h6 g0 g2).mono (fun e s h => .inr h))⟩
theorem ap19' : ap 19 = some f19 := rfl
theorem p19' : f19.pure = true := rfl
theorem n19' : f19.nat = none := rfl
theorem ap32' : ap 32 = some f32 := rfl
theorem p32' : f32.pure = true := rfl
theorem n32' : f32.nat = none := rfl
theorem cell_at' {cs : List T} {i : Nat} {z : T} (h : cs[i]? = some z) : cut cs i 1 = [z] := by
  obtain ⟨hi, rfl⟩ := List.getElem?_eq_some_iff.mp h
  unfold cut
  rw [List.drop_eq_getElem_cons hi, List.take_succ_cons, List.take_zero]
def sbLoop : ACode := match f19.body with | .seq _ (.seq _ (.seq (.seq _ (.block _ (.loop c))) _)) => c | _ => .skip
theorem sb_loop (l : List Int) (hl1 : l.length ≤ 4096) (Q : AExit → St → Prop)
    (hQ : ∀ st : St, st.s.length = 32 → Q (.exit 0) st) :
    ∀ (n : Nat) (st : St), (∃ i : Nat, st.s.length = 32 ∧ rho st.s (.tmp 0) = .imm false l.length (l.flatMap u8T) ∧ rho st.s (.tmp 1) = .imm false l.length (l.flatMap u8T) ∧ rho st.s (.tmp 5) = .int .i64 (i : Int) ∧ i ≤ l.length ∧ n = l.length - i) → W ap (.loop sbLoop) st Q := by
  refine W_loop _ ?_
  rintro n st ⟨i, hl, h0, h1, h5, hi, hn⟩
  by_cases hend : i = l.length
  · have hlt : decide ((i : Int) < (l.length : Int)) = false := decide_eq_false (by omega)
    refine W_seq (W_seqn (W_region (fun k => by simp +decide (disch := first | omega | simp +decide [hl]) only [s9, simprocAttr, h0, h1, h5, hlt]; rfl) ⟨rfl, W_fls (W_exit (.inr ⟨by simp, .inr ⟨by simp, hQ _ ?_⟩⟩))⟩))
    simp +decide (disch := first | omega | simp +decide [hl]) only [s8, simprocAttr, hl]
  · have hlt : decide ((i : Int) < (l.length : Int)) = true := decide_eq_true (by omega)
    have hil : i < l.length := by omega
    have hw : IntKind.i64.wrap ((i : Int) + 1) = ((i + 1 : Nat) : Int) := by rw [wrap_id (by omega)]; omega
    have hbl := u8_len l
    have hg := u8_get l i hil
    rw [Nat.mul_one] at hg
    have hb1 : i + 1 ≤ (l.flatMap u8T).length := by omega
    have hne : (l[i] != l[i]) = false := by simp
    generalize l.flatMap u8T = C at *
    refine W_seqn (W_seqn (W_region (fun k => by simp +decide (disch := first | omega | simp +decide [hl]) only [s9, simprocAttr, h0, h1, h5, hlt]; rfl) ⟨rfl, W_tru (W_skip ⟨rfl, ?_⟩)⟩))
    refine W_seqn (W_block (W_seqn (W_region (fun k => by simp +decide (disch := first | omega | simp +decide [hl]) only [s9, simprocAttr, h0, h1, h5, hil, hb1, hg, hne, Nat.mul_one]; rfl) ⟨rfl, W_fls (W_skip (.inr (.inl ⟨by simp, rfl, ?_⟩)))⟩)))
    refine W_region (fun k => by simp +decide (disch := first | omega | simp +decide [hl]) only [s9, simprocAttr, h5, hw]; rfl) (.inl ⟨rfl, l.length - (i + 1), by omega, i + 1, ?_, ?_, ?_, ?_, by omega, rfl⟩) <;> simp +decide (disch := first | omega | simp +decide [hl]) only [s8, simprocAttr, hl, h0, h1]
theorem same_bytes (l : List Int) (hl1 : l.length ≤ 4096) : E ap 19 [.imm false l.length (l.flatMap u8T), .imm false l.length (l.flatMap u8T)] (.bool true) := by
  refine E_body (F := f19) rfl rfl rfl ?_
  generalize hs0 : (_ : List T) ++ List.replicate _ T.undef = s0
  have e0 : s0.length = 32 ∧ rho s0 (.tmp 0) = .imm false l.length (l.flatMap u8T) ∧ rho s0 (.tmp 1) = .imm false l.length (l.flatMap u8T) := by subst hs0; exact ⟨rfl, rfl, rfl⟩
  clear hs0
  obtain ⟨hl, h0, h1⟩ := e0
  have hne : ((l.length : Int) != (l.length : Int)) = false := by simp
  refine W_seqn (W_region (fun k => by simp +decide (disch := first | omega | simp +decide [hl]) only [s9, simprocAttr]; rfl) ⟨rfl, ?_⟩)
  refine W_seqn (W_seqn (W_region (fun k => by simp +decide (disch := first | omega | simp +decide [hl]) only [s9, simprocAttr, h0, h1, hne]; rfl) ⟨rfl, W_fls (W_skip ⟨rfl, ?_⟩)⟩))
  refine W_seq (W_seqn (W_region (fun k => by simp +decide (disch := first | omega | simp +decide [hl]) only [s9, simprocAttr]; rfl) ⟨rfl, W_block ?_⟩))
  refine sb_loop l hl1 _ (fun st hl => ?_) (l.length - 0) _ ⟨0, ?_, ?_, ?_, ?_, by omega, rfl⟩
  · refine .inl ⟨rfl, .inl ⟨rfl, ?_⟩⟩
    refine W_seqn (W_region (fun k => by simp +decide (disch := first | omega | simp +decide [hl]) only [s9, simprocAttr]; rfl) ⟨rfl, W_ret ?_⟩)
    refine fin_of (F := f19) rfl (fun _ => rfl) ?_
    simp +decide (disch := first | omega | simp +decide [hl]) only [s8, simprocAttr]
  · simp +decide (disch := first | omega | simp +decide [hl]) only [s8, simprocAttr, hl]
  · simp +decide (disch := first | omega | simp +decide [hl]) only [s8, simprocAttr, h0]
  · simp +decide (disch := first | omega | simp +decide [hl]) only [s8, simprocAttr, h1]
  · simp +decide (disch := first | omega | simp +decide [hl]) only [s8, simprocAttr]
    try rfl
def scLoop : ACode := match f10.body with | .seq _ (.seq _ (.seq (.seq _ (.block _ (.loop c))) _)) => c | _ => .skip
theorem same_at (m : Coh) (hok : Ok m) (i : Nat) (hi : i < m.caches.length) : E ap 32 [.agg [setsT (cacheAt m i)], .agg [setsT (cacheAt m i)]] (.bool true) := same_of (hok.2.2.2 i hi) (cacheOf_sets _) (cacheOf_sets _)
theorem sc_loop (m : Coh) (hok : Ok m) (Q : AExit → St → Prop)
    (hQ : ∀ st : St, st.s.length = 47 → Q (.exit 0) st) :
    ∀ (n : Nat) (st : St), (∃ i : Nat, st.s.length = 47 ∧ rho st.s (.tmp 2) = .ptr 0 0 ∧ rho st.s (.tmp 3) = .ptr 1 0 ∧ rho st.s (.tmp 5) = .int .i64 (i : Int) ∧ st.g 0 = some [memT m, cachT m] ∧ st.g 1 = some [memT m, cachT m] ∧ i ≤ m.caches.length ∧ n = m.caches.length - i) → W ap (.loop scLoop) st Q := by
  refine W_loop _ ?_
  rintro n st ⟨i, hl, h2, h3, h5, g0, g1, hi, hn⟩
  have hcc : cachT m = .imm false m.caches.length (m.caches.flatMap Cache.enc) := rfl
  rw [hcc] at g0 g1
  have hm4 := hok.2.2.1
  by_cases hend : i = m.caches.length
  · have hlt : decide ((i : Int) < (m.caches.length : Int)) = false := decide_eq_false (by omega)
    refine W_seq (W_seqn (W_region (fun k => by simp +decide (disch := first | omega | simp +decide [hl]) only [s9, simprocAttr, h2, h3, h5, g0, g1, hlt]; rfl) ⟨rfl, W_fls (W_exit (.inr ⟨by simp, .inr ⟨by simp, hQ _ ?_⟩⟩))⟩))
    simp +decide (disch := first | omega | simp +decide [hl]) only [s8, simprocAttr, hl]
  · have hlt : decide ((i : Int) < (m.caches.length : Int)) = true := decide_eq_true (by omega)
    have hil : i < m.caches.length := by omega
    have hw : IntKind.i64.wrap ((i : Int) + 1) = ((i + 1 : Nat) : Int) := by rw [wrap_id (by omega)]; omega
    have hcl := caches_len' m
    have hg := caches_get m i hil
    rw [Nat.mul_one] at hg
    have hcut := cell_at' hg
    obtain ⟨N, q⟩ := (same_at m hok i hil).call ap32' (fun g => rfl)
    have q := q N (Nat.le_refl _)
    generalize setsT (cacheAt m i) = z at *
    generalize hCe : m.caches.flatMap Cache.enc = C at *
    have hb1 : i + 1 ≤ C.length := by omega
    refine W_seqn (W_seqn (W_region (fun k => by simp +decide (disch := first | omega | simp +decide [hl]) only [s9, simprocAttr, h2, h3, h5, g0, g1, hlt]; rfl) ⟨rfl, W_tru (W_skip ⟨rfl, ?_⟩)⟩))
    refine W_seqn (W_block (W_seqn (W_regionN ⟨N, by simp +decide (disch := first | omega | simp +decide [hl]) only [s9, simprocAttr, h2, h3, h5, g0, g1, hil, hb1, hcut, ap32', p32', n32', q, Nat.mul_one]; rfl⟩ ⟨rfl, W_fls (W_skip (.inr (.inl ⟨by simp, rfl, ?_⟩)))⟩)))
    refine W_region (fun k => by simp +decide (disch := first | omega | simp +decide [hl]) only [s9, simprocAttr, h5, hw]; rfl) (.inl ⟨rfl, m.caches.length - (i + 1), by omega, i + 1, ?_, ?_, ?_, ?_, ?_, ?_, by omega, rfl⟩) <;> simp +decide (disch := first | omega | simp +decide [hl]) only [s8, simprocAttr, hl, h2, h3, g0, g1, hcc, hCe]
theorem same_coh (m : Coh) (hok : Ok m) : E ap 10 [.agg m.enc, .agg m.enc] (.bool true) := by
  rw [coh_enc]
  refine E_body (F := f10) rfl rfl rfl ?_
  generalize hs0 : (_ : List T) ++ List.replicate _ T.undef = s0
  have e0 : s0.length = 47 ∧ rho s0 (.tmp 0) = .agg [memT m, cachT m] ∧ rho s0 (.tmp 1) = .agg [memT m, cachT m] := by subst hs0; exact ⟨rfl, rfl, rfl⟩
  clear hs0
  obtain ⟨hl, h0, h1⟩ := e0
  have hleaf : allLeaf [memT m, cachT m] = true := rfl
  have hcc : cachT m = .imm false m.caches.length (m.caches.flatMap Cache.enc) := rfl
  have hmm : memT m = .imm false m.mem.length (m.mem.flatMap u8T) := rfl
  have hne : ((m.caches.length : Int) != (m.caches.length : Int)) = false := by simp
  obtain ⟨N, q⟩ := (same_bytes m.mem hok.2.1).call ap19' (fun g => rfl)
  have q := q N (Nat.le_refl _)
  refine W_seqn (W_region (fun k => by simp +decide (disch := first | omega | simp +decide [hl]) only [s9, simprocAttr, h0, h1, hleaf]; rfl) ⟨rfl, ?_⟩)
  refine W_seqn (W_seqn (W_regionN ⟨N, by simp +decide (disch := first | omega | simp +decide [hl]) only [s9, simprocAttr, hmm, hcc, hne, ap19', p19', n19', q]; rfl⟩ ⟨rfl, W_fls (W_skip ⟨rfl, ?_⟩)⟩))
  refine W_seq (W_seqn (W_region (fun k => by simp +decide (disch := first | omega | simp +decide [hl]) only [s9, simprocAttr]; rfl) ⟨rfl, W_block ?_⟩))
  refine sc_loop m hok _ (fun st hl => ?_) (m.caches.length - 0) _ ⟨0, ?_, ?_, ?_, ?_, ?_, ?_, by omega, rfl⟩
  · refine .inl ⟨rfl, .inl ⟨rfl, ?_⟩⟩
    refine W_seqn (W_region (fun k => by simp +decide (disch := first | omega | simp +decide [hl]) only [s9, simprocAttr]; rfl) ⟨rfl, W_ret ?_⟩)
    refine fin_of (F := f10) rfl (fun _ => rfl) ?_
    simp +decide (disch := first | omega | simp +decide [hl]) only [s8, simprocAttr]
  · simp +decide (disch := first | omega | simp +decide [hl]) only [s8, simprocAttr, hl]
  · simp +decide (disch := first | omega | simp +decide [hl]) only [s8, simprocAttr]
  · simp +decide (disch := first | omega | simp +decide [hl]) only [s8, simprocAttr]
  · simp +decide (disch := first | omega | simp +decide [hl]) only [s8, simprocAttr]
    try rfl
  · simp +decide (disch := first | omega | simp +decide [hl]) only [s9, simprocAttr, hmm, hcc]
  · simp +decide (disch := first | omega | simp +decide [hl]) only [s9, simprocAttr, hmm, hcc]
theorem same_cohU (m : Coh) (hok : Ok m) {u v : T} (hu : UpT (.agg m.enc) u) (hv : UpT (.agg m.enc) v) : E ap 10 [u, v] (.bool true) := by
  obtain ⟨v', h1, h2⟩ := (same_coh m hok).up (UpL.cons hu (UpL.cons hv UpL.nil))
  rw [h2.bool] at h1
  exact h1
theorem coh_frzL {m m' : Coh} {u v : T} (hu : UpT (.agg m.enc) u) (hv : UpT (.agg m'.enc) v) (g : Mem) : frzL ⟨g, 0⟩ frzDepth [u, v] = some ([u, v], []) := by
  obtain ⟨_, _, _, _, _, _, rfl⟩ := coh_up hu
  obtain ⟨_, _, _, _, _, _, rfl⟩ := coh_up hv
  try rfl
theorem ok_back {m : Coh} (h : Ok m) (w : Way) (hw : w.wf) : Ok (backM m w) := by
  unfold backM
  split
  · exact ok_put h _ hw.2.2.1.2
  · exact h
theorem ok_doGot {m : Coh} (h : Ok m) (w : Nat) (hw : w < m.caches.length) (kind : Int) (ln : Nat) (hln : ln ≤ 4294967295) (hlies : ln * 16 + 16 ≤ m.mem.length) : Ok (doGot m (w : Int) kind ln) := by
  unfold doGot
  rw [Int.toNat_natCast]
  split
  · exact ok_with h hw (fit_setR (h.2.2.2 w hw) _ _)
  · obtain ⟨h1, h2⟩ := fit_fillR (h.2.2.2 w hw) ln hln (gotv kind (sharedN m (w : Int) ln 0 m.caches.length)) (bytesM m ln) ⟨bytesM_len m ln hlies, bytesM_wf h.1 ln⟩
    exact ok_back (ok_with h hw h1) _ h2
theorem ok_do {m : Coh} (h : Ok m) (who kind : Int) (ln : Nat) (hln : ln ≤ 4294967295) : Ok (doM m who kind ln) := by
  unfold doM
  split
  · rename_i hg
    obtain ⟨⟨h1, h2⟩, h3, h4⟩ := hg
    obtain ⟨w, rfl⟩ : ∃ w : Nat, who = (w : Int) := ⟨who.toNat, by omega⟩
    have hsl := snoopN_len (w : Int) kind ln m m.caches.length
    exact ok_doGot (ok_snoopN h (w : Int) kind ln _ (Nat.le_refl _)) w (by rw [hsl.1]; omega) kind ln hln (by rw [hsl.2]; exact h4)
  · exact h
end Go.Proofs.YtabfinhkoihhfaaGreat.Abs
