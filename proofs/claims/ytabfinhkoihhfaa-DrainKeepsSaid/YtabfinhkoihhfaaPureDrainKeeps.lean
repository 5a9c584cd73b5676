/- The theorem of the store buffer: the law's walk. -/
import Derived.Test.YtabfinhkoihhfaaCor
namespace Go.Proofs.Ytabfinhkoihhfaa.Abs
open Go Go.RowKit Fn
set_option linter.unusedVariables false
set_option linter.unusedSimpArgs false
set_option linter.unnecessarySimpa false
set_option maxRecDepth 100000
set_option maxHeartbeats 4000000

theorem lLGT : ap 4 = some f4 := rfl
theorem mLGT : f4.pure = true := rfl
theorem nLGT : f4.nat = none := rfl
theorem lRGT : ap 5 = some f5 := rfl
theorem mRGT : f5.pure = true := rfl
theorem nRGT : f5.nat = none := rfl
theorem lSBR : ap 6 = some f6 := rfl
theorem mSBR : f6.pure = true := rfl
theorem nSBR : f6.nat = none := rfl
theorem lAWK : ap 7 = some f7 := rfl
theorem mAWK : f7.pure = true := rfl
theorem nAWK : f7.nat = none := rfl
theorem lDRN : ap 8 = some f8 := rfl
theorem mDRN : f8.pure = true := rfl
theorem nDRN : f8.nat = none := rfl
theorem lVW : ap 9 = some f9 := rfl
theorem mVW : f9.pure = true := rfl
theorem nVW : f9.nat = none := rfl
theorem lSBS : ap 12 = some f12 := rfl
theorem mSBS : f12.pure = true := rfl
theorem nSBS : f12.nat = none := rfl
theorem lSMB : ap 13 = some f13 := rfl
theorem mSMB : f13.pure = true := rfl
theorem nSMB : f13.nat = none := rfl
theorem lSTG : ap 10 = some f10 := rfl
theorem mSTG : f10.pure = false := rfl
theorem nSTG : f10.nat = none := rfl
theorem lALL : ap 11 = some f11 := rfl
theorem mALL : f11.pure = true := rfl
theorem nALL : f11.nat = none := rfl
theorem same_bytesL (fa fb : Bool) (l : List Int) (hl : l.length ≤ 4096) : E ap 13 [.imm fa l.length (l.flatMap u8T), .imm fb l.length (l.flatMap u8T)] (.bool true) := by
  obtain ⟨v', h, hu⟩ := (same_bytes l hl).up (args' := [.imm fa l.length (l.flatMap u8T), .imm fb l.length (l.flatMap u8T)]) (UpL.cons (upT_imm (fun e => by cases e) (UpL.refl _)) (UpL.cons (upT_imm (fun e => by cases e) (UpL.refl _)) (UpL.refl _)))
  rw [UpT.bool hu] at h
  exact h
theorem awake_runs : evF ap 400 7 [] = some (.bool true) := by kernel_rfl
theorem Pure.DrainKeeps (a0 : Core) (a1 : Coh) (a2 : Tick) (h0 : Core.wf a0) (h1 : Coh.wf a1) (h2 : Tick.wf a2) :
    ∃ k, evF ap k 3 [T.agg (a0.enc), T.agg (a1.enc), T.agg (a2.enc)] = some (.bool true) := by
  refine E.get ?_
  rw [coh_enc]
  have hcc := core_c a0 h0
  have hcd := core_d a0 h0
  have hca := core_a a0 h0
  have hac := arch_conf a0.a h0.2.1
  have hae := arch_eq a0.a
  have hwf : ∀ s ∈ a0.sb, s.wf := h0.2.2.2.2.2.2.2.2.2.2.2.2.2.2.2.2.1.2
  obtain ⟨tl, ts, tp, dr, tg⟩ := a2
  rw [show Tick.enc ⟨tl, ts, tp, dr, tg⟩ = [T.int .u32 tl, T.int .u32 ts, T.int .i64 tp, T.bool dr, T.int .i64 tg] from rfl]
  generalize a0.sb = l at *
  generalize a0.a.enc = ae at *
  generalize a0.enc = cs at *
  refine E_body (F := f3) rfl rfl rfl ?_
  have hbody : f3.body = f3.body := rfl
  conv at hbody => rhs; rw [f3]
  simp only [← zCore_is] at hbody
  rw [hbody]
  clear hbody
  generalize hs0 : (_ : List T) ++ List.replicate _ T.undef = s0
  have e0 : s0.length = 110 ∧ rho s0 (.tmp 0) = .agg cs ∧ rho s0 (.tmp 1) = .agg [memT a1, cachT a1] ∧ rho s0 (.tmp 2) = .agg [T.int .u32 tl, T.int .u32 ts, T.int .i64 tp, T.bool dr, T.int .i64 tg] := by subst hs0; exact ⟨rfl, rfl, rfl, rfl⟩
  clear hs0
  obtain ⟨hl, e0, e1, e2⟩ := e0
  have hcw := hcd
  obtain ⟨hlen, hst, ⟨f107, c107⟩, _, _⟩ := hcd
  have hleaf := still_leaf hst
  have hccs : cut cs 0 112 = cs := by unfold cut; rw [List.drop_zero, List.take_of_length_le (by omega)]
  have hleaf2 : allLeaf [memT a1, cachT a1] = true := rfl
  have hleaf3 : allLeaf [T.int .u32 tl, T.int .u32 ts, T.int .i64 tp, T.bool dr, T.int .i64 tg] = true := rfl
  have htc : cut [T.int .u32 tl, T.int .u32 ts, T.int .i64 tp, T.bool dr, T.int .i64 tg] 0 5 = [T.int .u32 tl, T.int .u32 ts, T.int .i64 tp, T.bool dr, T.int .i64 tg] := rfl
  have hcut : ∀ x y : T, cut [x, y] 0 2 = [x, y] := fun _ _ => rfl
  have hsp2 : ∀ x y : T, splice [T.imm true 0 [], T.imm true 0 []] 0 [x, y] = [x, y] := fun _ _ => rfl
  have hspz : ∀ c : List T, c.length = 112 → splice zCore 0 c = c := fun c h => splice_all (by rw [h]; rfl)
  have hzl := zCore_len
  have hzf := zCore_leaf
  have hmt : memT a1 = .imm false a1.mem.length (a1.mem.flatMap u8T) := rfl
  have hct : cachT a1 = .imm false a1.caches.length (a1.caches.flatMap Cache.enc) := rfl
  obtain ⟨v, hLt, b1, rfl, hb1⟩ := law_light cs hcc a1 h1
  obtain ⟨n1, c1⟩ := hLt.call lLGT (fun g => by
    unfold frzL
    rw [show frzDepth = 12 from rfl]
    simp only [frzAll, frzA12 hst, frzA12 (l := [memT a1, cachT a1]) rfl, List.append_nil])
  obtain ⟨n9, c9⟩ := (E_of awake_runs).call lAWK (fun g => rfl)
  have q9 := c9 n9 (Nat.le_refl _)
  generalize zCore = zc at *
  refine W_cut (fun st => st.s.length = 110 ∧ rho st.s (.tmp 3) = .ptr 0 0 ∧ rho st.s (.tmp 4) = .ptr 1 0 ∧ rho st.s (.tmp 5) = .ptr 2 0 ∧ st.g 0 = some cs ∧ st.g 1 = some [memT a1, cachT a1] ∧ st.g 2 = some [T.int .u32 tl, T.int .u32 ts, T.int .i64 tp, T.bool dr, T.int .i64 tg] ∧ 3 ≤ st.nx) (W_region (fun k => by simp +decide (disch := first | omega | simp +decide only [List.length_set, hl]) only [sa, simprocAttr, hps, e0, e1, e2, hleaf, hleaf2, hleaf3]; rfl) ⟨rfl, ?_⟩) ?_
  · refine ⟨?_, ?_, ?_, ?_, ?_, ?_, ?_, by show 3 ≤ 0 + 4; omega⟩ <;> simp +decide (disch := first | omega | simp +decide only [List.length_set, hl]) only [sa, simprocAttr, hps, hl]
  clear hl e0 e1 e2
  rintro st ⟨hl, h3, h4, h5, g0, g1, g2, hnx⟩
  have aw : ∀ z : St, z.s.length = 110 → W ap (.seq (.region [⟨some 37, .call 7 [], none⟩, ⟨some 6, .mv (.tmp 37), none⟩] []) .ret) z (fun e st => e ≠ .normal ∧ (e.leaves = true ∧ ∃ u ids, resT st.s st.g f3.res = some u ∧ frz ⟨st.g, st.nx⟩ frzDepth u = some (.bool true, ids))) := by
    intro z hl
    refine W_seqn (W_regionN ⟨n9, by simp +decide (disch := first | omega | simp +decide only [List.length_set, hl]) only [sa, simprocAttr, hps, lAWK, mAWK, nAWK, q9]; rfl⟩ ⟨rfl, W_ret ⟨by simp, ?_⟩⟩)
    refine fin_of (F := f3) rfl (fun _ => rfl) ?_
    simp +decide (disch := first | omega | simp +decide only [List.length_set, hl]) only [sa, simprocAttr]
  cases b1 with
  | false =>
    have q1 := c1 n1 (Nat.le_refl _)
    refine W_seq (W_seqn (W_regionN ⟨n1, by simp +decide (disch := first | omega | simp +decide only [List.length_set, hl]) only [sa, simprocAttr, hps, h3, h4, g0, g1, hlen, hccs, hcut, lLGT, mLGT, nLGT, q1]; rfl⟩ ⟨rfl, W_tru ((aw _ ?_).mono (fun e s h => .inr h))⟩))
    simp +decide (disch := first | omega | simp +decide only [List.length_set, hl]) only [sa, simprocAttr, hps, hl]
  | true =>
    have hok := hb1 rfl
    obtain ⟨v, hRt, b2, rfl, hb2⟩ := ref_right41 a1 hok
    obtain ⟨n2, c2⟩ := hRt.call lRGT (fun g => rfl)
    obtain ⟨v, hSb, b3, rfl, hb3⟩ := ref_sbright a1 hok.2.1 f107 l hwf
    obtain ⟨n3, c3⟩ := hSb.call lSBR (fun g => rfl)
    have q1 := c1 (n1 + n2 + n3) (by omega)
    have q2 := c2 (n1 + n2 + n3) (by omega)
    have q3 := c3 (n1 + n2 + n3) (by omega)
    cases b2 with
    | false =>
      refine W_seq (W_seqn (W_regionN ⟨n1 + n2 + n3, by simp +decide (disch := first | omega | simp +decide only [List.length_set, hl]) only [sa, simprocAttr, hps, h3, h4, g0, g1, hlen, hccs, hcut, lLGT, mLGT, nLGT, q1, lRGT, mRGT, nRGT, q2]; rfl⟩ ⟨rfl, W_tru ((aw _ ?_).mono (fun e s h => .inr h))⟩))
      simp +decide (disch := first | omega | simp +decide only [List.length_set, hl]) only [sa, simprocAttr, hps, hl]
    | true =>
      have hgd : Good a1 := ⟨hok, hb2 rfl⟩
      have h1c : 0 < a1.caches.length := hgd.2.2.1
      have e1 : ((a1.caches.length : Int) == 0) = false := beq_eq_false_iff_ne.mpr (by omega)
      cases b3 with
      | false =>
        rw [hct] at g1 q1 q2
        refine W_seq (W_seqn (W_regionN ⟨n1 + n2 + n3, by simp +decide (disch := first | omega | simp +decide only [List.length_set, hl]) only [sa, simprocAttr, hps, h3, h4, g0, g1, c107, hlen, hccs, hcut, e1, lLGT, mLGT, nLGT, q1, lRGT, mRGT, nRGT, q2, lSBR, mSBR, nSBR, q3]; rfl⟩ ⟨rfl, W_tru ((aw _ ?_).mono (fun e s h => .inr h))⟩))
        simp +decide (disch := first | omega | simp +decide only [List.length_set, hl]) only [sa, simprocAttr, hps, hl]
      | true =>
        obtain ⟨hl8, hsok⟩ := hb3 rfl
        obtain ⟨v, hV, f9, rfl⟩ := ref_view41 a1 hok
        have hvl := viewM_len a1
        have hml := hok.2.1
        obtain ⟨v, hD, fw, rfl⟩ := ref_drain f107 l (by omega) f9 (viewM a1) (by omega) (by rw [hvl]; exact hsok)
        obtain ⟨v, hS, cs2, l2, m2, x2, y2, line, okb, rfl, hcd2, hgd2, hlx2, hm2, hk2, hcu2, hno, hyes⟩ := drain_stage hgd h1c (lax_strict a1) cs l hcw (by omega) hsok (.int .u32 tl) (.int .u32 ts) (.int .i64 tp) (.int .i64 tg) dr rfl
        have hl2 : l2.length ≤ 8 ∧ (∀ s ∈ l2, sbOk m2.mem.length s) ∧ drL l2 (viewM m2) = drL l (viewM a1) := by
          rw [hm2]
          cases okb with
          | false => obtain ⟨rfl, e⟩ := hno rfl; exact ⟨hl8, hsok, by rw [e]⟩
          | true =>
            obtain ⟨s, rfl, e⟩ := hyes rfl
            exact ⟨by simp at hl8; omega, fun s' h' => hsok s' (List.mem_cons_of_mem _ h'), by rw [e]; rfl⟩
        obtain ⟨hl28, hsok2, hwant2⟩ := hl2
        obtain ⟨v, hA, cs3, m3, x3, y3, rfl, hcd3, hgd3, hlx3, hv3, hcu3⟩ := drain_all hgd2 (by omega) hlx2 cs2 l2 hcd2 (by omega) hsok2
        have hvl2 : (viewM m2).length = (viewM a1).length := by rw [viewM_len, viewM_len, hm2]
        obtain ⟨N9, f92, q92⟩ := view9_lax hgd2.1 hlx2
        obtain ⟨N93, f93, q93⟩ := view9_lax hgd3.1 hlx3
        have hcd2' := hcd2
        have hcd3' := hcd3
        obtain ⟨hlen2, hst2, ⟨fl2, c2107⟩, _, _⟩ := hcd2'
        obtain ⟨hlen3, hst3, ⟨fl3, c3107⟩, _, _⟩ := hcd3'
        obtain ⟨v, hD2, fd2, rfl⟩ := ref_drain fl2 l2 (by omega) f92 (viewM m2) (by omega) (by rw [viewM_len]; exact hsok2)
        have hW : (drL l (viewM a1)).length = (viewM a1).length := drL_len _ _
        rw [hwant2, hvl2] at hD2
        rw [hv3, hwant2] at q93
        rw [← hW] at hD hD2
        obtain ⟨nA, cA⟩ := hD.call lDRN (fun g => rfl)
        obtain ⟨nV, cV⟩ := hV.call lVW (fun g => rfl)
        obtain ⟨nD2, cD2⟩ := hD2.call lDRN (fun g => rfl)
        have hWl : (drL l (viewM a1)).length ≤ 4096 := by omega
        obtain ⟨nB1, cB1⟩ := (same_bytesL fd2 fw (drL l (viewM a1)) hWl).call lSMB (fun g => rfl)
        obtain ⟨nB2, cB2⟩ := (same_bytesL f93 fw (drL l (viewM a1)) hWl).call lSMB (fun g => rfl)
        obtain ⟨nS, cS⟩ := (hS).call (fun g => by
          unfold frzL
          rw [show frzDepth = 12 from rfl]
          simp only [frzAll, frzA12 hst, frzA12 (l := [memT a1, cachT a1]) rfl, frzI12, frzA12 (l := [T.int .u32 tl, T.int .u32 ts, T.int .i64 tp, T.bool dr, T.int .i64 tg]) rfl, List.append_nil])
        have hxy2 := lax_still hlx2
        obtain ⟨nL, cL⟩ := (hA).call lALL (fun g => by
          unfold frzL
          rw [show frzDepth = 12 from rfl]
          simp only [frzAll, frzA12 hst2, frzA12 hxy2, frzI12, List.append_nil])
        rw [hvl2, ← hW] at q92
        rw [← hW] at cV
        have qV := cV (nA + nV) (by omega)
        have qA := cA (nA + nV) (by omega)
        have qS := cS nS (Nat.le_refl _)
        have qL := cL nL (Nat.le_refl _)
        have hlf2 := lax_leaf hlx2
        have hlf3 := lax_leaf hlx3
        have hleaf2' := still_leaf hst2
        have hleaf3' := still_leaf hst3
        have hspz2 := hspz _ hlen2
        have hspz3 := hspz _ hlen3
        have hccs2 : cut cs2 0 112 = cs2 := by unfold cut; rw [List.drop_zero, List.take_of_length_le (by omega)]
        have hca2 : cut cs2 22 30 = ae := hcu2.trans hca
        have hsm1 : still1 (memT a1) = true := rfl
        have hsm2 : still1 (cachT a1) = true := rfl
        have hctI : cachT a1 = .imm false a1.caches.length (a1.caches.flatMap Cache.enc) := hct
        have q92 := q92 (N9 + nD2 + nB1 + N93 + nB2 + n9) (by omega)
        have q93 := q93 (N9 + nD2 + nB1 + N93 + nB2 + n9) (by omega)
        have qD2 := cD2 (N9 + nD2 + nB1 + N93 + nB2 + n9) (by omega)
        have qB1 := cB1 (N9 + nD2 + nB1 + N93 + nB2 + n9) (by omega)
        have qB2 := cB2 (N9 + nD2 + nB1 + N93 + nB2 + n9) (by omega)
        have q9 := c9 (N9 + nD2 + nB1 + N93 + nB2 + n9) (by omega)
        generalize (drL l (viewM a1)).flatMap u8T = wb at *
        generalize (drL l (viewM a1)).length = wl at *
        have hsbs := fun (h : l2 = l) => (same_sbs fl2 f107 l hwf (by omega)).call lSBS (fun g => rfl)
        have hnl : okb = true → l.length = l2.length + 1 := fun h => by obtain ⟨s, rfl, _⟩ := hyes h; rfl
        have hnol : okb = false → l2 = l := fun h => (hno h).1
        rw [hct] at g1 q1 q2
        refine W_seqn (W_cut (fun st => st.s.length = 110 ∧ rho st.s (.tmp 3) = .ptr 0 0 ∧ rho st.s (.tmp 4) = .ptr 1 0 ∧ rho st.s (.tmp 5) = .ptr 2 0 ∧ rho st.s (.tmp 36) = .bool false ∧ st.g 0 = some cs ∧ st.g 1 = some [memT a1, cachT a1] ∧ st.g 2 = some [T.int .u32 tl, T.int .u32 ts, T.int .i64 tp, T.bool dr, T.int .i64 tg] ∧ 3 ≤ st.nx) (W_regionN ⟨n1 + n2 + n3, by simp +decide (disch := first | omega | simp +decide only [List.length_set, hl]) only [sa, simprocAttr, hps, h3, h4, g0, g1, c107, hlen, hccs, hcut, e1, lLGT, mLGT, nLGT, q1, lRGT, mRGT, nRGT, q2, lSBR, mSBR, nSBR, q3]; rfl⟩ ⟨rfl, ?_, ?_, ?_, ?_, ?_, ?_, ?_, ?_, ?_⟩) ?_)
        case refine_7 => rw [hctI]; simp +decide (disch := first | omega | simp +decide only [List.length_set, hl]) only [sa, simprocAttr, hps, g1]
        case refine_9 => show 3 ≤ st.nx + 23; omega
        case refine_10 =>
          clear hl h3 h4 h5 g0 g1 g2 hnx q1 q2 q3 c1 c2 c3
          rintro st ⟨hl, h3, h4, h5, h36, g0, g1, g2, hnx⟩
          refine W_false h36 (W_skip ⟨rfl, ?_⟩)
          refine W_cut (fun st => st.s.length = 110 ∧ rho st.s (.tmp 3) = .ptr 0 0 ∧ rho st.s (.tmp 4) = .ptr 1 0 ∧ rho st.s (.tmp 5) = .ptr 2 0 ∧ rho st.s (.tmp 7) = .imm fw wl wb ∧ st.g 0 = some cs ∧ st.g 1 = some [memT a1, cachT a1] ∧ st.g 2 = some [T.int .u32 tl, T.int .u32 ts, T.int .i64 tp, T.bool dr, T.int .i64 tg] ∧ 3 ≤ st.nx) (W_regionN ⟨nA + nV, by simp +decide (disch := first | omega | simp +decide only [List.length_set, hl]) only [sa, simprocAttr, hps, h3, h4, g0, g1, c107, hlen, hcut, lVW, mVW, nVW, qV, lDRN, mDRN, nDRN, qA]; rfl⟩ ⟨rfl, ?_, ?_, ?_, ?_, ?_, ?_, ?_, ?_, ?_⟩) ?_
          case refine_9 => show 3 ≤ st.nx + 6; omega
          case refine_10 =>
            clear hl h3 h4 h5 h36 g0 g1 g2 hnx qV qA
            rintro st ⟨hl, h3, h4, h5, h7, g0, g1, g2, hnx⟩
            refine W_cut (fun st => st.s.length = 110 ∧ rho st.s (.tmp 3) = .ptr 0 0 ∧ rho st.s (.tmp 7) = .imm fw wl wb ∧ rho st.s (.tmp 11) = .bool okb ∧ st.g 0 = some cs ∧ ∃ p q, 3 ≤ p ∧ p < st.nx ∧ 3 ≤ q ∧ q < st.nx ∧ rho st.s (.tmp 8) = .ptr p 0 ∧ st.g p = some cs2 ∧ rho st.s (.tmp 9) = .ptr q 0 ∧ st.g q = some [x2, y2]) (W_regionN ⟨nS, by simp +decide (disch := first | omega | simp +decide only [List.length_set, hl]) only [sa, simprocAttr, hps, h3, h4, h5, g0, g1, g2, hlen, hccs, hcut, htc, hzl, hzf, hlen2, hleaf2', hlf2, hspz2, hsp2, lSTG, mSTG, nSTG, T.still, stI, stB, List.all_cons, List.all_nil, hst, hsm1, hsm2, qS]; rfl⟩ ⟨rfl, ?_, ?_, ?_, ?_, ?_, st.nx + 9, st.nx + 10, by omega, ?_, by omega, ?_, ?_, ?_, ?_, ?_⟩) ?_
            case refine_6 => show st.nx + 9 < st.nx + 15; omega
            case refine_7 => show st.nx + 10 < st.nx + 15; omega
            case refine_5 =>
              have k1 : (0 = st.nx + 9) = False := eq_false (by omega)
              have k2 : (0 = st.nx + 10) = False := eq_false (by omega)
              simp +decide (disch := first | omega | simp +decide only [List.length_set, hl]) only [sa, simprocAttr, hps, k1, k2, g0]
            case refine_12 =>
              clear hl h3 h4 h5 h7 g0 g1 g2 hnx qS
              rintro st ⟨hl, h3, h7, h11, g0, p, q, hp1, hp2, hq1, hq2, h8, gp, h9, gq⟩
              refine W_cut (fun st => st.s.length = 110 ∧ rho st.s (.tmp 3) = .ptr 0 0 ∧ rho st.s (.tmp 7) = .imm fw wl wb ∧ rho st.s (.tmp 11) = .bool okb ∧ st.g 0 = some cs ∧ rho st.s (.tmp 8) = .ptr p 0 ∧ st.g p = some cs2 ∧ rho st.s (.tmp 9) = .ptr q 0 ∧ st.g q = some [x2, y2] ∧ ∃ r u, rho st.s (.tmp 12) = .ptr r 0 ∧ st.g r = some cs3 ∧ rho st.s (.tmp 13) = .ptr u 0 ∧ st.g u = some [x3, y3]) (W_regionN ⟨nL, by simp +decide (disch := first | omega | simp +decide only [List.length_set, hl]) only [sa, simprocAttr, hps, h8, h9, gp, gq, hlen2, hccs2, hcut, hzl, hzf, hlen3, hleaf3', hlf3, hspz3, hsp2, lALL, mALL, nALL, qL]; rfl⟩ ⟨rfl, ?_, ?_, ?_, ?_, ?_, ?_, ?_, ?_, ?_, st.nx + 6, st.nx + 7, ?_, ?_, ?_, ?_⟩) ?_
              case refine_5 =>
                have k1 : (0 = st.nx + 6) = False := eq_false (by omega)
                have k2 : (0 = st.nx + 7) = False := eq_false (by omega)
                simp +decide (disch := first | omega | simp +decide only [List.length_set, hl]) only [sa, simprocAttr, hps, k1, k2, g0]
              case refine_7 =>
                have k1 : (p = st.nx + 6) = False := eq_false (by omega)
                have k2 : (p = st.nx + 7) = False := eq_false (by omega)
                simp +decide (disch := first | omega | simp +decide only [List.length_set, hl]) only [sa, simprocAttr, hps, k1, k2, gp]
              case refine_9 =>
                have k1 : (q = st.nx + 6) = False := eq_false (by omega)
                have k2 : (q = st.nx + 7) = False := eq_false (by omega)
                simp +decide (disch := first | omega | simp +decide only [List.length_set, hl]) only [sa, simprocAttr, hps, k1, k2, gq]
              case refine_14 =>
                clear hl h3 h7 h11 g0 h8 gp h9 gq qL
                rintro st ⟨hl, h3, h7, h11, g0, h8, gp, h9, gq, r, u, h12, gr, h13, gu⟩
                refine W_seqn (W_cut (fun st => st.s.length = 110 ∧ rho st.s (.tmp 3) = .ptr 0 0 ∧ rho st.s (.tmp 7) = .imm fw wl wb ∧ st.g 0 = some cs ∧ rho st.s (.tmp 8) = .ptr p 0 ∧ st.g p = some cs2 ∧ rho st.s (.tmp 9) = .ptr q 0 ∧ st.g q = some [x2, y2] ∧ rho st.s (.tmp 12) = .ptr r 0 ∧ st.g r = some cs3 ∧ rho st.s (.tmp 13) = .ptr u 0 ∧ st.g u = some [x3, y3] ∧ rho st.s (.tmp 80) = .bool false) ?_ ?_)
                · cases okb with
                  | false =>
                    obtain rfl := hnol rfl
                    obtain ⟨nQ, cQ⟩ := hsbs rfl
                    have qQ := cQ nQ (Nat.le_refl _)
                    refine W_regionN ⟨nQ, by simp +decide (disch := first | omega | simp +decide only [List.length_set, hl]) only [sa, simprocAttr, hps, h3, h8, h11, g0, gp, c107, c2107, hlen, hlen2, lSBS, mSBS, nSBS, qQ]; rfl⟩ ⟨rfl, ?_, ?_, ?_, ?_, ?_, ?_, ?_, ?_, ?_, ?_, ?_, ?_, ?_⟩ <;> simp +decide (disch := first | omega | simp +decide only [List.length_set, hl]) only [sa, simprocAttr, hps, hl, h3, h7, h8, h9, h12, h13, g0, gp, gq, gr, gu]
                  | true =>
                    have hll := hnl rfl
                    have w1 : IntKind.i64.wrap ((l2.length : Int) + 1) = (l.length : Int) := by rw [wrap_id (by omega)]; omega
                    have hnn : ((l.length : Int) != (l.length : Int)) = false := by simp
                    refine W_region (fun k => by simp +decide (disch := first | omega | simp +decide only [List.length_set, hl]) only [sa, simprocAttr, hps, h3, h8, h11, g0, gp, c107, c2107, hlen, hlen2, w1, hnn]; rfl) ⟨rfl, ?_, ?_, ?_, ?_, ?_, ?_, ?_, ?_, ?_, ?_, ?_, ?_, ?_⟩ <;> simp +decide (disch := first | omega | simp +decide only [List.length_set, hl]) only [sa, simprocAttr, hps, hl, h3, h7, h8, h9, h12, h13, g0, gp, gq, gr, gu]
                · clear hl h3 h7 h11 g0 h8 gp h9 gq h12 gr h13 gu
                  rintro st ⟨hl, h3, h7, g0, h8, gp, h9, gq, h12, gr, h13, gu, h80⟩
                  refine W_false h80 (W_skip ⟨rfl, ?_⟩)
                  have hl0 : ((([] : List Sb).length : Int) == 0) = true := rfl
                  generalize ([] : List Sb).length = ln0 at *
                  generalize ([] : List Sb).flatMap Sb.enc = lc0 at *
                  generalize l2.flatMap Sb.enc = lc2 at *
                  refine W_seqn (W_regionN ⟨N9 + nD2 + nB1 + N93 + nB2 + n9, by simp +decide (disch := first | omega | simp +decide only [List.length_set, hl]) only [sa, simprocAttr, hps, h3, h7, h8, h9, h12, h13, g0, gp, gq, gr, gu, hlen, hlen2, hlen3, c2107, c3107, hl0, hcut, hca, hca2, hac, hae, lVW, mVW, nVW, q92, q93, lDRN, mDRN, nDRN, qD2, lSMB, mSMB, nSMB, qB1, qB2, lAWK, mAWK, nAWK, q9]; rfl⟩ ⟨rfl, W_ret ?_⟩)
                  refine fin_of (F := f3) rfl (fun _ => rfl) ?_
                  simp +decide (disch := first | omega | simp +decide only [List.length_set, hl]) only [sa, simprocAttr]
              all_goals simp +decide (disch := first | omega | simp +decide only [List.length_set, hl]) only [sa, simprocAttr, hps, hl, h3, h7, h8, h9, h11]
            all_goals simp +decide (disch := first | omega | simp +decide only [List.length_set, hl]) only [sa, simprocAttr, hps, hl, h3, h7]
          all_goals simp +decide (disch := first | omega | simp +decide only [List.length_set, hl]) only [sa, simprocAttr, hps, hl, h3, h4, h5, g0, g1, g2]
        all_goals simp +decide (disch := first | omega | simp +decide only [List.length_set, hl]) only [sa, simprocAttr, hps, hl, h3, h4, h5, g0, g2]
end Go.Proofs.Ytabfinhkoihhfaa.Abs
