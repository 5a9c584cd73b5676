/- Any core, and memory, behind a stage of draining: the law's walk. -/
import Derived.Test.YtabfinhkoihhfaaGreatCor
namespace Go.Proofs.YtabfinhkoihhfaaGreat.Abs
open Go Go.RowKit Fn
set_option linter.unusedVariables false
set_option linter.unusedSimpArgs false
set_option linter.unnecessarySimpa false
set_option maxRecDepth 100000
set_option maxHeartbeats 4000000

theorem l5 : ap 5 = some f5 := rfl
theorem m5 : f5.pure = true := rfl
theorem k5 : f5.nat = none := rfl
theorem l6 : ap 6 = some f6 := rfl
theorem m6 : f6.pure = true := rfl
theorem k6 : f6.nat = none := rfl
theorem l8 : ap 8 = some f8 := rfl
theorem m8 : f8.pure = true := rfl
theorem k8 : f8.nat = none := rfl
theorem l9 : ap 9 = some f9 := rfl
theorem m9 : f9.pure = true := rfl
theorem k9 : f9.nat = none := rfl
theorem l10 : ap 10 = some f10 := rfl
theorem m10 : f10.pure = true := rfl
theorem k10 : f10.nat = none := rfl
theorem awake_runs : evF ap 400 6 [] = some (.bool true) := by kernel_rfl
theorem Pure.DrainStages (a0 : Core) (a1 : Coh) (a2 : Tick) (h0 : Core.wf a0) (h1 : Coh.wf a1) (h2 : Tick.wf a2) :
    ∃ k, evF ap k 3 [T.agg (a0.enc), T.agg (a1.enc), T.agg (a2.enc)] = some (.bool true) := by
  refine E.get ?_
  rw [coh_enc]
  have hcc := core_c a0 h0
  have hcx := core_x a0 h0
  have hst := core_still a0 h0
  have hwf : ∀ s ∈ a0.sb, s.wf := h0.2.2.2.2.2.2.2.2.2.2.2.2.2.2.2.2.1.2
  have hput := core_put a0 h0
  obtain ⟨tl, ts, tp, dr, tg⟩ := a2
  rw [show Tick.enc ⟨tl, ts, tp, dr, tg⟩ = [T.int .u32 tl, T.int .u32 ts, T.int .i64 tp, T.bool dr, T.int .i64 tg] from rfl]
  generalize a0.enc = cs at *
  refine E_body (F := f3) rfl rfl rfl ?_
  have hbody : f3.body = f3.body := rfl
  conv at hbody => rhs; rw [f3]
  rw [hbody]
  clear hbody
  generalize hs0 : (_ : List T) ++ List.replicate _ T.undef = s0
  have e0 : s0.length = 59 ∧ rho s0 (.tmp 0) = .agg cs ∧ rho s0 (.tmp 1) = .agg [memT a1, cachT a1] ∧ rho s0 (.tmp 2) = .agg [T.int .u32 tl, T.int .u32 ts, T.int .i64 tp, T.bool dr, T.int .i64 tg] := by subst hs0; exact ⟨rfl, rfl, rfl, rfl⟩
  clear hs0
  obtain ⟨hl, e0, e1, e2⟩ := e0
  have hlen := hcx.1
  have hleaf := still_leaf hst
  have hccs : cut cs 0 112 = cs := cut_all hlen
  have hleaf2 : allLeaf [memT a1, cachT a1] = true := rfl
  have hleaf3 : allLeaf [T.int .u32 tl, T.int .u32 ts, T.int .i64 tp, T.bool dr, T.int .i64 tg] = true := rfl
  have htc : cut [T.int .u32 tl, T.int .u32 ts, T.int .i64 tp, T.bool dr, T.int .i64 tg] 0 5 = [T.int .u32 tl, T.int .u32 ts, T.int .i64 tp, T.bool dr, T.int .i64 tg] := rfl
  have hcut : ∀ x y : T, cut [x, y] 0 2 = [x, y] := fun _ _ => rfl
  have hsp2 : ∀ x y : T, splice [T.imm true 0 [], T.imm true 0 []] 0 [x, y] = [x, y] := fun _ _ => rfl
  have hspz : ∀ c : List T, c.length = 112 → splice zK0 0 c = c := fun c h => splice_all (by rw [h]; rfl)
  have hzl := zCore_len
  have hzf := zCore_leaf
  obtain ⟨v, hLt, b1, rfl, hb1⟩ := law_light cs hcc a1 h1
  obtain ⟨n1, c1⟩ := hLt.call l5 (fun g => by
    unfold frzL
    rw [show frzDepth = 12 from rfl]
    simp only [frzAll, frzA12 hst, frzA12 (l := [memT a1, cachT a1]) rfl, List.append_nil])
  have q1 := c1 n1 (Nat.le_refl _)
  obtain ⟨n9, c9⟩ := (E_of awake_runs).call l6 (fun g => rfl)
  have q9 := c9 n9 (Nat.le_refl _)
  generalize zK0 = zc at *
  refine W_cut (fun st => st.s.length = 59 ∧ rho st.s (.tmp 3) = .ptr 0 0 ∧ rho st.s (.tmp 4) = .ptr 1 0 ∧ rho st.s (.tmp 5) = .ptr 2 0 ∧ st.g 0 = some cs ∧ st.g 1 = some [memT a1, cachT a1] ∧ st.g 2 = some [T.int .u32 tl, T.int .u32 ts, T.int .i64 tp, T.bool dr, T.int .i64 tg] ∧ st.nx = 4) (W_region (fun k => by simp +decide (disch := first | omega | simp +decide [hl]) only [s9, simprocAttr, e0, e1, e2, hleaf, hleaf2, hleaf3]; rfl) ⟨rfl, ?_⟩) ?_
  · refine ⟨?_, ?_, ?_, ?_, ?_, ?_, ?_, rfl⟩ <;> simp +decide (disch := first | omega | simp +decide [hl]) only [s9, simprocAttr, hl]
  clear hl e0 e1 e2
  rintro ⟨ss, gg, nx⟩ ⟨hl, h3, h4, h5, g0, g1, g2, hnx⟩
  simp only at hl h3 h4 h5 g0 g1 g2 hnx
  subst hnx
  have aw : ∀ z : St, z.s.length = 59 → W ap (.seq (.region [⟨some 19, .call 6 [], none⟩, ⟨some 6, .mv (.tmp 19), none⟩] []) .ret) z (fun e st => e ≠ .normal ∧ (e.leaves = true ∧ ∃ u ids, resT st.s st.g f3.res = some u ∧ frz ⟨st.g, st.nx⟩ frzDepth u = some (.bool true, ids))) := by
    intro z hl
    refine W_seqn (W_regionN ⟨n9, by simp +decide (disch := first | omega | simp +decide [hl]) only [s9, simprocAttr, l6, m6, k6, q9]; rfl⟩ ⟨rfl, W_ret ⟨by simp, ?_⟩⟩)
    refine fin_of (F := f3) rfl (fun _ => rfl) ?_
    simp +decide (disch := first | omega | simp +decide [hl]) only [s8, simprocAttr]
  cases b1 with
  | false =>
    refine W_seq (W_seqn (W_regionN ⟨n1, by simp +decide (disch := first | omega | simp +decide [hl]) only [s9, simprocAttr, h3, h4, g0, g1, hlen, hccs, hcut, l5, m5, k5, q1]; rfl⟩ ⟨rfl, W_tru ((aw _ ?_).mono (fun e s h => .inr h))⟩))
    simp +decide (disch := first | omega | simp +decide [hl]) only [s9, simprocAttr, hl]
  | true =>
    obtain ⟨hok, hle⟩ := hb1 rfl
    have hl20 : a0.sb.length ≤ 20 := hle _ _ _ hcx.2.2.1
    obtain ⟨hok2, hl2, hs2⟩ := stM_ok hok 0 dr a0.sb a0.wait a0.conf.memLat hwf hl20
    obtain ⟨v, hS, fa, xa, ya, rfl, hlxa⟩ := drain_stage hok (lax_strict a1) 0 cs false a0.sb a0.wait a0.conf.memLat hcx (by omega) hwf (.int .u32 tl) (.int .u32 ts) (.int .i64 tp) (.int .i64 tg) dr rfl
    obtain ⟨v, hR, fb, xb, yb, rfl, hlxb⟩ := ref_stage hok 0 cs false a0.sb a0.wait a0.conf.memLat hcx (by omega) hwf (.int .u32 tl) (.int .u32 ts) (.int .i64 tp) (.int .i64 tg) dr rfl
    rw [hput] at hS hR
    generalize (stM a1 0 dr a0.sb a0.wait a0.conf.memLat).1 = l2 at *
    generalize (stM a1 0 dr a0.sb a0.wait a0.conf.memLat).2.1 = w2 at *
    generalize (stM a1 0 dr a0.sb a0.wait a0.conf.memLat).2.2.1 = m2 at *
    generalize (stM a1 0 dr a0.sb a0.wait a0.conf.memLat).2.2.2.1 = line at *
    generalize (stM a1 0 dr a0.sb a0.wait a0.conf.memLat).2.2.2.2 = okb at *
    have hC := same_core a0 h0 fa fb l2 w2 ⟨Nat.le_trans hl2 (by decide), hs2⟩
    have hM := same_cohU m2 hok2 hlxa hlxb
    have hLa := core_len a0 h0 fa l2 w2
    have hLb := core_len a0 h0 fb l2 w2
    have hSa := core_stillF a0 h0 fa l2 w2
    have hSb := core_stillF a0 h0 fb l2 w2
    generalize coreF a0 fa l2 w2 = ca at *
    generalize coreF a0 fb l2 w2 = cb at *
    have hFa := still_leaf hSa
    have hFb := still_leaf hSb
    have hza := hspz _ hLa
    have hzb := hspz _ hLb
    have hca : cut ca 0 112 = ca := cut_all hLa
    have hcb : cut cb 0 112 = cb := cut_all hLb
    have hlfa := lax_leaf hlxa
    have hlfb := lax_leaf hlxb
    obtain ⟨nS, qS⟩ := hS.call (fun g => by
      unfold frzL
      rw [show frzDepth = 12 from rfl]
      simp only [frzAll, frzA12 hst, frzA12 (l := [memT a1, cachT a1]) rfl, frzA12 (l := [T.int .u32 tl, T.int .u32 ts, T.int .i64 tp, T.bool dr, T.int .i64 tg]) rfl, frzI12, List.append_nil])
    have qS := qS nS (Nat.le_refl _)
    obtain ⟨nR, qR⟩ := hR.call l8 (fun g => by
      unfold frzL
      rw [show frzDepth = 12 from rfl]
      simp only [frzAll, frzA12 hst, frzA12 (l := [memT a1, cachT a1]) rfl, frzA12 (l := [T.int .u32 tl, T.int .u32 ts, T.int .i64 tp, T.bool dr, T.int .i64 tg]) rfl, frzI12, List.append_nil])
    have qR := qR nR (Nat.le_refl _)
    obtain ⟨nC, qC⟩ := hC.call l9 (fun g => by
      unfold frzL
      rw [show frzDepth = 12 from rfl]
      simp only [frzAll, frzA12 hSa, frzA12 hSb, List.append_nil])
    obtain ⟨nM, qM⟩ := hM.call l10 (fun g => coh_frzL hlxa hlxb g)
    have qC := qC (nC + nM + n9) (by omega)
    have qM := qM (nC + nM + n9) (by omega)
    have q9 := c9 (nC + nM + n9) (by omega)
    have hsm1 : still1 (memT a1) = true := rfl
    have hsm2 : still1 (cachT a1) = true := rfl
    refine W_seqn (W_seqn (W_regionN ⟨n1, by simp +decide (disch := first | omega | simp +decide [hl]) only [s9, simprocAttr, h3, h4, g0, g1, hlen, hccs, hcut, l5, m5, k5, q1]; rfl⟩ ⟨rfl, W_fls (W_skip ⟨rfl, ?_⟩)⟩))
    refine W_cut (fun st => st.s.length = 59 ∧ rho st.s (.tmp 3) = .ptr 0 0 ∧ rho st.s (.tmp 4) = .ptr 1 0 ∧ rho st.s (.tmp 5) = .ptr 2 0 ∧ rho st.s (.tmp 7) = .ptr 17 0 ∧ rho st.s (.tmp 8) = .ptr 18 0 ∧ rho st.s (.tmp 9) = .int .u32 line ∧ rho st.s (.tmp 10) = .bool okb ∧ st.g 0 = some cs ∧ st.g 1 = some [memT a1, cachT a1] ∧ st.g 2 = some [T.int .u32 tl, T.int .u32 ts, T.int .i64 tp, T.bool dr, T.int .i64 tg] ∧ st.g 17 = some ca ∧ st.g 18 = some [xa, ya] ∧ st.nx = 23) (W_regionN ⟨nS, by simp +decide (disch := first | omega | simp +decide [hl]) only [s9, simprocAttr, h3, h4, h5, g0, g1, g2, hlen, hccs, hcut, htc, hzl, hzf, hLa, hFa, hlfa, hza, hsp2, qSTG, rSTG, sSTG, T.still, stI, stB, List.all_cons, List.all_nil, hst, hsm1, hsm2, qS]; rfl⟩ ⟨rfl, ?_⟩) ?_
    · refine ⟨?_, ?_, ?_, ?_, ?_, ?_, ?_, ?_, ?_, ?_, ?_, ?_, ?_, rfl⟩ <;> simp +decide (disch := first | omega | simp +decide [hl]) only [s9, simprocAttr, hl, h3, h4, h5, g0, g1, g2, hza, hsp2]
    clear hl h3 h4 h5 g0 g1 g2 aw
    rintro ⟨ss, gg, nx⟩ ⟨hl, h3, h4, h5, h7, h8, h9, h10, g0, g1, g2, g17, g18, hnx⟩
    simp only at hl h3 h4 h5 h7 h8 h9 h10 g0 g1 g2 g17 g18 hnx
    subst hnx
    refine W_cut (fun st => st.s.length = 59 ∧ rho st.s (.tmp 7) = .ptr 17 0 ∧ rho st.s (.tmp 8) = .ptr 18 0 ∧ rho st.s (.tmp 9) = .int .u32 line ∧ rho st.s (.tmp 10) = .bool okb ∧ rho st.s (.tmp 11) = .ptr 32 0 ∧ rho st.s (.tmp 12) = .ptr 33 0 ∧ rho st.s (.tmp 13) = .int .u32 line ∧ rho st.s (.tmp 14) = .bool okb ∧ st.g 17 = some ca ∧ st.g 18 = some [xa, ya] ∧ st.g 32 = some cb ∧ st.g 33 = some [xb, yb]) (W_regionN ⟨nR, by simp +decide (disch := first | omega | simp +decide [hl]) only [s9, simprocAttr, h3, h4, h5, g0, g1, g2, hlen, hccs, hcut, htc, hzl, hzf, hLb, hFb, hlfb, hzb, hsp2, l8, m8, k8, qR]; rfl⟩ ⟨rfl, ?_⟩) ?_
    · refine ⟨?_, ?_, ?_, ?_, ?_, ?_, ?_, ?_, ?_, ?_, ?_, ?_, ?_⟩ <;> simp +decide (disch := first | omega | simp +decide [hl]) only [s9, simprocAttr, hl, h7, h8, h9, h10, g17, g18, hzb, hsp2]
    clear hl h3 h4 h5 h7 h8 h9 h10 g0 g1 g2 g17 g18
    rintro st ⟨hl, h7, h8, h9, h10, h11, h12, h13, h14, g17, g18, g32, g33⟩
    have ee : (line == line) = true := by simp
    cases okb
    all_goals
      refine W_seqn (W_regionN ⟨nC + nM + n9, by simp +decide (disch := first | omega | simp +decide [hl]) only [s9, simprocAttr, h7, h8, h9, h10, h11, h12, h13, h14, g17, g18, g32, g33, hLa, hLb, hca, hcb, hcut, ee, l9, m9, k9, qC, l10, m10, k10, qM, l6, m6, k6, q9]; rfl⟩ ⟨rfl, W_ret ?_⟩)
      refine fin_of (F := f3) rfl (fun _ => rfl) ?_
      simp +decide (disch := first | omega | simp +decide [hl]) only [s8, simprocAttr]
end Go.Proofs.YtabfinhkoihhfaaGreat.Abs
