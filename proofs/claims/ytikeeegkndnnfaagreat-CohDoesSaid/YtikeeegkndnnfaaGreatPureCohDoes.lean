/- Any read, any write: the law's walk. -/
import Derived.Test.YtikeeegkndnnfaaGreatAcc5
namespace Go.Proofs.YtikeeegkndnnfaaGreat.Abs
open Go Go.RowKit Fn
set_option linter.unusedVariables false
set_option linter.unusedSimpArgs false
set_option linter.unnecessarySimpa false
set_option maxRecDepth 100000
set_option maxHeartbeats 4000000

theorem qSMALL : ap 4 = some f4 := rfl
theorem rSMALL : f4.pure = true := rfl
theorem sSMALL : f4.nat = none := rfl
theorem qAWAKE : ap 5 = some f5 := rfl
theorem rAWAKE : f5.pure = true := rfl
theorem sAWAKE : f5.nat = none := rfl
theorem qREAD : ap 6 = some f6 := rfl
theorem rREAD : f6.pure = true := rfl
theorem sREAD : f6.nat = none := rfl
theorem qRREAD : ap 7 = some f7 := rfl
theorem rRREAD : f7.pure = true := rfl
theorem sRREAD : f7.nat = none := rfl
theorem qSAME : ap 8 = some f8 := rfl
theorem rSAME : f8.pure = true := rfl
theorem sSAME : f8.nat = none := rfl
theorem qWRITE : ap 9 = some f9 := rfl
theorem rWRITE : f9.pure = true := rfl
theorem sWRITE : f9.nat = none := rfl
theorem qRWRITE : ap 10 = some f10 := rfl
theorem rRWRITE : f10.pure = true := rfl
theorem sRWRITE : f10.nat = none := rfl

theorem awake_runs : evF ap 400 5 [] = some (.bool true) := by kernel_rfl
theorem Pure.CohDoes (a0 : Coh) (a1 : Acc) (h0 : Coh.wf a0) (h1 : Acc.wf a1) :
    ∃ k, evF ap k 3 [T.agg (Coh.enc a0), T.agg (Acc.enc a1)] = some (.bool true) := by
  refine E.get ?_
  obtain ⟨who, size, addr, v, wr⟩ := a1
  have ha := wf_u32 h1.2.2.1
  have hv := wf_u32 h1.2.2.2.1
  simp only at ha hv
  obtain ⟨ad, rfl⟩ : ∃ ad : Nat, addr = (ad : Int) := ⟨addr.toNat, by omega⟩
  have had : ad ≤ 4294967295 := by omega
  rw [coh_enc, show Acc.enc ⟨who, size, (ad : Int), v, wr⟩ = [T.int .i64 who, T.int .i64 size, T.int .u32 (ad : Int), T.int .u32 v, T.bool wr] from rfl]
  refine E_body (F := f3) rfl rfl rfl ?_
  generalize hs0 : (_ : List T) ++ List.replicate _ T.undef = s0
  have e0 : s0.length = 90 ∧ rho s0 (.tmp 0) = .agg [memT a0, cachT a0] ∧ rho s0 (.tmp 1) = .agg [T.int .i64 who, T.int .i64 size, T.int .u32 (ad : Int), T.int .u32 v, T.bool wr] := by subst hs0; exact ⟨rfl, rfl, rfl⟩
  clear hs0
  obtain ⟨hl, e0, e1⟩ := e0
  have hcut : cut [memT a0, cachT a0] 0 2 = [memT a0, cachT a0] := rfl
  have hleaf : allLeaf [memT a0, cachT a0] = true := rfl
  have hleaf2 : allLeaf [T.int .i64 who, T.int .i64 size, T.int .u32 (ad : Int), T.int .u32 v, T.bool wr] = true := rfl
  obtain ⟨b, h8, hsm⟩ := ref_small2 a0 h0
  obtain ⟨n8', c8⟩ := h8.call qSMALL (fun g => rfl)
  obtain ⟨n9', c9⟩ := (E_of awake_runs).call qAWAKE (fun g => rfl)
  have q8 := c8 n8' (Nat.le_refl _)
  have q9 := c9 n9' (Nat.le_refl _)
  refine W_cut (fun st => st.s.length = 90 ∧ rho st.s (.tmp 2) = .ptr 0 0 ∧ rho st.s (.tmp 3) = .ptr 1 0 ∧ st.g 0 = some [memT a0, cachT a0] ∧ st.g 1 = some [T.int .i64 who, T.int .i64 size, T.int .u32 (ad : Int), T.int .u32 v, T.bool wr] ∧ st.nx = 3) (W_region (fun k => by simp (decide := true) (disch := first | omega | simp (decide := true) only [List.length_set, hl]) only [sims, autos, simprocAttr, hps, e0, e1, hleaf, hleaf2]; rfl) ⟨rfl, ?_⟩) ?_
  · refine ⟨?_, ?_, ?_, ?_, ?_, rfl⟩ <;> simp (decide := true) (disch := first | omega | simp (decide := true) only [List.length_set, hl]) only [sims, autos, simprocAttr, hps, hl]
  clear hl e0 e1
  rintro ⟨ss, gg, nx⟩ ⟨hl, h2, h3, g0, g1, hnx⟩
  simp only at hl h2 h3 g0 g1 hnx
  subst hnx
  cases b with
  | false =>
    refine W_seq (W_seqn (W_regionN ⟨n8', by simp (decide := true) (disch := first | omega | simp (decide := true) only [List.length_set, hl]) only [sims, autos, simprocAttr, hps, h2, g0, hcut, qSMALL, rSMALL, sSMALL, q8]; rfl⟩ ⟨rfl, W_tru ?_⟩))
    refine W_seqn (W_regionN ⟨n9', by simp (decide := true) (disch := first | omega | simp (decide := true) only [List.length_set, hl]) only [sims, autos, simprocAttr, hps, qAWAKE, rAWAKE, sAWAKE, q9]; rfl⟩ ⟨rfl, W_ret ?_⟩)
    refine .inr ⟨by simp, ?_⟩
    refine fin_of (F := f3) rfl (fun _ => rfl) ?_
    simp (decide := true) (disch := first | omega | simp (decide := true) only [List.length_set, hl]) only [sims, autos, simprocAttr]
  | true =>
    have hok := ok_small h0 (hsm rfl)
    obtain ⟨u1, E1, hu1⟩ := bus_readM a0 hok who ad had size
    obtain ⟨u2, E2, hu2⟩ := ref_readM a0 hok who ad had size
    obtain ⟨u3, E3, hu3⟩ := bus_writeM a0 hok who ad had size v hv
    obtain ⟨u4, E4, hu4⟩ := ref_writeM a0 hok who ad had size v hv
    obtain ⟨N1, c1⟩ := E1.call qREAD (fun g => rfl)
    obtain ⟨N2, c2⟩ := E2.call qRREAD (fun g => rfl)
    obtain ⟨N3, c3⟩ := E3.call qWRITE (fun g => rfl)
    obtain ⟨N4, c4⟩ := E4.call qRWRITE (fun g => rfl)
    obtain ⟨NA, cA⟩ := (same_cohU _ (ok_readM hok who ad had size) hu1 hu2).call qSAME (coh_frzL hu1 hu2)
    obtain ⟨NB, cB⟩ := (same_cohU _ (ok_writeM hok who ad had size v) hu3 hu4).call qSAME (coh_frzL hu3 hu4)
    have q1 := c1 N1 (Nat.le_refl _)
    have q2 := c2 N2 (Nat.le_refl _)
    have q3 := c3 N3 (Nat.le_refl _)
    have q4 := c4 N4 (Nat.le_refl _)
    have qA := cA NA (Nat.le_refl _)
    have qB := cB (NB + n9') (by omega)
    have q9 := c9 (NB + n9') (by omega)
    generalize (readM a0 who ad size).1 = rv at *
    generalize (readM a0 who ad size).2.2 = rb at *
    generalize (writeM a0 who ad size v).2 = wb at *
    obtain ⟨p1, p2, p3, rfl, _, _⟩ := coh_parts hu1
    obtain ⟨o1, o2, o3, rfl, _, _⟩ := coh_parts hu2
    obtain ⟨j1, j2, j3, rfl, _, _⟩ := coh_parts hu3
    obtain ⟨t1, t2, t3, rfl, _, _⟩ := coh_parts hu4
    clear hu1 hu2 hu3 hu4 E1 E2 E3 E4 c1 c2 c3 c4 cA cB
    have hcx : ∀ (f f' : Bool) (n n' : Nat) (c c' : List T), cut [T.imm f n c, T.imm f' n' c'] 0 2 = [T.imm f n c, T.imm f' n' c'] := fun _ _ _ _ _ _ => rfl
    have hlx : ∀ (f f' : Bool) (n n' : Nat) (c c' : List T), allLeaf [T.imm f n c, T.imm f' n' c'] = true := fun _ _ _ _ _ _ => rfl
    generalize (readM a0 who ad size).2.1.mem.length = m1 at *
    generalize (readM a0 who ad size).2.1.mem.flatMap u8T = m2 at *
    generalize (readM a0 who ad size).2.1.caches.length = m3 at *
    generalize (writeM a0 who ad size v).1.mem.length = m4 at *
    generalize (writeM a0 who ad size v).1.mem.flatMap u8T = m5 at *
    generalize (writeM a0 who ad size v).1.caches.length = m6 at *
    generalize memT a0 = mt at *
    generalize cachT a0 = ct at *
    have hne : (rv != rv) = false := by simp
    have hbe : (rb == rb) = true := by simp
    have hbw : (wb == wb) = true := by simp
    refine W_seqn (W_seqn (W_regionN ⟨n8', by simp (decide := true) (disch := first | omega | simp (decide := true) only [List.length_set, hl]) only [sims, autos, simprocAttr, hps, h2, g0, hcut, qSMALL, rSMALL, sSMALL, q8]; rfl⟩ ⟨rfl, W_fls (W_skip ⟨rfl, ?_⟩)⟩))
    refine W_cut (fun st => st.s.length = 90 ∧ rho st.s (.tmp 2) = .ptr 0 0 ∧ rho st.s (.tmp 3) = .ptr 1 0 ∧ rho st.s (.tmp 5) = .int .u32 rv ∧ rho st.s (.tmp 6) = .ptr 18 0 ∧ rho st.s (.tmp 7) = .bool rb ∧ st.g 0 = some [mt, ct] ∧ st.g 1 = some [T.int .i64 who, T.int .i64 size, T.int .u32 (ad : Int), T.int .u32 v, T.bool wr] ∧ st.g 18 = some [T.imm p1 m1 m2, T.imm p2 m3 p3] ∧ st.nx = 22) (W_regionN ⟨N1, by simp (decide := true) (disch := first | omega | simp (decide := true) only [List.length_set, hl]) only [sims, autos, simprocAttr, hps, h2, h3, g0, g1, hcut, hlx, qREAD, rREAD, sREAD, q1]; rfl⟩ ⟨rfl, ?_⟩) ?_
    · refine ⟨?_, ?_, ?_, ?_, ?_, ?_, ?_, ?_, ?_, rfl⟩ <;> simp (decide := true) (disch := first | omega | simp (decide := true) only [List.length_set, hl]) only [sims, autos, simprocAttr, hps, hl, h2, h3, g0, g1] <;> try rfl
    clear hl h2 h3 g0 g1
    rintro ⟨ss, gg, nx⟩ ⟨hl, h2, h3, h5, h6, h7, g0, g1, g6, hnx⟩
    simp only at hl h2 h3 h5 h6 h7 g0 g1 g6 hnx
    subst hnx
    refine W_cut (fun st => st.s.length = 90 ∧ rho st.s (.tmp 2) = .ptr 0 0 ∧ rho st.s (.tmp 3) = .ptr 1 0 ∧ rho st.s (.tmp 5) = .int .u32 rv ∧ rho st.s (.tmp 6) = .ptr 18 0 ∧ rho st.s (.tmp 7) = .bool rb ∧ rho st.s (.tmp 8) = .int .u32 rv ∧ rho st.s (.tmp 9) = .ptr 34 0 ∧ rho st.s (.tmp 10) = .bool rb ∧ st.g 0 = some [mt, ct] ∧ st.g 1 = some [T.int .i64 who, T.int .i64 size, T.int .u32 (ad : Int), T.int .u32 v, T.bool wr] ∧ st.g 18 = some [T.imm p1 m1 m2, T.imm p2 m3 p3] ∧ st.g 34 = some [T.imm o1 m1 m2, T.imm o2 m3 o3]) (W_regionN ⟨N2, by simp (decide := true) (disch := first | omega | simp (decide := true) only [List.length_set, hl]) only [sims, autos, simprocAttr, hps, h2, h3, g0, g1, hcut, hlx, qRREAD, rRREAD, sRREAD, q2]; rfl⟩ ⟨rfl, ?_⟩) ?_
    · refine ⟨?_, ?_, ?_, ?_, ?_, ?_, ?_, ?_, ?_, ?_, ?_, ?_, ?_⟩ <;> simp (decide := true) (disch := first | omega | simp (decide := true) only [List.length_set, hl]) only [sims, autos, simprocAttr, hps, hl, h2, h3, h5, h6, h7, g0, g1, g6] <;> rfl
    clear hl h2 h3 h5 h6 h7 g0 g1 g6
    rintro st ⟨hl, h2, h3, h5, h6, h7, h8, h9, h10, g0, g1, g6, g9⟩
    refine W_seqn (W_seqn (W_regionN ⟨NA, by simp (decide := true) (disch := first | omega | simp (decide := true) only [List.length_set, hl]) only [sims, autos, simprocAttr, hps, h5, h6, h7, h8, h9, h10, g6, g9, hne, hbe, hcx, qSAME, rSAME, sSAME, qA]; rfl⟩ ⟨rfl, W_fls (W_skip ⟨rfl, ?_⟩)⟩))
    refine W_cut (fun s => s.s.length = 90 ∧ rho s.s (.tmp 2) = .ptr 0 0 ∧ rho s.s (.tmp 3) = .ptr 1 0 ∧ rho s.s (.tmp 6) = .ptr 18 0 ∧ rho s.s (.tmp 7) = .bool wb ∧ rho s.s (.tmp 9) = .ptr 34 0 ∧ s.g 0 = some [mt, ct] ∧ s.g 1 = some [T.int .i64 who, T.int .i64 size, T.int .u32 (ad : Int), T.int .u32 v, T.bool wr] ∧ s.g 18 = some [T.imm j1 m4 m5, T.imm j2 m6 j3] ∧ s.g 34 = some [T.imm o1 m1 m2, T.imm o2 m3 o3]) (W_regionN ⟨N3, by simp (decide := true) (disch := first | omega | simp (decide := true) only [List.length_set, hl]) only [sims, autos, simprocAttr, hps, h2, h3, h6, g0, g1, g6, hcut, hlx, qWRITE, rWRITE, sWRITE, q3]; rfl⟩ ⟨rfl, ?_⟩) ?_
    · refine ⟨?_, ?_, ?_, ?_, ?_, ?_, ?_, ?_, ?_, ?_⟩ <;> simp (decide := true) (disch := first | omega | simp (decide := true) only [List.length_set, hl]) only [sims, autos, simprocAttr, hps, hl, h2, h3, h6, h9, g0, g1, g9] <;> rfl
    clear hl h2 h3 h5 h6 h7 h8 h9 h10 g0 g1 g6 g9
    rintro st ⟨hl, h2, h3, h6, h7, h9, g0, g1, g6, g9⟩
    refine W_cut (fun s => s.s.length = 90 ∧ rho s.s (.tmp 6) = .ptr 18 0 ∧ rho s.s (.tmp 7) = .bool wb ∧ rho s.s (.tmp 9) = .ptr 34 0 ∧ rho s.s (.tmp 10) = .bool wb ∧ s.g 18 = some [T.imm j1 m4 m5, T.imm j2 m6 j3] ∧ s.g 34 = some [T.imm t1 m4 m5, T.imm t2 m6 t3]) (W_regionN ⟨N4, by simp (decide := true) (disch := first | omega | simp (decide := true) only [List.length_set, hl]) only [sims, autos, simprocAttr, hps, h2, h3, h9, g0, g1, g9, hcut, hlx, qRWRITE, rRWRITE, sRWRITE, q4]; rfl⟩ ⟨rfl, ?_⟩) ?_
    · refine ⟨?_, ?_, ?_, ?_, ?_, ?_, ?_⟩ <;> simp (decide := true) (disch := first | omega | simp (decide := true) only [List.length_set, hl]) only [sims, autos, simprocAttr, hps, hl, h6, h7, h9, g6] <;> rfl
    clear hl h2 h3 h6 h7 h9 g0 g1 g6 g9
    rintro st ⟨hl, h6, h7, h9, h10, g6, g9⟩
    refine W_seqn (W_regionN ⟨NB + n9', by simp (decide := true) (disch := first | omega | simp (decide := true) only [List.length_set, hl]) only [sims, autos, simprocAttr, hps, h6, h7, h9, h10, g6, g9, hbw, hcx, qSAME, rSAME, sSAME, qB, qAWAKE, rAWAKE, sAWAKE, q9]; rfl⟩ ⟨rfl, W_ret ?_⟩)
    refine fin_of (F := f3) rfl (fun _ => rfl) ?_
    simp (decide := true) (disch := first | omega | simp (decide := true) only [List.length_set, hl]) only [sims, autos, simprocAttr]
end Go.Proofs.YtikeeegkndnnfaaGreat.Abs
