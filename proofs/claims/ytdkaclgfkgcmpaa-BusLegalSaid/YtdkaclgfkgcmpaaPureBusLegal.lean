/- Lines remain legal and memory keeps its contents: the law's walk. -/
import Derived.Test.YtdkaclgfkgcmpaaLegal4
namespace Go.Proofs.Ytdkaclgfkgcmpaa.Abs
open Go Go.RowKit Fn
set_option linter.unusedVariables false
set_option linter.unusedSimpArgs false
set_option linter.unnecessarySimpa false
set_option maxRecDepth 100000
set_option maxHeartbeats 2000000

theorem awake_runs' : evF ap 400 9 [] = some (.bool true) := by kernel_rfl
theorem ap8s : ap 8 = some f8 := rfl
theorem p8s : f8.pure = true := rfl
theorem n8s : f8.nat = none := rfl
theorem ap9s : ap 9 = some f9 := rfl
theorem p9s : f9.pure = true := rfl
theorem n9s : f9.nat = none := rfl
theorem ap10s : ap 10 = some f10 := rfl
theorem p10s : f10.pure = true := rfl
theorem n10s : f10.nat = none := rfl
theorem ap17s : ap 17 = some f17 := rfl
theorem p17s : f17.pure = true := rfl
theorem n17s : f17.nat = none := rfl
theorem ap21s : ap 21 = some f21 := rfl
theorem p21s : f21.pure = true := rfl
theorem n21s : f21.nat = none := rfl
theorem ap22s : ap 22 = some f22 := rfl
theorem p22s : f22.pure = true := rfl
theorem n22s : f22.nat = none := rfl
theorem ap25s : ap 25 = some f25 := rfl
theorem p25s : f25.pure = true := rfl
theorem n25s : f25.nat = none := rfl
theorem ap26s : ap 26 = some f26 := rfl
theorem p26s : f26.pure = true := rfl
theorem n26s : f26.nat = none := rfl
theorem coh_shape {m : Coh} {v : T} (h : UpT (.agg m.enc) v) : ∃ f1 n1 c1 f2 n2 c2, v = .agg [.imm f1 n1 c1, .imm f2 n2 c2] ∧ UpL [memT m, cachT m] [.imm f1 n1 c1, .imm f2 n2 c2] := by
  obtain ⟨l, rfl, hu⟩ := UpT.agg h
  rw [coh_enc] at hu
  have hl := hu.len
  match l, hl, hu with
  | [x, y], _, hu =>
    have hu' := hu
    simp only [UpL] at hu'
    obtain ⟨x', xs, e, h1, y', ys, e2, h2, h3⟩ := hu'
    simp only [List.cons.injEq] at e
    obtain ⟨rfl, rfl⟩ := e
    simp only [List.cons.injEq] at e2
    obtain ⟨rfl, _⟩ := e2
    obtain ⟨f1, c1, rfl, _⟩ := UpT.imm h1
    obtain ⟨f2, c2, rfl, _⟩ := UpT.imm h2
    exact ⟨_, _, _, _, _, _, rfl, hu⟩
theorem fst_up {a b : T} {a' b' : T} (h : UpL [a, b] [a', b']) (rest : List T) : UpL (.agg [a, b] :: rest) (.agg [a', b'] :: rest) := UpL.cons (upT_agg h) (UpL.refl _)
theorem Pure.BusLegal (a0 : Coh) (a1 : Ask) (h0 : Coh.wf a0) (h1 : Ask.wf a1) :
    ∃ k, evF ap k 6 [T.agg (Coh.enc a0), T.agg (Ask.enc a1)] = some (.bool true) := by
  refine E.get ?_
  obtain ⟨who, line, ask⟩ := a1
  have hlw := wf_u32 h1.2.1
  obtain ⟨ln, rfl⟩ : ∃ ln : Nat, line = (ln : Int) := ⟨line.toNat, by have := hlw.1; simp only at this; omega⟩
  have hln : ln ≤ 4294967295 := by have := hlw.2; simp only at this; omega
  clear hlw
  rw [coh_enc, show Ask.enc ⟨who, (ln : Int), ask⟩ = [T.int .i64 who, T.int .u32 (ln : Int), T.int .i64 ask] from rfl]
  refine E_body (F := f6) rfl rfl rfl ?_
  generalize hs0 : (_ : List T) ++ List.replicate _ T.undef = s0
  have e0 : s0.length = 120 ∧ rho s0 (.tmp 0) = .agg [memT a0, cachT a0] ∧ rho s0 (.tmp 1) = .agg [T.int .i64 who, T.int .u32 (ln : Int), T.int .i64 ask] := by subst hs0; exact ⟨rfl, rfl, rfl⟩
  clear hs0
  obtain ⟨hl, e0, e1⟩ := e0
  have hcut : cut [memT a0, cachT a0] 0 2 = [memT a0, cachT a0] := rfl
  have hleaf : allLeaf [memT a0, cachT a0] = true := rfl
  have hleaf2 : allLeaf [T.int .i64 who, T.int .u32 (ln : Int), T.int .i64 ask] = true := rfl
  obtain ⟨b, h8, hsm⟩ := ref_small2 a0 h0
  obtain ⟨n8', c8⟩ := h8.call ap8s (fun g => rfl)
  obtain ⟨n9', c9⟩ := (E_of awake_runs').call ap9s (fun g => rfl)
  have q8 := c8 n8' (Nat.le_refl _)
  have q9' := c9 n9' (Nat.le_refl _)
  refine W_cut (fun st => st.s.length = 120 ∧ rho st.s (.tmp 2) = .ptr 0 0 ∧ rho st.s (.tmp 3) = .ptr 1 0 ∧ st.g 0 = some [memT a0, cachT a0] ∧ st.g 1 = some [T.int .i64 who, T.int .u32 (ln : Int), T.int .i64 ask] ∧ 2 ≤ st.nx) (W_region (fun k => by simp (decide := true) (disch := first | omega | simp (decide := true) only [List.length_set, hl]) only [sims, autos, simprocAttr, hps, e0, e1, hleaf, hleaf2]; rfl) ⟨rfl, ?_⟩) ?_
  · refine ⟨?_, ?_, ?_, ?_, ?_, by show 2 ≤ 3; omega⟩ <;> simp (decide := true) (disch := first | omega | simp (decide := true) only [List.length_set, hl]) only [sims, autos, simprocAttr, hps, hl]
  clear hl e0 e1
  rintro st ⟨hl, h2, h3, g0, g1, hnx⟩
  cases b with
  | false =>
    refine W_seq (W_seqn (W_regionN ⟨n8', by simp (decide := true) (disch := first | omega | simp (decide := true) only [List.length_set, hl]) only [sims, autos, simprocAttr, hps, h2, g0, hcut, ap8s, p8s, n8s, q8]; rfl⟩ ⟨rfl, W_tru ?_⟩))
    refine W_seqn (W_regionN ⟨n9', by simp (decide := true) (disch := first | omega | simp (decide := true) only [List.length_set, hl]) only [sims, autos, simprocAttr, hps, ap9s, p9s, n9s, q9']; rfl⟩ ⟨rfl, W_ret ?_⟩)
    simp only [reduceCtorEq, false_and, false_or, or_false, exists_false, exists_const, ne_eq, not_false_eq_true, true_and, implies_true]
    refine fin_of (F := f6) rfl (fun _ => rfl) ?_
    simp (decide := true) (disch := first | omega | simp (decide := true) only [List.length_set, hl]) only [sims, autos, simprocAttr]
  | true =>
    have hok := ok_small h0 (hsm rfl)
    obtain ⟨v21, E21, b21, rfl, i21⟩ := ref_sound a0 hok
    obtain ⟨N21, c21⟩ := E21.call ap21s (fun g => rfl)
    obtain ⟨N22, c22⟩ := (ref_has a0 who).call ap22s (fun g => rfl)
    obtain ⟨N23, c23⟩ := (ref_lies a0 h0 ln hln).call ap23s (fun g => rfl)
    generalize hM : n8' + N21 + N22 + N23 = M
    have q8 := c8 M (by omega)
    have q21 := c21 M (by omega)
    have q22 := c22 M (by omega)
    have q23 := c23 M (by omega)
    by_cases hb21 : b21 = true
    rotate_left
    · have hb : b21 = false := by cases b21; rfl; exact absurd rfl hb21
      subst hb
      refine W_seq (W_seqn (W_regionN ⟨M, by simp (decide := true) (disch := first | omega | simp (decide := true) only [List.length_set, hl]) only [sims, autos, simprocAttr, hps, h2, h3, g0, g1, hcut, ap8s, p8s, n8s, q8, ap21s, p21s, n21s, q21]; rfl⟩ ⟨rfl, W_tru ?_⟩))
      refine W_seqn (W_regionN ⟨n9', by simp (decide := true) (disch := first | omega | simp (decide := true) only [List.length_set, hl]) only [sims, autos, simprocAttr, hps, ap9s, p9s, n9s, q9']; rfl⟩ ⟨rfl, W_ret ?_⟩)
      simp only [reduceCtorEq, false_and, false_or, or_false, exists_false, exists_const, ne_eq, not_false_eq_true, true_and, implies_true]
      refine fin_of (F := f6) rfl (fun _ => rfl) ?_
      simp (decide := true) (disch := first | omega | simp (decide := true) only [List.length_set, hl]) only [sims, autos, simprocAttr]
    subst hb21
    have hsp : SoundP a0 := (sound_iff hok).mp (i21.mp rfl)
    by_cases hhas : has a0 who
    rotate_left
    · rw [decide_eq_false hhas] at q22
      refine W_seq (W_seqn (W_regionN ⟨M, by simp (decide := true) (disch := first | omega | simp (decide := true) only [List.length_set, hl]) only [sims, autos, simprocAttr, hps, h2, h3, g0, g1, hcut, ap8s, p8s, n8s, q8, ap21s, p21s, n21s, q21, ap22s, p22s, n22s, q22]; rfl⟩ ⟨rfl, W_tru ?_⟩))
      refine W_seqn (W_regionN ⟨n9', by simp (decide := true) (disch := first | omega | simp (decide := true) only [List.length_set, hl]) only [sims, autos, simprocAttr, hps, ap9s, p9s, n9s, q9']; rfl⟩ ⟨rfl, W_ret ?_⟩)
      simp only [reduceCtorEq, false_and, false_or, or_false, exists_false, exists_const, ne_eq, not_false_eq_true, true_and, implies_true]
      refine fin_of (F := f6) rfl (fun _ => rfl) ?_
      simp (decide := true) (disch := first | omega | simp (decide := true) only [List.length_set, hl]) only [sims, autos, simprocAttr]
    rw [decide_eq_true hhas] at q22
    by_cases hlies : ln * 16 + 16 ≤ a0.mem.length
    rotate_left
    · rw [decide_eq_false hlies] at q23
      refine W_seq (W_seqn (W_regionN ⟨M, by simp (decide := true) (disch := first | omega | simp (decide := true) only [List.length_set, hl]) only [sims, autos, simprocAttr, hps, h2, h3, g0, g1, hcut, ap8s, p8s, n8s, q8, ap21s, p21s, n21s, q21, ap22s, p22s, n22s, q22, ap23s, p23s, n23s, q23]; rfl⟩ ⟨rfl, W_tru ?_⟩))
      refine W_seqn (W_regionN ⟨n9', by simp (decide := true) (disch := first | omega | simp (decide := true) only [List.length_set, hl]) only [sims, autos, simprocAttr, hps, ap9s, p9s, n9s, q9']; rfl⟩ ⟨rfl, W_ret ?_⟩)
      simp only [reduceCtorEq, false_and, false_or, or_false, exists_false, exists_const, ne_eq, not_false_eq_true, true_and, implies_true]
      refine fin_of (F := f6) rfl (fun _ => rfl) ?_
      simp (decide := true) (disch := first | omega | simp (decide := true) only [List.length_set, hl]) only [sims, autos, simprocAttr]
    rw [decide_eq_true hlies] at q23
    by_cases ha : ask = 1 ∨ ask = 2
    rotate_left
    · have a1 : (ask != 1) = true := by simp; omega
      have a2 : (ask != 2) = true := by simp; omega
      refine W_seq (W_seqn (W_regionN ⟨M, by simp (decide := true) (disch := first | omega | simp (decide := true) only [List.length_set, hl]) only [sims, autos, simprocAttr, hps, h2, h3, g0, g1, hcut, ap8s, p8s, n8s, q8, ap21s, p21s, n21s, q21, ap22s, p22s, n22s, q22, ap23s, p23s, n23s, q23, a1, a2]; rfl⟩ ⟨rfl, W_tru ?_⟩))
      refine W_seqn (W_regionN ⟨n9', by simp (decide := true) (disch := first | omega | simp (decide := true) only [List.length_set, hl]) only [sims, autos, simprocAttr, hps, ap9s, p9s, n9s, q9']; rfl⟩ ⟨rfl, W_ret ?_⟩)
      simp only [reduceCtorEq, false_and, false_or, or_false, exists_false, exists_const, ne_eq, not_false_eq_true, true_and, implies_true]
      refine fin_of (F := f6) rfl (fun _ => rfl) ?_
      simp (decide := true) (disch := first | omega | simp (decide := true) only [List.length_set, hl]) only [sims, autos, simprocAttr]
    refine W_cut (fun t => t.s.length = 120 ∧ rho t.s (.tmp 2) = .ptr 0 0 ∧ rho t.s (.tmp 3) = .ptr 1 0 ∧ t.g 0 = some [memT a0, cachT a0] ∧ t.g 1 = some [T.int .i64 who, T.int .u32 (ln : Int), T.int .i64 ask] ∧ 2 ≤ t.nx) ?_ ?_
    · rcases ha with ha | ha
      · have a1 : (ask != 1) = false := by rw [ha]; rfl
        refine W_seqn (W_regionN ⟨M, by simp (decide := true) (disch := first | omega | simp (decide := true) only [List.length_set, hl]) only [sims, autos, simprocAttr, hps, h2, h3, g0, g1, hcut, ap8s, p8s, n8s, q8, ap21s, p21s, n21s, q21, ap22s, p22s, n22s, q22, ap23s, p23s, n23s, q23, a1]; rfl⟩ ⟨rfl, W_fls (W_skip ⟨rfl, ?_, ?_, ?_, ?_, ?_, ?_⟩)⟩)
        case refine_6 => show 2 ≤ st.nx + 32; omega
        all_goals simp (decide := true) (disch := first | omega | simp (decide := true) only [List.length_set, hl]) only [sims, autos, simprocAttr, hl, h2, h3, g0, g1]
      · have a1 : (ask != 1) = true := by rw [ha]; rfl
        have a2 : (ask != 2) = false := by rw [ha]; rfl
        refine W_seqn (W_regionN ⟨M, by simp (decide := true) (disch := first | omega | simp (decide := true) only [List.length_set, hl]) only [sims, autos, simprocAttr, hps, h2, h3, g0, g1, hcut, ap8s, p8s, n8s, q8, ap21s, p21s, n21s, q21, ap22s, p22s, n22s, q22, ap23s, p23s, n23s, q23, a1, a2]; rfl⟩ ⟨rfl, W_fls (W_skip ⟨rfl, ?_, ?_, ?_, ?_, ?_, ?_⟩)⟩)
        case refine_6 => show 2 ≤ st.nx + 32; omega
        all_goals simp (decide := true) (disch := first | omega | simp (decide := true) only [List.length_set, hl]) only [sims, autos, simprocAttr, hl, h2, h3, g0, g1]
    clear hl h2 h3 g0 g1 hnx st
    rintro st ⟨hl, h2, h3, g0, g1, hnx⟩
    obtain ⟨w, rfl⟩ : ∃ w : Nat, who = (w : Int) := ⟨who.toNat, by have := hhas.1; omega⟩
    have hw : w < a0.caches.length := by have := hhas.2; omega
    obtain ⟨n, hrq⟩ := hsp.1 w hw
    have hS1 : 1 ≤ (cacheAt a0 w).sets.length := hrq.2.1
    have hS0 : 0 < (cacheAt a0 w).sets.length := by omega
    have hR0 : (row (cacheAt a0 w) 0).length = n := (hrq.2.2.2.2.2 0 hS0).1
    have hR1 := hrq.2.2.2.1
    have hcl := caches_len a0
    have hcg := caches_get a0 w hw
    have hcc : cachT a0 = .imm false a0.caches.length (a0.caches.flatMap Cache.enc) := rfl
    have hb : w * 1 + 1 ≤ a0.caches.length := by omega
    have hsc : setsT (cacheAt a0 w) = .imm false (cacheAt a0 w).sets.length ((cacheAt a0 w).sets.flatMap (fun l => [rowT l])) := rfl
    rw [hsc] at hcg
    have hrl := rows_len (cacheAt a0 w)
    have hrg := rows_get (cacheAt a0 w) 0 hS0
    have hrt : rowT (row (cacheAt a0 w) 0) = .imm false (row (cacheAt a0 w) 0).length ((row (cacheAt a0 w) 0).flatMap Way.enc) := rfl
    rw [hrt, Nat.zero_mul] at hrg
    have z1 : (((cacheAt a0 w).sets.length : Int) == 0) = false := by
      generalize (cacheAt a0 w).sets.length = q at *
      simp; omega
    have z2 : (((row (cacheAt a0 w) 0).length : Int) == 0) = false := by rw [hR0]; simp; omega
    refine W_cut (fun t => t.s.length = 120 ∧ rho t.s (.tmp 2) = .ptr 0 0 ∧ rho t.s (.tmp 3) = .ptr 1 0 ∧ t.g 0 = some [memT a0, cachT a0] ∧ t.g 1 = some [T.int .i64 (w : Int), T.int .u32 (ln : Int), T.int .i64 ask] ∧ 2 ≤ t.nx) (W_seqn (W_region (fun k => by simp (decide := true) (disch := first | omega | simp (decide := true) only [List.length_set, hl]) only [sims, autos, simprocAttr, hps, h2, h3, g0, g1, hcc, hw, hb, hcl, hcg, hS0, hS1, hrl, hrg, z1, z2]; rfl) ⟨rfl, W_fls (W_skip ⟨rfl, ?_, ?_, ?_, ?_, ?_, ?_⟩)⟩)) ?_
    case refine_6 => show 2 ≤ st.nx + 22; omega
    case refine_7 =>
      clear hl h2 h3 g0 g1 hnx st hcg hrl hrg hsc hrt
      rintro st ⟨hl, h2, h3, g0, g1, hnx⟩
      obtain ⟨k1, k2, k3, k4⟩ := legal_do hok hsp w hw ln hlies ask ha
      have hK : stateOf a0 (w : Int) ln = stA a0 w ln := stateOf_is a0 w hw ln
      obtain ⟨K, hKd⟩ : ∃ K, K = askv (stA a0 w ln) ask := ⟨_, rfl⟩
      rw [← hKd] at k1 k2 k3 k4
      have hokn := ok_do hok (w : Int) K ln hln
      have hdl := do_len a0 (w : Int) K ln
      obtain ⟨v17, E17, u17⟩ := bus_do a0 hok (w : Int) K ln hln
      have hview := view_same hok hokn hsp k1 hdl.1 k2 (fun i hi => tail_do hok w hw K ln hln i hi)
      have E10 := bus_want a0 h0 (w : Int) ln ask hln
      rw [show wantT a0 (w : Int) ln ask = .agg [.int .i64 K, .int .u32 (ln : Int)] from by unfold wantT; rw [if_pos hhas, hK, hKd]] at E10
      have hwn : w < (doM a0 (w : Int) K ln).caches.length := by rw [hdl.2]; exact hw
      have E24 := ref_state (doM a0 (w : Int) K ln) hokn.1 (w : Int) ln hln
      rw [stateOf_is _ w hwn ln] at E24
      have E10n := bus_want (doM a0 (w : Int) K ln) hokn.1 (w : Int) ln ask hln
      have hask : askv (stA (doM a0 (w : Int) K ln) w ln) ask = 0 := by
        have hrg : 0 ≤ stA (doM a0 (w : Int) K ln) w ln ∧ stA (doM a0 (w : Int) K ln) w ln ≤ 3 := rq_range (k1.1 w hwn) ln
        unfold askv
        rw [stv_id hrg]
        rcases ha with rfl | rfl
        · simp [k3]
        · rcases k4 rfl with e | e <;> simp [e]
      rw [show wantT (doM a0 (w : Int) K ln) (w : Int) ln ask = .agg [.int .i64 0, .int .u32 (ln : Int)] from by
        unfold wantT
        rw [if_pos (show has _ (w : Int) from ⟨by omega, by omega⟩), stateOf_is _ w hwn ln, hask]] at E10n
      obtain ⟨v21', E21n, b21', rfl, i21'⟩ := ref_sound _ hokn
      have hb21' : b21' = true := i21'.mpr ((sound_iff hokn).mpr k1)
      subst hb21'
      obtain ⟨v26, E26, fv, rfl⟩ := ref_view a0 hok
      obtain ⟨v26', E26n, fv', rfl⟩ := ref_view _ hokn
      rw [hview] at E26n
      have hvl : (viewM a0).length = a0.mem.length := viewK_len a0 _
      have E25 := same_bytes (viewM a0) (by rw [hvl]; exact hok.2.1)
      generalize hst : stA (doM a0 (w : Int) K ln) w ln = s at *
      obtain ⟨f1, n1, c1, f2, n2, c2, rfl, hun⟩ := coh_shape u17
      obtain ⟨_, F24, u24⟩ := E24.up (fst_up hun _)
      obtain rfl := UpT.int u24
      obtain ⟨_, F21, u21⟩ := E21n.up (fst_up hun _)
      obtain rfl := bool_up _ _ u21
      obtain ⟨_, F10, u10⟩ := E10n.up (fst_up hun _)
      obtain ⟨_, rfl, uA⟩ := UpT.agg u10
      obtain rfl := upL_ints uA (ints_two _ _ _ _)
      obtain ⟨_, F26, u26⟩ := E26n.up (fst_up hun _)
      obtain ⟨fw, _, rfl, _, uB⟩ := UpT.imm u26
      obtain rfl := upL_ints uB (u8_ints _)
      obtain ⟨_, F25, u25⟩ := E25.up (UpL.cons (upT_imm (f' := fw) (fun e => by cases e) (UpL.refl _)) (UpL.cons (upT_imm (f' := fv) (fun e => by cases e) (UpL.refl _)) UpL.nil))
      obtain rfl := bool_up _ _ u25
      obtain ⟨N10, d10⟩ := E10.call ap10s (fun g => rfl)
      obtain ⟨N17, d17⟩ := E17.call ap17s (fun g => rfl)
      obtain ⟨N24, d24⟩ := F24.call ap24s (fun g => rfl)
      obtain ⟨N21', d21⟩ := F21.call ap21s (fun g => rfl)
      obtain ⟨N10', d10n⟩ := F10.call ap10s (fun g => rfl)
      obtain ⟨N26, d26n⟩ := F26.call ap26s (fun g => rfl)
      obtain ⟨N26', d26⟩ := E26.call ap26s (fun g => rfl)
      obtain ⟨N25, d25⟩ := F25.call ap25s (fun g => rfl)
      generalize hM2 : n9' + N10 + N17 + N24 + N21' + N10' + N26 + N26' + N25 = M2
      have q9 := c9 M2 (by omega)
      have q10 := d10 M2 (by omega)
      have q17 := d17 M2 (by omega)
      have q24 := d24 M2 (by omega)
      have r21 := d21 M2 (by omega)
      have q10n := d10n M2 (by omega)
      have q26n := d26n M2 (by omega)
      have q26 := d26 M2 (by omega)
      have q25 := d25 M2 (by omega)
      have hleafn : allLeaf [T.imm f1 n1 c1, T.imm f2 n2 c2] = true := rfl
      have hcutn : cut [T.imm f1 n1 c1, T.imm f2 n2 c2] 0 2 = [T.imm f1 n1 c1, T.imm f2 n2 c2] := rfl
      generalize (viewM a0).flatMap u8T = vs at *
      generalize (viewM a0).length = vl at *
      generalize memT a0 = mt at *
      generalize cachT a0 = ct at *
      refine W_cut (fun t => t.s.length = 120 ∧ rho t.s (.tmp 2) = .ptr 0 0 ∧ rho t.s (.tmp 3) = .ptr 1 0 ∧ t.g 0 = some [mt, ct] ∧ t.g 1 = some [T.int .i64 (w : Int), T.int .u32 (ln : Int), T.int .i64 ask] ∧ ∃ p, 2 ≤ p ∧ rho t.s (.tmp 5) = .ptr p 0 ∧ t.g p = some [T.imm f1 n1 c1, T.imm f2 n2 c2]) (W_regionN ⟨M2, by simp (decide := true) (disch := first | omega | simp (decide := true) only [List.length_set, hl]) only [sims, autos, simprocAttr, hps, h2, h3, g0, g1, hcut, ap10s, p10s, n10s, q10, ap17s, p17s, n17s, q17, hleafn]; rfl⟩ ⟨rfl, ?_, ?_, ?_, ?_, ?_, st.nx + 12, by omega, ?_, ?_⟩) ?_
      case refine_8 =>
        clear hl h2 h3 g0 g1 hnx st
        rintro st ⟨hl, h2, h3, g0, g1, p, hp, h5, gp⟩
        refine W_cut (fun t => t.s.length = 120 ∧ rho t.s (.tmp 2) = .ptr 0 0 ∧ rho t.s (.tmp 3) = .ptr 1 0 ∧ t.g 0 = some [mt, ct] ∧ t.g 1 = some [T.int .i64 (w : Int), T.int .u32 (ln : Int), T.int .i64 ask] ∧ rho t.s (.tmp 5) = .ptr p 0 ∧ t.g p = some [T.imm f1 n1 c1, T.imm f2 n2 c2] ∧ rho t.s (.tmp 6) = .int .i64 s) (W_regionN ⟨M2, by simp (decide := true) (disch := first | omega | simp (decide := true) only [List.length_set, hl]) only [sims, autos, simprocAttr, hps, h3, h5, g1, gp, hcutn, ap24s, p24s, n24s, q24]; rfl⟩ ⟨rfl, ?_, ?_, ?_, ?_, ?_, ?_, ?_, ?_⟩) ?_
        case refine_9 =>
          clear hl h2 h3 g0 g1 h5 gp st
          rintro st ⟨hl, h2, h3, g0, g1, h5, gp, h6⟩
          have s0 : (s == 0) = false := by simpa using k3
          refine W_cut (fun t => t.s.length = 120 ∧ rho t.s (.tmp 2) = .ptr 0 0 ∧ rho t.s (.tmp 3) = .ptr 1 0 ∧ t.g 0 = some [mt, ct] ∧ t.g 1 = some [T.int .i64 (w : Int), T.int .u32 (ln : Int), T.int .i64 ask] ∧ rho t.s (.tmp 5) = .ptr p 0 ∧ t.g p = some [T.imm f1 n1 c1, T.imm f2 n2 c2]) ?_ ?_
          · rcases ha with ha | ha
            · have a1 : (ask == 2) = false := by rw [ha]; rfl
              refine W_seqn (W_region (fun k => by simp (decide := true) (disch := first | omega | simp (decide := true) only [List.length_set, hl]) only [sims, autos, simprocAttr, hps, h3, h6, g1, s0, a1]; rfl) ⟨rfl, W_fls (W_skip ⟨rfl, ?_, ?_, ?_, ?_, ?_, ?_, ?_⟩)⟩) <;> simp (decide := true) (disch := first | omega | simp (decide := true) only [List.length_set, hl]) only [sims, autos, simprocAttr, hl, h2, h3, h5, g0, g1, gp]
            · have a1 : (ask == 2) = true := by rw [ha]; rfl
              rcases k4 ha with k5 | k5
              · have a2 : (s != 3) = true := by rw [k5]; rfl
                have a3 : (s != 2) = false := by rw [k5]; rfl
                refine W_seqn (W_region (fun k => by simp (decide := true) (disch := first | omega | simp (decide := true) only [List.length_set, hl]) only [sims, autos, simprocAttr, hps, h3, h6, g1, s0, a1, a2, a3]; rfl) ⟨rfl, W_fls (W_skip ⟨rfl, ?_, ?_, ?_, ?_, ?_, ?_, ?_⟩)⟩) <;> simp (decide := true) (disch := first | omega | simp (decide := true) only [List.length_set, hl]) only [sims, autos, simprocAttr, hl, h2, h3, h5, g0, g1, gp]
              · have a2 : (s != 3) = false := by rw [k5]; rfl
                refine W_seqn (W_region (fun k => by simp (decide := true) (disch := first | omega | simp (decide := true) only [List.length_set, hl]) only [sims, autos, simprocAttr, hps, h3, h6, g1, s0, a1, a2]; rfl) ⟨rfl, W_fls (W_skip ⟨rfl, ?_, ?_, ?_, ?_, ?_, ?_, ?_⟩)⟩) <;> simp (decide := true) (disch := first | omega | simp (decide := true) only [List.length_set, hl]) only [sims, autos, simprocAttr, hl, h2, h3, h5, g0, g1, gp]
          clear hl h2 h3 g0 g1 h5 gp h6 st
          rintro st ⟨hl, h2, h3, g0, g1, h5, gp⟩
          refine W_seqn (W_regionN ⟨M2, by simp (decide := true) (disch := first | omega | simp (decide := true) only [List.length_set, hl]) only [sims, autos, simprocAttr, hps, h2, h3, h5, g0, g1, gp, hcut, hcutn, ap21s, p21s, n21s, r21, ap26s, p26s, n26s, q26n, q26, ap25s, p25s, n25s, q25, ap10s, p10s, n10s, q10n, ap9s, p9s, n9s, q9]; rfl⟩ ⟨rfl, W_ret ?_⟩)
          refine fin_of (F := f6) rfl (fun _ => rfl) ?_
          simp (decide := true) (disch := first | omega | simp (decide := true) only [List.length_set, hl]) only [sims, autos, simprocAttr]
        all_goals simp (decide := true) (disch := first | omega | simp (decide := true) only [List.length_set, hl]) only [sims, autos, simprocAttr, hl, h2, h3, h5, g0, g1, gp]
      all_goals simp (decide := true) (disch := first | omega | simp (decide := true) only [List.length_set, hl]) only [sims, autos, simprocAttr, hps, hl, h2, h3, g0, g1]
    all_goals simp (decide := true) (disch := first | omega | simp (decide := true) only [List.length_set, hl]) only [sims, autos, simprocAttr, hl, h2, h3, g0, g1, hcc]
end Go.Proofs.Ytdkaclgfkgcmpaa.Abs
