/- What all memory says: the outer loops, the whole function. -/
import Derived.Test.YtdkaclgfkgcmpaaVw
namespace Go.Proofs.Ytdkaclgfkgcmpaa.Abs
open Go Go.RowKit Fn
set_option linter.unusedVariables false
set_option linter.unusedSimpArgs false
set_option linter.unnecessarySimpa false
set_option maxRecDepth 100000
set_option maxHeartbeats 1000000

theorem VwS.step {m : Coh} {st : St} {mem : List Int} (h : VwS m st mem) {s' : List T} {d : Nat} (hl : s'.length = 67) (h1 : rho s' (.tmp 1) = rho st.s (.tmp 1)) (h3 : rho s' (.tmp 3) = rho st.s (.tmp 3)) : VwS m ⟨s', st.g, st.nx + d⟩ mem := by
  obtain ⟨_, a1, a2, a3, x, a4, a5⟩ := h
  exact ⟨hl, h1.trans a1, a2, by show 1 ≤ st.nx + d; omega, x, h3.trans a4, a5.mono (fun t ht => ⟨ht.1, by show t < st.nx + d; have := ht.2; omega⟩) (fun _ _ => rfl)⟩
theorem vw2_loop (m : Coh) (hok : Ok m) (k : Nat) (hk : k < m.caches.length) (mem : List Int) (hfm : FitB m.mem.length mem) (Q : AExit → St → Prop)
    (hQe : ∀ st : St, VwS m st (viewS (cacheAt m k) mem (cacheAt m k).sets.length) → rho st.s (.tmp 4) = .int .i64 (k : Int) → Q (.exit 2) st) :
    ∀ (n : Nat) (st : St), (∃ s : Nat, VwS m st (viewS (cacheAt m k) mem s) ∧ rho st.s (.tmp 4) = .int .i64 (k : Int) ∧ rho st.s (.tmp 5) = .int .i64 (s : Int) ∧ s ≤ (cacheAt m k).sets.length ∧ n = (cacheAt m k).sets.length - s) → W ap (.loop vwL2) st Q := by
  refine W_loop _ ?_
  rintro n st ⟨s, hV, h4, h5, hs, hn⟩
  have hV' := hV
  obtain ⟨hl, h1, g0, hnx, x, h3, hx⟩ := hV'
  have hcw := cacheAt_wf hok.1 k hk
  have hcl := caches_len m
  have hcg := caches_get m k hk
  have hcc : cachT m = .imm false m.caches.length (m.caches.flatMap Cache.enc) := rfl
  have hsc : setsT (cacheAt m k) = .imm false (cacheAt m k).sets.length ((cacheAt m k).sets.flatMap (fun l => [rowT l])) := rfl
  rw [hsc] at hcg
  rw [hcc] at g0
  have hS8 := (hok.2.2.2 k hk).1
  have hb : k * 1 + 1 ≤ m.caches.length := by omega
  have hfs := fitB_s hfm hcw s hs
  generalize (cacheAt m k).sets.flatMap (fun l => [rowT l]) = rows at *
  generalize m.caches.flatMap Cache.enc = ccs at *
  by_cases hend : s = (cacheAt m k).sets.length
  · have hlt : decide ((s : Int) < ((cacheAt m k).sets.length : Int)) = false := decide_eq_false (by omega)
    rw [hend] at hV
    refine W_seq (W_seqn (W_region (fun k => by simp (decide := true) (disch := first | omega | simp (decide := true) only [List.length_set, hl]) only [sims, autos, simprocAttr, h1, g0, h4, h5, hk, hb, hcl, hcg, hlt]; rfl) ⟨rfl, W_fls (W_exit (.inr ⟨by simp, .inr ⟨by simp, hQe _ (hV.step ?_ ?_ ?_) ?_⟩⟩))⟩))
    all_goals simp (decide := true) (disch := first | omega | simp (decide := true) only [List.length_set, hl]) only [sims, autos, simprocAttr, hl, h1, h3, h4, h5]
  have hlt : decide ((s : Int) < ((cacheAt m k).sets.length : Int)) = true := decide_eq_true (by omega)
  have hsl : s < (cacheAt m k).sets.length := by omega
  have hw2 : IntKind.i64.wrap ((s : Int) + 1) = ((s + 1 : Nat) : Int) := by rw [wrap_id (by omega)]; omega
  refine W_seqn (W_seqn (W_region (fun k => by simp (decide := true) (disch := first | omega | simp (decide := true) only [List.length_set, hl]) only [sims, autos, simprocAttr, h1, g0, h4, h5, hk, hb, hcl, hcg, hlt]; rfl) ⟨rfl, W_tru (W_skip ⟨rfl, ?_⟩)⟩))
  refine W_seqn (W_block (W_seqn (W_region (fun k => by simp (decide := true) (disch := first | omega | simp (decide := true) only [List.length_set, hl]) only [sims, autos, simprocAttr]; rfl) ⟨rfl, W_block ?_⟩)))
  refine vw3_loop m hok k hk s hsl (viewS (cacheAt m k) mem s) hfs _ (fun st' hV h4 h5 => ?_) ((row (cacheAt m k) s).length - 0) _ ⟨0, hV.step (d := 10) ?_ ?_ ?_, ?_, ?_, ?_, by omega, rfl⟩
  · have hV' := hV
    obtain ⟨hl, h1, g0, hnx, x, h3, hx⟩ := hV'
    refine .inl ⟨rfl, .inr (.inl ⟨by simp, rfl, ?_⟩)⟩
    refine W_region (fun k => by simp (decide := true) (disch := first | omega | simp (decide := true) only [List.length_set, hl]) only [sims, autos, simprocAttr, h5, hw2]; rfl) ?_
    refine .inl ⟨rfl, (cacheAt m k).sets.length - (s + 1), by omega, s + 1, VwS.step (mem := viewS (cacheAt m k) mem (s + 1)) hV (d := 3) ?_ ?_ ?_, ?_, ?_, by omega, rfl⟩ <;> simp (decide := true) (disch := first | omega | simp (decide := true) only [List.length_set, hl]) only [sims, autos, simprocAttr, hl, h1, h3, h4]
  all_goals simp (decide := true) (disch := first | omega | simp (decide := true) only [List.length_set, hl]) only [sims, autos, simprocAttr, hl, h1, h3, h4, h5]
theorem vw1_loop (m : Coh) (hok : Ok m) (Q : AExit → St → Prop) (hQe : ∀ st : St, VwS m st (viewM m) → Q (.exit 0) st) :
    ∀ (n : Nat) (st : St), (∃ k : Nat, VwS m st (viewK m k) ∧ rho st.s (.tmp 4) = .int .i64 (k : Int) ∧ k ≤ m.caches.length ∧ n = m.caches.length - k) → W ap (.loop vwL1) st Q := by
  refine W_loop _ ?_
  rintro n st ⟨k, hV, h4, hk, hn⟩
  have hV' := hV
  obtain ⟨hl, h1, g0, hnx, x, h3, hx⟩ := hV'
  have hcc : cachT m = .imm false m.caches.length (m.caches.flatMap Cache.enc) := rfl
  have hc4 := hok.2.2.1
  by_cases hend : k = m.caches.length
  · have hlt : decide ((k : Int) < (m.caches.length : Int)) = false := decide_eq_false (by omega)
    rw [hend] at hV
    refine W_seq (W_seqn (W_region (fun k => by simp (decide := true) (disch := first | omega | simp (decide := true) only [List.length_set, hl]) only [sims, autos, simprocAttr, h1, g0, h4, hcc, hlt]; rfl) ⟨rfl, W_fls (W_exit (.inr ⟨by simp, .inr ⟨by simp, hQe _ (hV.step ?_ ?_ ?_)⟩⟩))⟩))
    all_goals simp (decide := true) (disch := first | omega | simp (decide := true) only [List.length_set, hl]) only [sims, autos, simprocAttr, hl, h1, h3, h4]
  have hlt : decide ((k : Int) < (m.caches.length : Int)) = true := decide_eq_true (by omega)
  have hkl : k < m.caches.length := by omega
  have hw2 : IntKind.i64.wrap ((k : Int) + 1) = ((k + 1 : Nat) : Int) := by rw [wrap_id (by omega)]; omega
  refine W_seqn (W_seqn (W_region (fun k => by simp (decide := true) (disch := first | omega | simp (decide := true) only [List.length_set, hl]) only [sims, autos, simprocAttr, h1, g0, h4, hcc, hlt]; rfl) ⟨rfl, W_tru (W_skip ⟨rfl, ?_⟩)⟩))
  refine W_seqn (W_block (W_seqn (W_region (fun k => by simp (decide := true) (disch := first | omega | simp (decide := true) only [List.length_set, hl]) only [sims, autos, simprocAttr]; rfl) ⟨rfl, W_block ?_⟩)))
  refine vw2_loop m hok k hkl (viewK m k) (fitB_k hok.1 k hk) _ (fun st' hV h4 => ?_) ((cacheAt m k).sets.length - 0) _ ⟨0, hV.step (d := 6) ?_ ?_ ?_, ?_, ?_, by omega, rfl⟩
  · have hV' := hV
    obtain ⟨hl, h1, g0, hnx, x, h3, hx⟩ := hV'
    refine .inl ⟨rfl, .inr (.inl ⟨by simp, rfl, ?_⟩)⟩
    refine W_region (fun k => by simp (decide := true) (disch := first | omega | simp (decide := true) only [List.length_set, hl]) only [sims, autos, simprocAttr, h4, hw2]; rfl) ?_
    refine .inl ⟨rfl, m.caches.length - (k + 1), by omega, k + 1, VwS.step (mem := viewK m (k + 1)) hV (d := 3) ?_ ?_ ?_, ?_, by omega, rfl⟩ <;> simp (decide := true) (disch := first | omega | simp (decide := true) only [List.length_set, hl]) only [sims, autos, simprocAttr, hl, h1, h3]
  all_goals simp (decide := true) (disch := first | omega | simp (decide := true) only [List.length_set, hl]) only [sims, autos, simprocAttr, hl, h1, h3, h4]
theorem ref_view (m : Coh) (hok : Ok m) : ∃ v, E ap 26 [.agg [memT m, cachT m]] v ∧ ∃ f, v = .imm f (viewM m).length ((viewM m).flatMap u8T) := by
  refine E_bodyV (F := f26) rfl rfl rfl (P := fun v => ∃ f, v = .imm f (viewM m).length ((viewM m).flatMap u8T)) ?_
  generalize hs0 : (_ : List T) ++ List.replicate _ T.undef = s0
  have e0 : s0.length = 67 ∧ rho s0 (.tmp 0) = .agg [memT m, cachT m] := by subst hs0; exact ⟨rfl, rfl⟩
  clear hs0
  obtain ⟨hl, h0⟩ := e0
  have hleaf : allLeaf [memT m, cachT m] = true := rfl
  have hcut : cut [memT m, cachT m] 0 2 = [memT m, cachT m] := rfl
  refine W_cut (fun st => st.s.length = 67 ∧ rho st.s (.tmp 1) = .ptr 0 0 ∧ st.g 0 = some [memT m, cachT m] ∧ st.nx = 2) (W_region (fun k => by simp (decide := true) (disch := first | omega | simp (decide := true) only [List.length_set, hl]) only [sims, autos, simprocAttr, hps, h0, hleaf]; rfl) ⟨rfl, ?_⟩) ?_
  · refine ⟨?_, ?_, ?_, rfl⟩ <;> simp (decide := true) (disch := first | omega | simp (decide := true) only [List.length_set, hl]) only [sims, autos, simprocAttr, hps, hl]
  rintro st ⟨hl, h1, g0, hnx⟩
  have hbl := u8_len m.mem
  have hcl := caches_len m
  have hmm := hok.2.1
  have hc4 := hok.2.2.1
  obtain ⟨N, v, g', nx', q, A, B, rfl, hA1, hB1, hA2, hB2, hAB, gA, gB, hg', hnx'⟩ := copied40 (m.mem.flatMap u8T) (m.caches.flatMap Cache.enc) (by omega) (by omega) (u8_leaf _) (flat_leaf (f := Cache.enc) (fun _ => rfl) _) (memT m) (cachT m) st.g (st.nx + 4) (.inl ⟨false, memT_is m⟩) (.inl ⟨false, cachT_is m⟩)
  have q := q N (Nat.le_refl _)
  refine W_cut (fun t => VwS m t m.mem) (W_regionN ⟨N, by simp (decide := true) (disch := first | omega | simp (decide := true) only [List.length_set, hl]) only [sims, autos, simprocAttr, hps, h1, g0, hcut, ap37, p37, n37, evI, q]; rfl⟩ ⟨rfl, ?_, ?_, ?_, ?_, .own A 0 (m.mem.flatMap u8T).length 1, ?_, .inr ⟨A, ⟨by omega, ?_⟩, rfl, ?_⟩⟩) ?_
  case refine_3 => have := hg' 0 (by omega); simp (decide := true) (disch := first | omega | simp (decide := true) only [List.length_set, hl]) only [sims, autos, simprocAttr, hps, this, g0]
  case refine_4 => show 1 ≤ nx'; omega
  case refine_6 => exact hA2
  case refine_7 => exact gA
  case refine_8 =>
    intro st hV
    have hV' := hV
    obtain ⟨hl, h1, g0, hnx, x, h3, hx⟩ := hV'
    refine W_seq (W_seqn (W_region (fun k => by simp (decide := true) (disch := first | omega | simp (decide := true) only [List.length_set, hl]) only [sims, autos, simprocAttr]; rfl) ⟨rfl, W_block ?_⟩))
    refine vw1_loop m hok _ (fun st' hV => ?_) (m.caches.length - 0) _ ⟨0, VwS.step (mem := viewK m 0) hV (d := 1) ?_ ?_ ?_, ?_, by omega, rfl⟩
    · obtain ⟨hl, h1, g0, hnx, x, h3, hx⟩ := hV
      refine .inl ⟨rfl, .inl ⟨rfl, ?_⟩⟩
      obtain ⟨f, ids, e1, p1⟩ := hx.frz (d := 10) (nx := st'.nx + 2) (frzAll_int _ (u8_ints _))
      rw [u8_len] at e1
      refine W_seqn (W_region (fun k => by simp (decide := true) (disch := first | omega | simp (decide := true) only [List.length_set, hl]) only [sims, autos, simprocAttr, h3]; rfl) ⟨rfl, W_ret ?_⟩)
      refine ⟨rfl, _, ⟨f, rfl⟩, x, ids, ?_, e1⟩
      refine res_one (F := f26) rfl ?_
      simp (decide := true) (disch := first | omega | simp (decide := true) only [List.length_set, hl]) only [sims, autos, simprocAttr, hl]
    all_goals simp (decide := true) (disch := first | omega | simp (decide := true) only [List.length_set, hl]) only [sims, autos, simprocAttr, hl, h1, h3]
  all_goals simp (decide := true) (disch := first | omega | simp (decide := true) only [List.length_set, hl]) only [sims, autos, simprocAttr, hps, hl, h1]
end Go.Proofs.Ytdkaclgfkgcmpaa.Abs
