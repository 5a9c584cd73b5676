/- A line that is written back: the program's walk. -/
import Derived.Test.YtikeeegkndnnfaaCm
namespace Go.Proofs.Ytikeeegkndnnfaa.Abs
open Go Go.RowKit Fn
set_option linter.unusedVariables false
set_option linter.unusedSimpArgs false
set_option linter.unnecessarySimpa false
set_option maxRecDepth 100000
set_option maxHeartbeats 4000000

def putM (m : Coh) (ln : Nat) (data : List Int) : Coh := if ln * 16 + 16 ≤ m.mem.length then { m with mem := spl m.mem (ln * 16) data } else m
def backM (m : Coh) (w : Way) : Coh := if w.state = 3 then putM m w.tag.toNat w.data else m
theorem putM_len (m : Coh) (ln : Nat) (data : List Int) : (putM m ln data).mem.length = m.mem.length := by
  unfold putM; split
  · exact spl_len _ _ _
  · rfl
theorem putM_caches (m : Coh) (ln : Nat) (data : List Int) : (putM m ln data).caches = m.caches := by unfold putM; split <;> rfl
theorem backM_caches (m : Coh) (w : Way) : (backM m w).caches = m.caches := by
  unfold backM; split
  · exact putM_caches _ _ _
  · rfl
theorem ap69 : ap 69 = some f69 := rfl
theorem p69 : f69.pure = true := rfl
theorem n69 : f69.nat = none := rfl
theorem ap71 : ap 71 = some f71 := rfl
theorem p71 : f71.pure = false := rfl
theorem n71 : f71.nat = none := rfl
theorem way_data (w : Way) (hw : w.wf) : cut w.enc 2 16 = w.data.flatMap u8T := by
  have e : w.enc = [T.int .i64 w.state, T.int .u32 w.tag] ++ (w.data.flatMap u8T ++ [T.int .i64 w.age]) := rfl
  have hl : (w.data.flatMap u8T).length = 16 := by rw [u8_len]; exact hw.2.2.1.1
  rw [e]
  unfold cut
  rw [List.drop_left' (by rfl), List.take_left' hl]
theorem back_run (m : Coh) (hm : m.wf) (hml : m.mem.length ≤ 1024) (w : Way) (hw : w.wf) (who : Int) (x y : T) (g : Mem) (nx : Nat) (h : CohIn (· < nx) g x y m) :
    ∃ N v g' nx', (∀ k, N ≤ k → runBody (ev ap k) f71 [.agg [x, y], .int .i64 who, .agg w.enc] g nx = some (v, g', nx')) ∧ ∃ x', v = .agg [x', y] ∧ (x' = x ∧ (backM m w).mem = m.mem ∨ ∃ A, nx ≤ A ∧ A < nx' ∧ x' = .own A 0 ((backM m w).mem.flatMap u8T).length 1 ∧ g' A = some ((backM m w).mem.flatMap u8T)) ∧ (∀ t, t < nx → g' t = g t) ∧ nx ≤ nx' := by
  refine EI_bodyV (P := fun v g' nx' => ∃ x', v = .agg [x', y] ∧ (x' = x ∧ (backM m w).mem = m.mem ∨ ∃ A, nx ≤ A ∧ A < nx' ∧ x' = .own A 0 ((backM m w).mem.flatMap u8T).length 1 ∧ g' A = some ((backM m w).mem.flatMap u8T)) ∧ (∀ t, t < nx → g' t = g t) ∧ nx ≤ nx') ?_
  generalize hs0 : (_ : List T) ++ List.replicate _ T.undef = s0
  have e0 : s0.length = 33 ∧ rho s0 (.tmp 0) = .agg [x, y] ∧ rho s0 (.tmp 1) = .int .i64 who ∧ rho s0 (.tmp 2) = .agg w.enc := by subst hs0; exact ⟨rfl, rfl, rfl, rfl⟩
  clear hs0
  obtain ⟨hl, h0, h1, h2⟩ := e0
  have hleaf := h.leaf
  have hy : y.leaf = true := by obtain ⟨_, ys, _, h3⟩ := h; exact h3.leaf
  have hwl := leaf_ints _ (way_ints w)
  have hlen := way_len hw
  have hst := way_state w
  have htg := way_tag w
  have hdt := way_data w hw
  have hd16 : w.data.length = 16 := hw.2.2.1.1
  obtain ⟨ln, hln, htag⟩ : ∃ ln : Nat, ln ≤ 4294967295 ∧ w.tag = (ln : Int) := ⟨w.tag.toNat, by have := wf_u32 hw.2.1; omega, by have := wf_u32 hw.2.1; omega⟩
  rw [htag] at htg
  have hbm : backM m w = if w.state = 3 then putM m ln w.data else m := by unfold backM; rw [htag, Int.toNat_natCast]
  generalize w.enc = we at *
  have hcut : cut [x, y] 0 2 = [x, y] := rfl
  refine W_cut (fun st => st.s.length = 33 ∧ rho st.s (.tmp 3) = .ptr nx 0 ∧ rho st.s (.tmp 5) = .ptr (nx + 1) 0 ∧ rho st.s (.tmp 6) = .ptr (nx + 2) 0 ∧ st.g nx = some [x, y] ∧ st.g (nx + 1) = some we ∧ st.g (nx + 2) = some [.imm true 0 [], .imm true 0 []] ∧ (∀ t, t < nx → st.g t = g t) ∧ st.nx = nx + 3) (W_region (fun k => by simp (decide := true) (disch := first | omega | simp (decide := true) only [List.length_set, hl]) only [sims, autos, simprocAttr, hps, h0, h2, hleaf, hwl]; rfl) ⟨rfl, ?_⟩) ?_
  · refine ⟨?_, ?_, ?_, ?_, ?_, ?_, ?_, fun t ht => ?_, rfl⟩ <;> simp (decide := true) (disch := first | omega | simp (decide := true) only [List.length_set, hl]) only [sims, autos, simprocAttr, hps, hl]
  rintro st ⟨hl, h3, h5, h6, g3, g5, g6, hg, hnx⟩
  have hin : CohIn (· < nx) st.g x y m := h.mono (fun _ h => h) hg
  by_cases h33 : w.state = 3
  · have hne : (w.state != 3) = false := by rw [h33]; rfl
    rw [if_pos h33] at hbm
    obtain ⟨x', y', hu, ids, hfz, hids⟩ := coh_args hin [] [.int .u32 (ln : Int)] ints_nil (ints_one _ _)
    obtain ⟨N, q⟩ := (bus_lies m hm ln hln).callF ap69 (up_tl hu [] _) (bool_up _) rfl
    have q := q N (Nat.le_refl _) st.g _ ids hfz
    by_cases hlies : ln * 16 + 16 ≤ m.mem.length
    · rw [decide_eq_true hlies] at q
      have hbm : backM m w = { m with mem := spl m.mem (ln * 16) w.data } := by rw [hbm]; exact if_pos hlies
      rw [hbm]
      have hspl := spl_u8 w.data m.mem (ln * 16)
      have hsl : (spl m.mem (ln * 16) w.data).length = m.mem.length := spl_len _ _ _
      refine W_seqn (W_seqn (W_regionN ⟨N, by simp (decide := true) (disch := first | omega | simp (decide := true) only [List.length_set, hl]) only [sims, autos, simprocAttr, hps, h3, h5, g3, g5, hlen, hst, htg, hne, hcut, ap69, p69, n69, q]; rfl⟩ ⟨rfl, W_fls (W_skip ⟨rfl, ?_⟩)⟩))
      obtain ⟨rd, hcx, hrd⟩ := hin.1.cells
      have hBl := u8_len m.mem
      have hBf := u8_leaf m.mem
      have hDl : (w.data.flatMap u8T).length = 16 := by rw [u8_len]; exact hd16
      have hDf := u8_leaf w.data
      generalize w.data.flatMap u8T = D at *
      have hSl : ((spl m.mem (ln * 16) w.data).flatMap u8T).length = m.mem.length := by rw [u8_len, hsl]
      generalize (spl m.mem (ln * 16) w.data).flatMap u8T = S at *
      generalize m.mem.flatMap u8T = B at *
      have hn0 : (B.length = 0) = False := by simp; intro e; rw [e] at hBl; simp at hBl; omega
      have hr1 : B.length * 1 ≤ 549755813888 := by omega
      have hr2 : B.length ≤ 549755813888 := by omega
      have hb1 : (B.length = B.length * 1) = True := by simp
      have hll : allLeaf ([] : List T) = true := rfl
      refine W_cut (fun s => s.s.length = 33 ∧ rho s.s (.tmp 3) = .ptr nx 0 ∧ rho s.s (.tmp 5) = .ptr (nx + 1) 0 ∧ rho s.s (.tmp 6) = .ptr (nx + 2) 0 ∧ (∃ A, nx + 3 ≤ A ∧ A < s.nx ∧ s.g nx = some [.own A 0 B.length 1, y] ∧ s.g A = some B) ∧ s.g (nx + 1) = some we ∧ s.g (nx + 2) = some [.imm true 0 [], .imm true 0 []] ∧ (∀ t, t < nx → s.g t = g t)) (W_region (fun k => by simp (decide := true) (disch := first | omega | simp (decide := true) only [List.length_set, hl]) only [sims, autos, simprocAttr, hps, h3, g3, hcx, hn0, hb1, hBf, hr1, hr2, hll]; rfl) ⟨rfl, ?_⟩) ?_
      · refine ⟨?_, ?_, ?_, ?_, ⟨st.nx + 10 + 2, by omega, by show st.nx + 10 + 2 < st.nx + 10 + 5; omega, ?_, ?_⟩, ?_, ?_, fun t ht => ?_⟩ <;> simp (decide := true) (disch := first | omega | simp (decide := true) only [List.length_set, hl]) only [sims, autos, simprocAttr, hps, hl, h3, h5, h6, g3, g5, g6]
        exact hg t ht
      rintro st ⟨hl, h3, h5, h6, ⟨A, hA1, hA2, g3, gA⟩, g5, g6, hg⟩
      have w1 : IntKind.i64.wrap (ln : Int) = (ln : Int) := wrap_id (by omega)
      have w2 : IntKind.i64.wrap ((ln : Int) * 16) = ((ln * 16 : Nat) : Int) := by rw [wrap_id (by omega)]; omega
      have hb2 : ln * 16 ≤ B.length := by omega
      have hb4 : ln * 16 + (B.length - ln * 16) ≤ B.length := by omega
      have hmin : min 16 (B.length - ln * 16) = 16 := by omega
      have htk : D.take 16 = D := List.take_of_length_le (by omega)
      refine W_cut (fun s => s.s.length = 33 ∧ rho s.s (.tmp 3) = .ptr nx 0 ∧ rho s.s (.tmp 6) = .ptr (nx + 2) 0 ∧ A < s.nx ∧ s.g nx = some [.own A 0 B.length 1, y] ∧ s.g A = some S ∧ s.g (nx + 2) = some [.imm true 0 [], .imm true 0 []] ∧ (∀ t, t < nx → s.g t = g t)) (W_region (fun k => by simp (decide := true) (disch := first | omega | simp (decide := true) only [List.length_set, hl]) only [sims, autos, simprocAttr, hps, h3, h5, g3, g5, gA, hlen, htg, w1, w2, hb2, hb4, hmin, htk, cellsOf, hdt, hDl, hDf, Nat.le_refl, Nat.mul_one, Nat.sub_zero, Option.map_some, Option.map_none]; rfl) ⟨rfl, ?_⟩) ?_
      · refine ⟨?_, ?_, ?_, by show A < st.nx + 10; omega, ?_, ?_, ?_, fun t ht => ?_⟩ <;> simp (decide := true) (disch := first | omega | simp (decide := true) only [List.length_set, hl]) only [sims, autos, simprocAttr, hps, hl, h3, h6, g3, g6, hspl]
        exact hg t ht
      rintro st ⟨hl, h3, h6, hA2, g3, gA, g6, hg⟩
      have hcut2 : cut [T.own A 0 B.length 1, y] 0 2 = [T.own A 0 B.length 1, y] := rfl
      have hleaf2 : allLeaf [T.own A 0 B.length 1, y] = true := by
        show ([T.own A 0 B.length 1, y].all T.leaf) = true
        rw [List.all_cons, List.all_cons, hy]; rfl
      refine W_seqn (W_region (fun k => by simp (decide := true) (disch := first | omega | simp (decide := true) only [List.length_set, hl]) only [sims, autos, simprocAttr, hps, h3, h6, g3, g6, hcut2, hleaf2]; rfl) ⟨rfl, W_ret ⟨rfl, .agg [.own A 0 B.length 1, y], ?_, .own A 0 B.length 1, rfl, .inr ⟨A, by omega, by show A < st.nx + 2; omega, by rw [hSl, ← hBl], ?_⟩, fun t ht => ?_, by show nx ≤ st.nx + 2; omega⟩⟩)
      · simp only [resT, resL, resOne, show f71.res = [.cell 6 false 2] from rfl]
        simp (decide := true) (disch := first | omega | simp (decide := true) only [List.length_set, hl]) only [sims, autos, simprocAttr, hps, h6]
        try rfl
      · simp (decide := true) (disch := first | omega | simp (decide := true) only [List.length_set, hl]) only [sims, autos, simprocAttr, hps, gA]
      · simp (decide := true) (disch := first | omega | simp (decide := true) only [List.length_set, hl]) only [sims, autos, simprocAttr, hps]
        exact hg t ht
    · rw [decide_eq_false hlies] at q
      have hbm : backM m w = m := by rw [hbm]; exact if_neg hlies
      rw [hbm]
      refine W_seq (W_seqn (W_regionN ⟨N, by simp (decide := true) (disch := first | omega | simp (decide := true) only [List.length_set, hl]) only [sims, autos, simprocAttr, hps, h3, h5, g3, g5, hlen, hst, htg, hne, hcut, ap69, p69, n69, q]; rfl⟩ ⟨rfl, W_tru ?_⟩))
      refine W_seqn (W_region (fun k => by simp (decide := true) (disch := first | omega | simp (decide := true) only [List.length_set, hl]) only [sims, autos, simprocAttr, hps, h3, h6, g3, g6, hcut, hleaf]; rfl) ⟨rfl, W_ret ?_⟩)
      simp only [reduceCtorEq, false_and, false_or, or_false, exists_false, exists_const, ne_eq, not_false_eq_true, true_and, implies_true]
      refine ⟨rfl, .agg [x, y], ?_, x, rfl, .inl ⟨rfl, by trivial⟩, fun t ht => ?_, by show nx ≤ st.nx + 10 + 2; omega⟩
      · simp only [resT, resL, resOne, show f71.res = [.cell 6 false 2] from rfl]
        simp (decide := true) (disch := first | omega | simp (decide := true) only [List.length_set, hl]) only [sims, autos, simprocAttr, hps, h6]
        try rfl
      · simp (decide := true) (disch := first | omega | simp (decide := true) only [List.length_set, hl]) only [sims, autos, simprocAttr, hps]
        exact hg t ht
  · have hne : (w.state != 3) = true := by simpa using h33
    rw [if_neg h33] at hbm
    rw [hbm]
    refine W_seq (W_seqn (W_region (fun k => by simp (decide := true) (disch := first | omega | simp (decide := true) only [List.length_set, hl]) only [sims, autos, simprocAttr, hps, h3, h5, g3, g5, hlen, hst, htg, hne, hcut]; rfl) ⟨rfl, W_tru ?_⟩))
    refine W_seqn (W_region (fun k => by simp (decide := true) (disch := first | omega | simp (decide := true) only [List.length_set, hl]) only [sims, autos, simprocAttr, hps, h3, h6, g3, g6, hcut, hleaf]; rfl) ⟨rfl, W_ret ?_⟩)
    simp only [reduceCtorEq, false_and, false_or, or_false, exists_false, exists_const, ne_eq, not_false_eq_true, true_and, implies_true]
    refine ⟨rfl, .agg [x, y], ?_, x, rfl, .inl ⟨rfl, by trivial⟩, fun t ht => ?_, by show nx ≤ st.nx + 10 + 2; omega⟩
    · simp only [resT, resL, resOne, show f71.res = [.cell 6 false 2] from rfl]
      simp (decide := true) (disch := first | omega | simp (decide := true) only [List.length_set, hl]) only [sims, autos, simprocAttr, hps, h6]
      try rfl
    · simp (decide := true) (disch := first | omega | simp (decide := true) only [List.length_set, hl]) only [sims, autos, simprocAttr, hps]
      exact hg t ht

set_option maxHeartbeats 4000000
/-- A system whose caches are in a block of its own, apart from its bytes. -/
def CohAt (P : Nat → Prop) (g : Mem) (x y : T) (m : Coh) : Prop := ∃ B ys, P B ∧ y = .own B 0 ys.length 1 ∧ g B = some ys ∧ UpL (m.caches.flatMap Cache.enc) ys ∧ ListAt (fun t => P t ∧ t ≠ B) g x (m.mem.flatMap u8T)
theorem CohAt.coh {P : Nat → Prop} {g : Mem} {x y : T} {m : Coh} (h : CohAt P g x y m) : CohIn P g x y m := by
  obtain ⟨B, ys, pB, hy, gB, hu, hx⟩ := h
  exact ⟨hx.mono (fun t h => h.1) (fun _ _ => rfl), ys, hu, .inr ⟨B, pB, hy, gB⟩⟩
theorem CohAt.mono {P P' : Nat → Prop} {g g' : Mem} {x y : T} {m : Coh} (h : CohAt P g x y m) (hP : ∀ t, P t → P' t) (hg : ∀ t, P t → g' t = g t) : CohAt P' g' x y m := by
  obtain ⟨B, ys, pB, hy, gB, hu, hx⟩ := h
  exact ⟨B, ys, hP B pB, hy, by rw [hg B pB]; exact gB, hu, hx.mono (fun t h => ⟨hP t h.1, h.2⟩) (fun t h => hg t h.1)⟩
theorem coh_frz {P : Nat → Prop} {g : Mem} {x y : T} {m : Coh} (h : CohIn P g x y m) (nx : Nat) : ∃ v ids, UpT (.agg m.enc) v ∧ frz ⟨g, nx⟩ frzDepth (.agg [x, y]) = some (v, ids) := by
  obtain ⟨h1, ys, hu, h2⟩ := h
  obtain ⟨f, is, e1, p1⟩ := h1.frz (d := 9) (nx := nx) (frzAll_int _ (u8_ints _))
  obtain ⟨f', js, e2, p2⟩ := h2.frz (d := 9) (nx := nx) (frzAll_imm _ (upL_imm hu (caches_imm m)))
  refine ⟨.agg [.imm f (m.mem.flatMap u8T).length (m.mem.flatMap u8T), .imm f' ys.length ys], is ++ (js ++ []), ?_, ?_⟩
  · rw [coh_enc, memT_is, cachT_is]
    exact upT_agg (UpL.cons (upT_immR (UpL.refl _)) (UpL.cons (upT_immR (f := f') hu) UpL.nil))
  · show frz ⟨g, nx⟩ 12 _ = _
    rw [frz]
    simp only [frzAll, e1, e2]
/-- A line's bytes. -/
def bytesM (m : Coh) (ln : Nat) : List Int := (m.mem.drop (ln * 16)).take 16
theorem bytesM_len (m : Coh) (ln : Nat) (h : ln * 16 + 16 ≤ m.mem.length) : (bytesM m ln).length = 16 := by
  unfold bytesM; rw [List.length_take, List.length_drop]; omega
end Go.Proofs.Ytikeeegkndnnfaa.Abs
