/- Words of other seats' texts, as they are used here: Rback. -/
import Derived.Test.YtabfinhkoihhfaaGreatG08
namespace Go.Proofs.YtabfinhkoihhfaaGreat.Abs
open Go Go.RowKit Fn
set_option linter.unusedVariables false
set_option linter.unusedSimpArgs false
set_option linter.unnecessarySimpa false
set_option maxRecDepth 100000
set_option maxHeartbeats 4000000

def putM (m : Coh) (ln : Nat) (data : List Int) : Coh := if ln * 16 + 16 ≤ m.mem.length then { m with mem := spl m.mem (ln * 16) data } else m
def backM (m : Coh) (w : Way) : Coh := if w.state = 3 then putM m w.tag.toNat w.data else m
theorem putM_len (m : Coh) (ln : Nat) (data : List Int) : (putM m ln data).mem.length = m.mem.length := by
  unfold putM; split
  · exact spl_len _ _ _
  · rfl
theorem putM_caches (m : Coh) (ln : Nat) (data : List Int) : (putM m ln data).caches = m.caches := by unfold putM; split <;> rfl
theorem backM_caches (m : Coh) (w : Way) : (backM m w).caches = m.caches := by
  unfold backM; split
  · exact putM_caches _ _ _
  · rfl
theorem ap89 : ap 89 = some f89 := rfl
theorem p89 : f89.pure = true := rfl
theorem n89 : f89.nat = none := rfl
theorem ap91 : ap 91 = some f91 := rfl
theorem p91 : f91.pure = false := rfl
theorem n91 : f91.nat = none := rfl
theorem way_data (w : Way) (hw : w.wf) : cut w.enc 2 16 = w.data.flatMap u8T := by
  have e : w.enc = [T.int .i64 w.state, T.int .u32 w.tag] ++ (w.data.flatMap u8T ++ [T.int .i64 w.age]) := rfl
  have hl : (w.data.flatMap u8T).length = 16 := by rw [u8_len]; exact hw.2.2.1.1
  rw [e]
  unfold cut
  rw [List.drop_left' (by rfl), List.take_left' hl]
theorem back_run (m : Coh) (hm : m.wf) (hml : m.mem.length ≤ 4096) (w : Way) (hw : w.wf) (who : Int) (x y : T) (g : Mem) (nx : Nat) (h : CohIn (· < nx) g x y m) :
    ∃ N v g' nx', (∀ k, N ≤ k → runBody (ev ap k) f91 [.agg [x, y], .int .i64 who, .agg w.enc] g nx = some (v, g', nx')) ∧ ∃ x', v = .agg [x', y] ∧ (x' = x ∧ (backM m w).mem = m.mem ∨ ∃ A, nx ≤ A ∧ A < nx' ∧ x' = .own A 0 ((backM m w).mem.flatMap u8T).length 1 ∧ g' A = some ((backM m w).mem.flatMap u8T)) ∧ (∀ t, t < nx → g' t = g t) ∧ nx ≤ nx' := by
  refine EI_bodyV (P := fun v g' nx' => ∃ x', v = .agg [x', y] ∧ (x' = x ∧ (backM m w).mem = m.mem ∨ ∃ A, nx ≤ A ∧ A < nx' ∧ x' = .own A 0 ((backM m w).mem.flatMap u8T).length 1 ∧ g' A = some ((backM m w).mem.flatMap u8T)) ∧ (∀ t, t < nx → g' t = g t) ∧ nx ≤ nx') ?_
  generalize hs0 : (_ : List T) ++ List.replicate _ T.undef = s0
  have e0 : s0.length = 33 ∧ rho s0 (.tmp 0) = .agg [x, y] ∧ rho s0 (.tmp 1) = .int .i64 who ∧ rho s0 (.tmp 2) = .agg w.enc := by subst hs0; exact ⟨rfl, rfl, rfl, rfl⟩
  clear hs0
  obtain ⟨hl, h0, h1, h2⟩ := e0
  have hleaf := h.leaf
  have hy : y.leaf = true := by obtain ⟨_, ys, _, h3⟩ := h; exact h3.leaf
  have hwl := leaf_ints _ (way_ints w)
  have hlen := way_len hw
  have hst := way_state w
  have htg := way_tag w
  have hdt := way_data w hw
  have hd16 : w.data.length = 16 := hw.2.2.1.1
  obtain ⟨ln, hln, htag⟩ : ∃ ln : Nat, ln ≤ 4294967295 ∧ w.tag = (ln : Int) := ⟨w.tag.toNat, by have := wf_u32 hw.2.1; omega, by have := wf_u32 hw.2.1; omega⟩
  rw [htag] at htg
  have hbm : backM m w = if w.state = 3 then putM m ln w.data else m := by unfold backM; rw [htag, Int.toNat_natCast]
  generalize w.enc = we at *
  have hcut : cut [x, y] 0 2 = [x, y] := rfl
  refine W_cut (fun st => st.s.length = 33 ∧ rho st.s (.tmp 3) = .ptr nx 0 ∧ rho st.s (.tmp 5) = .ptr (nx + 1) 0 ∧ rho st.s (.tmp 6) = .ptr (nx + 2) 0 ∧ st.g nx = some [x, y] ∧ st.g (nx + 1) = some we ∧ st.g (nx + 2) = some [.imm true 0 [], .imm true 0 []] ∧ (∀ t, t < nx → st.g t = g t) ∧ st.nx = nx + 3) (W_region (fun k => by simp +decide (disch := first | omega | simp +decide [hl]) only [s9, simprocAttr, h0, h2, hleaf, hwl]; rfl) ⟨rfl, ?_⟩) ?_
  · refine ⟨?_, ?_, ?_, ?_, ?_, ?_, ?_, fun t ht => ?_, rfl⟩ <;> simp +decide (disch := first | omega | simp +decide [hl]) only [s9, simprocAttr, hl]
  rintro st ⟨hl, h3, h5, h6, g3, g5, g6, hg, hnx⟩
  have hin : CohIn (· < nx) st.g x y m := h.mono (fun _ h => h) hg
  by_cases h33 : w.state = 3
  · have hne : (w.state != 3) = false := by rw [h33]; rfl
    rw [if_pos h33] at hbm
    obtain ⟨x', y', hu, ids, hfz, hids⟩ := coh_args hin [] [.int .u32 (ln : Int)] ints_nil (ints_one _ _)
    obtain ⟨N, q⟩ := (bus_lies m hm ln hln).callF ap89 (up_tl hu [] _) (bool_up _) rfl
    have q := q N (Nat.le_refl _) st.g _ ids hfz
    by_cases hlies : ln * 16 + 16 ≤ m.mem.length
    · rw [decide_eq_true hlies] at q
      have hbm : backM m w = { m with mem := spl m.mem (ln * 16) w.data } := by rw [hbm]; exact if_pos hlies
      rw [hbm]
      have hspl := spl_u8 w.data m.mem (ln * 16)
      have hsl : (spl m.mem (ln * 16) w.data).length = m.mem.length := spl_len _ _ _
      refine W_seqn (W_seqn (W_regionN ⟨N, by simp +decide (disch := first | omega | simp +decide [hl]) only [s9, simprocAttr, h3, h5, g3, g5, hlen, hst, htg, hne, hcut, ap89, p89, n89, q]; rfl⟩ ⟨rfl, W_fls (W_skip ⟨rfl, ?_⟩)⟩))
      obtain ⟨rd, hcx, hrd⟩ := hin.1.cells
      have hBl := u8_len m.mem
      have hBf := u8_leaf m.mem
      have hDl : (w.data.flatMap u8T).length = 16 := by rw [u8_len]; exact hd16
      have hDf := u8_leaf w.data
      generalize w.data.flatMap u8T = D at *
      have hSl : ((spl m.mem (ln * 16) w.data).flatMap u8T).length = m.mem.length := by rw [u8_len, hsl]
      generalize (spl m.mem (ln * 16) w.data).flatMap u8T = S at *
      generalize m.mem.flatMap u8T = B at *
      have hn0 : (B.length = 0) = False := by simp; intro e; rw [e] at hBl; simp at hBl; omega
      have hr1 : B.length * 1 ≤ 549755813888 := by omega
      have hr2 : B.length ≤ 549755813888 := by omega
      have hb1 : (B.length = B.length * 1) = True := by simp
      have hll : allLeaf ([] : List T) = true := rfl
      refine W_cut (fun s => s.s.length = 33 ∧ rho s.s (.tmp 3) = .ptr nx 0 ∧ rho s.s (.tmp 5) = .ptr (nx + 1) 0 ∧ rho s.s (.tmp 6) = .ptr (nx + 2) 0 ∧ (∃ A, nx + 3 ≤ A ∧ A < s.nx ∧ s.g nx = some [.own A 0 B.length 1, y] ∧ s.g A = some B) ∧ s.g (nx + 1) = some we ∧ s.g (nx + 2) = some [.imm true 0 [], .imm true 0 []] ∧ (∀ t, t < nx → s.g t = g t)) (W_region (fun k => by simp +decide (disch := first | omega | simp +decide [hl]) only [s9, simprocAttr, h3, g3, hcx, hn0, hb1, hBf, hr1, hr2, hll]; rfl) ⟨rfl, ?_⟩) ?_
      · refine ⟨?_, ?_, ?_, ?_, ⟨st.nx + 10 + 2, by omega, by show st.nx + 10 + 2 < st.nx + 10 + 5; omega, ?_, ?_⟩, ?_, ?_, fun t ht => ?_⟩ <;> simp +decide (disch := first | omega | simp +decide [hl]) only [s9, simprocAttr, hl, h3, h5, h6, g3, g5, g6]
        exact hg t ht
      rintro st ⟨hl, h3, h5, h6, ⟨A, hA1, hA2, g3, gA⟩, g5, g6, hg⟩
      have w1 : IntKind.i64.wrap (ln : Int) = (ln : Int) := wrap_id (by omega)
      have w2 : IntKind.i64.wrap ((ln : Int) * 16) = ((ln * 16 : Nat) : Int) := by rw [wrap_id (by omega)]; omega
      have hb2 : ln * 16 ≤ B.length := by omega
      have hb4 : ln * 16 + (B.length - ln * 16) ≤ B.length := by omega
      have hmin : min 16 (B.length - ln * 16) = 16 := by omega
      have htk : D.take 16 = D := List.take_of_length_le (by omega)
      refine W_cut (fun s => s.s.length = 33 ∧ rho s.s (.tmp 3) = .ptr nx 0 ∧ rho s.s (.tmp 6) = .ptr (nx + 2) 0 ∧ A < s.nx ∧ s.g nx = some [.own A 0 B.length 1, y] ∧ s.g A = some S ∧ s.g (nx + 2) = some [.imm true 0 [], .imm true 0 []] ∧ (∀ t, t < nx → s.g t = g t)) (W_region (fun k => by simp +decide (disch := first | omega | simp +decide [hl]) only [s9, simprocAttr, h3, h5, g3, g5, gA, hlen, htg, w1, w2, hb2, hb4, hmin, htk, cellsOf, hdt, hDl, hDf, Nat.le_refl, Nat.mul_one, Nat.sub_zero, Option.map_some, Option.map_none]; rfl) ⟨rfl, ?_⟩) ?_
      · refine ⟨?_, ?_, ?_, by show A < st.nx + 10; omega, ?_, ?_, ?_, fun t ht => ?_⟩ <;> simp +decide (disch := first | omega | simp +decide [hl]) only [s9, simprocAttr, hl, h3, h6, g3, g6, hspl]
        exact hg t ht
      rintro st ⟨hl, h3, h6, hA2, g3, gA, g6, hg⟩
      have hcut2 : cut [T.own A 0 B.length 1, y] 0 2 = [T.own A 0 B.length 1, y] := rfl
      have hleaf2 : allLeaf [T.own A 0 B.length 1, y] = true := by
        show ([T.own A 0 B.length 1, y].all T.leaf) = true
        rw [List.all_cons, List.all_cons, hy]; rfl
      refine W_seqn (W_region (fun k => by simp +decide (disch := first | omega | simp +decide [hl]) only [s9, simprocAttr, h3, h6, g3, g6, hcut2, hleaf2]; rfl) ⟨rfl, W_ret ⟨rfl, .agg [.own A 0 B.length 1, y], ?_, .own A 0 B.length 1, rfl, .inr ⟨A, by omega, by show A < st.nx + 2; omega, by rw [hSl, ← hBl], ?_⟩, fun t ht => ?_, by show nx ≤ st.nx + 2; omega⟩⟩)
      · simp only [resT, resL, resOne, show f91.res = [.cell 6 false 2] from rfl]
        simp +decide (disch := first | omega | simp +decide [hl]) only [s9, simprocAttr, h6]
        try rfl
      · simp +decide (disch := first | omega | simp +decide [hl]) only [s9, simprocAttr, gA]
      · simp +decide (disch := first | omega | simp +decide [hl]) only [s9, simprocAttr]
        exact hg t ht
    · rw [decide_eq_false hlies] at q
      have hbm : backM m w = m := by rw [hbm]; exact if_neg hlies
      rw [hbm]
      refine W_seq (W_seqn (W_regionN ⟨N, by simp +decide (disch := first | omega | simp +decide [hl]) only [s9, simprocAttr, h3, h5, g3, g5, hlen, hst, htg, hne, hcut, ap89, p89, n89, q]; rfl⟩ ⟨rfl, W_tru ?_⟩))
      refine W_seqn (W_region (fun k => by simp +decide (disch := first | omega | simp +decide [hl]) only [s9, simprocAttr, h3, h6, g3, g6, hcut, hleaf]; rfl) ⟨rfl, W_ret ?_⟩)
      simp only [reduceCtorEq, false_and, false_or, or_false, exists_false, exists_const, ne_eq, not_false_eq_true, true_and, implies_true]
      refine ⟨rfl, .agg [x, y], ?_, x, rfl, .inl ⟨rfl, by trivial⟩, fun t ht => ?_, by show nx ≤ st.nx + 10 + 2; omega⟩
      · simp only [resT, resL, resOne, show f91.res = [.cell 6 false 2] from rfl]
        simp +decide (disch := first | omega | simp +decide [hl]) only [s9, simprocAttr, h6]
        try rfl
      · simp +decide (disch := first | omega | simp +decide [hl]) only [s9, simprocAttr]
        exact hg t ht
  · have hne : (w.state != 3) = true := by simpa using h33
    rw [if_neg h33] at hbm
    rw [hbm]
    refine W_seq (W_seqn (W_region (fun k => by simp +decide (disch := first | omega | simp +decide [hl]) only [s9, simprocAttr, h3, h5, g3, g5, hlen, hst, htg, hne, hcut]; rfl) ⟨rfl, W_tru ?_⟩))
    refine W_seqn (W_region (fun k => by simp +decide (disch := first | omega | simp +decide [hl]) only [s9, simprocAttr, h3, h6, g3, g6, hcut, hleaf]; rfl) ⟨rfl, W_ret ?_⟩)
    simp only [reduceCtorEq, false_and, false_or, or_false, exists_false, exists_const, ne_eq, not_false_eq_true, true_and, implies_true]
    refine ⟨rfl, .agg [x, y], ?_, x, rfl, .inl ⟨rfl, by trivial⟩, fun t ht => ?_, by show nx ≤ st.nx + 10 + 2; omega⟩
    · simp only [resT, resL, resOne, show f91.res = [.cell 6 false 2] from rfl]
      simp +decide (disch := first | omega | simp +decide [hl]) only [s9, simprocAttr, h6]
      try rfl
    · simp +decide (disch := first | omega | simp +decide [hl]) only [s9, simprocAttr]
      exact hg t ht
theorem repz_len (n : Nat) (z : T) : ((List.replicate n [z]).flatten).length = n := by simp
theorem copied40 (bs ys : List T) (hb : bs.length ≤ 100000) (hys : ys.length ≤ 1000) (hbf : allLeaf bs = true) (hyf : allLeaf ys = true) (x y : T) (g : Mem) (nx : Nat) (h1 : ListAt (· < nx) g x bs) (h2 : ListAt (· < nx) g y ys) :
    ∃ N v g' nx', (∀ k, N ≤ k → runBody (ev ap k) f75 [.agg [x, y]] g nx = some (v, g', nx')) ∧ ∃ A B, v = .agg [.own A 0 bs.length 1, .own B 0 ys.length 1] ∧ nx ≤ A ∧ nx ≤ B ∧ A < nx' ∧ B < nx' ∧ A ≠ B ∧ g' A = some bs ∧ g' B = some ys ∧ (∀ t, t < nx → g' t = g t) ∧ nx ≤ nx' := by
  refine EI_bodyV (P := fun v g' nx' => ∃ A B, v = .agg [.own A 0 bs.length 1, .own B 0 ys.length 1] ∧ nx ≤ A ∧ nx ≤ B ∧ A < nx' ∧ B < nx' ∧ A ≠ B ∧ g' A = some bs ∧ g' B = some ys ∧ (∀ t, t < nx → g' t = g t) ∧ nx ≤ nx') ?_
  generalize hs0 : (_ : List T) ++ List.replicate _ T.undef = s0
  have e0 : s0.length = 24 ∧ rho s0 (.tmp 0) = .agg [x, y] := by subst hs0; exact ⟨rfl, rfl⟩
  clear hs0
  obtain ⟨hl, h0⟩ := e0
  have hleaf : allLeaf [x, y] = true := by
    show ([x, y].all T.leaf) = true
    rw [List.all_cons, List.all_cons, h1.leaf, h2.leaf]; rfl
  refine W_cut (fun st => st.s.length = 24 ∧ rho st.s (.tmp 1) = .ptr nx 0 ∧ rho st.s (.tmp 2) = .ptr (nx + 1) 0 ∧ st.g nx = some [x, y] ∧ st.g (nx + 1) = some [.imm true 0 [], .imm true 0 []] ∧ (∀ t, t < nx → st.g t = g t) ∧ st.nx = nx + 2) (W_region (fun k => by simp +decide (disch := first | omega | simp +decide [hl]) only [s9, simprocAttr, h0, hleaf]; rfl) ⟨rfl, ?_⟩) ?_
  · refine ⟨?_, ?_, ?_, ?_, ?_, fun t ht => ?_, rfl⟩ <;> simp +decide (disch := first | omega | simp +decide [hl]) only [s9, simprocAttr, hl]
  rintro st ⟨hl, e1, e2, g1, g2, hg, hnx⟩
  have z1 : allLeaf [T.int .u8 0] = true := rfl
  have z2 : allLeaf [T.imm true 0 []] = true := rfl
  have r1 : bs.length * 1 ≤ 549755813888 := by omega
  have r2 : bs.length ≤ 549755813888 := by omega
  have r3 : ys.length * 24 ≤ 549755813888 := by omega
  have r4 : ys.length ≤ 549755813888 := by omega
  have hll : ∀ a b c d e f g h : Nat, allLeaf [T.own a b c d, T.own e f g h] = true := fun _ _ _ _ _ _ _ _ => rfl
  refine W_cut (fun s => s.s.length = 24 ∧ rho s.s (.tmp 1) = .ptr nx 0 ∧ rho s.s (.tmp 2) = .ptr (nx + 1) 0 ∧ s.g nx = some [x, y] ∧ s.g (nx + 1) = some [.imm true 0 [], .imm true 0 []] ∧ (∃ A B p, nx + 1 < A ∧ A < B ∧ B < p ∧ p < s.nx ∧ rho s.s (.tmp 3) = .ptr p 0 ∧ s.g p = some [.own A 0 bs.length 1, .own B 0 ys.length 1] ∧ s.g A = some ((List.replicate bs.length [T.int .u8 0]).flatten) ∧ s.g B = some ((List.replicate ys.length [T.imm true 0 []]).flatten)) ∧ (∀ t, t < nx → s.g t = g t)) ?_ ?_
  · rcases h1 with ⟨f1, rfl⟩ | ⟨A1, p1, rfl, q1⟩ <;> rcases h2 with ⟨f2, rfl⟩ | ⟨A2, p2, rfl, q2⟩ <;> (
      refine W_region (fun k => by simp +decide (disch := first | omega | simp +decide [hl]) only [s9, simprocAttr, e1, g1, z1, z2, r1, r2, r3, r4, Nat.le_refl, hll]; rfl) ⟨rfl, ?_⟩
      refine ⟨?_, ?_, ?_, ?_, ?_, ⟨st.nx + 1 + 1 + 1, st.nx + 1 + 1 + 1 + 1 + 1 + 1 + 1, st.nx + 1 + 1 + 1 + 1 + 1 + 1 + 1 + 1 + 1, by omega, by omega, by omega, by show st.nx + 1 + 1 + 1 + 1 + 1 + 1 + 1 + 1 + 1 < st.nx + 11; omega, ?_, ?_, ?_, ?_⟩, fun t ht => ?_⟩ <;> simp +decide (disch := first | omega | simp +decide [hl]) only [s9, simprocAttr, hl, e1, e2, g1, g2]
      exact hg t ht)
  rintro st ⟨hl, e1, e2, g1, g2, ⟨A, B, p, hA, hB, hp, hpn, e3, gp, gA, gB⟩, hg⟩
  have h1' := (h1.mono (P' := (· < nx)) (fun _ h => h) hg)
  obtain ⟨rd, hcx, hrd⟩ := h1'.cells
  have hzl := repz_len bs.length (T.int .u8 0)
  have hs1 := splice_all (c := (List.replicate bs.length [T.int .u8 0]).flatten) (l := bs) hzl.symm
  have b1 : (bs.length = bs.length * 1) = True := by simp
  have b2 : min bs.length bs.length = bs.length := Nat.min_self _
  have b3 : bs.take bs.length = bs := List.take_of_length_le (Nat.le_refl _)
  have b4 : bs.length * 1 = bs.length := Nat.mul_one _
  generalize (List.replicate bs.length [T.int .u8 0]).flatten = Z at *
  refine W_cut (fun s => s.s.length = 24 ∧ rho s.s (.tmp 1) = .ptr nx 0 ∧ rho s.s (.tmp 2) = .ptr (nx + 1) 0 ∧ rho s.s (.tmp 3) = .ptr p 0 ∧ p < s.nx ∧ s.g nx = some [x, y] ∧ s.g (nx + 1) = some [.imm true 0 [], .imm true 0 []] ∧ s.g p = some [.own A 0 bs.length 1, .own B 0 ys.length 1] ∧ s.g A = some bs ∧ s.g B = some ((List.replicate ys.length [T.imm true 0 []]).flatten) ∧ (∀ t, t < nx → s.g t = g t)) (W_region (fun k => by simp +decide (disch := first | omega | simp +decide [hl]) only [s9, simprocAttr, e1, e3, g1, gp, gA, hcx, hzl, b1, b2, b3, b4, hbf, Nat.le_refl, Nat.mul_one, hs1]; rfl) ⟨rfl, ?_⟩) ?_
  · refine ⟨?_, ?_, ?_, ?_, by show p < st.nx + 5; omega, ?_, ?_, ?_, ?_, ?_, fun t ht => ?_⟩ <;> simp +decide (disch := first | omega | simp +decide [hl]) only [s9, simprocAttr, hl, e1, e2, e3, g1, g2, gp, gB]
    exact hg t ht
  clear hcx hzl hs1 b1 b2 b3 b4
  rintro st ⟨hl, e1, e2, e3, hpn, g1, g2, gp, gA, gB, hg⟩
  have h2' := (h2.mono (P' := (· < nx)) (fun _ h => h) hg)
  obtain ⟨rd, hcx, hrd⟩ := h2'.cells
  have hzl := repz_len ys.length (T.imm true 0 [])
  have hs1 := splice_all (c := (List.replicate ys.length [T.imm true 0 []]).flatten) (l := ys) hzl.symm
  have b1 : (ys.length = ys.length * 1) = True := by simp
  have b2 : min ys.length ys.length = ys.length := Nat.min_self _
  have b3 : ys.take ys.length = ys := List.take_of_length_le (Nat.le_refl _)
  have b4 : ys.length * 1 = ys.length := Nat.mul_one _
  generalize (List.replicate ys.length [T.imm true 0 []]).flatten = Z at *
  refine W_cut (fun s => s.s.length = 24 ∧ rho s.s (.tmp 2) = .ptr (nx + 1) 0 ∧ rho s.s (.tmp 3) = .ptr p 0 ∧ p < s.nx ∧ s.g (nx + 1) = some [.imm true 0 [], .imm true 0 []] ∧ s.g p = some [.own A 0 bs.length 1, .own B 0 ys.length 1] ∧ s.g A = some bs ∧ s.g B = some ys ∧ (∀ t, t < nx → s.g t = g t)) (W_region (fun k => by simp +decide (disch := first | omega | simp +decide [hl]) only [s9, simprocAttr, e1, e3, g1, gp, gB, hcx, hzl, b1, b2, b3, b4, hyf, Nat.le_refl, Nat.mul_one, hs1]; rfl) ⟨rfl, ?_⟩) ?_
  · refine ⟨?_, ?_, ?_, by show p < st.nx + 5; omega, ?_, ?_, ?_, ?_, fun t ht => ?_⟩ <;> simp +decide (disch := first | omega | simp +decide [hl]) only [s9, simprocAttr, hl, e2, e3, g2, gp, gA]
    exact hg t ht
  rintro st ⟨hl, e2, e3, hpn, g2, gp, gA, gB, hg⟩
  have hcut2 : cut [T.own A 0 bs.length 1, T.own B 0 ys.length 1] 0 2 = [T.own A 0 bs.length 1, T.own B 0 ys.length 1] := rfl
  refine W_seqn (W_region (fun k => by simp +decide (disch := first | omega | simp +decide [hl]) only [s9, simprocAttr, e2, e3, g2, gp, hcut2, hll]; rfl) ⟨rfl, W_ret ⟨rfl, .agg [.own A 0 bs.length 1, .own B 0 ys.length 1], ?_, A, B, rfl, by omega, by omega, by show A < st.nx + 2; omega, by show B < st.nx + 2; omega, by omega, ?_, ?_, fun t ht => ?_, by show nx ≤ st.nx + 2; omega⟩⟩)
  · simp only [resT, resL, resOne, show f75.res = [.cell 2 false 2] from rfl]
    simp +decide (disch := first | omega | simp +decide [hl]) only [s9, simprocAttr, e2]
    try rfl
  · simp +decide (disch := first | omega | simp +decide [hl]) only [s9, simprocAttr, gA]
  · simp +decide (disch := first | omega | simp +decide [hl]) only [s9, simprocAttr, gB]
  · simp +decide (disch := first | omega | simp +decide [hl]) only [s9, simprocAttr]
    exact hg t ht
def CohAt (P : Nat → Prop) (g : Mem) (x y : T) (m : Coh) : Prop := ∃ B ys, P B ∧ y = .own B 0 ys.length 1 ∧ g B = some ys ∧ UpL (m.caches.flatMap Cache.enc) ys ∧ ListAt (fun t => P t ∧ t ≠ B) g x (m.mem.flatMap u8T)
theorem CohAt.coh {P : Nat → Prop} {g : Mem} {x y : T} {m : Coh} (h : CohAt P g x y m) : CohIn P g x y m := by
  obtain ⟨B, ys, pB, hy, gB, hu, hx⟩ := h
  exact ⟨hx.mono (fun t h => h.1) (fun _ _ => rfl), ys, hu, .inr ⟨B, pB, hy, gB⟩⟩
theorem CohAt.mono {P P' : Nat → Prop} {g g' : Mem} {x y : T} {m : Coh} (h : CohAt P g x y m) (hP : ∀ t, P t → P' t) (hg : ∀ t, P t → g' t = g t) : CohAt P' g' x y m := by
  obtain ⟨B, ys, pB, hy, gB, hu, hx⟩ := h
  exact ⟨B, ys, hP B pB, hy, by rw [hg B pB]; exact gB, hu, hx.mono (fun t h => ⟨hP t h.1, h.2⟩) (fun t h => hg t h.1)⟩
theorem ap74 : ap 74 = some f74 := rfl
theorem p74 : f74.pure = true := rfl
theorem n74 : f74.nat = none := rfl
theorem ap75 : ap 75 = some f75 := rfl
theorem p75 : f75.pure = false := rfl
theorem n75 : f75.nat = none := rfl
def putLoop : ACode := match f78.body with | .seq _ (.seq _ (.seq _ (.seq (.seq _ (.block _ (.loop c))) _))) => c | _ => .skip
theorem put_loop (mem data : List Int) (hml : mem.length ≤ 4096) (hd : data.length = 16) (ln : Nat) (hlies : ln * 16 + 16 ≤ mem.length) (q r p A B nx : Nat) (y : T) (ys : List T) (hq : q ≠ A) (hr : r ≠ A) (hp : p ≠ A) (hB : B ≠ A) (hA : nx ≤ A) (g : Mem) (lo : Nat) (Q : AExit → St → Prop)
    (hQ : ∀ st, st.s.length = 32 → rho st.s (.tmp 6) = .ptr r 0 → rho st.s (.tmp 7) = .ptr p 0 → st.g r = some [.imm true 0 [], .imm true 0 []] → st.g p = some [.own A 0 (mem.flatMap u8T).length 1, y] → st.g A = some ((spl mem (ln * 16) data).flatMap u8T) → st.g B = some ys → (∀ t, t < nx → st.g t = g t) → lo ≤ st.nx → Q (.exit 0) st) :
    ∀ (n : Nat) (st : St), (∃ i : Nat, st.s.length = 32 ∧ rho st.s (.tmp 1) = .int .u32 (ln : Int) ∧ rho st.s (.tmp 5) = .ptr q 0 ∧ rho st.s (.tmp 6) = .ptr r 0 ∧ rho st.s (.tmp 7) = .ptr p 0 ∧ rho st.s (.tmp 8) = .int .i64 (i : Int) ∧ st.g q = some (data.flatMap u8T) ∧ st.g r = some [.imm true 0 [], .imm true 0 []] ∧ st.g p = some [.own A 0 (mem.flatMap u8T).length 1, y] ∧ st.g A = some ((spl mem (ln * 16) (data.take i)).flatMap u8T) ∧ st.g B = some ys ∧ (∀ t, t < nx → st.g t = g t) ∧ lo ≤ st.nx ∧ i ≤ 16 ∧ n = 16 - i) → W ap (.loop putLoop) st Q := by
  refine W_loop _ ?_
  rintro n st ⟨i, hl, h1, h5, h6, h7, h8, gq, gr, gp, gA, gB, hg, hlo, hi, hn⟩
  by_cases hend : i = 16
  · subst hend
    have htk : data.take 16 = data := List.take_of_length_le (by omega)
    rw [htk] at gA
    refine W_seq (W_seqn (W_region (fun k => by simp +decide (disch := first | omega | simp +decide [hl]) only [s9, simprocAttr, h8]; rfl) ⟨rfl, W_fls (W_exit (.inr ⟨by simp, .inr ⟨by simp, hQ _ ?_ ?_ ?_ ?_ ?_ ?_ ?_ ?_ ?_⟩⟩))⟩))
    · simp +decide (disch := first | omega | simp +decide [hl]) only [s8, simprocAttr, hl]
    · simp +decide (disch := first | omega | simp +decide [hl]) only [s8, simprocAttr, h6]
    · simp +decide (disch := first | omega | simp +decide [hl]) only [s8, simprocAttr, h7]
    · exact gr
    · exact gp
    · exact gA
    · exact gB
    · exact hg
    · show lo ≤ st.nx + 2
      omega
  · have hi16 : i < 16 := by omega
    have hlt : decide ((i : Int) < 16) = true := decide_eq_true (by omega)
    have w1 : IntKind.i64.wrap (ln : Int) = (ln : Int) := wrap_id (by omega)
    have w2 : IntKind.i64.wrap ((ln : Int) * 16) = ((ln * 16 : Nat) : Int) := by rw [wrap_id (by omega)]; omega
    have w3 : IntKind.i64.wrap (((ln * 16 : Nat) : Int) + (i : Int)) = ((ln * 16 + i : Nat) : Int) := by rw [wrap_id (by omega)]; omega
    have w4 : IntKind.i64.wrap ((i : Int) + 1) = ((i + 1 : Nat) : Int) := by rw [wrap_id (by omega)]; omega
    have hdl := u8_len data
    have hdi := u8_get data i (by omega)
    rw [Nat.mul_one] at hdi
    have hbl := u8_len mem
    have hcl : ((spl mem (ln * 16) (data.take i)).flatMap u8T).length = mem.length := by rw [u8_len, spl_len]
    have hnew : ((spl mem (ln * 16) (data.take i)).flatMap u8T).set (ln * 16 + i) (.int .u8 (data[i]'(by omega))) = (spl mem (ln * 16) (data.take (i + 1))).flatMap u8T := by
      rw [spl_take_succ _ _ _ _ (by omega) (by omega), set_u8]
    generalize (spl mem (ln * 16) (data.take i)).flatMap u8T = C at *
    generalize hCe : (spl mem (ln * 16) (data.take (i + 1))).flatMap u8T = C' at *
    generalize data.flatMap u8T = D at *
    generalize mem.flatMap u8T = M at *
    have hb1 : i + 1 ≤ D.length := by omega
    have hb2 : ln * 16 + i < M.length := by omega
    have hb3 : ln * 16 + i + 1 ≤ C.length := by omega
    refine W_seqn (W_seqn (W_region (fun k => by simp +decide (disch := first | omega | simp +decide [hl]) only [s9, simprocAttr, h8, hlt]; rfl) ⟨rfl, W_tru (W_skip ⟨rfl, ?_⟩)⟩))
    refine W_seqn (W_block (W_region (fun k => by simp +decide (disch := first | omega | simp +decide [hl]) only [s9, simprocAttr, h1, h5, h7, h8, gp, gq, gA, w1, w2, w3, hi16, hb1, hb2, hb3, hdi, hnew, Nat.mul_one]; rfl) (.inr (.inl ⟨by simp, rfl, ?_⟩))))
    refine W_region (fun k => by simp +decide (disch := first | omega | simp +decide [hl]) only [s9, simprocAttr, h8, w4]; rfl) ?_
    refine .inl ⟨rfl, 16 - (i + 1), by omega, i + 1, ?_, ?_, ?_, ?_, ?_, ?_, ?_, ?_, ?_, ?_, ?_, fun t ht => ?_, ?_, by omega, rfl⟩
    · simp +decide (disch := first | omega | simp +decide [hl]) only [s8, simprocAttr, hl]
    · simp +decide (disch := first | omega | simp +decide [hl]) only [s8, simprocAttr, h1]
    · simp +decide (disch := first | omega | simp +decide [hl]) only [s8, simprocAttr, h5]
    · simp +decide (disch := first | omega | simp +decide [hl]) only [s8, simprocAttr, h6]
    · simp +decide (disch := first | omega | simp +decide [hl]) only [s8, simprocAttr, h7]
    · simp +decide (disch := first | omega | simp +decide [hl]) only [s8, simprocAttr]
    · simp +decide (disch := first | omega | simp +decide [hl]) only [s9, simprocAttr, gq]
    · simp +decide (disch := first | omega | simp +decide [hl]) only [s9, simprocAttr, gr]
    · simp +decide (disch := first | omega | simp +decide [hl]) only [s9, simprocAttr, gp]
    · rw [hCe]
      simp +decide (disch := first | omega | simp +decide [hl]) only [s9, simprocAttr]
    · simp +decide (disch := first | omega | simp +decide [hl]) only [s9, simprocAttr, gB]
    · simp +decide (disch := first | omega | simp +decide [hl]) only [s9, simprocAttr]
      exact hg t ht
    · show lo ≤ st.nx + 2 + 12 + 3
      omega
theorem put_run (m : Coh) (hm : m.wf) (hml : m.mem.length ≤ 4096) (hcl : m.caches.length ≤ 4) (ln : Nat) (hln : ln ≤ 4294967295) (data : List Int) (hd : data.length = 16) (x y : T) (g : Mem) (nx : Nat) (h : CohIn (· < nx) g x y m) :
    ∃ N v g' nx', (∀ k, N ≤ k → runBody (ev ap k) f78 [.agg [x, y], .int .u32 (ln : Int), .agg (data.flatMap u8T)] g nx = some (v, g', nx')) ∧ ∃ x' y', v = .agg [x', y'] ∧ ((ln * 16 + 16 ≤ m.mem.length ∧ CohAt (fun t => nx ≤ t ∧ t < nx') g' x' y' (putM m ln data)) ∨ (¬ ln * 16 + 16 ≤ m.mem.length ∧ x' = x ∧ y' = y)) ∧ (∀ t, t < nx → g' t = g t) ∧ nx ≤ nx' := by
  refine EI_bodyV (P := fun v g' nx' => ∃ x' y', v = .agg [x', y'] ∧ ((ln * 16 + 16 ≤ m.mem.length ∧ CohAt (fun t => nx ≤ t ∧ t < nx') g' x' y' (putM m ln data)) ∨ (¬ ln * 16 + 16 ≤ m.mem.length ∧ x' = x ∧ y' = y)) ∧ (∀ t, t < nx → g' t = g t) ∧ nx ≤ nx') ?_
  generalize hs0 : (_ : List T) ++ List.replicate _ T.undef = s0
  have e0 : s0.length = 32 ∧ rho s0 (.tmp 0) = .agg [x, y] ∧ rho s0 (.tmp 1) = .int .u32 (ln : Int) ∧ rho s0 (.tmp 2) = .agg (data.flatMap u8T) := by subst hs0; exact ⟨rfl, rfl, rfl, rfl⟩
  clear hs0
  obtain ⟨hl, h0, h1, h2⟩ := e0
  have hleaf := h.leaf
  have hdl := u8_len data
  have hdf := u8_leaf data
  have hcut : cut [x, y] 0 2 = [x, y] := rfl
  refine W_cut (fun st => st.s.length = 32 ∧ rho st.s (.tmp 1) = .int .u32 (ln : Int) ∧ rho st.s (.tmp 3) = .ptr nx 0 ∧ rho st.s (.tmp 5) = .ptr (nx + 1) 0 ∧ rho st.s (.tmp 6) = .ptr (nx + 2) 0 ∧ st.g nx = some [x, y] ∧ st.g (nx + 1) = some (data.flatMap u8T) ∧ st.g (nx + 2) = some [.imm true 0 [], .imm true 0 []] ∧ (∀ t, t < nx → st.g t = g t) ∧ st.nx = nx + 3) (W_region (fun k => by simp +decide (disch := first | omega | simp +decide [hl]) only [s9, simprocAttr, h0, h2, hleaf, hdf]; rfl) ⟨rfl, ?_⟩) ?_
  · refine ⟨?_, ?_, ?_, ?_, ?_, ?_, ?_, ?_, fun t ht => ?_, rfl⟩ <;> simp +decide (disch := first | omega | simp +decide [hl]) only [s9, simprocAttr, hl, h1]
  rintro st ⟨hl, h1, h3, h5, h6, g3, g5, g6, hg, hnx⟩
  have hin : CohIn (· < nx) st.g x y m := h.mono (fun _ h => h) hg
  obtain ⟨x', y', hu, ids, hfz, hids⟩ := coh_args hin [] [.int .u32 (ln : Int)] ints_nil (ints_one _ _)
  obtain ⟨N, q⟩ := (ref_lies m hm ln hln).callF ap74 (up_tl hu [] _) (bool_up _) rfl
  have q := q N (Nat.le_refl _) st.g _ ids hfz
  by_cases hlies : ln * 16 + 16 ≤ m.mem.length
  · rw [decide_eq_true hlies] at q
    have hput : putM m ln data = { m with mem := spl m.mem (ln * 16) data } := by unfold putM; exact if_pos hlies
    refine W_seqn (W_seqn (W_regionN ⟨N, by simp +decide (disch := first | omega | simp +decide [hl]) only [s9, simprocAttr, h1, h3, g3, hcut, ap74, p74, n74, q]; rfl⟩ ⟨rfl, W_fls (W_skip ⟨rfl, ?_⟩)⟩))
    obtain ⟨k1, ys, k2, k3⟩ := hin
    have hyl : ys.length = m.caches.length := by rw [k2.len, caches_len']
    obtain ⟨N2, v, g', nx', q2, A, B, rfl, hA1, hB1, hA2, hB2, hAB, gA, gB, hg', hnx'⟩ := copied40 (m.mem.flatMap u8T) ys (by rw [u8_len]; omega) (by omega) (u8_leaf _) (by have := k2.allLeaf; unfold allLeaf; rw [this]; exact flat_leaf (f := Cache.enc) (fun _ => rfl) _) x y st.g (st.nx + 4 + 4) (k1.mono (fun t h => by show t < _; have : t < nx := h; omega) (fun _ _ => rfl)) (k3.mono (fun t h => by show t < _; have : t < nx := h; omega) (fun _ _ => rfl))
    have q2 := q2 N2 (Nat.le_refl _)
    have hll : ∀ a b c d e f g h : Nat, allLeaf [T.own a b c d, T.own e f g h] = true := fun _ _ _ _ _ _ _ _ => rfl
    refine W_cut (fun s => s.s.length = 32 ∧ rho s.s (.tmp 1) = .int .u32 (ln : Int) ∧ rho s.s (.tmp 5) = .ptr (nx + 1) 0 ∧ rho s.s (.tmp 6) = .ptr (nx + 2) 0 ∧ rho s.s (.tmp 7) = .ptr (st.nx + 4 + 2) 0 ∧ s.g (nx + 1) = some (data.flatMap u8T) ∧ s.g (nx + 2) = some [.imm true 0 [], .imm true 0 []] ∧ s.g (st.nx + 4 + 2) = some [.own A 0 (m.mem.flatMap u8T).length 1, .own B 0 ys.length 1] ∧ s.g A = some (m.mem.flatMap u8T) ∧ s.g B = some ys ∧ (∀ t, t < nx → s.g t = g t) ∧ s.nx = nx') (W_regionN ⟨N2, by simp +decide (disch := first | omega | simp +decide [hl]) only [s9, simprocAttr, h3, g3, hcut, ap75, p75, n75, evI, q2, hll]; rfl⟩ ⟨rfl, ?_⟩) ?_
    · have e1 := hg' (nx + 1) (by omega)
      have e2 := hg' (nx + 2) (by omega)
      refine ⟨?_, ?_, ?_, ?_, ?_, ?_, ?_, ?_, ?_, ?_, fun t ht => ?_, rfl⟩ <;> simp +decide (disch := first | omega | simp +decide [hl]) only [s9, simprocAttr, hl, h1, h5, h6, e1, e2, g5, g6, gA, gB]
      rw [hg' t (by omega)]
      exact hg t ht
    rintro s ⟨hl, h1, h5, h6, h7, g5, g6, gp, gA, gB, hg2, hnx2⟩
    refine W_seq (W_seqn (W_region (fun k => by simp +decide (disch := first | omega | simp +decide [hl]) only [s9, simprocAttr]; rfl) ⟨rfl, W_block ?_⟩))
    refine put_loop m.mem data hml hd ln hlies (nx + 1) (nx + 2) (st.nx + 4 + 2) A B nx (.own B 0 ys.length 1) ys (by omega) (by omega) (by omega) (fun e => hAB e.symm) (by omega) g (nx' + 1) _ (fun st' hl h6 h7 g6 gp gA gB hg hlo => ?_) (16 - 0) _ ⟨0, ?_, ?_, ?_, ?_, ?_, ?_, g5, g6, gp, gA, gB, hg2, by show nx' + 1 ≤ s.nx + 1; omega, by omega, rfl⟩
    · refine .inl ⟨rfl, .inl ⟨rfl, ?_⟩⟩
      have hcut2 : cut [T.own A 0 (m.mem.flatMap u8T).length 1, T.own B 0 ys.length 1] 0 2 = [T.own A 0 (m.mem.flatMap u8T).length 1, T.own B 0 ys.length 1] := rfl
      refine W_seqn (W_region (fun k => by simp +decide (disch := first | omega | simp +decide [hl]) only [s9, simprocAttr, h6, h7, g6, gp, hcut2, hll]; rfl) ⟨rfl, W_ret ⟨rfl, .agg [.own A 0 (m.mem.flatMap u8T).length 1, .own B 0 ys.length 1], ?_, _, _, rfl, .inl ⟨hlies, B, ys, ⟨by omega, by show B < st'.nx + 2; omega⟩, rfl, ?_, by rw [hput]; exact k2, .inr ⟨A, ⟨⟨by omega, by show A < st'.nx + 2; omega⟩, hAB⟩, by rw [hput, u8_len, u8_len]; simp only [spl_len], ?_⟩⟩, fun t ht => ?_, by show nx ≤ st'.nx + 2; omega⟩⟩)
      · simp only [resT, resL, resOne, show f78.res = [.cell 6 false 2] from rfl]
        simp +decide (disch := first | omega | simp +decide [hl]) only [s9, simprocAttr, h6]
        try rfl
      · simp +decide (disch := first | omega | simp +decide [hl]) only [s9, simprocAttr, gB]
      · rw [hput]
        simp +decide (disch := first | omega | simp +decide [hl]) only [s9, simprocAttr, gA]
      · simp +decide (disch := first | omega | simp +decide [hl]) only [s9, simprocAttr]
        exact hg t ht
    · simp +decide (disch := first | omega | simp +decide [hl]) only [s8, simprocAttr, hl]
    · simp +decide (disch := first | omega | simp +decide [hl]) only [s8, simprocAttr, h1]
    · simp +decide (disch := first | omega | simp +decide [hl]) only [s8, simprocAttr, h5]
    · simp +decide (disch := first | omega | simp +decide [hl]) only [s8, simprocAttr, h6]
    · simp +decide (disch := first | omega | simp +decide [hl]) only [s8, simprocAttr, h7]
    · simp +decide (disch := first | omega | simp +decide [hl]) only [s8, simprocAttr] <;> rfl
  · rw [decide_eq_false hlies] at q
    refine W_seq (W_seqn (W_regionN ⟨N, by simp +decide (disch := first | omega | simp +decide [hl]) only [s9, simprocAttr, h1, h3, g3, hcut, ap74, p74, n74, q]; rfl⟩ ⟨rfl, W_tru ?_⟩))
    refine W_seqn (W_region (fun k => by simp +decide (disch := first | omega | simp +decide [hl]) only [s9, simprocAttr, h3, h6, g3, g6, hcut, hleaf]; rfl) ⟨rfl, W_ret ?_⟩)
    refine .inr ⟨by simp, rfl, .agg [x, y], ?_, x, y, rfl, .inr ⟨hlies, rfl, rfl⟩, fun t ht => ?_, by show nx ≤ st.nx + 4 + 2; omega⟩
    · simp only [resT, resL, resOne, show f78.res = [.cell 6 false 2] from rfl]
      simp +decide (disch := first | omega | simp +decide [hl]) only [s9, simprocAttr, h6]
      try rfl
    · simp +decide (disch := first | omega | simp +decide [hl]) only [s9, simprocAttr]
      exact hg t ht
theorem coh_frz {P : Nat → Prop} {g : Mem} {x y : T} {m : Coh} (h : CohIn P g x y m) (nx : Nat) : ∃ v ids, UpT (.agg m.enc) v ∧ frz ⟨g, nx⟩ frzDepth (.agg [x, y]) = some (v, ids) := by
  obtain ⟨h1, ys, hu, h2⟩ := h
  obtain ⟨f, is, e1, p1⟩ := h1.frz (d := 9) (nx := nx) (frzAll_int _ (u8_ints _))
  obtain ⟨f', js, e2, p2⟩ := h2.frz (d := 9) (nx := nx) (frzAll_imm _ (upL_imm hu (caches_imm m)))
  refine ⟨.agg [.imm f (m.mem.flatMap u8T).length (m.mem.flatMap u8T), .imm f' ys.length ys], is ++ (js ++ []), ?_, ?_⟩
  · rw [coh_enc, memT_is, cachT_is]
    exact upT_agg (UpL.cons (upT_immR (UpL.refl _)) (UpL.cons (upT_immR (f := f') hu) UpL.nil))
  · show frz ⟨g, nx⟩ 12 _ = _
    rw [frz]
    simp only [frzAll, e1, e2]
theorem ap78 : ap 78 = some f78 := rfl
theorem p78 : f78.pure = false := rfl
theorem n78 : f78.nat = none := rfl
theorem way_cut (w : Way) (hw : w.wf) : cut w.enc (0 + 2) 16 = w.data.flatMap u8T := way_data w hw
theorem ref_back (m : Coh) (hm : m.wf) (hml : m.mem.length ≤ 4096) (hcl : m.caches.length ≤ 4) (w : Way) (hw : w.wf) (who : Int) : ∃ v, E ap 84 [.agg [memT m, cachT m], .int .i64 who, .agg w.enc] v ∧ UpT (.agg (backM m w).enc) v := by
  refine E_bodyV (F := f84) rfl rfl rfl (P := fun v => UpT (.agg (backM m w).enc) v) ?_
  generalize hs0 : (_ : List T) ++ List.replicate _ T.undef = s0
  have e0 : s0.length = 17 ∧ rho s0 (.tmp 0) = .agg [memT m, cachT m] ∧ rho s0 (.tmp 1) = .int .i64 who ∧ rho s0 (.tmp 2) = .agg w.enc := by subst hs0; exact ⟨rfl, rfl, rfl, rfl⟩
  clear hs0
  obtain ⟨hl, h0, h1, h2⟩ := e0
  have hleaf : allLeaf [memT m, cachT m] = true := rfl
  have hwl := leaf_ints _ (way_ints w)
  have hlen := way_len hw
  have hst := way_state w
  have htg := way_tag w
  have hdt := way_cut w hw
  obtain ⟨ln, hln, htag⟩ : ∃ ln : Nat, ln ≤ 4294967295 ∧ w.tag = (ln : Int) := ⟨w.tag.toNat, by have := wf_u32 hw.2.1; omega, by have := wf_u32 hw.2.1; omega⟩
  rw [htag] at htg
  have hbm : backM m w = if w.state = 3 then putM m ln w.data else m := by unfold backM; rw [htag, Int.toNat_natCast]
  generalize w.enc = we at *
  have hcut : cut [memT m, cachT m] 0 2 = [memT m, cachT m] := rfl
  refine W_cut (fun st => st.s.length = 17 ∧ rho st.s (.tmp 3) = .ptr 0 0 ∧ rho st.s (.tmp 5) = .ptr 1 0 ∧ rho st.s (.tmp 6) = .ptr 2 0 ∧ st.g 0 = some [memT m, cachT m] ∧ st.g 1 = some we ∧ st.g 2 = some [.imm true 0 [], .imm true 0 []] ∧ st.nx = 3) (W_region (fun k => by simp +decide (disch := first | omega | simp +decide [hl]) only [s9, simprocAttr, h0, h2, hleaf, hwl]; rfl) ⟨rfl, ?_⟩) ?_
  · refine ⟨?_, ?_, ?_, ?_, ?_, ?_, ?_, rfl⟩ <;> simp +decide (disch := first | omega | simp +decide [hl]) only [s9, simprocAttr, hl]
  rintro st ⟨hl, h3, h5, h6, g3, g5, g6, hnx⟩
  by_cases h33 : w.state = 3
  · have hne : (w.state != 3) = false := by rw [h33]; rfl
    rw [if_pos h33] at hbm
    rw [hbm]
    refine W_seqn (W_seqn (W_region (fun k => by simp +decide (disch := first | omega | simp +decide [hl]) only [s9, simprocAttr, h5, g5, hlen, hst, hne]; rfl) ⟨rfl, W_fls (W_skip ⟨rfl, ?_⟩)⟩))
    obtain ⟨N, v, g', nx', q, x', y', rfl, hca, hg', hnx'⟩ := put_run m hm hml hcl ln hln w.data hw.2.2.1.1 (memT m) (cachT m) st.g (st.nx + 3 + 7) (coh_imm _ _ m)
    have q := q N (Nat.le_refl _)
    have hin : CohIn (fun t => st.nx + 3 + 7 ≤ t ∧ t < nx') g' x' y' (putM m ln w.data) := by
      rcases hca with ⟨_, h⟩ | ⟨h, rfl, rfl⟩
      · exact h.coh
      · rw [show putM m ln w.data = m from if_neg h]; exact coh_imm _ _ _
    have g6' : g' 2 = some [.imm true 0 [], .imm true 0 []] := by rw [hg' 2 (by omega)]; exact g6
    have hl2 := hin.leaf
    obtain ⟨v, ids, hv, hf⟩ := coh_frz (g := put1 g' (2, some [x', y'])) (hin.mono (P' := (· < nx')) (fun _ h => h.2) (fun t ht => put1_ne (by have := ht.1; omega))) nx'
    refine W_seqn (W_regionN ⟨N, by simp +decide (disch := first | omega | simp +decide [hl]) only [s9, simprocAttr, h3, h5, h6, g3, g5, hlen, htg, hdt, hcut, ap78, p78, n78, evI, q, g6', hl2]; rfl⟩ ⟨rfl, W_ret ⟨rfl, v, hv, .agg [x', y'], ids, ?_, hf⟩⟩)
    simp only [resT, resL, resOne, show f84.res = [.cell 6 false 2] from rfl]
    simp +decide (disch := first | omega | simp +decide [hl]) only [s9, simprocAttr, h6]
    try rfl
  · have hne : (w.state != 3) = true := by simpa using h33
    rw [if_neg h33] at hbm
    rw [hbm]
    obtain ⟨v, ids, hv, hf⟩ := coh_frz (coh_imm (fun _ => True) (put1 st.g (2, some [memT m, cachT m])) m) (st.nx + 3 + 2)
    refine W_seq (W_seqn (W_region (fun k => by simp +decide (disch := first | omega | simp +decide [hl]) only [s9, simprocAttr, h5, g5, hlen, hst, hne]; rfl) ⟨rfl, W_tru ?_⟩))
    refine W_seqn (W_region (fun k => by simp +decide (disch := first | omega | simp +decide [hl]) only [s9, simprocAttr, h3, h6, g3, g6, hcut, hleaf]; rfl) ⟨rfl, W_ret ?_⟩)
    simp only [reduceCtorEq, false_and, false_or, or_false, exists_false, exists_const, ne_eq, not_false_eq_true, true_and, implies_true]
    refine ⟨rfl, v, hv, .agg [memT m, cachT m], ids, ?_, hf⟩
    simp only [resT, resL, resOne, show f84.res = [.cell 6 false 2] from rfl]
    simp +decide (disch := first | omega | simp +decide [hl]) only [s9, simprocAttr, h6]
    try rfl
def bytesM (m : Coh) (ln : Nat) : List Int := (m.mem.drop (ln * 16)).take 16
theorem bytesM_len (m : Coh) (ln : Nat) (h : ln * 16 + 16 ≤ m.mem.length) : (bytesM m ln).length = 16 := by
  unfold bytesM; rw [List.length_take, List.length_drop]; omega
theorem bytesM_get (m : Coh) (ln i : Nat) (h : ln * 16 + 16 ≤ m.mem.length) (hi : i < 16) : (bytesM m ln)[i]'(by rw [bytesM_len m ln h]; exact hi) = m.mem[ln * 16 + i]'(by omega) := by
  unfold bytesM; rw [List.getElem_take, List.getElem_drop]
def rbyLoop : ACode := match f83.body with | .seq _ (.seq _ (.seq (.seq _ (.block _ (.loop c))) _)) => c | _ => .skip
theorem rby_loop (m : Coh) (hml : m.mem.length ≤ 4096) (ln : Nat) (hlies : ln * 16 + 16 ≤ m.mem.length) (z : List Int) (hz : z.length = 16) (Q : AExit → St → Prop)
    (hQ : ∀ st, st.s.length = 24 → rho st.s (.tmp 4) = .ptr 1 0 → rho st.s (.tmp 5) = .ptr 3 0 → (∃ c, st.g 1 = some c ∧ c.length = 16) → st.g 3 = some ((spl z 0 (bytesM m ln)).flatMap u8T) → Q (.exit 0) st) :
    ∀ (n : Nat) (st : St), (∃ i : Nat, st.s.length = 24 ∧ rho st.s (.tmp 1) = .int .u32 (ln : Int) ∧ rho st.s (.tmp 2) = .ptr 0 0 ∧ rho st.s (.tmp 4) = .ptr 1 0 ∧ rho st.s (.tmp 5) = .ptr 3 0 ∧ rho st.s (.tmp 6) = .int .i64 (i : Int) ∧ st.g 0 = some [memT m, cachT m] ∧ (∃ c, st.g 1 = some c ∧ c.length = 16) ∧ st.g 3 = some ((spl z 0 ((bytesM m ln).take i)).flatMap u8T) ∧ i ≤ 16 ∧ n = 16 - i) → W ap (.loop rbyLoop) st Q := by
  refine W_loop _ ?_
  rintro n st ⟨i, hl, h1, h2, h4, h5, h6, g0, ⟨c, gc, hc⟩, g3, hi, hn⟩
  have hbl := bytesM_len m ln hlies
  by_cases hend : i = 16
  · subst hend
    have htk : (bytesM m ln).take 16 = bytesM m ln := List.take_of_length_le (by omega)
    rw [htk] at g3
    refine W_seq (W_seqn (W_region (fun k => by simp +decide (disch := first | omega | simp +decide [hl]) only [s9, simprocAttr, h6]; rfl) ⟨rfl, W_fls (W_exit (.inr ⟨by simp, .inr ⟨by simp, hQ _ ?_ ?_ ?_ ?_ ?_⟩⟩))⟩))
    · simp +decide (disch := first | omega | simp +decide [hl]) only [s8, simprocAttr, hl]
    · simp +decide (disch := first | omega | simp +decide [hl]) only [s8, simprocAttr, h4]
    · simp +decide (disch := first | omega | simp +decide [hl]) only [s8, simprocAttr, h5]
    · exact ⟨c, gc, hc⟩
    · exact g3
  · have hi16 : i < 16 := by omega
    have hlt : decide ((i : Int) < 16) = true := decide_eq_true (by omega)
    have w1 : IntKind.i64.wrap (ln : Int) = (ln : Int) := wrap_id (by omega)
    have w2 : IntKind.i64.wrap ((ln : Int) * 16) = ((ln * 16 : Nat) : Int) := by rw [wrap_id (by omega)]; omega
    have w3 : IntKind.i64.wrap (((ln * 16 : Nat) : Int) + (i : Int)) = ((ln * 16 + i : Nat) : Int) := by rw [wrap_id (by omega)]; omega
    have w4 : IntKind.i64.wrap ((i : Int) + 1) = ((i + 1 : Nat) : Int) := by rw [wrap_id (by omega)]; omega
    have hmm : memT m = .imm false m.mem.length (m.mem.flatMap u8T) := rfl
    have hml2 := u8_len m.mem
    have hmi := u8_get m.mem (ln * 16 + i) (by omega)
    rw [Nat.mul_one, ← bytesM_get m ln i hlies hi16] at hmi
    have hcl : ((spl z 0 ((bytesM m ln).take i)).flatMap u8T).length = 16 := by rw [u8_len, spl_len, hz]
    have hnew : ((spl z 0 ((bytesM m ln).take i)).flatMap u8T).set i (.int .u8 ((bytesM m ln)[i]'(by omega))) = (spl z 0 ((bytesM m ln).take (i + 1))).flatMap u8T := by
      have := spl_take_succ z 0 (bytesM m ln) i (by omega) (by omega)
      rw [Nat.zero_add] at this
      rw [this, set_u8]
    generalize (spl z 0 ((bytesM m ln).take i)).flatMap u8T = C at *
    generalize hCe : (spl z 0 ((bytesM m ln).take (i + 1))).flatMap u8T = C' at *
    generalize m.mem.flatMap u8T = M at *
    have hb1 : ln * 16 + i < m.mem.length := by omega
    have hb2 : ln * 16 + i + 1 ≤ M.length := by omega
    have hb3 : i + 1 ≤ C.length := by omega
    refine W_seqn (W_seqn (W_region (fun k => by simp +decide (disch := first | omega | simp +decide [hl]) only [s9, simprocAttr, h6, hlt]; rfl) ⟨rfl, W_tru (W_skip ⟨rfl, ?_⟩)⟩))
    refine W_seqn (W_block (W_region (fun k => by simp +decide (disch := first | omega | simp +decide [hl]) only [s9, simprocAttr, h1, h2, h5, h6, g0, hmm, g3, w1, w2, w3, hi16, hb1, hb2, hb3, hmi, hnew, Nat.mul_one]; rfl) (.inr (.inl ⟨by simp, rfl, ?_⟩))))
    refine W_region (fun k => by simp +decide (disch := first | omega | simp +decide [hl]) only [s9, simprocAttr, h6, w4]; rfl) ?_
    refine .inl ⟨rfl, 16 - (i + 1), by omega, i + 1, ?_, ?_, ?_, ?_, ?_, ?_, ?_, ⟨c, ?_, hc⟩, ?_, by omega, rfl⟩
    · simp +decide (disch := first | omega | simp +decide [hl]) only [s8, simprocAttr, hl]
    · simp +decide (disch := first | omega | simp +decide [hl]) only [s8, simprocAttr, h1]
    · simp +decide (disch := first | omega | simp +decide [hl]) only [s8, simprocAttr, h2]
    · simp +decide (disch := first | omega | simp +decide [hl]) only [s8, simprocAttr, h4]
    · simp +decide (disch := first | omega | simp +decide [hl]) only [s8, simprocAttr, h5]
    · simp +decide (disch := first | omega | simp +decide [hl]) only [s8, simprocAttr]
    · simp +decide (disch := first | omega | simp +decide [hl]) only [s9, simprocAttr, g0, hmm]
    · simp +decide (disch := first | omega | simp +decide [hl]) only [s9, simprocAttr, gc]
    · rw [hCe]
      simp +decide (disch := first | omega | simp +decide [hl]) only [s9, simprocAttr]
theorem ref_bytes (m : Coh) (hm : m.wf) (hml : m.mem.length ≤ 4096) (ln : Nat) (hlies : ln * 16 + 16 ≤ m.mem.length) : E ap 83 [.agg [memT m, cachT m], .int .u32 (ln : Int)] (.agg ((bytesM m ln).flatMap u8T)) := by
  refine E_body (F := f83) rfl rfl rfl ?_
  generalize hs0 : (_ : List T) ++ List.replicate _ T.undef = s0
  have e0 : s0.length = 24 ∧ rho s0 (.tmp 0) = .agg [memT m, cachT m] ∧ rho s0 (.tmp 1) = .int .u32 (ln : Int) := by subst hs0; exact ⟨rfl, rfl, rfl⟩
  clear hs0
  obtain ⟨hl, h0, h1⟩ := e0
  have hleaf : allLeaf [memT m, cachT m] = true := rfl
  obtain ⟨Z, hZ⟩ : ∃ Z : List Int, Z = List.replicate 16 0 := ⟨_, rfl⟩
  have hZ2 : List.replicate 16 (T.int .u8 0) = Z.flatMap u8T := by rw [hZ]; rfl
  have hZl : Z.length = 16 := by rw [hZ]; rfl
  have hZm := u8_len Z
  have hZf := u8_leaf Z
  have hfill : ∀ z : List T, fillT z [] = some z := fun _ => rfl
  have hspa : splice (Z.flatMap u8T) 0 (Z.flatMap u8T) = Z.flatMap u8T := splice_all rfl
  refine W_seqn (W_region (fun k => by simp +decide (disch := first | omega | simp +decide [hl]) only [s9, simprocAttr, h0, hleaf, hZ2, hZf]; rfl) ⟨rfl, ?_⟩)
  refine W_seqn (W_region (fun k => by simp +decide (disch := first | omega | simp +decide [hl]) only [s9, simprocAttr, hZ2, hZf, hZm, hZl, hfill, hspa, Nat.le_refl]; rfl) ⟨rfl, ?_⟩)
  refine W_seq (W_seqn (W_region (fun k => by simp +decide (disch := first | omega | simp +decide [hl]) only [s9, simprocAttr]; rfl) ⟨rfl, W_block ?_⟩))
  have hbl := bytesM_len m ln hlies
  refine rby_loop m hml ln hlies Z hZl _ (fun st hl h4 h5 hcc g3 => ?_) (16 - 0) _ ⟨0, ?_, ?_, ?_, ?_, ?_, ?_, ?_, ⟨Z.flatMap u8T, ?_, by omega⟩, ?_, by omega, rfl⟩
  · obtain ⟨c, gc, hc⟩ := hcc
    refine .inl ⟨rfl, .inl ⟨rfl, ?_⟩⟩
    have hsp : spl Z 0 (bytesM m ln) = bytesM m ln := by
      apply List.ext_getElem?
      intro j
      rw [spl_get _ _ _ (by omega)]
      by_cases hj : j < 16
      · rw [if_pos (by omega), Nat.sub_zero]
      · rw [if_neg (by omega), List.getElem?_eq_none (by omega), List.getElem?_eq_none (by omega)]
    rw [hsp] at g3
    have hBl := u8_len (bytesM m ln)
    have hBf := u8_leaf (bytesM m ln)
    have hBc : cut ((bytesM m ln).flatMap u8T) 0 16 = (bytesM m ln).flatMap u8T := cut_all (by omega)
    have hfz : ∀ h : Hp, frz h frzDepth (.agg ((bytesM m ln).flatMap u8T)) = some (.agg ((bytesM m ln).flatMap u8T), []) := fun h => by
      show frz h (11 + 1) _ = _
      rw [frz]
      simp only [frzAll_int (d := 10) _ (u8_ints _)]
    have hsp2 : splice c 0 ((bytesM m ln).flatMap u8T) = (bytesM m ln).flatMap u8T := splice_all (by omega)
    have hl16 : ((bytesM m ln).flatMap u8T).length = 16 := by omega
    generalize (bytesM m ln).flatMap u8T = D at *
    refine W_seqn (W_region (fun k => by simp +decide (disch := first | omega | simp +decide [hl]) only [s9, simprocAttr, h4, h5, g3, gc, hc, hl16, hBf, hBc, hsp2, Nat.le_refl]; rfl) ⟨rfl, W_ret ?_⟩)
    refine fin_cell (F := f83) rfl hfz (p := 1) ?_ ?_ hl16
    · simp +decide (disch := first | omega | simp +decide [hl]) only [s8, simprocAttr, h4]
    · simp +decide (disch := first | omega | simp +decide [hl]) only [s9, simprocAttr]
  · simp +decide (disch := first | omega | simp +decide [hl]) only [s8, simprocAttr, hl]
  · simp +decide (disch := first | omega | simp +decide [hl]) only [s8, simprocAttr]
    exact h1
  · simp +decide (disch := first | omega | simp +decide [hl]) only [s8, simprocAttr]
  · simp +decide (disch := first | omega | simp +decide [hl]) only [s8, simprocAttr]
  · simp +decide (disch := first | omega | simp +decide [hl]) only [s8, simprocAttr]
  · simp +decide (disch := first | omega | simp +decide [hl]) only [s8, simprocAttr]
    try rfl
  · simp +decide (disch := first | omega | simp +decide [hl]) only [s9, simprocAttr]
  · simp +decide (disch := first | omega | simp +decide [hl]) only [s9, simprocAttr]
  · simp +decide (disch := first | omega | simp +decide [hl]) only [s9, simprocAttr]
    try rfl
end Go.Proofs.YtabfinhkoihhfaaGreat.Abs
