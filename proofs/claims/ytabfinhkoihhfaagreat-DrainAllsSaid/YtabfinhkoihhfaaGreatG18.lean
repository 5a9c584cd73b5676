/- Words of other seats' texts, as they are used here: Acc3 Acc4. -/
import Derived.Test.YtabfinhkoihhfaaGreatG17
namespace Go.Proofs.YtabfinhkoihhfaaGreat.Abs
open Go Go.RowKit Fn
set_option linter.unusedVariables false
set_option linter.unusedSimpArgs false
set_option linter.unnecessarySimpa false
set_option maxRecDepth 100000
set_option maxHeartbeats 4000000

theorem nCLONE : f68.nat = some (1, 24) := rfl
theorem qCLONE : ap 68 = some f68 := rfl
theorem up_immz {R : List (List Way)} {z : T} (hz : UpT (setsT ⟨R⟩) z) : ∃ f n c, z = .imm f n c := by
  obtain ⟨f', c', e, _⟩ := UpT.imm (f := false) (n := R.length) (c := R.flatMap (fun l => [rowT l])) hz
  exact ⟨_, _, _, e⟩
theorem fin_coh {F : AFun} {t p : Nat} {x y : T} {m : Coh} {P : Nat → Prop} {s : St} (hF : F.res = [.cell t false 2]) (h : rho s.s (.tmp t) = .ptr p 0) (g : s.g p = some [x, y]) (hc : CohIn P s.g x y m) : AExit.ret.leaves = true ∧ ∃ v, UpT (.agg m.enc) v ∧ ∃ u ids, resT s.s s.g F.res = some u ∧ frz ⟨s.g, s.nx⟩ frzDepth u = some (v, ids) := by
  obtain ⟨v, ids, hv, hf⟩ := coh_frz hc s.nx
  have hcut : cut [x, y] 0 2 = [x, y] := rfl
  have hl : s.s.length = s.s.length := rfl
  refine ⟨rfl, v, hv, .agg [x, y], ids, ?_, hf⟩
  simp only [resT, resL, resOne, hF]
  simp +decide (disch := first | omega | simp +decide [hl]) only [s9, simprocAttr, h, g, hcut]
theorem bus_with (m : Coh) (hok : Ok m) (w : Nat) (hw : w < m.caches.length) (R : List (List Way)) (z : T) (hz : UpT (setsT ⟨R⟩) z) : ∃ v, E ap 52 [.agg [memT m, cachT m], .int .i64 (w : Int), .agg [z]] v ∧ UpT (.agg (withC m w R).enc) v := by
  refine E_bodyV (F := f52) rfl rfl rfl (P := fun v => UpT (.agg (withC m w R).enc) v) ?_
  generalize hs0 : (_ : List T) ++ List.replicate _ T.undef = s0
  have e0 : s0.length = 17 ∧ rho s0 (.tmp 0) = .agg [memT m, cachT m] ∧ rho s0 (.tmp 1) = .int .i64 (w : Int) ∧ rho s0 (.tmp 2) = .agg [z] := by subst hs0; exact ⟨rfl, rfl, rfl, rfl⟩
  clear hs0
  obtain ⟨hl, h0, h1, h2⟩ := e0
  have hm4 := hok.2.2.1
  have hen := enc_set m.caches w ⟨R⟩
  have hCl := caches_len' m
  have hCf : allLeaf (m.caches.flatMap Cache.enc) = true := flat_leaf (f := Cache.enc) (fun _ => rfl) _
  have hcc : cachT m = .imm false m.caches.length (m.caches.flatMap Cache.enc) := rfl
  have hleaf : allLeaf [memT m, .imm false m.caches.length (m.caches.flatMap Cache.enc)] = true := rfl
  rw [hcc] at h0
  have hup : UpL ((m.caches.flatMap Cache.enc).set w (setsT ⟨R⟩)) ((m.caches.flatMap Cache.enc).set w z) := (UpL.refl _).set w hz
  rw [← hen] at hup
  obtain ⟨f, n, c, rfl⟩ := up_immz hz
  have hzl : allLeaf [T.imm f n c] = true := rfl
  have hcz : cut [T.imm f n c] 0 1 = [T.imm f n c] := rfl
  generalize T.imm f n c = z at *
  generalize m.caches.flatMap Cache.enc = C at *
  generalize hK : m.caches.length = K at *
  have hz0 : (K = 0) = False := eq_false (by omega)
  have hr1 : K * 24 ≤ 549755813888 := by omega
  have hr2 : K ≤ 549755813888 := by omega
  have hb1 : (K = K * 1) = True := by simp
  have hw1 : w + 1 ≤ K := by omega
  have hll : ∀ (x : T) (a b c d : Nat), x.leaf = true → allLeaf [x, .own a b c d] = true := fun x a b c d h => by
    show ([x, T.own a b c d].all T.leaf) = true
    rw [List.all_cons, List.all_cons, h]; rfl
  have hlm := hll (memT m) 5 0 K 1 rfl
  have hcut2 : cut [memT m, T.own 5 0 K 1] 0 2 = [memT m, T.own 5 0 K 1] := rfl
  refine W_cut (fun st => st.s.length = 17 ∧ rho st.s (.tmp 1) = .int .i64 (w : Int) ∧ rho st.s (.tmp 3) = .ptr 0 0 ∧ rho st.s (.tmp 5) = .ptr 1 0 ∧ rho st.s (.tmp 6) = .ptr 2 0 ∧ st.g 0 = some [memT m, .imm false K C] ∧ st.g 1 = some [z] ∧ st.g 2 = some [.imm true 0 [], .imm true 0 []] ∧ st.nx = 3) (W_region (fun k => by simp +decide (disch := first | omega | simp +decide [hl]) only [s9, simprocAttr, h0, h2, hleaf, hzl]; rfl) ⟨rfl, ?_⟩) ?_
  · refine ⟨?_, ?_, ?_, ?_, ?_, ?_, ?_, ?_, rfl⟩ <;> simp +decide (disch := first | omega | simp +decide [hl]) only [s9, simprocAttr, hl, h1]
  clear hl h0 h1 h2
  rintro ⟨ss, gg, nx⟩ ⟨hl, h1, h3, h5, h6, g0, g1, g2, hnx⟩
  simp only at hl h1 h3 h5 h6 g0 g1 g2 hnx
  subst hnx
  refine W_cut (fun st => st.s.length = 17 ∧ rho st.s (.tmp 1) = .int .i64 (w : Int) ∧ rho st.s (.tmp 3) = .ptr 0 0 ∧ rho st.s (.tmp 5) = .ptr 1 0 ∧ rho st.s (.tmp 6) = .ptr 2 0 ∧ st.g 0 = some [memT m, .own 5 0 K 1] ∧ st.g 1 = some [z] ∧ st.g 2 = some [.imm true 0 [], .imm true 0 []] ∧ st.g 5 = some C) (W_region (fun k => by simp +decide (disch := first | omega | simp +decide [hl]) only [s9, simprocAttr, h3, g0, qCLONE, nCLONE, cloneRes, cellsOf, hCl, hCf, hz0, hr1, hr2, hb1]; rfl) ⟨rfl, ?_⟩) ?_
  · refine ⟨?_, ?_, ?_, ?_, ?_, ?_, ?_, ?_, ?_⟩ <;> simp +decide (disch := first | omega | simp +decide [hl]) only [s9, simprocAttr, hl, h1, h3, h5, h6, g1, g2]
  clear hl h1 h3 h5 h6 g0 g1 g2
  rintro st ⟨hl, h1, h3, h5, h6, g0, g1, g2, g5⟩
  refine W_cut (fun st => st.s.length = 17 ∧ rho st.s (.tmp 3) = .ptr 0 0 ∧ rho st.s (.tmp 6) = .ptr 2 0 ∧ st.g 0 = some [memT m, .own 5 0 K 1] ∧ st.g 2 = some [.imm true 0 [], .imm true 0 []] ∧ st.g 5 = some (C.set w z)) (W_region (fun k => by simp +decide (disch := first | omega | simp +decide [hl]) only [s9, simprocAttr, h1, h3, h5, g0, g1, g5, hcz, hw, hCl, hw1, hzl, Nat.mul_one]; rfl) ⟨rfl, ?_⟩) ?_
  · refine ⟨?_, ?_, ?_, ?_, ?_, ?_⟩ <;> simp +decide (disch := first | omega | simp +decide [hl]) only [s9, simprocAttr, hl, h3, h6, g0, g2]
  clear hl h1 h3 h5 h6 g0 g1 g2 g5
  rintro st ⟨hl, h3, h6, g0, g2, g5⟩
  refine W_seqn (W_region (fun k => by simp +decide (disch := first | omega | simp +decide [hl]) only [s9, simprocAttr, h3, h6, g0, g2, hcut2, hlm]; rfl) ⟨rfl, W_ret (fin_coh (P := fun t => t = 5) (p := 2) (x := memT m) (y := .own 5 0 K 1) rfl ?_ ?_ ⟨.inl ⟨false, memT_is m⟩, C.set w z, hup, .inr ⟨5, rfl, by rw [List.length_set, hCl], ?_⟩⟩)⟩)
  · simp +decide (disch := first | omega | simp +decide [hl]) only [s8, simprocAttr, h6]
  · simp +decide (disch := first | omega | simp +decide [hl]) only [s9, simprocAttr]
  · simp +decide (disch := first | omega | simp +decide [hl]) only [s9, simprocAttr, g5]
theorem ref_with (m : Coh) (hok : Ok m) (w : Nat) (hw : w < m.caches.length) (R : List (List Way)) (z : T) (hz : UpT (setsT ⟨R⟩) z) : ∃ v, E ap 44 [.agg [memT m, cachT m], .int .i64 (w : Int), .agg [z]] v ∧ UpT (.agg (withC m w R).enc) v := by
  refine E_bodyV (F := f44) rfl rfl rfl (P := fun v => UpT (.agg (withC m w R).enc) v) ?_
  generalize hs0 : (_ : List T) ++ List.replicate _ T.undef = s0
  have e0 : s0.length = 20 ∧ rho s0 (.tmp 0) = .agg [memT m, cachT m] ∧ rho s0 (.tmp 1) = .int .i64 (w : Int) ∧ rho s0 (.tmp 2) = .agg [z] := by subst hs0; exact ⟨rfl, rfl, rfl, rfl⟩
  clear hs0
  obtain ⟨hl, h0, h1, h2⟩ := e0
  have hm4 := hok.2.2.1
  have hen := enc_set m.caches w ⟨R⟩
  have hCl := caches_len' m
  have hCf : allLeaf (m.caches.flatMap Cache.enc) = true := flat_leaf (f := Cache.enc) (fun _ => rfl) _
  have hcc : cachT m = .imm false m.caches.length (m.caches.flatMap Cache.enc) := rfl
  have hleaf : allLeaf [memT m, .imm false m.caches.length (m.caches.flatMap Cache.enc)] = true := rfl
  rw [hcc] at h0
  have hup : UpL ((m.caches.flatMap Cache.enc).set w (setsT ⟨R⟩)) ((m.caches.flatMap Cache.enc).set w z) := (UpL.refl _).set w hz
  rw [← hen] at hup
  obtain ⟨f, n, c, rfl⟩ := up_immz hz
  have hzl : allLeaf [T.imm f n c] = true := rfl
  have hcz : cut [T.imm f n c] 0 1 = [T.imm f n c] := rfl
  generalize T.imm f n c = z at *
  generalize m.caches.flatMap Cache.enc = C at *
  generalize hK : m.caches.length = K at *
  have hz0 : (K = 0) = False := eq_false (by omega)
  have hr1 : K * 24 ≤ 549755813888 := by omega
  have hr2 : K ≤ 549755813888 := by omega
  have hb1 : (K = K * 1) = True := by simp
  have hw1 : w + 1 ≤ K := by omega
  have hnil : allLeaf ([] : List T) = true := rfl
  have hcn : cut ([] : List T) 0 0 = [] := rfl
  have hbl : fillT ([] : List T) [] = some [] := rfl
  have hlm : allLeaf [memT m, T.own 6 0 K 1] = true := rfl
  have hfb : fillT [T.imm true 0 [], T.imm true 0 []] [(0, 1, memT m), (1, 1, T.own 6 0 K 1)] = some [memT m, T.own 6 0 K 1] := rfl
  refine W_cut (fun st => st.s.length = 20 ∧ rho st.s (.tmp 1) = .int .i64 (w : Int) ∧ rho st.s (.tmp 3) = .ptr 0 0 ∧ rho st.s (.tmp 5) = .ptr 1 0 ∧ rho st.s (.tmp 6) = .ptr 2 0 ∧ st.g 0 = some [memT m, .imm false K C] ∧ st.g 1 = some [z] ∧ st.g 2 = some [.imm true 0 [], .imm true 0 []] ∧ st.nx = 3) (W_region (fun k => by simp +decide (disch := first | omega | simp +decide [hl]) only [s9, simprocAttr, h0, h2, hleaf, hzl]; rfl) ⟨rfl, ?_⟩) ?_
  · refine ⟨?_, ?_, ?_, ?_, ?_, ?_, ?_, ?_, rfl⟩ <;> simp +decide (disch := first | omega | simp +decide [hl]) only [s9, simprocAttr, hl, h1]
  clear hl h0 h1 h2
  rintro ⟨ss, gg, nx⟩ ⟨hl, h1, h3, h5, h6, g0, g1, g2, hnx⟩
  simp only at hl h1 h3 h5 h6 g0 g1 g2 hnx
  subst hnx
  refine W_cut (fun st => st.s.length = 20 ∧ rho st.s (.tmp 1) = .int .i64 (w : Int) ∧ rho st.s (.tmp 3) = .ptr 0 0 ∧ rho st.s (.tmp 5) = .ptr 1 0 ∧ rho st.s (.tmp 6) = .ptr 2 0 ∧ rho st.s (.tmp 7) = .own 6 0 K 1 ∧ st.g 0 = some [memT m, .imm false K C] ∧ st.g 1 = some [z] ∧ st.g 2 = some [.imm true 0 [], .imm true 0 []] ∧ st.g 6 = some C) (W_region (fun k => by simp +decide (disch := first | omega | simp +decide [hl]) only [s9, simprocAttr, h3, g0, cellsOf, hbl, hnil, hcn, hCl, hCf, hz0, hr1, hr2, hb1, Nat.mul_one, Nat.zero_mul, Nat.le_refl]; rfl) ⟨rfl, ?_⟩) ?_
  · refine ⟨?_, ?_, ?_, ?_, ?_, ?_, ?_, ?_, ?_, ?_⟩ <;> simp +decide (disch := first | omega | simp +decide [hl]) only [s9, simprocAttr, hl, h1, h3, h5, h6, g0, g1, g2]
  clear hl h1 h3 h5 h6 g0 g1 g2
  rintro st ⟨hl, h1, h3, h5, h6, h7, g0, g1, g2, g6⟩
  refine W_cut (fun st => st.s.length = 20 ∧ rho st.s (.tmp 3) = .ptr 0 0 ∧ rho st.s (.tmp 6) = .ptr 2 0 ∧ rho st.s (.tmp 7) = .own 6 0 K 1 ∧ st.g 0 = some [memT m, .imm false K C] ∧ st.g 2 = some [.imm true 0 [], .imm true 0 []] ∧ st.g 6 = some (C.set w z)) (W_region (fun k => by simp +decide (disch := first | omega | simp +decide [hl]) only [s9, simprocAttr, h1, h5, h7, g1, g6, hcz, hw, hCl, hw1, hzl, Nat.mul_one]; rfl) ⟨rfl, ?_⟩) ?_
  · refine ⟨?_, ?_, ?_, ?_, ?_, ?_, ?_⟩ <;> simp +decide (disch := first | omega | simp +decide [hl]) only [s9, simprocAttr, hl, h3, h6, h7, g0, g2]
  clear hl h1 h3 h5 h6 h7 g0 g1 g2 g6
  rintro st ⟨hl, h3, h6, h7, g0, g2, g6⟩
  refine W_seqn (W_region (fun k => by simp +decide (disch := first | omega | simp +decide [hl]) only [s9, simprocAttr, h3, h6, h7, g0, g2, hfb, hlm]; rfl) ⟨rfl, W_ret (fin_coh (P := fun t => t = 6) (p := 2) (x := memT m) (y := .own 6 0 K 1) rfl ?_ ?_ ⟨.inl ⟨false, memT_is m⟩, C.set w z, hup, .inr ⟨6, rfl, by rw [List.length_set, hCl], ?_⟩⟩)⟩)
  · simp +decide (disch := first | omega | simp +decide [hl]) only [s8, simprocAttr, h6]
  · simp +decide (disch := first | omega | simp +decide [hl]) only [s9, simprocAttr]
  · simp +decide (disch := first | omega | simp +decide [hl]) only [s9, simprocAttr, g6]
theorem qWITH : ap 52 = some f52 := rfl
theorem rWITH : f52.pure = true := rfl
theorem sWITH : f52.nat = none := rfl
theorem qRWITH : ap 44 = some f44 := rfl
theorem rRWITH : f44.pure = true := rfl
theorem sRWITH : f44.nat = none := rfl
theorem bus_touched (m : Coh) (hok : Ok m) (w : Nat) (hw : w < m.caches.length) (ln : Nat) (hln : ln ≤ 4294967295) : ∃ v, E ap 53 [.agg [memT m, cachT m], .int .i64 (w : Int), .int .u32 (ln : Int)] v ∧ UpT (.agg (touchM m w ln).enc) v := by
  refine E_bodyV (F := f53) rfl rfl rfl (P := fun v => UpT (.agg (touchM m w ln).enc) v) ?_
  generalize hs0 : (_ : List T) ++ List.replicate _ T.undef = s0
  have e0 : s0.length = 33 ∧ rho s0 (.tmp 0) = .agg [memT m, cachT m] ∧ rho s0 (.tmp 1) = .int .i64 (w : Int) ∧ rho s0 (.tmp 2) = .int .u32 (ln : Int) := by subst hs0; exact ⟨rfl, rfl, rfl, rfl⟩
  clear hs0
  obtain ⟨hl, h0, h1, h2⟩ := e0
  have hleaf : allLeaf [memT m, cachT m] = true := rfl
  have hcut : cut [memT m, cachT m] 0 2 = [memT m, cachT m] := rfl
  have hcc : cachT m = .imm false m.caches.length (m.caches.flatMap Cache.enc) := rfl
  have hcl := caches_len' m
  have hg := caches_get m w hw
  rw [Nat.mul_one] at hg
  have hcu := cell_at hg
  have hb1 : w + 1 ≤ (m.caches.flatMap Cache.enc).length := by omega
  have hwf := cacheAt_wf hok.1 w hw
  obtain ⟨N1, q1⟩ := (bus_find (cacheAt m w) hwf ln hln).call qFIND (fun g => rfl)
  have q1 := q1 N1 (Nat.le_refl _)
  have hzl : allLeaf [setsT (cacheAt m w)] = true := rfl
  have hcz : cut [setsT (cacheAt m w)] 0 1 = [setsT (cacheAt m w)] := rfl
  refine W_cut (fun st => st.s.length = 33 ∧ rho st.s (.tmp 1) = .int .i64 (w : Int) ∧ rho st.s (.tmp 2) = .int .u32 (ln : Int) ∧ rho st.s (.tmp 3) = .ptr 0 0 ∧ rho st.s (.tmp 6) = .ptr 1 0 ∧ st.g 0 = some [memT m, cachT m] ∧ st.g 1 = some [.imm true 0 [], .imm true 0 []] ∧ st.nx = 2) (W_region (fun k => by simp +decide (disch := first | omega | simp +decide [hl]) only [s9, simprocAttr, h0, hleaf]; rfl) ⟨rfl, ?_⟩) ?_
  · refine ⟨?_, ?_, ?_, ?_, ?_, ?_, ?_, rfl⟩ <;> simp +decide (disch := first | omega | simp +decide [hl]) only [s9, simprocAttr, hl, h1, h2]
  clear hl h0 h1 h2
  rintro ⟨ss, gg, nx⟩ ⟨hl, h1, h2, h3, h6, g0, g1, hnx⟩
  simp only at hl h1 h2 h3 h6 g0 g1 hnx
  subst hnx
  rw [hcc] at g0 hleaf hcut
  refine W_cut (fun st => st.s.length = 33 ∧ rho st.s (.tmp 1) = .int .i64 (w : Int) ∧ rho st.s (.tmp 2) = .int .u32 (ln : Int) ∧ rho st.s (.tmp 3) = .ptr 0 0 ∧ rho st.s (.tmp 6) = .ptr 1 0 ∧ rho st.s (.tmp 7) = .ptr 7 0 ∧ st.g 0 = some [memT m, .imm false m.caches.length (m.caches.flatMap Cache.enc)] ∧ st.g 1 = some [.imm true 0 [], .imm true 0 []] ∧ st.g 7 = some [setsT (cacheAt m w)]) (W_region (fun k => by simp +decide (disch := first | omega | simp +decide [hl]) only [s9, simprocAttr, h1, h3, g0, hw, hb1, hcu, hzl, Nat.mul_one]; rfl) ⟨rfl, ?_⟩) ?_
  · refine ⟨?_, ?_, ?_, ?_, ?_, ?_, ?_, ?_, ?_⟩ <;> simp +decide (disch := first | omega | simp +decide [hl]) only [s9, simprocAttr, hl, h1, h2, h3, h6, g0, g1]
  clear hl h1 h2 h3 h6 g0 g1
  rintro st ⟨hl, h1, h2, h3, h6, h7, g0, g1, g7⟩
  cases hf : find (cacheAt m w) ln with
  | none =>
    have ht : findT (cacheAt m w) ln = .tup [.int .i64 0, .int .i64 0, .bool false] := by unfold findT; rw [hf]
    rw [ht] at q1
    have htm : touchM m w ln = m := by unfold touchM; rw [hf]
    rw [htm]
    refine W_cut (fun st => st.s.length = 33 ∧ rho st.s (.tmp 1) = .int .i64 (w : Int) ∧ rho st.s (.tmp 3) = .ptr 0 0 ∧ rho st.s (.tmp 6) = .ptr 1 0 ∧ rho st.s (.tmp 7) = .ptr 7 0 ∧ rho st.s (.tmp 8) = .int .i64 0 ∧ rho st.s (.tmp 9) = .int .i64 0 ∧ rho st.s (.tmp 10) = .bool false ∧ st.g 0 = some [memT m, .imm false m.caches.length (m.caches.flatMap Cache.enc)] ∧ st.g 1 = some [.imm true 0 [], .imm true 0 []] ∧ st.g 7 = some [setsT (cacheAt m w)]) (W_regionN ⟨N1, by simp +decide (disch := first | omega | simp +decide [hl]) only [s9, simprocAttr, h2, h7, g7, hcz, qFIND, rFIND, sFIND, q1]; rfl⟩ ⟨rfl, ?_⟩) ?_
    · refine ⟨?_, ?_, ?_, ?_, ?_, ?_, ?_, ?_, ?_, ?_, ?_⟩ <;> simp +decide (disch := first | omega | simp +decide [hl]) only [s9, simprocAttr, hl, h1, h3, h6, h7, g0, g1, g7]
    clear hl h1 h2 h3 h6 h7 g0 g1 g7
    rintro st ⟨hl, h1, h3, h6, h7, h8, h9, h10, g0, g1, g7⟩
    refine W_seq (W_seqn (W_region (fun k => by simp +decide (disch := first | omega | simp +decide [hl]) only [s9, simprocAttr, h10]; rfl) ⟨rfl, W_tru ?_⟩))
    refine W_seqn (W_region (fun k => by simp +decide (disch := first | omega | simp +decide [hl]) only [s9, simprocAttr, h3, h6, g0, g1, hcut, hleaf]; rfl) ⟨rfl, W_ret (.inr ⟨by simp, fin_coh (P := fun _ => True) (p := 1) rfl ?_ ?_ (coh_imm _ _ m)⟩)⟩)
    · simp +decide (disch := first | omega | simp +decide [hl]) only [s8, simprocAttr, h6]
    · simp +decide (disch := first | omega | simp +decide [hl]) only [s9, simprocAttr]
      try rfl
  | some k =>
    have ht : findT (cacheAt m w) ln = .tup [.int .i64 (seti (cacheAt m w) ln : Int), .int .i64 (k : Int), .bool true] := by unfold findT; rw [hf]
    rw [ht] at q1
    have htm : touchM m w ln = withC m w (touchR (cacheAt m w).sets (seti (cacheAt m w) ln : Int) (k : Int)) := by unfold touchM; rw [hf]
    rw [htm]
    obtain ⟨v1, hE1, z', rfl, hz', hzl'⟩ : ∃ v1, E ap 70 [.agg [setsT (cacheAt m w)], .int .i64 (seti (cacheAt m w) ln : Int), .int .i64 (k : Int)] v1 ∧ ∃ z', v1 = .agg [z'] ∧ UpT (setsT ⟨touchR (cacheAt m w).sets (seti (cacheAt m w) ln : Int) (k : Int)⟩) z' ∧ allLeaf [z'] = true := (touchX (hok.2.2.2 w hw) (ex_sets (cacheAt m w)) (seti (cacheAt m w) ln : Int) (k : Int)).elim fun v h => ⟨v, h.1, cell_up (up_of h.2.of)⟩
    obtain ⟨f, n, c, rfl⟩ := up_immz hz'
    obtain ⟨v2, hE2, hv2⟩ := bus_with m hok w hw _ _ hz'
    obtain ⟨N2, q2⟩ := hE1.call qTOUCH (fun g => rfl)
    obtain ⟨N3, q3⟩ := hE2.call qWITH (fun g => rfl)
    have q2 := q2 (N2 + N3) (by omega)
    have q3 := q3 (N2 + N3) (by omega)
    rw [hcc] at q3
    obtain ⟨f1, f2, ys, rfl, hys, hup⟩ := coh_parts hv2
    have hl2 : allLeaf [T.imm f1 (withC m w (touchR (cacheAt m w).sets (seti (cacheAt m w) ln : Int) (k : Int))).mem.length ((withC m w (touchR (cacheAt m w).sets (seti (cacheAt m w) ln : Int) (k : Int))).mem.flatMap u8T), T.imm f2 (withC m w (touchR (cacheAt m w).sets (seti (cacheAt m w) ln : Int) (k : Int))).caches.length ys] = true := rfl
    have hci : ∀ (P : Nat → Prop) (g : Mem), CohIn P g (T.imm f1 (withC m w (touchR (cacheAt m w).sets (seti (cacheAt m w) ln : Int) (k : Int))).mem.length ((withC m w (touchR (cacheAt m w).sets (seti (cacheAt m w) ln : Int) (k : Int))).mem.flatMap u8T)) (T.imm f2 (withC m w (touchR (cacheAt m w).sets (seti (cacheAt m w) ln : Int) (k : Int))).caches.length ys) (withC m w (touchR (cacheAt m w).sets (seti (cacheAt m w) ln : Int) (k : Int))) := fun P g => ⟨.inl ⟨f1, by rw [u8_len]⟩, ys, hys, .inl ⟨f2, by rw [upL_len1 _ hys]⟩⟩
    refine W_cut (fun st => st.s.length = 33 ∧ rho st.s (.tmp 1) = .int .i64 (w : Int) ∧ rho st.s (.tmp 3) = .ptr 0 0 ∧ rho st.s (.tmp 6) = .ptr 1 0 ∧ rho st.s (.tmp 7) = .ptr 7 0 ∧ rho st.s (.tmp 8) = .int .i64 (seti (cacheAt m w) ln : Int) ∧ rho st.s (.tmp 9) = .int .i64 (k : Int) ∧ rho st.s (.tmp 10) = .bool true ∧ st.g 0 = some [memT m, .imm false m.caches.length (m.caches.flatMap Cache.enc)] ∧ st.g 1 = some [.imm true 0 [], .imm true 0 []] ∧ st.g 7 = some [setsT (cacheAt m w)]) (W_regionN ⟨N1, by simp +decide (disch := first | omega | simp +decide [hl]) only [s9, simprocAttr, h2, h7, g7, hcz, qFIND, rFIND, sFIND, q1]; rfl⟩ ⟨rfl, ?_⟩) ?_
    · refine ⟨?_, ?_, ?_, ?_, ?_, ?_, ?_, ?_, ?_, ?_, ?_⟩ <;> simp +decide (disch := first | omega | simp +decide [hl]) only [s9, simprocAttr, hl, h1, h3, h6, h7, g0, g1, g7]
    clear hl h1 h2 h3 h6 h7 g0 g1 g7
    rintro st ⟨hl, h1, h3, h6, h7, h8, h9, h10, g0, g1, g7⟩
    refine W_seqn (W_seqn (W_region (fun k => by simp +decide (disch := first | omega | simp +decide [hl]) only [s9, simprocAttr, h10]; rfl) ⟨rfl, W_fls (W_skip ⟨rfl, ?_⟩)⟩))
    refine W_seqn (W_regionN ⟨N2 + N3, by simp +decide (disch := first | omega | simp +decide [hl]) only [s9, simprocAttr, h1, h3, h6, h7, h8, h9, g0, g1, g7, hcut, hcz, hw, hb1, hcu, hzl, qTOUCH, rTOUCH, sTOUCH, q2, qWITH, rWITH, sWITH, q3, hl2, Nat.mul_one]; rfl⟩ ⟨rfl, W_ret (fin_coh (P := fun _ => True) (p := 1) rfl ?_ ?_ (hci _ _))⟩)
    · simp +decide (disch := first | omega | simp +decide [hl]) only [s8, simprocAttr, h6]
    · simp +decide (disch := first | omega | simp +decide [hl]) only [s9, simprocAttr]
theorem ref_touched (m : Coh) (hok : Ok m) (w : Nat) (hw : w < m.caches.length) (ln : Nat) (hln : ln ≤ 4294967295) : ∃ v, E ap 45 [.agg [memT m, cachT m], .int .i64 (w : Int), .int .u32 (ln : Int)] v ∧ UpT (.agg (touchM m w ln).enc) v := by
  refine E_bodyV (F := f45) rfl rfl rfl (P := fun v => UpT (.agg (touchM m w ln).enc) v) ?_
  generalize hs0 : (_ : List T) ++ List.replicate _ T.undef = s0
  have e0 : s0.length = 35 ∧ rho s0 (.tmp 0) = .agg [memT m, cachT m] ∧ rho s0 (.tmp 1) = .int .i64 (w : Int) ∧ rho s0 (.tmp 2) = .int .u32 (ln : Int) := by subst hs0; exact ⟨rfl, rfl, rfl, rfl⟩
  clear hs0
  obtain ⟨hl, h0, h1, h2⟩ := e0
  have hleaf : allLeaf [memT m, cachT m] = true := rfl
  have hcut : cut [memT m, cachT m] 0 2 = [memT m, cachT m] := rfl
  have hcc : cachT m = .imm false m.caches.length (m.caches.flatMap Cache.enc) := rfl
  have hcl := caches_len' m
  have hg := caches_get m w hw
  rw [Nat.mul_one] at hg
  have hcu := cell_at hg
  have hb1 : w + 1 ≤ (m.caches.flatMap Cache.enc).length := by omega
  have hwf := cacheAt_wf hok.1 w hw
  obtain ⟨N1, q1⟩ := (ref_find (cacheAt m w) hwf ln hln).call qRFIND (fun g => rfl)
  have q1 := q1 N1 (Nat.le_refl _)
  have hzl : allLeaf [setsT (cacheAt m w)] = true := rfl
  have hcz : cut [setsT (cacheAt m w)] 0 1 = [setsT (cacheAt m w)] := rfl
  refine W_cut (fun st => st.s.length = 35 ∧ rho st.s (.tmp 1) = .int .i64 (w : Int) ∧ rho st.s (.tmp 2) = .int .u32 (ln : Int) ∧ rho st.s (.tmp 3) = .ptr 0 0 ∧ rho st.s (.tmp 6) = .ptr 1 0 ∧ st.g 0 = some [memT m, cachT m] ∧ st.g 1 = some [.imm true 0 [], .imm true 0 []] ∧ st.nx = 2) (W_region (fun k => by simp +decide (disch := first | omega | simp +decide [hl]) only [s9, simprocAttr, h0, hleaf]; rfl) ⟨rfl, ?_⟩) ?_
  · refine ⟨?_, ?_, ?_, ?_, ?_, ?_, ?_, rfl⟩ <;> simp +decide (disch := first | omega | simp +decide [hl]) only [s9, simprocAttr, hl, h1, h2]
  clear hl h0 h1 h2
  rintro ⟨ss, gg, nx⟩ ⟨hl, h1, h2, h3, h6, g0, g1, hnx⟩
  simp only at hl h1 h2 h3 h6 g0 g1 hnx
  subst hnx
  rw [hcc] at g0 hleaf hcut

  cases hf : find (cacheAt m w) ln with
  | none =>
    have ht : findT (cacheAt m w) ln = .tup [.int .i64 0, .int .i64 0, .bool false] := by unfold findT; rw [hf]
    rw [ht] at q1
    have htm : touchM m w ln = m := by unfold touchM; rw [hf]
    rw [htm]
    refine W_cut (fun st => st.s.length = 35 ∧ rho st.s (.tmp 1) = .int .i64 (w : Int) ∧ rho st.s (.tmp 3) = .ptr 0 0 ∧ rho st.s (.tmp 6) = .ptr 1 0 ∧ rho st.s (.tmp 7) = .int .i64 0 ∧ rho st.s (.tmp 8) = .int .i64 0 ∧ rho st.s (.tmp 9) = .bool false ∧ st.g 0 = some [memT m, .imm false m.caches.length (m.caches.flatMap Cache.enc)] ∧ st.g 1 = some [.imm true 0 [], .imm true 0 []]) (W_regionN ⟨N1, by simp +decide (disch := first | omega | simp +decide [hl]) only [s9, simprocAttr, h1, h2, h3, g0, hw, hb1, hcu, hcz, qRFIND, rRFIND, sRFIND, q1, Nat.mul_one]; rfl⟩ ⟨rfl, ?_⟩) ?_
    · refine ⟨?_, ?_, ?_, ?_, ?_, ?_, ?_, ?_, ?_⟩ <;> simp +decide (disch := first | omega | simp +decide [hl]) only [s9, simprocAttr, hl, h1, h3, h6, g0, g1]
    clear hl h1 h2 h3 h6 g0 g1
    rintro st ⟨hl, h1, h3, h6, h7, h8, h9, g0, g1⟩
    refine W_seq (W_seqn (W_region (fun k => by simp +decide (disch := first | omega | simp +decide [hl]) only [s9, simprocAttr, h9]; rfl) ⟨rfl, W_tru ?_⟩))
    refine W_seqn (W_region (fun k => by simp +decide (disch := first | omega | simp +decide [hl]) only [s9, simprocAttr, h3, h6, g0, g1, hcut, hleaf]; rfl) ⟨rfl, W_ret (.inr ⟨by simp, fin_coh (P := fun _ => True) (p := 1) rfl ?_ ?_ (coh_imm _ _ m)⟩)⟩)
    · simp +decide (disch := first | omega | simp +decide [hl]) only [s8, simprocAttr, h6]
    · simp +decide (disch := first | omega | simp +decide [hl]) only [s9, simprocAttr]
      try rfl
  | some k =>
    have ht : findT (cacheAt m w) ln = .tup [.int .i64 (seti (cacheAt m w) ln : Int), .int .i64 (k : Int), .bool true] := by unfold findT; rw [hf]
    rw [ht] at q1
    have htm : touchM m w ln = withC m w (touchR (cacheAt m w).sets (seti (cacheAt m w) ln : Int) (k : Int)) := by unfold touchM; rw [hf]
    rw [htm]
    obtain ⟨v1, hE1, z', rfl, hz', hzl'⟩ : ∃ v1, E ap 60 [.agg [setsT (cacheAt m w)], .int .i64 (seti (cacheAt m w) ln : Int), .int .i64 (k : Int)] v1 ∧ ∃ z', v1 = .agg [z'] ∧ UpT (setsT ⟨touchR (cacheAt m w).sets (seti (cacheAt m w) ln : Int) (k : Int)⟩) z' ∧ allLeaf [z'] = true := (touchG (hok.2.2.2 w hw) (cacheOf_sets (cacheAt m w)) (seti (cacheAt m w) ln : Int) (k : Int)).elim fun v h => ⟨v, h.1, cell_up (up_of h.2)⟩
    obtain ⟨f, n, c, rfl⟩ := up_immz hz'
    obtain ⟨v2, hE2, hv2⟩ := ref_with m hok w hw _ _ hz'
    obtain ⟨N2, q2⟩ := hE1.call qRTOUCH (fun g => rfl)
    obtain ⟨N3, q3⟩ := hE2.call qRWITH (fun g => rfl)
    have q2 := q2 (N2 + N3) (by omega)
    have q3 := q3 (N2 + N3) (by omega)
    rw [hcc] at q3
    obtain ⟨f1, f2, ys, rfl, hys, hup⟩ := coh_parts hv2
    have hl2 : allLeaf [T.imm f1 (withC m w (touchR (cacheAt m w).sets (seti (cacheAt m w) ln : Int) (k : Int))).mem.length ((withC m w (touchR (cacheAt m w).sets (seti (cacheAt m w) ln : Int) (k : Int))).mem.flatMap u8T), T.imm f2 (withC m w (touchR (cacheAt m w).sets (seti (cacheAt m w) ln : Int) (k : Int))).caches.length ys] = true := rfl
    have hci : ∀ (P : Nat → Prop) (g : Mem), CohIn P g (T.imm f1 (withC m w (touchR (cacheAt m w).sets (seti (cacheAt m w) ln : Int) (k : Int))).mem.length ((withC m w (touchR (cacheAt m w).sets (seti (cacheAt m w) ln : Int) (k : Int))).mem.flatMap u8T)) (T.imm f2 (withC m w (touchR (cacheAt m w).sets (seti (cacheAt m w) ln : Int) (k : Int))).caches.length ys) (withC m w (touchR (cacheAt m w).sets (seti (cacheAt m w) ln : Int) (k : Int))) := fun P g => ⟨.inl ⟨f1, by rw [u8_len]⟩, ys, hys, .inl ⟨f2, by rw [upL_len1 _ hys]⟩⟩
    refine W_cut (fun st => st.s.length = 35 ∧ rho st.s (.tmp 1) = .int .i64 (w : Int) ∧ rho st.s (.tmp 3) = .ptr 0 0 ∧ rho st.s (.tmp 6) = .ptr 1 0 ∧ rho st.s (.tmp 7) = .int .i64 (seti (cacheAt m w) ln : Int) ∧ rho st.s (.tmp 8) = .int .i64 (k : Int) ∧ rho st.s (.tmp 9) = .bool true ∧ st.g 0 = some [memT m, .imm false m.caches.length (m.caches.flatMap Cache.enc)] ∧ st.g 1 = some [.imm true 0 [], .imm true 0 []]) (W_regionN ⟨N1, by simp +decide (disch := first | omega | simp +decide [hl]) only [s9, simprocAttr, h1, h2, h3, g0, hw, hb1, hcu, hcz, qRFIND, rRFIND, sRFIND, q1, Nat.mul_one]; rfl⟩ ⟨rfl, ?_⟩) ?_
    · refine ⟨?_, ?_, ?_, ?_, ?_, ?_, ?_, ?_, ?_⟩ <;> simp +decide (disch := first | omega | simp +decide [hl]) only [s9, simprocAttr, hl, h1, h3, h6, g0, g1]
    clear hl h1 h2 h3 h6 g0 g1
    rintro st ⟨hl, h1, h3, h6, h7, h8, h9, g0, g1⟩
    refine W_seqn (W_seqn (W_region (fun k => by simp +decide (disch := first | omega | simp +decide [hl]) only [s9, simprocAttr, h9]; rfl) ⟨rfl, W_fls (W_skip ⟨rfl, ?_⟩)⟩))
    refine W_seqn (W_regionN ⟨N2 + N3, by simp +decide (disch := first | omega | simp +decide [hl]) only [s9, simprocAttr, h1, h3, h6, h7, h8, g0, g1, hw, hcut, hcz, hw, hb1, hcu, hzl, qRTOUCH, rRTOUCH, sRTOUCH, q2, qRWITH, rRWITH, sRWITH, q3, hl2, Nat.mul_one]; rfl⟩ ⟨rfl, W_ret (fin_coh (P := fun _ => True) (p := 1) rfl ?_ ?_ (hci _ _))⟩)
    · simp +decide (disch := first | omega | simp +decide [hl]) only [s8, simprocAttr, h6]
    · simp +decide (disch := first | omega | simp +decide [hl]) only [s9, simprocAttr]
theorem qLOF : ap 40 = some f40 := rfl
theorem rLOF : f40.pure = true := rfl
theorem sLOF : f40.nat = none := rfl
theorem qRLOF : ap 18 = some f18 := rfl
theorem rRLOF : f18.pure = true := rfl
theorem sRLOF : f18.nat = none := rfl
theorem qREA : ap 49 = some f49 := rfl
theorem rREA : f49.pure = true := rfl
theorem sREA : f49.nat = none := rfl
theorem qMAY : ap 41 = some f41 := rfl
theorem rMAY : f41.pure = true := rfl
theorem sMAY : f41.nat = none := rfl
theorem qGOT : ap 50 = some f50 := rfl
theorem rGOT : f50.pure = true := rfl
theorem sGOT : f50.nat = none := rfl
theorem qASK : ap 42 = some f42 := rfl
theorem rASK : f42.pure = true := rfl
theorem sASK : f42.nat = none := rfl
theorem qTOU : ap 53 = some f53 := rfl
theorem rTOU : f53.pure = true := rfl
theorem sTOU : f53.nat = none := rfl
theorem qRTOU : ap 45 = some f45 := rfl
theorem rRTOU : f45.pure = true := rfl
theorem sRTOU : f45.nat = none := rfl
theorem ref_line (addr : Nat) (ha : addr ≤ 4294967295) : E ap 18 [.int .u32 (addr : Int)] (.int .u32 ((addr / 16 : Nat) : Int)) := by
  refine E_body (F := f18) rfl rfl rfl ?_
  generalize hs0 : (_ : List T) ++ List.replicate _ T.undef = s0
  have e0 : s0.length = 5 ∧ rho s0 (.tmp 0) = .int .u32 (addr : Int) := by subst hs0; exact ⟨rfl, rfl⟩
  clear hs0
  obtain ⟨hl, h0⟩ := e0
  have hq : (addr : Int).tdiv 16 = ((addr / 16 : Nat) : Int) := by rw [Int.tdiv_eq_ediv_of_nonneg (by omega)]; omega
  have hw : IntKind.u32.wrap ((addr / 16 : Nat) : Int) = ((addr / 16 : Nat) : Int) := by rw [wrap_u32]; omega
  refine W_seqn (W_region (fun k => by simp +decide (disch := first | omega | simp +decide [hl]) only [s9, simprocAttr]; rfl) ⟨rfl, ?_⟩)
  refine W_seqn (W_region (fun k => by simp +decide (disch := first | omega | simp +decide [hl]) only [s9, simprocAttr, h0, hq, hw]; rfl) ⟨rfl, W_ret ?_⟩)
  refine fin_of (F := f18) rfl (fun _ => rfl) ?_
  simp +decide (disch := first | omega | simp +decide [hl]) only [s8, simprocAttr]
end Go.Proofs.YtabfinhkoihhfaaGreat.Abs
