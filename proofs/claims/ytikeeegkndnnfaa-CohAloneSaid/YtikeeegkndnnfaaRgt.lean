/- May a system be? The program's walk. -/
import Derived.Test.YtikeeegkndnnfaaFits
namespace Go.Proofs.Ytikeeegkndnnfaa.Abs
open Go Go.RowKit Fn
set_option linter.unusedVariables false
set_option linter.unusedSimpArgs false
set_option linter.unnecessarySimpa false
set_option maxRecDepth 100000
set_option maxHeartbeats 4000000

theorem u8_mapR (l : List Int) : l.flatMap u8T = l.map (T.int .u8) := by
  induction l with
  | nil => rfl
  | cons a l ih => rw [List.flatMap_cons, List.map_cons, ih]; rfl
theorem bytes_cutR (m : Coh) (x : Nat) : cut (m.mem.flatMap u8T) (x * 16) 16 = (bytesM m x).flatMap u8T := by
  rw [u8_mapR, u8_mapR]
  unfold cut bytesM
  rw [List.map_take, List.map_drop]
theorem frzL_ownO {g : Mem} {A o n : Nat} {c D : List T} (hg : g A = some c) (hD : cut c o n = D) (hl : D.length = n) (hDi : ∀ x ∈ D, ∃ k m, x = .int k m) (f : Bool) (k : Nat) (e : List T) : frzL ⟨g, 0⟩ frzDepth [.own A o n 1, .imm f k e] = some ([.imm false n D, .imm f k e], [A]) := by
  have e2 : frz ⟨g, 0⟩ 12 (.own A o n 1) = some (.imm false n D, [A]) := by
    rw [show (12 : Nat) = 11 + 1 from rfl, frz]
    have h1 : (c.drop o).take n = D := hD
    simp only [hg, Nat.mul_one, h1, hl, if_true, frzAll_int (h := ⟨g, 0⟩) (d := 10) D hDi]
  unfold frzL
  rw [show frzDepth = 12 from rfl]
  have e3 : frz ⟨g, 0⟩ 12 (.imm f k e) = some (.imm f k e, []) := rfl
  simp only [frzAll, e2, e3, List.append_nil]
theorem fits_walk (m : Coh) (hok : Ok m) (h1c : 1 ≤ m.caches.length) (w : Way) (hw : w.wf) : ∃ v, E ap 29 [.agg [memT m, cachT m], .agg w.enc] v ∧ ∃ b, v = .bool b ∧ (b = true ↔ SoundX m w) := by
  refine E_bodyV (F := f29) rfl rfl rfl (P := fun v => ∃ b, v = .bool b ∧ (b = true ↔ SoundX m w)) ?_
  generalize hs0 : (_ : List T) ++ List.replicate _ T.undef = s0
  have e0 : s0.length = 41 ∧ rho s0 (.tmp 0) = .agg [memT m, cachT m] ∧ rho s0 (.tmp 1) = .agg w.enc := by subst hs0; exact ⟨rfl, rfl, rfl⟩
  clear hs0
  obtain ⟨hl, h0, h1⟩ := e0
  have hml := hok.2.1
  have hleaf : allLeaf [memT m, cachT m] = true := rfl
  have hcut : cut [memT m, cachT m] 0 2 = [memT m, cachT m] := rfl
  have hmm : memT m = .imm false m.mem.length (m.mem.flatMap u8T) := rfl
  have hwl := leaf_ints _ (way_ints w)
  have hlen := way_len hw
  have hst := way_state w
  have htg := way_tag w
  have hdt : cut w.enc 2 16 = w.data.flatMap u8T := way_data w hw
  have hd16 : w.data.length = 16 := hw.2.2.1.1
  obtain ⟨ln, hln, htag⟩ : ∃ ln : Nat, ln ≤ 4294967295 ∧ w.tag = (ln : Int) := ⟨w.tag.toNat, by have := wf_u32 hw.2.1; omega, by have := wf_u32 hw.2.1; omega⟩
  rw [htag] at htg
  have hdef : SoundX m w = (w.state = 0 ∨ (ln * 16 + 16 ≤ m.mem.length ∧ (w.state = 3 ∨ w.data = bytesM m ln) ∧ LegalP (stL m ln))) := by unfold SoundX; rw [htag, Int.toNat_natCast]
  have hwi := way_ints w
  generalize w.enc = we at *
  refine W_cut (fun t => t.s.length = 41 ∧ rho t.s (.tmp 2) = .ptr 0 0 ∧ rho t.s (.tmp 3) = .ptr 1 0 ∧ t.g 0 = some [memT m, cachT m] ∧ t.g 1 = some we) (W_region (fun k => by simp (decide := true) (disch := first | omega | simp (decide := true) only [List.length_set, hl]) only [sims, autos, simprocAttr, hps, h0, h1, hleaf, hwl]; rfl) ⟨rfl, ?_⟩) ?_
  · refine ⟨?_, ?_, ?_, ?_, ?_⟩ <;> simp (decide := true) (disch := first | omega | simp (decide := true) only [List.length_set, hl]) only [sims, autos, simprocAttr, hps, hl]
  clear hl h0 h1
  rintro st ⟨hl, h2, h3, g0, g1⟩
  by_cases hs0 : w.state = 0
  · have e1 : (w.state == 0) = true := by rw [hs0]; rfl
    refine W_seq (W_seqn (W_region (fun k => by simp (decide := true) (disch := first | omega | simp (decide := true) only [List.length_set, hl]) only [sims, autos, simprocAttr, hps, h3, g1, hlen, hst, e1]; rfl) ⟨rfl, W_tru ?_⟩))
    refine W_seqn (W_region (fun k => by simp (decide := true) (disch := first | omega | simp (decide := true) only [List.length_set, hl]) only [sims, autos, simprocAttr, hps]; rfl) ⟨rfl, W_ret ?_⟩)
    simp only [reduceCtorEq, false_and, false_or, or_false, exists_false, exists_const, ne_eq, not_false_eq_true, true_and, implies_true]
    refine ⟨rfl, fin_bool (F := f29) (b := true) (P := fun b => b = true ↔ SoundX m w) rfl (btrue (by rw [hdef]; exact .inl hs0)) ?_⟩
    simp (decide := true) (disch := first | omega | simp (decide := true) only [List.length_set, hl]) only [sims, autos, simprocAttr]
  have e1 : (w.state == 0) = false := by simpa using hs0
  refine W_seqn (W_cut (fun t => t.s.length = 41 ∧ rho t.s (.tmp 2) = .ptr 0 0 ∧ rho t.s (.tmp 3) = .ptr 1 0 ∧ rho t.s (.tmp 8) = .bool false ∧ t.g 0 = some [memT m, cachT m] ∧ t.g 1 = some we) (W_region (fun k => by simp (decide := true) (disch := first | omega | simp (decide := true) only [List.length_set, hl]) only [sims, autos, simprocAttr, hps, h3, g1, hlen, hst, e1]; rfl) ⟨rfl, ?_⟩) ?_)
  · refine ⟨?_, ?_, ?_, ?_, ?_, ?_⟩ <;> simp (decide := true) (disch := first | omega | simp (decide := true) only [List.length_set, hl]) only [sims, autos, simprocAttr, hps, hl, h2, h3, g0, g1]
  clear hl h2 h3 g0 g1
  rintro st ⟨hl, h2, h3, h8, g0, g1⟩
  refine W_false h8 (W_skip ⟨rfl, ?_⟩)
  obtain ⟨NL, qL⟩ := (coh_lies false m.mem hml ln hln).call qLIE (fun g => rfl)
  rw [← hmm] at qL
  by_cases hlies : ln * 16 + 16 ≤ m.mem.length
  · rw [decide_eq_true hlies] at qL
    obtain ⟨v, hS, f, rfl⟩ := coh_states m hok h1c ln hln
    obtain ⟨NS, qS⟩ := hS.call qSTS (fun g => by rfl)
    have hLl := stL_len m ln
    obtain ⟨v, hG, b, rfl, hb⟩ := bus_legal (stL m ln) (by rw [hLl]; have := hok.2.2.1; omega) f
    rw [hLl] at hG
    obtain ⟨NG, qG⟩ := hG.call qLGL (fun g => by
      rfl)
    have qL := qL (NL + NS + NG) (by omega)
    have qS := qS (NL + NS + NG) (by omega)
    have qG := qG (NL + NS + NG) (by omega)
    generalize hcs : lgT (stL m ln) = cs at *
    cases b with
    | false =>
      refine W_seq (W_seqn (W_regionN ⟨NL + NS + NG, by simp (decide := true) (disch := first | omega | simp (decide := true) only [List.length_set, hl]) only [sims, autos, simprocAttr, hps, h2, h3, g0, g1, hlen, htg, hcut, qLIE, rLIE, sLIE, qL, qSTS, rSTS, sSTS, qS, qLGL, rLGL, sLGL, qG]; rfl⟩ ⟨rfl, W_tru ?_⟩))
      refine W_seqn (W_region (fun k => by simp (decide := true) (disch := first | omega | simp (decide := true) only [List.length_set, hl]) only [sims, autos, simprocAttr, hps]; rfl) ⟨rfl, W_ret ?_⟩)
      simp only [reduceCtorEq, false_and, false_or, or_false, exists_false, exists_const, ne_eq, not_false_eq_true, true_and, implies_true]
      refine ⟨rfl, fin_bool (F := f29) (b := false) (P := fun b => b = true ↔ SoundX m w) rfl (bfalse (by rw [hdef]; exact fun h => h.elim hs0 (fun h => by have := hb.mpr h.2.2; cases this))) ?_⟩
      simp (decide := true) (disch := first | omega | simp (decide := true) only [List.length_set, hl]) only [sims, autos, simprocAttr]
    | true =>
      have hleg := hb.mp rfl
      refine W_seqn (W_cut (fun t => t.s.length = 41 ∧ rho t.s (.tmp 2) = .ptr 0 0 ∧ rho t.s (.tmp 3) = .ptr 1 0 ∧ rho t.s (.tmp 22) = .bool false ∧ t.g 0 = some [memT m, cachT m] ∧ t.g 1 = some we) (W_regionN ⟨NL + NS + NG, by simp (decide := true) (disch := first | omega | simp (decide := true) only [List.length_set, hl]) only [sims, autos, simprocAttr, hps, h2, h3, g0, g1, hlen, htg, hcut, qLIE, rLIE, sLIE, qL, qSTS, rSTS, sSTS, qS, qLGL, rLGL, sLGL, qG]; rfl⟩ ⟨rfl, ?_⟩) ?_)
      · refine ⟨?_, ?_, ?_, ?_, ?_, ?_⟩ <;> simp (decide := true) (disch := first | omega | simp (decide := true) only [List.length_set, hl]) only [sims, autos, simprocAttr, hps, hl, h2, h3, g0, g1]
      clear hl h2 h3 g0 g1 qL qS qG h8
      rintro st ⟨hl, h2, h3, h22, g0, g1⟩
      refine W_false h22 (W_skip ⟨rfl, ?_⟩)
      have w1 : IntKind.i64.wrap (ln : Int) = (ln : Int) := wrap_id (by omega)
      have w2 : IntKind.i64.wrap ((ln : Int) * 16) = ((ln * 16 : Nat) : Int) := by rw [wrap_id (by omega)]; omega
      have w3 : IntKind.i64.wrap (((ln * 16 : Nat) : Int) + 16) = ((ln * 16 + 16 : Nat) : Int) := by rw [wrap_id (by omega)]; omega
      refine W_cut (fun t => t.s.length = 41 ∧ rho t.s (.tmp 2) = .ptr 0 0 ∧ rho t.s (.tmp 3) = .ptr 1 0 ∧ rho t.s (.tmp 5) = .int .i64 ((ln * 16 : Nat) : Int) ∧ t.g 0 = some [memT m, cachT m] ∧ t.g 1 = some we) (W_region (fun k => by simp (decide := true) (disch := first | omega | simp (decide := true) only [List.length_set, hl]) only [sims, autos, simprocAttr, hps, h3, g1, hlen, htg, w1, w2]; rfl) ⟨rfl, ?_⟩) ?_
      · refine ⟨?_, ?_, ?_, ?_, ?_, ?_⟩ <;> simp (decide := true) (disch := first | omega | simp (decide := true) only [List.length_set, hl]) only [sims, autos, simprocAttr, hps, hl, h2, h3, g0, g1]
      clear hl h2 h3 g0 g1 h22
      rintro st ⟨hl, h2, h3, h5, g0, g1⟩
      by_cases hs3 : w.state = 3
      · have e3 : (w.state == 3) = true := by rw [hs3]; rfl
        refine W_seqn (W_region (fun k => by simp (decide := true) (disch := first | omega | simp (decide := true) only [List.length_set, hl]) only [sims, autos, simprocAttr, hps, h3, g1, hlen, hst, e3]; rfl) ⟨rfl, W_ret ?_⟩)
        refine ⟨rfl, fin_bool (F := f29) (b := true) (P := fun b => b = true ↔ SoundX m w) rfl (btrue (by rw [hdef]; exact .inr ⟨hlies, .inl hs3, hleg⟩)) ?_⟩
        simp (decide := true) (disch := first | omega | simp (decide := true) only [List.length_set, hl]) only [sims, autos, simprocAttr]
      have e3 : (w.state == 3) = false := by simpa using hs3
      have hB := bytes_cutR m ln
      have hBl := u8_len m.mem
      have hbl := bytesM_len m ln hlies
      have hEq := bytes_equal false false w.data (bytesM m ln) (by rw [hd16, hbl]) (by omega)
      rw [hd16, hbl] at hEq
      obtain ⟨N, q⟩ := hEq.callF qEQL (UpL.refl _) (bool_up _) rfl
      have hfz := frzL_ownO (n := 16) g1 hdt (by rw [u8_len]; exact hd16) (u8_ints _) false 16 ((bytesM m ln).flatMap u8T)
      have q := q N (Nat.le_refl _) st.g _ _ hfz
      have hres : decide (w.data = bytesM m ln) = true ↔ SoundX m w := by
        rw [hdef, decide_eq_true_iff]
        exact ⟨fun h => .inr ⟨hlies, .inr h, hleg⟩, fun h => h.elim (fun h => absurd h hs0) (fun h => h.2.1.elim (fun h => absurd h hs3) id)⟩
      generalize decide (w.data = bytesM m ln) = r at *
      rw [hmm] at g0
      have hb1 : ln * 16 ≤ ln * 16 + 16 := by omega
      have hsub : ln * 16 + 16 - ln * 16 = 16 := by omega
      have hb2 : ln * 16 + 16 ≤ m.mem.length := hlies
      have hfe : (false && (ln * 16 + 16 == m.mem.length)) = false := rfl
      refine W_seqn (W_regionN ⟨N, by simp (decide := true) (disch := first | omega | simp (decide := true) only [List.length_set, hl]) only [sims, autos, simprocAttr, hps, h2, h3, h5, g0, g1, hlen, hst, e3, w3, hb1, hb2, hsub, hB, hBl, Nat.le_refl, Nat.mul_one, Nat.zero_mul, Nat.add_zero, Nat.sub_zero, Option.map_some, Option.map_none, Option.isSome, Bool.false_and, qEQL, rEQL, sEQL, q]; rfl⟩ ⟨rfl, W_ret ?_⟩)
      refine ⟨rfl, fin_bool (F := f29) (b := r) (P := fun b => b = true ↔ SoundX m w) rfl hres ?_⟩
      simp (decide := true) (disch := first | omega | simp (decide := true) only [List.length_set, hl]) only [sims, autos, simprocAttr]
  · rw [decide_eq_false hlies] at qL
    have qL := qL NL (Nat.le_refl _)
    refine W_seq (W_seqn (W_regionN ⟨NL, by simp (decide := true) (disch := first | omega | simp (decide := true) only [List.length_set, hl]) only [sims, autos, simprocAttr, hps, h2, h3, g0, g1, hlen, htg, qLIE, rLIE, sLIE, qL]; rfl⟩ ⟨rfl, W_tru ?_⟩))
    refine W_seqn (W_region (fun k => by simp (decide := true) (disch := first | omega | simp (decide := true) only [List.length_set, hl]) only [sims, autos, simprocAttr, hps]; rfl) ⟨rfl, W_ret ?_⟩)
    simp only [reduceCtorEq, false_and, false_or, or_false, exists_false, exists_const, ne_eq, not_false_eq_true, true_and, implies_true]
    refine ⟨rfl, fin_bool (F := f29) (b := false) (P := fun b => b = true ↔ SoundX m w) rfl (bfalse (by rw [hdef]; exact fun h => h.elim hs0 (fun h => hlies h.1))) ?_⟩
    simp (decide := true) (disch := first | omega | simp (decide := true) only [List.length_set, hl]) only [sims, autos, simprocAttr]
theorem qFIT : ap 29 = some f29 := rfl
theorem rFIT : f29.pure = true := rfl
theorem sFIT : f29.nat = none := rfl
theorem fits_go (m : Coh) (hok : Ok m) (h1c : 1 ≤ m.caches.length) (w : Way) (hw : w.wf) (P : Nat) (g : Mem) (nx : Nat) (hP : P < nx) (gP : g P = some [memT m, cachT m]) :
    ∃ N v g' nx', (∀ k, N ≤ k → runBody (ev ap k) f28 [.agg w.enc, .ptr P 0] g nx = some (v, g', nx')) ∧ (∃ b, v = .bool b ∧ (b = true ↔ SoundX m w)) ∧ g' P = some [memT m, cachT m] ∧ nx ≤ nx' := by
  refine EI_bodyV (P := fun v g' nx' => (∃ b, v = .bool b ∧ (b = true ↔ SoundX m w)) ∧ g' P = some [memT m, cachT m] ∧ nx ≤ nx') ?_
  generalize hs0 : (_ : List T) ++ List.replicate _ T.undef = s0
  have e0 : s0.length = 7 ∧ rho s0 (.tmp 0) = .agg w.enc ∧ rho s0 (.tmp 1) = .ptr P 0 := by subst hs0; exact ⟨rfl, rfl, rfl⟩
  clear hs0
  obtain ⟨hl, h0, h1⟩ := e0
  have hwl := leaf_ints _ (way_ints w)
  have hlen := way_len hw
  have hcw : cut w.enc 0 19 = w.enc := cut_all (by omega)
  have hcut : cut [memT m, cachT m] 0 2 = [memT m, cachT m] := rfl
  have hwi := way_ints w
  obtain ⟨v, hF, b, rfl, hb⟩ := fits_walk m hok h1c w hw
  have hfw := fun h : Hp => way_frz w h
  obtain ⟨N, q⟩ := hF.call qFIT (fun g => by
    have e1 : frz ⟨g, 0⟩ 12 (.agg [memT m, cachT m]) = some (.agg [memT m, cachT m], []) := rfl
    have e2 := hfw ⟨g, 0⟩
    rw [show frzDepth = 12 from rfl] at e2
    unfold frzL
    rw [show frzDepth = 12 from rfl]
    simp only [frzAll, e1, e2, List.append_nil])
  have q := q N (Nat.le_refl _)
  generalize w.enc = we at *
  generalize memT m = mt at *
  generalize cachT m = ct at *
  refine W_cut (fun t => t.s.length = 7 ∧ rho t.s (.tmp 1) = .ptr P 0 ∧ rho t.s (.tmp 2) = .ptr nx 0 ∧ t.g nx = some we ∧ t.g P = some [mt, ct] ∧ t.nx = nx + 2) (W_region (fun k => by simp (decide := true) (disch := first | omega | simp (decide := true) only [List.length_set, hl]) only [sims, autos, simprocAttr, hps, h0, hwl]; rfl) ⟨rfl, ?_⟩) ?_
  · refine ⟨?_, ?_, ?_, ?_, ?_, rfl⟩ <;> simp (decide := true) (disch := first | omega | simp (decide := true) only [List.length_set, hl]) only [sims, autos, simprocAttr, hps, hl, h1, gP]
  clear hl h0 h1 gP
  rintro st ⟨hl, h1, h2, g2, gP, hnx⟩
  refine W_seqn (W_regionN ⟨N, by simp (decide := true) (disch := first | omega | simp (decide := true) only [List.length_set, hl]) only [sims, autos, simprocAttr, hps, h1, h2, g2, gP, hlen, hcw, hcut, qFIT, rFIT, sFIT, q]; rfl⟩ ⟨rfl, W_ret ?_⟩)
  refine ⟨rfl, .bool b, res_one (F := f28) rfl ?_, ⟨b, rfl, hb⟩, gP, by show nx ≤ st.nx + 4; omega⟩
  simp (decide := true) (disch := first | omega | simp (decide := true) only [List.length_set, hl]) only [sims, autos, simprocAttr]
def RJ (m : Coh) (P : Nat) (_ : Unit) (g : Mem) (nx : Nat) : Prop := P < nx ∧ g P = some [memT m, cachT m]
theorem right_shows (m : Coh) (hok : Ok m) (h1c : 1 ≤ m.caches.length) (P : Nat) : Shows 28 P f28 (fun a _ => a) (RJ m P) (SoundX m) where
  hap := rfl
  hp := rfl
  hn := rfl
  hau := rfl
  st := fun a g nx g' nx' ⟨h1, h2⟩ hx hg => ⟨by omega, by rw [hg P h1]; exact h2⟩
  go := fun a w g nx hw ⟨h1, h2⟩ => by
    obtain ⟨N, v, g', nx', q, ⟨b, rfl, hb⟩, e1, e2⟩ := fits_go m hok h1c w hw P g nx h1 h2
    exact ⟨N, b, g', nx', q, fun h => ⟨hb.mp h, by omega, e1⟩, fun h e => by have := hb.mpr e; rw [h] at this; cases this⟩
/-! ### The whole function -/
def MemP (L : List Int) : Prop := 64 ≤ L.length ∧ L.length ≤ 16384 ∧ L.length % 64 = 0
instance (L : List Int) : Decidable (MemP L) := by unfold MemP; infer_instance
theorem qMRG : ap 25 = some f25 := rfl
theorem rMRG : f25.pure = true := rfl
theorem sMRG : f25.nat = none := rfl
theorem mem_right (f : Bool) (L : List Int) (hL : L.length ≤ 1024) : E ap 25 [.imm f L.length (L.flatMap u8T)] (.bool (decide (MemP L))) := by
  refine E_body (F := f25) rfl rfl rfl ?_
  generalize hs0 : (_ : List T) ++ List.replicate _ T.undef = s0
  have e0 : s0.length = 17 ∧ rho s0 (.tmp 0) = .imm f L.length (L.flatMap u8T) := by subst hs0; exact ⟨rfl, rfl⟩
  clear hs0
  obtain ⟨hl, h0⟩ := e0
  have w0 : (L.length : Int).tmod 64 = ((L.length % 64 : Nat) : Int) := by rw [Int.tmod_eq_emod_of_nonneg (by omega)]; omega
  refine W_seqn (W_region (fun k => by simp (decide := true) (disch := first | omega | simp (decide := true) only [List.length_set, hl]) only [sims, autos, simprocAttr, hps]; rfl) ⟨rfl, ?_⟩)
  by_cases c1 : 64 ≤ L.length
  · have d1 : decide ((L.length : Int) ≥ 64) = true := decide_eq_true (by omega)
    have d2 : decide ((L.length : Int) ≤ 16384) = true := decide_eq_true (by omega)
    have d3 : (((L.length % 64 : Nat) : Int) == 0) = decide (MemP L) := by
      by_cases h : L.length % 64 = 0
      · rw [h, decide_eq_true (show MemP L from ⟨c1, by omega, h⟩)]; rfl
      · rw [decide_eq_false (fun e : MemP L => h e.2.2)]; simp; omega
    refine W_seqn (W_region (fun k => by simp (decide := true) (disch := first | omega | simp (decide := true) only [List.length_set, hl]) only [sims, autos, simprocAttr, hps, h0, d1, d2, w0, d3]; rfl) ⟨rfl, W_ret ?_⟩)
    refine fin_of (F := f25) rfl (fun _ => rfl) ?_
    simp (decide := true) (disch := first | omega | simp (decide := true) only [List.length_set, hl]) only [sims, autos, simprocAttr]
  · have d1 : decide ((L.length : Int) ≥ 64) = false := decide_eq_false (by omega)
    rw [decide_eq_false (fun e : MemP L => c1 e.1)]
    refine W_seqn (W_region (fun k => by simp (decide := true) (disch := first | omega | simp (decide := true) only [List.length_set, hl]) only [sims, autos, simprocAttr, hps, h0, d1]; rfl) ⟨rfl, W_ret ?_⟩)
    refine fin_of (F := f25) rfl (fun _ => rfl) ?_
    simp (decide := true) (disch := first | omega | simp (decide := true) only [List.length_set, hl]) only [sims, autos, simprocAttr]
theorem qCRG : ap 26 = some f26 := rfl
theorem rCRG : f26.pure = true := rfl
theorem sCRG : f26.nat = none := rfl
theorem qEAC2 : ap 27 = some f27 := rfl
theorem rEAC2 : f27.pure = false := rfl
theorem sEAC2 : f27.nat = none := rfl
def RK (m : Coh) (n : Nat) : Prop := ∀ k, k < n → RightP (cacheAt m k)
/-- May it be? -/
def RightM (m : Coh) : Prop := MemP m.mem ∧ 1 ≤ m.caches.length ∧ m.caches.length ≤ 2 ∧ SoundK m m.caches.length
def rtL : ACode := match f11.body with | .seq _ (.seq _ (.seq (.seq _ (.block _ (.loop c))) _)) => c | _ => .skip
def RtI (m : Coh) (k : Nat) (st : St) : Prop := st.s.length = 35 ∧ rho st.s (.tmp 1) = .ptr 0 0 ∧ rho st.s (.tmp 22) = cachT m ∧ rho st.s (.tmp 23) = .int .i64 (m.caches.length : Int) ∧ rho st.s (.tmp 24) = .int .i64 (k : Int) ∧ st.g 0 = some [memT m, cachT m] ∧ 1 ≤ st.nx
theorem rt_loop (m : Coh) (hok : Ok m) (Q : AExit → St → Prop)
    (hQe : ∀ st : St, RtI m m.caches.length st → RK m m.caches.length → Q (.exit 0) st)
    (hQr : ∀ st : St, rho st.s (.tmp 2) = .bool false → ¬ RK m m.caches.length → Q .ret st) :
    ∀ (n : Nat) (st : St), (∃ k : Nat, RtI m k st ∧ RK m k ∧ k ≤ m.caches.length ∧ n = m.caches.length - k) → W ap (.loop rtL) st Q := by
  refine W_loop _ ?_
  rintro n st ⟨k, hI, hr, hk, hn⟩
  have hI' := hI
  obtain ⟨hl, h1, h22, h23, h24, g0, hnx⟩ := hI'
  have hc4 := hok.2.2.1
  have hcc : cachT m = .imm false m.caches.length (m.caches.flatMap Cache.enc) := rfl
  by_cases hend : k = m.caches.length
  · have hlt : decide ((k : Int) < (m.caches.length : Int)) = false := decide_eq_false (by omega)
    rw [hend] at h24 hr hlt
    refine W_seqn (W_region (fun k => by simp (decide := true) (disch := first | omega | simp (decide := true) only [List.length_set, hl]) only [sims, autos, simprocAttr, hps, h23, h24, hlt]; rfl) ⟨rfl, ?_⟩)
    refine W_seq (W_fls (W_exit (.inr ⟨by simp, .inr ⟨by simp, hQe _ ⟨?_, ?_, ?_, ?_, ?_, ?_, ?_⟩ hr⟩⟩)))
    case refine_6 => exact g0
    case refine_7 => show 1 ≤ st.nx + 1; omega
    all_goals simp (decide := true) (disch := first | omega | simp (decide := true) only [List.length_set, hl]) only [sims, autos, simprocAttr, hps, hl, h1, h22, h23, h24]
  have hkl : k < m.caches.length := by omega
  have hlt : decide ((k : Int) < (m.caches.length : Int)) = true := decide_eq_true (by omega)
  have hw2 : IntKind.i64.wrap ((k : Int) + 1) = ((k + 1 : Nat) : Int) := by rw [wrap_id (by omega)]; omega
  have hcl := caches_len m
  have hcg := caches_cut m k hkl
  have hcg2 := caches_get m k hkl
  have hcw := cacheAt_wf hok.1 k hkl
  have hfit := hok.2.2.2 k hkl
  have hb : k * 1 + 1 ≤ m.caches.length := by omega
  have hst : splice [T.imm true 0 []] 0 [setsT (cacheAt m k)] = [setsT (cacheAt m k)] := rfl
  have hleaf : allLeaf [setsT (cacheAt m k)] = true := rfl
  have hcut1 : cut [setsT (cacheAt m k)] 0 1 = [setsT (cacheAt m k)] := rfl
  obtain ⟨v, hv, b, rfl, hbi⟩ := bus_right (cacheAt m k) hcw hfit
  obtain ⟨N, q⟩ := hv.call qCRG (fun g => rfl)
  have q := q N (Nat.le_refl _)
  rw [hcc] at h22
  generalize setsT (cacheAt m k) = sc at *
  refine W_seqn (W_region (fun k => by simp (decide := true) (disch := first | omega | simp (decide := true) only [List.length_set, hl]) only [sims, autos, simprocAttr, hps, h23, h24, hlt]; rfl) ⟨rfl, ?_⟩)
  refine W_seqn (W_tru (W_skip ⟨rfl, ?_⟩))
  refine W_seq (W_block ?_)
  refine W_cut (fun t => RtI m k t ∧ ∃ p, rho t.s (.tmp 4) = .ptr p 0 ∧ t.g p = some [sc]) (W_region (fun k => by simp (decide := true) (disch := first | omega | simp (decide := true) only [List.length_set, hl]) only [sims, autos, simprocAttr, hps, h22, h24, hkl, hcl, hb, hcg, hcg2, hst, hleaf]; rfl) ⟨rfl, ⟨?_, ?_, ?_, ?_, ?_, ?_, ?_⟩, st.nx + 1 + 1 + 1, ?_, ?_⟩) ?_
  case refine_7 => show 1 ≤ st.nx + 1 + 4; omega
  case refine_10 =>
    clear hl h1 h22 h23 h24 g0 hnx hI
    rintro st ⟨⟨hl, h1, h22, h23, h24, g0, hnx⟩, p, h4, gp⟩
    cases b with
    | true =>
      refine W_seqn (W_regionN ⟨N, by simp (decide := true) (disch := first | omega | simp (decide := true) only [List.length_set, hl]) only [sims, autos, simprocAttr, hps, h4, gp, hcut1, qCRG, rCRG, sCRG, q]; rfl⟩ ⟨rfl, W_fls (W_skip (.inr (.inl ⟨by simp, .inl ⟨rfl, ?_⟩⟩)))⟩)
      refine W_region (fun k => by simp (decide := true) (disch := first | omega | simp (decide := true) only [List.length_set, hl]) only [sims, autos, simprocAttr, hps, h24, hw2]; rfl) (.inl ⟨rfl, m.caches.length - (k + 1), by omega, k + 1, ⟨?_, ?_, ?_, ?_, ?_, ?_, ?_⟩, fun j hj => ?_, by omega, rfl⟩)
      case refine_6 => exact g0
      case refine_7 => show 1 ≤ st.nx + 3 + 2; omega
      case refine_8 =>
        by_cases hjk : j = k
        · rw [hjk]; exact hbi.mp rfl
        · exact hr j (by omega)
      all_goals simp (decide := true) (disch := first | omega | simp (decide := true) only [List.length_set, hl]) only [sims, autos, simprocAttr, hps, hl, h1, h22, h23, h24]
    | false =>
      refine W_seqn (W_regionN ⟨N, by simp (decide := true) (disch := first | omega | simp (decide := true) only [List.length_set, hl]) only [sims, autos, simprocAttr, hps, h4, gp, hcut1, qCRG, rCRG, sCRG, q]; rfl⟩ ⟨rfl, W_tru ?_⟩)
      refine W_seqn (W_region (fun k => by simp (decide := true) (disch := first | omega | simp (decide := true) only [List.length_set, hl]) only [sims, autos, simprocAttr, hps]; rfl) ⟨rfl, W_ret ?_⟩)
      simp only [reduceCtorEq, false_and, false_or, or_false, exists_false, exists_const, ne_eq, not_false_eq_true, true_and, implies_true]
      refine hQr _ ?_ (fun h => by have := hbi.mpr (h k hkl); cases this)
      simp (decide := true) (disch := first | omega | simp (decide := true) only [List.length_set, hl]) only [sims, autos, simprocAttr]
  case refine_6 => have : (0 = st.nx + 1 + 1 + 1) = False := by simp
                   simp (decide := true) (disch := first | omega | simp (decide := true) only [List.length_set, hl]) only [sims, autos, simprocAttr, hps, g0, this]
  case refine_3 => rw [hcc]; simp (decide := true) (disch := first | omega | simp (decide := true) only [List.length_set, hl]) only [sims, autos, simprocAttr, hps, h22]
  all_goals simp (decide := true) (disch := first | omega | simp (decide := true) only [List.length_set, hl]) only [sims, autos, simprocAttr, hps, hl, h1, h23, h24]
theorem sound_split (m : Coh) : SoundK m m.caches.length ↔ RK m m.caches.length ∧ gK (SoundX m) m m.caches.length := by
  constructor
  · exact fun h => ⟨fun k hk => (h k hk).1, fun k hk => (h k hk).2⟩
  · exact fun h k hk => ⟨h.1 k hk, h.2 k hk⟩
theorem coh_right (m : Coh) (hok : Ok m) : ∃ v, E ap 11 [.agg [memT m, cachT m]] v ∧ ∃ b, v = .bool b ∧ (b = true ↔ RightM m) := by
  refine E_bodyV (F := f11) rfl rfl rfl (P := fun v => ∃ b, v = .bool b ∧ (b = true ↔ RightM m)) ?_
  generalize hs0 : (_ : List T) ++ List.replicate _ T.undef = s0
  have e0 : s0.length = 35 ∧ rho s0 (.tmp 0) = .agg [memT m, cachT m] := by subst hs0; exact ⟨rfl, rfl⟩
  clear hs0
  obtain ⟨hl, h0⟩ := e0
  have hleaf : allLeaf [memT m, cachT m] = true := rfl
  have hcut : cut [memT m, cachT m] 0 2 = [memT m, cachT m] := rfl
  have hcc : cachT m = .imm false m.caches.length (m.caches.flatMap Cache.enc) := rfl
  have hmm : memT m = .imm false m.mem.length (m.mem.flatMap u8T) := rfl
  have hdef : RightM m = (MemP m.mem ∧ 1 ≤ m.caches.length ∧ m.caches.length ≤ 2 ∧ SoundK m m.caches.length) := rfl
  have hspl := sound_split m
  obtain ⟨NM, qM⟩ := (mem_right false m.mem hok.2.1).call qMRG (fun g => rfl)
  have qM := qM NM (Nat.le_refl _)
  rw [← hmm] at qM
  refine W_cut (fun st => st.s.length = 35 ∧ rho st.s (.tmp 1) = .ptr 0 0 ∧ st.g 0 = some [memT m, cachT m] ∧ 1 ≤ st.nx) (W_region (fun k => by simp (decide := true) (disch := first | omega | simp (decide := true) only [List.length_set, hl]) only [sims, autos, simprocAttr, hps, h0, hleaf]; rfl) ⟨rfl, ?_⟩) ?_
  · refine ⟨?_, ?_, ?_, by show 1 ≤ 0 + 2; omega⟩ <;> simp (decide := true) (disch := first | omega | simp (decide := true) only [List.length_set, hl]) only [sims, autos, simprocAttr, hps, hl]
  clear hl h0
  rintro st ⟨hl, h1, g0, hnx⟩
  have bad : ∀ z : St, z.s.length = 35 → ¬ RightM m → W ap (.seq (.region [⟨some 2, .mv (.con (.bool false)), none⟩] []) .ret) z (fun e st => e ≠ .normal ∧ (e.leaves = true ∧ ∃ v, (∃ b, v = .bool b ∧ (b = true ↔ RightM m)) ∧ ∃ u ids, resT st.s st.g f11.res = some u ∧ frz ⟨st.g, st.nx⟩ frzDepth u = some (v, ids))) := by
    intro z hl hn
    refine W_seqn (W_region (fun k => by simp (decide := true) (disch := first | omega | simp (decide := true) only [List.length_set, hl]) only [sims, autos, simprocAttr, hps]; rfl) ⟨rfl, W_ret ?_⟩)
    refine ⟨by simp, rfl, fin_bool (F := f11) (b := false) (P := fun b => b = true ↔ RightM m) rfl (bfalse hn) ?_⟩
    simp (decide := true) (disch := first | omega | simp (decide := true) only [List.length_set, hl]) only [sims, autos, simprocAttr]
  by_cases c1 : MemP m.mem
  · rw [decide_eq_true c1] at qM
    by_cases c2 : 1 ≤ m.caches.length
    · have d2 : decide ((m.caches.length : Int) < 1) = false := decide_eq_false (by omega)
      by_cases c3 : m.caches.length ≤ 2
      · have d3 : decide ((m.caches.length : Int) > 2) = false := decide_eq_false (by omega)
        refine W_seqn (W_cut (fun t => t.s.length = 35 ∧ rho t.s (.tmp 1) = .ptr 0 0 ∧ rho t.s (.tmp 20) = .bool false ∧ t.g 0 = some [memT m, cachT m] ∧ 1 ≤ t.nx) (W_regionN ⟨NM, by simp (decide := true) (disch := first | omega | simp (decide := true) only [List.length_set, hl]) only [sims, autos, simprocAttr, hps, h1, g0, hcc, d2, d3, qMRG, rMRG, sMRG, qM]; rfl⟩ ⟨rfl, ?_, ?_, ?_, ?_, ?_⟩) ?_)
        case refine_5 => show 1 ≤ st.nx + 16; omega
        case refine_6 =>
          clear hl h1 g0 hnx
          rintro st ⟨hl, h1, h20, g0, hnx⟩
          refine W_false h20 (W_skip ⟨rfl, ?_⟩)
          refine W_seq (W_seqn (W_region (fun k => by simp (decide := true) (disch := first | omega | simp (decide := true) only [List.length_set, hl]) only [sims, autos, simprocAttr, hps, h1, g0, hcc]; rfl) ⟨rfl, W_block ?_⟩))
          refine rt_loop m hok _ (fun st hI hr => ?_) (fun st h2 hno => ?_) (m.caches.length - 0) _ ⟨0, ⟨?_, ?_, ?_, ?_, ?_, ?_, ?_⟩, fun j hj => absurd hj (by omega), by omega, rfl⟩
          · obtain ⟨hl, h1, h22, h23, h24, g0, hnx⟩ := hI
            refine .inl ⟨rfl, .inl ⟨rfl, ?_⟩⟩
            obtain ⟨N, v, g', nx', q, b, rfl, ht, hf⟩ := each_run (right_shows m hok c2 0) m hok () st.g (st.nx + 4) ⟨by omega, g0⟩
            have q := q N (Nat.le_refl _)
            have hb : b = true ↔ RightM m := by
              rw [hdef, hspl]
              cases b with
              | true => exact btrue ⟨c1, c2, c3, hr, (ht rfl).1⟩
              | false => exact bfalse (fun h => hf rfl h.2.2.2.2)
            refine W_seqn (W_regionN ⟨N, by simp (decide := true) (disch := first | omega | simp (decide := true) only [List.length_set, hl]) only [sims, autos, simprocAttr, hps, h1, g0, hcut, qEAC2, rEAC2, sEAC2, evI, q]; rfl⟩ ⟨rfl, W_ret ?_⟩)
            refine ⟨rfl, fin_bool (F := f11) (b := b) (P := fun b => b = true ↔ RightM m) rfl hb ?_⟩
            simp (decide := true) (disch := first | omega | simp (decide := true) only [List.length_set, hl]) only [sims, autos, simprocAttr]
          · simp only [reduceCtorEq, false_and, false_or, or_false, exists_false, exists_const, ne_eq, not_false_eq_true, true_and, implies_true]
            exact ⟨rfl, fin_bool (F := f11) (b := false) (P := fun b => b = true ↔ RightM m) rfl (bfalse (fun h => by rw [hdef, hspl] at h; exact hno h.2.2.2.1)) h2⟩
          case refine_9 => show 1 ≤ st.nx + 4; omega
          all_goals simp (decide := true) (disch := first | omega | simp (decide := true) only [List.length_set, hl]) only [sims, autos, simprocAttr, hps, hl, h1, g0, hcc]
        all_goals simp (decide := true) (disch := first | omega | simp (decide := true) only [List.length_set, hl]) only [sims, autos, simprocAttr, hps, hl, h1, g0]
      · have d3 : decide ((m.caches.length : Int) > 2) = true := decide_eq_true (by omega)
        refine W_seq (W_seqn (W_regionN ⟨NM, by simp (decide := true) (disch := first | omega | simp (decide := true) only [List.length_set, hl]) only [sims, autos, simprocAttr, hps, h1, g0, hcc, d2, d3, qMRG, rMRG, sMRG, qM]; rfl⟩ ⟨rfl, W_tru ((bad _ ?_ (fun h => c3 h.2.2.1)).mono (fun e s h => .inr h))⟩))
        simp (decide := true) (disch := first | omega | simp (decide := true) only [List.length_set, hl]) only [sims, autos, simprocAttr, hps, hl]
    · have d2 : decide ((m.caches.length : Int) < 1) = true := decide_eq_true (by omega)
      refine W_seq (W_seqn (W_regionN ⟨NM, by simp (decide := true) (disch := first | omega | simp (decide := true) only [List.length_set, hl]) only [sims, autos, simprocAttr, hps, h1, g0, hcc, d2, qMRG, rMRG, sMRG, qM]; rfl⟩ ⟨rfl, W_tru ((bad _ ?_ (fun h => c2 h.2.1)).mono (fun e s h => .inr h))⟩))
      simp (decide := true) (disch := first | omega | simp (decide := true) only [List.length_set, hl]) only [sims, autos, simprocAttr, hps, hl]
  · rw [decide_eq_false c1] at qM
    refine W_seq (W_seqn (W_regionN ⟨NM, by simp (decide := true) (disch := first | omega | simp (decide := true) only [List.length_set, hl]) only [sims, autos, simprocAttr, hps, h1, g0, qMRG, rMRG, sMRG, qM]; rfl⟩ ⟨rfl, W_tru ((bad _ ?_ (fun h => c1 h.1)).mono (fun e s h => .inr h))⟩))
    simp (decide := true) (disch := first | omega | simp (decide := true) only [List.length_set, hl]) only [sims, autos, simprocAttr, hps, hl]
end Go.Proofs.Ytikeeegkndnnfaa.Abs
