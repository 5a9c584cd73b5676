/- What all memory says: the program's walk. -/
import Derived.Test.YtikeeegkndnnfaaEach
namespace Go.Proofs.Ytikeeegkndnnfaa.Abs
open Go Go.RowKit Fn
set_option linter.unusedVariables false
set_option linter.unusedSimpArgs false
set_option linter.unnecessarySimpa false
set_option maxRecDepth 100000
set_option maxHeartbeats 4000000

theorem qLIE : ap 31 = some f31 := rfl
theorem rLIE : f31.pure = true := rfl
theorem sLIE : f31.nat = none := rfl
theorem coh_lies (f : Bool) (L : List Int) (hL : L.length ≤ 1024) (ln : Nat) (hln : ln ≤ 4294967295) : E ap 31 [.imm f L.length (L.flatMap u8T), .int .u32 (ln : Int)] (.bool (decide (ln * 16 + 16 ≤ L.length))) := by
  refine E_body (F := f31) rfl rfl rfl ?_
  generalize hs0 : (_ : List T) ++ List.replicate _ T.undef = s0
  have e0 : s0.length = 13 ∧ rho s0 (.tmp 0) = .imm f L.length (L.flatMap u8T) ∧ rho s0 (.tmp 1) = .int .u32 (ln : Int) := by subst hs0; exact ⟨rfl, rfl, rfl⟩
  clear hs0
  obtain ⟨hl, h0, h1⟩ := e0
  have w1 : IntKind.u64.wrap (ln : Int) = (ln : Int) := by rw [wrap_u64]; omega
  have w2 : IntKind.u64.wrap ((ln : Int) * 16) = ((ln * 16 : Nat) : Int) := by rw [wrap_u64]; omega
  have w3 : IntKind.u64.wrap (((ln * 16 : Nat) : Int) + 16) = ((ln * 16 + 16 : Nat) : Int) := by rw [wrap_u64]; omega
  have w4 : IntKind.u64.wrap (L.length : Int) = (L.length : Int) := by rw [wrap_u64]; omega
  have hd : decide (((ln * 16 + 16 : Nat) : Int) ≤ (L.length : Int)) = decide (ln * 16 + 16 ≤ L.length) := by
    by_cases h : ln * 16 + 16 ≤ L.length
    · rw [decide_eq_true h, decide_eq_true (by omega)]
    · rw [decide_eq_false h, decide_eq_false (by omega)]
  refine W_seqn (W_region (fun k => by simp (decide := true) (disch := first | omega | simp (decide := true) only [List.length_set, hl]) only [sims, autos, simprocAttr, hps]; rfl) ⟨rfl, ?_⟩)
  refine W_seqn (W_region (fun k => by simp (decide := true) (disch := first | omega | simp (decide := true) only [List.length_set, hl]) only [sims, autos, simprocAttr, hps, h0, h1, w1, w2, w3, w4, hd]; rfl) ⟨rfl, W_ret ?_⟩)
  refine fin_of (F := f31) rfl (fun _ => rfl) ?_
  simp (decide := true) (disch := first | omega | simp (decide := true) only [List.length_set, hl]) only [sims, autos, simprocAttr]
theorem frzL_own {g : Mem} {A n : Nat} {c : List T} (hn : c.length = n) (hg : g A = some c) (hc : ∀ x ∈ c, ∃ k m, x = .int k m) (tl : List T) (htl : ∀ x ∈ tl, ∃ k m, x = .int k m) : ∃ f ids, frzL ⟨g, 0⟩ frzDepth (.own A 0 n 1 :: tl) = some (.imm f n c :: tl, ids) := by
  have hla : ListAt (fun _ => True) g (.own A 0 c.length 1) c := .inr ⟨A, trivial, rfl, hg⟩
  obtain ⟨f, ids, e1, _⟩ := hla.frz (d := 10) (nx := 0) (frzAll_int _ hc)
  rw [hn] at e1
  refine ⟨f, ids ++ [], ?_⟩
  unfold frzL
  have e2 := frzAll_int (h := ⟨g, 0⟩) (d := 11) tl htl
  rw [show frzDepth = 12 from rfl, frzAll]
  simp only [e1, e2]
theorem view_go (n : Nat) (hn1 : 1 ≤ n) (hn2 : n ≤ 1024) (mem : List Int) (hf : FitB n mem) (w : Way) (hw : w.wf) (P A : Nat) (g : Mem) (nx : Nat) (hP : P < nx) (hA : A < nx) (hPA : P ≠ A) (gP : g P = some [.own A 0 n 1]) (gA : g A = some (mem.flatMap u8T)) :
    ∃ N v g' nx', (∀ k, N ≤ k → runBody (ev ap k) f30 [.agg w.enc, .ptr P 0] g nx = some (v, g', nx')) ∧ v = .bool true ∧ g' P = some [.own A 0 n 1] ∧ g' A = some ((vputM mem w).flatMap u8T) ∧ nx ≤ nx' := by
  refine EI_bodyV (P := fun v g' nx' => v = .bool true ∧ g' P = some [.own A 0 n 1] ∧ g' A = some ((vputM mem w).flatMap u8T) ∧ nx ≤ nx') ?_
  generalize hs0 : (_ : List T) ++ List.replicate _ T.undef = s0
  have e0 : s0.length = 22 ∧ rho s0 (.tmp 0) = .agg w.enc ∧ rho s0 (.tmp 1) = .ptr P 0 := by subst hs0; exact ⟨rfl, rfl, rfl⟩
  clear hs0
  obtain ⟨hl, h0, h1⟩ := e0
  have hwl := leaf_ints _ (way_ints w)
  have hlen := way_len hw
  have hst := way_state w
  have htg := way_tag w
  have hdt : cut w.enc (0 + 2) 16 = w.data.flatMap u8T := way_data w hw
  have hd16 : w.data.length = 16 := hw.2.2.1.1
  obtain ⟨ln, hln, htag⟩ : ∃ ln : Nat, ln ≤ 4294967295 ∧ w.tag = (ln : Int) := ⟨w.tag.toNat, by have := wf_u32 hw.2.1; omega, by have := wf_u32 hw.2.1; omega⟩
  rw [htag] at htg
  have hvp : vputM mem w = if w.state = 3 then (putM ⟨mem, []⟩ ln w.data).mem else mem := by unfold vputM; rw [htag, Int.toNat_natCast]
  have hfl := hf.1
  generalize w.enc = we at *
  refine W_cut (fun t => t.s.length = 22 ∧ rho t.s (.tmp 1) = .ptr P 0 ∧ rho t.s (.tmp 2) = .ptr nx 0 ∧ t.g nx = some we ∧ t.g P = some [.own A 0 n 1] ∧ t.g A = some (mem.flatMap u8T) ∧ t.nx = nx + 2) (W_region (fun k => by simp (decide := true) (disch := first | omega | simp (decide := true) only [List.length_set, hl]) only [sims, autos, simprocAttr, hps, h0, hwl]; rfl) ⟨rfl, ?_⟩) ?_
  · refine ⟨?_, ?_, ?_, ?_, ?_, ?_, rfl⟩ <;> simp (decide := true) (disch := first | omega | simp (decide := true) only [List.length_set, hl]) only [sims, autos, simprocAttr, hps, hl, h1, gP, gA]
  clear hl h0 h1 gP gA
  rintro st ⟨hl, h1, h2, g2, gP, gA, hnx⟩
  have fin : ∀ t : St, t.s.length = 22 → t.g P = some [.own A 0 n 1] → t.g A = some ((vputM mem w).flatMap u8T) → nx ≤ t.nx → W ap (.seq (.region [⟨some 3, .mv (.con (.bool true)), none⟩] []) .ret) t (fun e st => e.leaves = true ∧ ∃ v, resT st.s st.g f30.res = some v ∧ v = .bool true ∧ st.g P = some [.own A 0 n 1] ∧ st.g A = some ((vputM mem w).flatMap u8T) ∧ nx ≤ st.nx) := by
    intro t hl gP gA hx
    refine W_seqn (W_region (fun k => by simp (decide := true) (disch := first | omega | simp (decide := true) only [List.length_set, hl]) only [sims, autos, simprocAttr, hps]; rfl) ⟨rfl, W_ret ?_⟩)
    refine ⟨rfl, _, res_one (F := f30) rfl ?_, rfl, gP, gA, by show nx ≤ t.nx + 1; omega⟩
    simp (decide := true) (disch := first | omega | simp (decide := true) only [List.length_set, hl]) only [sims, autos, simprocAttr]
  by_cases h33 : w.state = 3
  · have e1 : (w.state == 3) = true := by rw [h33]; rfl
    rw [if_pos h33] at hvp
    have hBl : (mem.flatMap u8T).length = n := by rw [u8_len]; exact hfl
    obtain ⟨f, ids, hfz⟩ := frzL_own (g := st.g) (tl := [.int .u32 (ln : Int)]) hBl gA (u8_ints _) (ints_one _ _)
    have hE := coh_lies f mem (by omega) ln hln
    rw [hfl] at hE
    obtain ⟨N, q⟩ := hE.callF qLIE (UpL.refl _) (bool_up _) rfl
    have q := q N (Nat.le_refl _) st.g _ ids hfz
    by_cases hlies : ln * 16 + 16 ≤ n
    · rw [decide_eq_true hlies] at q
      have hvp : vputM mem w = spl mem (ln * 16) w.data := by rw [hvp]; unfold putM; rw [if_pos (by rw [hfl]; exact hlies)]
      rw [hvp] at fin ⊢
      refine W_cut (fun t => t.s.length = 22 ∧ t.g P = some [.own A 0 n 1] ∧ t.g A = some ((spl mem (ln * 16) w.data).flatMap u8T) ∧ nx ≤ t.nx) ?_ (fun t ht => fin t ht.1 ht.2.1 ht.2.2.1 ht.2.2.2)
      refine W_cut (fun t => t.s.length = 22 ∧ rho t.s (.tmp 1) = .ptr P 0 ∧ rho t.s (.tmp 2) = .ptr nx 0 ∧ rho t.s (.tmp 12) = .bool true ∧ t.g nx = some we ∧ t.g P = some [.own A 0 n 1] ∧ t.g A = some (mem.flatMap u8T) ∧ t.nx = nx + 2 + 9) (W_regionN ⟨N, by simp (decide := true) (disch := first | omega | simp (decide := true) only [List.length_set, hl]) only [sims, autos, simprocAttr, hps, h1, h2, g2, gP, hlen, hst, htg, e1, qLIE, rLIE, sLIE, q]; rfl⟩ ⟨rfl, ?_⟩) ?_
      · refine ⟨?_, ?_, ?_, ?_, ?_, ?_, ?_, by show st.nx + 9 = _; omega⟩ <;> simp (decide := true) (disch := first | omega | simp (decide := true) only [List.length_set, hl]) only [sims, autos, simprocAttr, hps, hl, h1, h2, g2, gP, gA]
      clear hl h1 h2 g2 gP gA hnx q hfz
      rintro st ⟨hl, h1, h2, h12, g2, gP, gA, hnx⟩
      have hspl := spl_u8 w.data mem (ln * 16)
      have hDl : (w.data.flatMap u8T).length = 16 := by rw [u8_len]; exact hd16
      have hDf := u8_leaf w.data
      generalize w.data.flatMap u8T = D at *
      generalize (spl mem (ln * 16) w.data).flatMap u8T = S at *
      generalize mem.flatMap u8T = B at *
      have w1 : IntKind.i64.wrap (ln : Int) = (ln : Int) := wrap_id (by omega)
      have w2 : IntKind.i64.wrap ((ln : Int) * 16) = ((ln * 16 : Nat) : Int) := by rw [wrap_id (by omega)]; omega
      have hb2 : ln * 16 ≤ n := by omega
      have hb4 : ln * 16 + (n - ln * 16) ≤ n := by omega
      have hb5 : ln * 16 + (n - ln * 16) ≤ B.length := by omega
      have hmin : min 16 (n - ln * 16) = 16 := by omega
      have htk : D.take 16 = D := List.take_of_length_le (by omega)
      refine W_true h12 (W_region (fun k => by simp (decide := true) (disch := first | omega | simp (decide := true) only [List.length_set, hl]) only [sims, autos, simprocAttr, hps, h1, h2, g2, gP, gA, hlen, htg, w1, w2, hb2, hb4, hb5, hmin, htk, cellsOf, hdt, hDl, hDf, hBl, Nat.le_refl, Nat.mul_one, Nat.sub_zero, Option.map_some, Option.map_none]; rfl) ⟨rfl, ?_, ?_, ?_, ?_⟩)
      case refine_4 => show nx ≤ st.nx + 9; omega
      all_goals simp (decide := true) (disch := first | omega | simp (decide := true) only [List.length_set, hl]) only [sims, autos, simprocAttr, hps, hl, gP, hspl]
    · rw [decide_eq_false hlies] at q
      have hvp : vputM mem w = mem := by rw [hvp]; unfold putM; rw [if_neg (by rw [hfl]; exact hlies)]
      rw [hvp] at fin ⊢
      refine W_seqn (W_seqn (W_regionN ⟨N, by simp (decide := true) (disch := first | omega | simp (decide := true) only [List.length_set, hl]) only [sims, autos, simprocAttr, hps, h1, h2, g2, gP, hlen, hst, htg, e1, qLIE, rLIE, sLIE, q]; rfl⟩ ⟨rfl, W_fls (W_skip ⟨rfl, ?_⟩)⟩))
      refine fin _ ?_ gP gA ?_
      · simp (decide := true) (disch := first | omega | simp (decide := true) only [List.length_set, hl]) only [sims, autos, simprocAttr, hps, hl]
      · show nx ≤ st.nx + 9; omega
  · have e1 : (w.state == 3) = false := by simpa using h33
    rw [if_neg h33] at hvp
    rw [hvp] at fin ⊢
    refine W_seqn (W_seqn (W_region (fun k => by simp (decide := true) (disch := first | omega | simp (decide := true) only [List.length_set, hl]) only [sims, autos, simprocAttr, hps, h1, h2, g2, gP, hlen, hst, htg, e1]; rfl) ⟨rfl, W_fls (W_skip ⟨rfl, ?_⟩)⟩))
    refine fin _ ?_ gP gA ?_
    · simp (decide := true) (disch := first | omega | simp (decide := true) only [List.length_set, hl]) only [sims, autos, simprocAttr, hps, hl]
    · show nx ≤ st.nx + 9; omega
/-- How the bytes stand while they are gathered. -/
def VJ (n P A : Nat) (mem : List Int) (g : Mem) (nx : Nat) : Prop := FitB n mem ∧ P < nx ∧ A < nx ∧ g P = some [.own A 0 n 1] ∧ g A = some (mem.flatMap u8T)
theorem view_shows (n : Nat) (hn1 : 1 ≤ n) (hn2 : n ≤ 1024) (P A : Nat) (hPA : P ≠ A) : Shows 30 P f30 vputM (VJ n P A) (fun _ => True) where
  hap := rfl
  hp := rfl
  hn := rfl
  hau := rfl
  st := fun a g nx g' nx' ⟨h1, h2, h3, h4, h5⟩ hx hg => ⟨h1, by omega, by omega, by rw [hg P h2]; exact h4, by rw [hg A h3]; exact h5⟩
  go := fun a w g nx hw ⟨h1, h2, h3, h4, h5⟩ => by
    obtain ⟨N, v, g', nx', q, rfl, e1, e2, e3⟩ := view_go n hn1 hn2 a h1 w hw P A g nx h2 h3 hPA h4 h5
    exact ⟨N, true, g', nx', q, fun _ => ⟨trivial, fitB_put h1 hw, by omega, by omega, e1, e2⟩, fun h => by cases h⟩
theorem foW_view (l : List Way) (mem : List Int) : ∀ n, foW vputM l mem n = viewW l mem n
  | 0 => rfl
  | n + 1 => by rw [foW, viewW, foW_view l mem n]
theorem foS_view (c : Cache) (mem : List Int) : ∀ n, foS vputM c mem n = viewS c mem n
  | 0 => rfl
  | n + 1 => by rw [foS, viewS, foS_view c mem n, foW_view]
theorem foK_view (m : Coh) : ∀ n, foK vputM m m.mem n = viewK m n
  | 0 => rfl
  | n + 1 => by rw [foK, viewK, foK_view m n, foS_view]
theorem qCLB : ap 22 = some f22 := rfl
theorem sCLB : f22.nat = some (1, 1) := rfl
theorem qEAC : ap 27 = some f27 := rfl
theorem rEAC : f27.pure = false := rfl
theorem sEAC : f27.nat = none := rfl
theorem bus_view (m : Coh) (hok : Ok m) (h1m : 1 ≤ m.mem.length) : ∃ v, E ap 12 [.agg [memT m, cachT m]] v ∧ ∃ f, v = .imm f (viewM m).length ((viewM m).flatMap u8T) := by
  refine E_bodyV (F := f12) rfl rfl rfl (P := fun v => ∃ f, v = .imm f (viewM m).length ((viewM m).flatMap u8T)) ?_
  generalize hs0 : (_ : List T) ++ List.replicate _ T.undef = s0
  have e0 : s0.length = 11 ∧ rho s0 (.tmp 0) = .agg [memT m, cachT m] := by subst hs0; exact ⟨rfl, rfl⟩
  clear hs0
  obtain ⟨hl, h0⟩ := e0
  have hleaf : allLeaf [memT m, cachT m] = true := rfl
  have hcut : cut [memT m, cachT m] 0 2 = [memT m, cachT m] := rfl
  have hml := hok.2.1
  refine W_cut (fun st => st.s.length = 11 ∧ rho st.s (.tmp 1) = .ptr 0 0 ∧ st.g 0 = some [memT m, cachT m] ∧ st.nx = 2) (W_region (fun k => by simp (decide := true) (disch := first | omega | simp (decide := true) only [List.length_set, hl]) only [sims, autos, simprocAttr, hps, h0, hleaf]; rfl) ⟨rfl, ?_⟩) ?_
  · refine ⟨?_, ?_, ?_, rfl⟩ <;> simp (decide := true) (disch := first | omega | simp (decide := true) only [List.length_set, hl]) only [sims, autos, simprocAttr, hps, hl]
  clear hl h0
  rintro ⟨ss, gg, nx⟩ ⟨hl, h1, g0, hnx⟩
  simp only at hl h1 g0 hnx
  subst hnx
  have hmm : memT m = .imm false m.mem.length (m.mem.flatMap u8T) := rfl
  have hBl := u8_len m.mem
  have hBf := u8_leaf m.mem
  have hz0 : (m.mem.length = 0) = False := eq_false (by omega)
  have hr1 : m.mem.length * 1 ≤ 549755813888 := by omega
  have hr2 : m.mem.length ≤ 549755813888 := by omega
  have hb1 : (m.mem.length = m.mem.length * 1) = True := by simp
  have hll : ∀ (a b c d : Nat), allLeaf [T.own a b c d] = true := fun _ _ _ _ => rfl
  have hsp : ∀ x y : T, splice [x] 0 [y] = [y] := fun _ _ => rfl
  refine W_cut (fun st => st.s.length = 11 ∧ rho st.s (.tmp 1) = .ptr 0 0 ∧ rho st.s (.tmp 3) = .ptr 5 0 ∧ st.g 0 = some [memT m, cachT m] ∧ VJ m.mem.length 5 4 m.mem st.g st.nx) (W_region (fun k => by simp (decide := true) (disch := first | omega | simp (decide := true) only [List.length_set, hl]) only [sims, autos, simprocAttr, hps, h1, g0, hmm, qCLB, sCLB, cloneRes, cellsOf, hBl, hBf, hz0, hr1, hr2, hb1, hll, hsp]; rfl) ⟨rfl, ?_, ?_, ?_, ?_, ⟨rfl, hok.1.1.2⟩, ?_, ?_, ?_, ?_⟩) ?_
  case refine_5 => show 5 < 2 + 5; omega
  case refine_6 => show 4 < 2 + 5; omega
  case refine_9 =>
    clear hl h1 g0
    rintro st ⟨hl, h1, h3, g0, hJ⟩
    have hV := (foK_view m m.caches.length)
    obtain ⟨N, v, g', nx', q, b, rfl, ht, hf⟩ := each_run (view_shows m.mem.length h1m hml 5 4 (by omega)) m hok m.mem st.g (st.nx + 3) ((view_shows m.mem.length h1m hml 5 4 (by omega)).st _ _ _ _ _ hJ (by omega) (fun _ _ => rfl))
    have q := q N (Nat.le_refl _)
    cases b with
    | false => exact absurd (fun _ _ _ _ _ _ => trivial) (hf rfl)
    | true =>
      obtain ⟨_, hJ'⟩ := ht rfl
      rw [hV] at hJ'
      obtain ⟨hfb, a1, a2, a3, a4⟩ := hJ'
      have hvl : (viewK m m.caches.length).length = m.mem.length := hfb.1
      refine W_cut (fun t => t.s.length = 11 ∧ rho t.s (.tmp 3) = .ptr 5 0 ∧ t.g 5 = some [.own 4 0 m.mem.length 1] ∧ t.g 4 = some ((viewM m).flatMap u8T)) (W_regionN ⟨N, by simp (decide := true) (disch := first | omega | simp (decide := true) only [List.length_set, hl]) only [sims, autos, simprocAttr, hps, h1, h3, g0, hcut, qEAC, rEAC, sEAC, evI, q]; rfl⟩ ⟨rfl, ?_, ?_, a3, a4⟩) ?_
      case refine_3 =>
        rintro t ⟨hl, h3, g5, g4⟩
        have hla : ListAt (fun _ => True) t.g (.own 4 0 m.mem.length 1) ((viewM m).flatMap u8T) := .inr ⟨4, trivial, by rw [u8_len]; unfold viewM; rw [hvl], g4⟩
        obtain ⟨f, ids, e1, p1⟩ := hla.frz (d := 10) (nx := t.nx + 2) (frzAll_int _ (u8_ints _))
        rw [u8_len] at e1
        refine W_seqn (W_region (fun k => by simp (decide := true) (disch := first | omega | simp (decide := true) only [List.length_set, hl]) only [sims, autos, simprocAttr, hps, h3, g5]; rfl) ⟨rfl, W_ret ?_⟩)
        refine ⟨rfl, _, ⟨f, rfl⟩, .own 4 0 m.mem.length 1, ids, ?_, e1⟩
        refine res_one (F := f12) rfl ?_
        simp (decide := true) (disch := first | omega | simp (decide := true) only [List.length_set, hl]) only [sims, autos, simprocAttr, hl]
      all_goals simp (decide := true) (disch := first | omega | simp (decide := true) only [List.length_set, hl]) only [sims, autos, simprocAttr, hps, hl, h3]
  all_goals simp (decide := true) (disch := first | omega | simp (decide := true) only [List.length_set, hl]) only [sims, autos, simprocAttr, hps, hl, h1, g0]
end Go.Proofs.Ytikeeegkndnnfaa.Abs
