/- A line's states, and whether they may stand together: the program's walk. -/
import Derived.Test.YtikeeegkndnnfaaView
namespace Go.Proofs.Ytikeeegkndnnfaa.Abs
open Go Go.RowKit Fn
set_option linter.unusedVariables false
set_option linter.unusedSimpArgs false
set_option linter.unnecessarySimpa false
set_option maxRecDepth 100000
set_option maxHeartbeats 4000000

def lgT (L : List Int) : List T := L.map (T.int .i64)
theorem lgT_get (L : List Int) (i : Nat) (h : i < L.length) : (lgT L)[i * 1]? = some (.int .i64 (at0 L i)) := by
  rw [Nat.mul_one]; unfold lgT at0; rw [List.getElem?_map, List.getElem?_eq_getElem h]; rfl
theorem stL_take (m : Coh) (ln j : Nat) (h : j < m.caches.length) : (lgT (stL m ln)).take (j + 1) = (lgT (stL m ln)).take j ++ [T.int .i64 (stateOf m (j : Int) ln)] := by
  have e : (lgT (stL m ln))[j]? = some (T.int .i64 (stateOf m (j : Int) ln)) := by
    unfold lgT stL
    rw [List.getElem?_map, List.getElem?_map, List.getElem?_range h]; rfl
  rw [List.take_add_one, e]; rfl
theorem lgT_ints (L : List Int) : ∀ x ∈ lgT L, ∃ k n, x = .int k n := fun x hx => by
  obtain ⟨n, _, e⟩ := List.mem_map.mp hx
  exact ⟨_, _, e.symm⟩
def StA (L : List T) (j : Nat) (x : T) (g : Mem) (nx : Nat) : Prop := (j = 0 ∧ x = .imm true 0 []) ∨ ∃ t, t < nx ∧ x = .own t 0 j 1 ∧ g t = some (L.take j)
theorem StA.mono {L : List T} {j : Nat} {x : T} {g g' : Mem} {nx nx' : Nat} (h : StA L j x g nx) (hn : nx ≤ nx') (hg : ∀ t, t < nx → g' t = g t) : StA L j x g' nx' := by
  rcases h with h | ⟨t, h1, h2, h3⟩
  · exact .inl h
  · exact .inr ⟨t, by omega, h2, by rw [hg t h1]; exact h3⟩
def StI (m : Coh) (ln j : Nat) (st : St) : Prop := st.s.length = 42 ∧ rho st.s (.tmp 1) = .int .u32 (ln : Int) ∧ rho st.s (.tmp 13) = cachT m ∧ rho st.s (.tmp 14) = .int .i64 (m.caches.length : Int) ∧ rho st.s (.tmp 15) = .int .i64 (j : Int) ∧ StA (lgT (stL m ln)) j (rho st.s (.tmp 5)) st.g st.nx
theorem StI.step {m : Coh} {ln j : Nat} {st : St} (h : StI m ln j st) {s' : List T} {g' : Mem} {nx' : Nat} (hl : s'.length = 42) (h1 : rho s' (.tmp 1) = rho st.s (.tmp 1)) (h13 : rho s' (.tmp 13) = rho st.s (.tmp 13)) (h14 : rho s' (.tmp 14) = rho st.s (.tmp 14)) (h15 : rho s' (.tmp 15) = rho st.s (.tmp 15)) (h5 : rho s' (.tmp 5) = rho st.s (.tmp 5)) (hn : st.nx ≤ nx') (hg : ∀ t, t < st.nx → g' t = st.g t) : StI m ln j ⟨s', g', nx'⟩ := by
  obtain ⟨_, a1, a2, a3, a4, a5⟩ := h
  exact ⟨hl, h1.trans a1, h13.trans a2, h14.trans a3, h15.trans a4, by rw [h5]; exact a5.mono hn hg⟩
def stsL1 : ACode := match f50.body with | .seq _ (.seq _ (.seq (.seq _ (.block _ (.loop c))) _)) => c | _ => .skip
theorem sts_loop (m : Coh) (hok : Ok m) (ln : Nat) (hln : ln ≤ 4294967295) (Q : AExit → St → Prop)
    (hQe : ∀ st : St, StI m ln m.caches.length st → Q (.exit 0) st) :
    ∀ (n : Nat) (st : St), (∃ j : Nat, StI m ln j st ∧ j ≤ m.caches.length ∧ n = m.caches.length - j) → W ap (.loop stsL1) st Q := by
  refine W_loop _ ?_
  rintro n st ⟨j, hI, hj, hn⟩
  have hI' := hI
  obtain ⟨hl, h1, h13, h14, h15, hA⟩ := hI'
  have hc4 := hok.2.2.1
  have hcc : cachT m = .imm false m.caches.length (m.caches.flatMap Cache.enc) := rfl
  by_cases hend : j = m.caches.length
  · have hlt : decide ((j : Int) < (m.caches.length : Int)) = false := decide_eq_false (by omega)
    rw [hend] at hI
    refine W_seqn (W_region (fun k => by simp (decide := true) (disch := first | omega | simp (decide := true) only [List.length_set, hl]) only [sims, autos, simprocAttr, hps, h14, h15, hlt]; rfl) ⟨rfl, ?_⟩)
    refine W_seq (W_fls (W_exit (.inr ⟨by simp, .inr ⟨by simp, hQe _ (hI.step ?_ ?_ ?_ ?_ ?_ ?_ (by omega) (fun _ _ => rfl))⟩⟩)))
    all_goals simp (decide := true) (disch := first | omega | simp (decide := true) only [List.length_set, hl]) only [sims, autos, simprocAttr, hps, hl]
  have hjl : j < m.caches.length := by omega
  have hlt : decide ((j : Int) < (m.caches.length : Int)) = true := decide_eq_true (by omega)
  have hw2 : IntKind.i64.wrap ((j : Int) + 1) = ((j + 1 : Nat) : Int) := by rw [wrap_id (by omega)]; omega
  have hcl := caches_len m
  have hcg := caches_cut m j hjl
  have hcg2 := caches_get m j hjl
  have hcw := cacheAt_wf hok.1 j hjl
  have hb : j * 1 + 1 ≤ m.caches.length := by omega
  have hsc : setsT (cacheAt m j) = .imm false (cacheAt m j).sets.length ((cacheAt m j).sets.flatMap (fun l => [rowT l])) := rfl
  have hst : splice [T.imm true 0 []] 0 [setsT (cacheAt m j)] = [setsT (cacheAt m j)] := rfl
  have hleaf : allLeaf [setsT (cacheAt m j)] = true := rfl
  have hcut1 : cut [setsT (cacheAt m j)] 0 1 = [setsT (cacheAt m j)] := rfl
  have hsto := stateOf_is m j hjl ln
  have hsta : stA m j ln = (wayOf (cacheAt m j) ln).state := rfl
  have htk := stL_take m ln j hjl
  have hLl : (lgT (stL m ln)).length = m.caches.length := by unfold lgT; rw [List.length_map, stL_len]
  obtain ⟨N, q⟩ := (bus_find (cacheAt m j) hcw ln hln).call ap58 (fun g => rfl)
  have q58 := q N (Nat.le_refl _)
  rw [hsto] at htk
  generalize stA m j ln = sv at *
  refine W_seqn (W_region (fun k => by simp (decide := true) (disch := first | omega | simp (decide := true) only [List.length_set, hl]) only [sims, autos, simprocAttr, hps, h14, h15, hlt]; rfl) ⟨rfl, ?_⟩)
  refine W_seqn (W_tru (W_skip ⟨rfl, ?_⟩))
  refine W_seqn (W_block ?_)
  rw [hcc] at h13
  rw [hsc] at hcg hcg2 hst hleaf hcut1 q58
  refine W_cut (fun t => StI m ln j t ∧ ∃ p, rho t.s (.tmp 7) = .ptr p 0 ∧ t.g p = some [setsT (cacheAt m j)]) (W_region (fun k => by simp (decide := true) (disch := first | omega | simp (decide := true) only [List.length_set, hl]) only [sims, autos, simprocAttr, hps, h13, h15, hjl, hcl, hb, hcg, hcg2, hst, hleaf]; rfl) ⟨rfl, hI.step ?_ ?_ ?_ ?_ ?_ ?_ ?_ (fun t ht => ?_), st.nx + 1 + 1 + 1, ?_, ?_⟩) ?_
  case refine_7 => show st.nx ≤ st.nx + 1 + 4; omega
  case refine_11 =>
    clear hl h1 h13 h14 h15 hA hI
    rintro st ⟨hI, p, h7, gp⟩
    have hI' := hI
    obtain ⟨hl, h1, h13, h14, h15, hA⟩ := hI'
    rw [hsc] at gp
    refine W_seqn (W_region (fun k => by simp (decide := true) (disch := first | omega | simp (decide := true) only [List.length_set, hl]) only [sims, autos, simprocAttr, hps]; rfl) ⟨rfl, ?_⟩)
    refine W_cut (fun t => StI m ln j t ∧ rho t.s (.tmp 8) = .int .i64 sv) ?_ ?_
    · cases hfd : find (cacheAt m j) ln with
      | none =>
        have hft : findT (cacheAt m j) ln = .tup [.int .i64 0, .int .i64 0, .bool false] := by unfold findT; rw [hfd]
        have hsv : sv = 0 := by rw [hsta]; unfold wayOf; rw [hfd]; rfl
        rw [hft] at q58
        refine W_seqn (W_regionN ⟨N, by simp (decide := true) (disch := first | omega | simp (decide := true) only [List.length_set, hl]) only [sims, autos, simprocAttr, hps, h1, h7, gp, hcut1, ap58, p58, n58, q58]; rfl⟩ ⟨rfl, ?_⟩)
        refine W_seqn (W_region (fun k => by simp (decide := true) (disch := first | omega | simp (decide := true) only [List.length_set, hl]) only [sims, autos, simprocAttr, hps]; rfl) ⟨rfl, W_fls (W_skip ⟨rfl, hI.step ?_ ?_ ?_ ?_ ?_ ?_ ?_ (fun _ _ => rfl), ?_⟩)⟩)
        case refine_7 => show st.nx ≤ st.nx + 1 + 10 + 1; omega
        all_goals simp (decide := true) (disch := first | omega | simp (decide := true) only [List.length_set, hl]) only [sims, autos, simprocAttr, hps, hl, hsv]
      | some w =>
        have hft : findT (cacheAt m j) ln = .tup [.int .i64 (seti (cacheAt m j) ln : Int), .int .i64 (w : Int), .bool true] := by unfold findT; rw [hfd]
        have hsv : sv = (((row (cacheAt m j) (seti (cacheAt m j) ln))[w]?).getD default).state := by rw [hsta]; unfold wayOf; rw [hfd]
        obtain ⟨hs, hw⟩ := find_lt hfd
        rw [hft] at q58
        have hrow := rows_get (cacheAt m j) (seti (cacheAt m j) ln) hs
        have hrl := rows_len (cacheAt m j)
        have hrw := row_wf hcw (seti (cacheAt m j) ln) hs
        have hb1 : seti (cacheAt m j) ln * 1 + 1 ≤ (cacheAt m j).sets.length := by omega
        have hws := flat_lenM (f := Way.enc) (row (cacheAt m j) (seti (cacheAt m j) ln)) (fun w h => way_len (hrw.2 w h))
        have hwg := way_get (row (cacheAt m j) (seti (cacheAt m j) ln)) hrw.2 w hw 0 (by omega)
        rw [way_state, ← hsv, Nat.add_zero] at hwg
        have hb2 : w * 19 + 19 ≤ (row (cacheAt m j) (seti (cacheAt m j) ln)).length * 19 := by omega
        have hrt : rowT (row (cacheAt m j) (seti (cacheAt m j) ln)) = .imm false (row (cacheAt m j) (seti (cacheAt m j) ln)).length ((row (cacheAt m j) (seti (cacheAt m j) ln)).flatMap Way.enc) := rfl
        rw [hrt] at hrow
        have hw19 : w * 19 + 1 ≤ (row (cacheAt m j) (seti (cacheAt m j) ln)).length * 19 := by omega
        generalize (row (cacheAt m j) (seti (cacheAt m j) ln)).flatMap Way.enc = ws at *
        generalize (row (cacheAt m j) (seti (cacheAt m j) ln)).length = wn at *
        generalize seti (cacheAt m j) ln = sn at *
        generalize (cacheAt m j).sets.flatMap (fun l => [rowT l]) = rows at *
        refine W_seqn (W_regionN ⟨N, by simp (decide := true) (disch := first | omega | simp (decide := true) only [List.length_set, hl]) only [sims, autos, simprocAttr, hps, h1, h7, gp, hcut1, ap58, p58, n58, q58]; rfl⟩ ⟨rfl, ?_⟩)
        refine W_seqn (W_region (fun k => by simp (decide := true) (disch := first | omega | simp (decide := true) only [List.length_set, hl]) only [sims, autos, simprocAttr, hps]; rfl) ⟨rfl, W_tru ?_⟩)
        refine W_region (fun k => by simp (decide := true) (disch := first | omega | simp (decide := true) only [List.length_set, hl]) only [sims, autos, simprocAttr, hps, h7, gp, hcut1, hs, hrl, hb1, hrow, hw, hws, hb2, hw19, hwg]; rfl) ⟨rfl, hI.step ?_ ?_ ?_ ?_ ?_ ?_ ?_ (fun _ _ => rfl), ?_⟩
        case refine_7 => show st.nx ≤ st.nx + 1 + 10 + 1 + 10; omega
        all_goals simp (decide := true) (disch := first | omega | simp (decide := true) only [List.length_set, hl]) only [sims, autos, simprocAttr, hps, hl]
    · clear hl h1 h13 h14 h15 hA hI h7 gp
      rintro t ⟨hI, h8⟩
      have hI' := hI
      obtain ⟨hl, h1, h13, h14, h15, hA⟩ := hI'
      have fin : ∀ t' : St, StI m ln j t → t'.s.length = 42 → rho t'.s (.tmp 1) = rho t.s (.tmp 1) → rho t'.s (.tmp 13) = rho t.s (.tmp 13) → rho t'.s (.tmp 14) = rho t.s (.tmp 14) → rho t'.s (.tmp 15) = rho t.s (.tmp 15) → StA (lgT (stL m ln)) (j + 1) (rho t'.s (.tmp 5)) t'.g t'.nx → W ap (.region [⟨some 40, .bin .add (.tmp 15) (.con (.int .i64 1)), none⟩, ⟨some 15, .mv (.tmp 40), none⟩] []) t' (fun e s' => (e = .normal ∧ ∃ n', n' < n ∧ ∃ j, StI m ln j s' ∧ j ≤ m.caches.length ∧ n' = m.caches.length - j) ∨ (e ≠ .normal ∧ Q e s')) := by
        intro t' hI hl e1 e13 e14 e15 hA'
        have h15' := e15.trans h15
        refine W_region (fun k => by simp (decide := true) (disch := first | omega | simp (decide := true) only [List.length_set, hl]) only [sims, autos, simprocAttr, hps, h15', hw2]; rfl) (.inl ⟨rfl, m.caches.length - (j + 1), by omega, j + 1, ⟨?_, ?_, ?_, ?_, ?_, ?_⟩, by omega, rfl⟩)
        case refine_6 =>
          have := hA'.mono (show t'.nx ≤ t'.nx + 2 by omega) (fun _ _ => rfl)
          simp (decide := true) (disch := first | omega | simp (decide := true) only [List.length_set, hl]) only [sims, autos, simprocAttr, hps]
          exact this
        case refine_5 => simp (decide := true) (disch := first | omega | simp (decide := true) only [List.length_set, hl]) only [sims, autos, simprocAttr, hps]
        all_goals simp (decide := true) (disch := first | omega | simp (decide := true) only [List.length_set, hl]) only [sims, autos, simprocAttr, hps, hl, e1, e13, e14, h1, h13, h14]
      have hroom : (j + 1) * 8 ≤ 549755813888 := by omega
      have hroom2 : j + 1 ≤ 549755813888 := by omega
      have hall : allLeaf [T.int .i64 sv] = true := rfl
      have hspl : splice [T.int .i64 0] (0 * 1) [T.int .i64 sv] = [T.int .i64 sv] := rfl
      have hspl2 : splice [T.int .i64 0] 0 [T.int .i64 sv] = [T.int .i64 sv] := rfl
      rcases hA with ⟨hj0, e5⟩ | ⟨b, hb1, e5, gb⟩
      · have hroom3 : 1 * 8 ≤ 549755813888 := by omega
        have e0 : allLeaf ([] : List T) = true := rfl
        refine W_region (fun k => by simp (decide := true) (disch := first | omega | simp (decide := true) only [List.length_set, hl]) only [sims, autos, simprocAttr, hps, h8, e5, cellsOf, hall, hspl, hspl2, e0]; rfl) (.inr (.inl ⟨by simp, rfl, ?_⟩))
        refine fin _ hI ?_ ?_ ?_ ?_ ?_ (.inr ⟨t.nx + 3, ?_, ?_, ?_⟩)
        case refine_6 => show t.nx + 3 < t.nx + 5; omega
        case refine_8 => rw [htk, hj0]; simp (decide := true) (disch := first | omega | simp (decide := true) only [List.length_set, hl]) only [sims, autos, simprocAttr, hps]; rfl
        all_goals simp (decide := true) (disch := first | omega | simp (decide := true) only [List.length_set, hl]) only [sims, autos, simprocAttr, hps, hl, hj0]
      · have htl : ((lgT (stL m ln)).take j).length = j := by rw [List.length_take]; omega
        have hct : cut ((lgT (stL m ln)).take j) 0 (j * 1) = (lgT (stL m ln)).take j := cut_all (by omega)
        have hj1 : j * 1 ≤ j := by omega
        generalize (lgT (stL m ln)).take j = tk at *
        refine W_region (fun k => by simp (decide := true) (disch := first | omega | simp (decide := true) only [List.length_set, hl]) only [sims, autos, simprocAttr, hps, h8, e5, gb, cellsOf, hall, hspl, hspl2, hroom, hroom2, htl, hct, hj1, Nat.zero_add]; rfl) (.inr (.inl ⟨by simp, rfl, ?_⟩))
        refine fin _ hI ?_ ?_ ?_ ?_ ?_ (.inr ⟨t.nx + 3, ?_, ?_, ?_⟩)
        case refine_6 => show t.nx + 3 < t.nx + 5; omega
        case refine_8 => rw [htk]; simp (decide := true) (disch := first | omega | simp (decide := true) only [List.length_set, hl]) only [sims, autos, simprocAttr, hps]; rfl
        all_goals simp (decide := true) (disch := first | omega | simp (decide := true) only [List.length_set, hl]) only [sims, autos, simprocAttr, hps, hl]
  all_goals simp (decide := true) (disch := first | omega | simp (decide := true) only [List.length_set, hl]) only [sims, autos, simprocAttr, hps, hl, hsc]
theorem qSTS : ap 50 = some f50 := rfl
theorem rSTS : f50.pure = true := rfl
theorem sSTS : f50.nat = none := rfl
theorem coh_states (m : Coh) (hok : Ok m) (h1 : 1 ≤ m.caches.length) (ln : Nat) (hln : ln ≤ 4294967295) : ∃ v, E ap 50 [.agg [memT m, cachT m], .int .u32 (ln : Int)] v ∧ ∃ f, v = .imm f m.caches.length (lgT (stL m ln)) := by
  refine E_bodyV (F := f50) rfl rfl rfl (P := fun v => ∃ f, v = .imm f m.caches.length (lgT (stL m ln))) ?_
  generalize hs0 : (_ : List T) ++ List.replicate _ T.undef = s0
  have e0 : s0.length = 42 ∧ rho s0 (.tmp 0) = .agg [memT m, cachT m] ∧ rho s0 (.tmp 1) = .int .u32 (ln : Int) := by subst hs0; exact ⟨rfl, rfl, rfl⟩
  clear hs0
  obtain ⟨hl, h0, h1'⟩ := e0
  have hleaf : allLeaf [memT m, cachT m] = true := rfl
  have hcc : cachT m = .imm false m.caches.length (m.caches.flatMap Cache.enc) := rfl
  have hLl : (lgT (stL m ln)).length = m.caches.length := by unfold lgT; rw [List.length_map, stL_len]
  have htk : (lgT (stL m ln)).take m.caches.length = lgT (stL m ln) := List.take_of_length_le (by omega)
  refine W_seqn (W_region (fun k => by simp (decide := true) (disch := first | omega | simp (decide := true) only [List.length_set, hl]) only [sims, autos, simprocAttr, hps, h0, hleaf]; rfl) ⟨rfl, ?_⟩)
  refine W_seqn (W_region (fun k => by simp (decide := true) (disch := first | omega | simp (decide := true) only [List.length_set, hl]) only [sims, autos, simprocAttr, hps]; rfl) ⟨rfl, ?_⟩)
  refine W_seq (W_seqn (W_region (fun k => by simp (decide := true) (disch := first | omega | simp (decide := true) only [List.length_set, hl]) only [sims, autos, simprocAttr, hps, hcc]; rfl) ⟨rfl, W_block ?_⟩))
  refine sts_loop m hok ln hln _ (fun st hI => ?_) (m.caches.length - 0) _ ⟨0, ⟨?_, ?_, ?_, ?_, ?_, .inl ⟨rfl, ?_⟩⟩, by omega, rfl⟩
  · obtain ⟨hl, _, _, _, _, hA⟩ := hI
    refine .inl ⟨rfl, .inl ⟨rfl, ?_⟩⟩
    rcases hA with ⟨hj, _⟩ | ⟨t, ht, e5, gt⟩
    · omega
    rw [htk] at gt
    have hla : ListAt (fun _ => True) st.g (.own t 0 m.caches.length 1) (lgT (stL m ln)) := .inr ⟨t, trivial, by rw [hLl], gt⟩
    obtain ⟨f, ids, e1, _⟩ := hla.frz (d := 10) (nx := st.nx + 2) (frzAll_int _ (lgT_ints _))
    rw [hLl] at e1
    refine W_seqn (W_region (fun k => by simp (decide := true) (disch := first | omega | simp (decide := true) only [List.length_set, hl]) only [sims, autos, simprocAttr, hps, e5]; rfl) ⟨rfl, W_ret ?_⟩)
    refine ⟨rfl, _, ⟨f, rfl⟩, .own t 0 m.caches.length 1, ids, ?_, e1⟩
    refine res_one (F := f50) rfl ?_
    simp (decide := true) (disch := first | omega | simp (decide := true) only [List.length_set, hl]) only [sims, autos, simprocAttr, hl]
  all_goals simp (decide := true) (disch := first | omega | simp (decide := true) only [List.length_set, hl]) only [sims, autos, simprocAttr, hps, hl, h1', hcc]
/-! ### May states stand together? -/
def okS (x : Int) : Bool := decide (0 ≤ x ∧ x ≤ 3)
theorem qKNO : ap 66 = some f66 := rfl
theorem rKNO : f66.pure = true := rfl
theorem sKNO : f66.nat = none := rfl
theorem qUNK : ap 65 = some f65 := rfl
theorem rUNK : f65.pure = false := rfl
theorem sUNK : f65.nat = none := rfl
theorem unk_run (x : Int) (g : Mem) (nx : Nat) : ∃ N g' nx', (∀ k, N ≤ k → runBody (ev ap k) f65 [.int .i64 x] g nx = some (.bool (!okS x), g', nx')) ∧ True := by
  refine EI_body (P := fun g' nx' => True) ?_
  generalize hs0 : (_ : List T) ++ List.replicate _ T.undef = s0
  have e0 : s0.length = 6 ∧ rho s0 (.tmp 0) = .int .i64 x := by subst hs0; exact ⟨rfl, rfl⟩
  clear hs0
  obtain ⟨hl, h0⟩ := e0
  obtain ⟨N, q⟩ := (bus_known x).call qKNO (fun g => rfl)
  have q := q N (Nat.le_refl _)
  rw [show decide (0 ≤ x ∧ x ≤ 3) = okS x from rfl] at q
  refine W_seqn (W_region (fun k => by simp (decide := true) (disch := first | omega | simp (decide := true) only [List.length_set, hl]) only [sims, autos, simprocAttr, hps]; rfl) ⟨rfl, ?_⟩)
  refine W_seqn (W_regionN ⟨N, by simp (decide := true) (disch := first | omega | simp (decide := true) only [List.length_set, hl]) only [sims, autos, simprocAttr, hps, h0, qKNO, rKNO, sKNO, q]; rfl⟩ ⟨rfl, W_ret ?_⟩)
  refine ⟨rfl, res_one (F := f65) rfl ?_, trivial⟩
  simp (decide := true) (disch := first | omega | simp (decide := true) only [List.length_set, hl]) only [sims, autos, simprocAttr]
/-- Is there one that is not known? -/
def unkN (L : List Int) : Nat → Bool
  | 0 => false
  | n + 1 => unkN L n || !okS (at0 L n)
theorem unk_mono (L : List Int) (k : Nat) (h : unkN L k = true) : ∀ d, unkN L (k + d) = true
  | 0 => h
  | d + 1 => by show (unkN L (k + d) || _) = true; rw [unk_mono L k h d]; rfl
theorem unk_rng (L : List Int) : ∀ n, (unkN L n = false ↔ rngN L n)
  | 0 => ⟨fun _ i h => absurd h (by omega), fun _ => rfl⟩
  | n + 1 => by
    have ih := unk_rng L n
    rw [unkN, Bool.or_eq_false_iff]
    constructor
    · rintro ⟨h1, h2⟩ i hi
      have h2 : okS (at0 L n) = true := by simpa using h2
      by_cases hin : i = n
      · subst hin; exact of_decide_eq_true h2
      · exact ih.mp h1 i (by omega)
    · intro h
      refine ⟨ih.mpr fun i hi => h i (by omega), ?_⟩
      have : okS (at0 L n) = true := decide_eq_true (h n (by omega))
      rw [this]; rfl
def iiLoop : ACode := match f83.body with | .seq _ (.seq (.seq _ (.block _ (.loop c))) _) => c | _ => .skip
theorem ii_loop (f : Bool) (L : List Int) (hL : L.length ≤ 1000) (Q : AExit → St → Prop)
    (hQr : ∀ (st : St) (k : Nat), rho st.s (.tmp 4) = .int .i64 (k : Int) → unkN L L.length = true → Q .ret st)
    (hQe : ∀ st : St, st.s.length = 19 → unkN L L.length = false → Q (.exit 0) st) :
    ∀ (n : Nat) (st : St), (∃ k : Nat, st.s.length = 19 ∧ rho st.s (.tmp 0) = .imm f L.length (lgT L) ∧ rho st.s (.tmp 1) = .fn 65 [] [] ∧ rho st.s (.tmp 7) = .int .i64 (L.length : Int) ∧ rho st.s (.tmp 8) = .int .i64 (k : Int) ∧ unkN L k = false ∧ k ≤ L.length ∧ n = L.length - k) → W ap (.loop iiLoop) st Q := by
  refine W_loop _ ?_
  rintro n st ⟨k, hl, h0, h1, h7, h8, hu, hk, hn⟩
  by_cases hend : k = L.length
  · have hlt : decide ((k : Int) < (L.length : Int)) = false := decide_eq_false (by omega)
    rw [hend] at hu
    refine W_seqn (W_region (fun k => by simp (decide := true) (disch := first | omega | simp (decide := true) only [List.length_set, hl]) only [sims, autos, simprocAttr, hps, h7, h8, hlt]; rfl) ⟨rfl, ?_⟩)
    refine W_seq (W_fls (W_exit (.inr ⟨by simp, .inr ⟨by simp, hQe _ ?_ hu⟩⟩)))
    simp (decide := true) (disch := first | omega | simp (decide := true) only [List.length_set, hl]) only [sims, autos, simprocAttr, hps, hl]
  have hkl : k < L.length := by omega
  have hlt : decide ((k : Int) < (L.length : Int)) = true := decide_eq_true (by omega)
  have hw2 : IntKind.i64.wrap ((k : Int) + 1) = ((k + 1 : Nat) : Int) := by rw [wrap_id (by omega)]; omega
  have hg := lgT_get L k hkl
  have hcl : (lgT L).length = L.length := by unfold lgT; rw [List.length_map]
  have hb : k * 1 + 1 ≤ L.length := by omega
  have hun : unkN L (k + 1) = (unkN L k || !okS (at0 L k)) := rfl
  rw [hu, Bool.false_or] at hun
  obtain ⟨N, g', nx', q, _⟩ := unk_run (at0 L k) st.g (st.nx + 1 + 2 + 6)
  have q := q N (Nat.le_refl _)
  generalize at0 L k = x at *
  generalize lgT L = cs at *
  refine W_seqn (W_region (fun k => by simp (decide := true) (disch := first | omega | simp (decide := true) only [List.length_set, hl]) only [sims, autos, simprocAttr, hps, h7, h8, hlt]; rfl) ⟨rfl, ?_⟩)
  refine W_seqn (W_tru (W_skip ⟨rfl, ?_⟩))
  cases hb2 : okS x with
  | false =>
    rw [hb2] at q hun
    refine W_seq (W_block ?_)
    refine W_seqn (W_region (fun k => by simp (decide := true) (disch := first | omega | simp (decide := true) only [List.length_set, hl]) only [sims, autos, simprocAttr, hps, h8]; rfl) ⟨rfl, ?_⟩)
    refine W_seqn (W_regionN ⟨N, by simp (decide := true) (disch := first | omega | simp (decide := true) only [List.length_set, hl]) only [sims, autos, simprocAttr, hps, evI, h0, h1, hkl, hb, hcl, hg, qUNK, rUNK, sUNK, q]; rfl⟩ ⟨rfl, W_tru ?_⟩)
    refine W_seqn (W_region (fun k => by simp (decide := true) (disch := first | omega | simp (decide := true) only [List.length_set, hl]) only [sims, autos, simprocAttr, hps]; rfl) ⟨rfl, W_ret ?_⟩)
    simp only [reduceCtorEq, false_and, false_or, or_false, exists_false, exists_const, ne_eq, not_false_eq_true, true_and, implies_true]
    refine hQr _ k ?_ (by have := unk_mono L (k + 1) hun (L.length - (k + 1)); rw [show k + 1 + (L.length - (k + 1)) = L.length by omega] at this; exact this)
    simp (decide := true) (disch := first | omega | simp (decide := true) only [List.length_set, hl]) only [sims, autos, simprocAttr]
  | true =>
    rw [hb2] at q hun
    refine W_seqn (W_block ?_)
    refine W_seqn (W_region (fun k => by simp (decide := true) (disch := first | omega | simp (decide := true) only [List.length_set, hl]) only [sims, autos, simprocAttr, hps, h8]; rfl) ⟨rfl, ?_⟩)
    refine W_seqn (W_regionN ⟨N, by simp (decide := true) (disch := first | omega | simp (decide := true) only [List.length_set, hl]) only [sims, autos, simprocAttr, hps, evI, h0, h1, hkl, hb, hcl, hg, qUNK, rUNK, sUNK, q]; rfl⟩ ⟨rfl, W_fls (W_skip (.inr (.inl ⟨by simp, rfl, ?_⟩)))⟩)
    refine W_region (fun k => by simp (decide := true) (disch := first | omega | simp (decide := true) only [List.length_set, hl]) only [sims, autos, simprocAttr, hps, h8, hw2]; rfl) (.inl ⟨rfl, L.length - (k + 1), by omega, k + 1, ?_, ?_, ?_, ?_, ?_, hun, by omega, rfl⟩)
    all_goals simp (decide := true) (disch := first | omega | simp (decide := true) only [List.length_set, hl]) only [sims, autos, simprocAttr, hps, hl, h0, h1, h7]
theorem qIIX : ap 83 = some f83 := rfl
theorem rIIX : f83.pure = false := rfl
theorem sIIX : f83.nat = none := rfl
theorem ii_run (f : Bool) (L : List Int) (hL : L.length ≤ 1000) (g : Mem) (nx : Nat) : ∃ N v g' nx', (∀ k, N ≤ k → runBody (ev ap k) f83 [.imm f L.length (lgT L), .fn 65 [] []] g nx = some (v, g', nx')) ∧ ∃ x, v = .int .i64 x ∧ decide (x ≥ 0) = unkN L L.length := by
  refine EI_bodyV (P := fun v g' nx' => ∃ x, v = .int .i64 x ∧ decide (x ≥ 0) = unkN L L.length) ?_
  generalize hs0 : (_ : List T) ++ List.replicate _ T.undef = s0
  have e0 : s0.length = 19 ∧ rho s0 (.tmp 0) = .imm f L.length (lgT L) ∧ rho s0 (.tmp 1) = .fn 65 [] [] := by subst hs0; exact ⟨rfl, rfl, rfl⟩
  clear hs0
  obtain ⟨hl, h0, h1⟩ := e0
  refine W_seqn (W_region (fun k => by simp (decide := true) (disch := first | omega | simp (decide := true) only [List.length_set, hl]) only [sims, autos, simprocAttr, hps]; rfl) ⟨rfl, ?_⟩)
  refine W_seq (W_seqn (W_region (fun k => by simp (decide := true) (disch := first | omega | simp (decide := true) only [List.length_set, hl]) only [sims, autos, simprocAttr, hps, h0]; rfl) ⟨rfl, W_block ?_⟩))
  refine ii_loop f L hL _ (fun st k h4 hu => ?_) (fun st hl hu => ?_) (L.length - 0) _ ⟨0, ?_, ?_, ?_, ?_, ?_, rfl, by omega, rfl⟩
  · simp only [reduceCtorEq, false_and, false_or, or_false, exists_false, exists_const, ne_eq, not_false_eq_true, true_and, implies_true]
    exact ⟨rfl, _, res_one (F := f83) rfl h4, _, rfl, by rw [hu]; exact decide_eq_true (by omega)⟩
  · refine .inl ⟨rfl, .inl ⟨rfl, ?_⟩⟩
    refine W_seqn (W_region (fun k => by simp (decide := true) (disch := first | omega | simp (decide := true) only [List.length_set, hl]) only [sims, autos, simprocAttr, hps]; rfl) ⟨rfl, W_ret ?_⟩)
    refine ⟨rfl, .int .i64 (-1), res_one (F := f83) rfl ?_, _, rfl, by rw [hu]; rfl⟩
    simp (decide := true) (disch := first | omega | simp (decide := true) only [List.length_set, hl]) only [sims, autos, simprocAttr]
  all_goals simp (decide := true) (disch := first | omega | simp (decide := true) only [List.length_set, hl]) only [sims, autos, simprocAttr, hps, hl, h0, h1]
theorem qCTF : ap 64 = some f64 := rfl
theorem rCTF : f64.pure = true := rfl
theorem sCTF : f64.nat = none := rfl
theorem ctf_run (f : Bool) (L : List Int) (hL : L.length ≤ 1000) : E ap 64 [.imm f L.length (lgT L), .fn 65 [] []] (.bool (unkN L L.length)) := by
  refine E_body (F := f64) rfl rfl rfl ?_
  generalize hs0 : (_ : List T) ++ List.replicate _ T.undef = s0
  have e0 : s0.length = 9 ∧ rho s0 (.tmp 0) = .imm f L.length (lgT L) ∧ rho s0 (.tmp 1) = .fn 65 [] [] := by subst hs0; exact ⟨rfl, rfl, rfl⟩
  clear hs0
  obtain ⟨hl, h0, h1⟩ := e0
  refine W_cut (fun t => t.s.length = 9 ∧ rho t.s (.tmp 0) = .imm f L.length (lgT L) ∧ rho t.s (.tmp 1) = .fn 65 [] []) (W_region (fun k => by simp (decide := true) (disch := first | omega | simp (decide := true) only [List.length_set, hl]) only [sims, autos, simprocAttr, hps]; rfl) ⟨rfl, ?_, ?_, ?_⟩) ?_
  case refine_4 =>
    clear hl h0 h1
    rintro t ⟨hl, h0, h1⟩
    obtain ⟨N, v, g', nx', q, x, rfl, hx⟩ := ii_run f L hL t.g (t.nx + 5)
    have q := q N (Nat.le_refl _)
    generalize unkN L L.length = u at *
    generalize lgT L = cs at *
    refine W_seqn (W_regionN ⟨N, by simp (decide := true) (disch := first | omega | simp (decide := true) only [List.length_set, hl]) only [sims, autos, simprocAttr, hps, evI, h0, h1, qIIX, rIIX, sIIX, q, hx]; rfl⟩ ⟨rfl, W_ret ?_⟩)
    refine fin_of (F := f64) rfl (fun _ => rfl) ?_
    simp (decide := true) (disch := first | omega | simp (decide := true) only [List.length_set, hl]) only [sims, autos, simprocAttr]
  all_goals simp (decide := true) (disch := first | omega | simp (decide := true) only [List.length_set, hl]) only [sims, autos, simprocAttr, hps, hl, h0, h1]
end Go.Proofs.Ytikeeegkndnnfaa.Abs
