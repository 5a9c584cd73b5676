/- May a system be? The outer loops, the whole function. -/
import Derived.Test.YtdkaclgfkgcmpaaSnd2
namespace Go.Proofs.Ytdkaclgfkgcmpaa.Abs
open Go Go.RowKit Fn
set_option linter.unusedVariables false
set_option linter.unusedSimpArgs false
set_option linter.unnecessarySimpa false
set_option maxRecDepth 100000
set_option maxHeartbeats 1000000

theorem ap45s : ap 45 = some f45 := rfl
theorem p45s : f45.pure = true := rfl
theorem n45s : f45.nat = none := rfl
def SnK (m : Coh) (k : Nat) (st : St) : Prop := st.s.length = 101 ∧ rho st.s (.tmp 1) = .ptr 0 0 ∧ st.g 0 = some [memT m, cachT m] ∧ 1 ≤ st.nx ∧ rho st.s (.tmp 3) = .int .i64 (k : Int)
theorem sn2_loop (m : Coh) (hok : Ok m) (k : Nat) (hk : k < m.caches.length) (Q : AExit → St → Prop)
    (hQr : ∀ st : St, rho st.s (.tmp 2) = .bool false → ¬ SoundT m (cacheAt m k) (cacheAt m k).sets.length → Q .ret st)
    (hQe : ∀ (st : St), SnK m k st → SoundT m (cacheAt m k) (cacheAt m k).sets.length → Q (.exit 2) st) :
    ∀ (n : Nat) (st : St), (∃ i : Nat, SnK m k st ∧ rho st.s (.tmp 4) = .int .i64 (i : Int) ∧ SoundT m (cacheAt m k) i ∧ i ≤ (cacheAt m k).sets.length ∧ n = (cacheAt m k).sets.length - i) → W ap (.loop snL2) st Q := by
  refine W_loop _ ?_
  rintro n st ⟨i, ⟨hl, h1, g0, hnx, h3⟩, h4, hall, hi, hn⟩
  have hcl := caches_len m
  have hcg := caches_get m k hk
  have hcc : cachT m = .imm false m.caches.length (m.caches.flatMap Cache.enc) := rfl
  have hsc : setsT (cacheAt m k) = .imm false (cacheAt m k).sets.length ((cacheAt m k).sets.flatMap (fun l => [rowT l])) := rfl
  rw [hsc] at hcg
  have hS8 := (hok.2.2.2 k hk).1
  have hb : k * 1 + 1 ≤ m.caches.length := by omega
  generalize (cacheAt m k).sets.flatMap (fun l => [rowT l]) = rows at *
  by_cases hend : i = (cacheAt m k).sets.length
  · have hlt : decide ((i : Int) < ((cacheAt m k).sets.length : Int)) = false := decide_eq_false (by omega)
    rw [hend] at hall
    refine W_seq (W_seqn (W_region (fun k => by simp (decide := true) (disch := first | omega | simp (decide := true) only [List.length_set, hl]) only [sims, autos, simprocAttr, hcc, h1, g0, h3, h4, hk, hb, hcl, hcg, hlt]; rfl) ⟨rfl, W_fls (W_exit (.inr ⟨by simp, .inr ⟨by simp, hQe _ ⟨?_, ?_, ?_, ?_, ?_⟩ hall⟩⟩))⟩))
    case refine_4 => show 1 ≤ st.nx + 9; omega
    all_goals simp (decide := true) (disch := first | omega | simp (decide := true) only [List.length_set, hl]) only [sims, autos, simprocAttr, hl, h1, h3, g0]
  have hlt : decide ((i : Int) < ((cacheAt m k).sets.length : Int)) = true := decide_eq_true (by omega)
  have hil : i < (cacheAt m k).sets.length := by omega
  have hw2 : IntKind.i64.wrap ((i : Int) + 1) = ((i + 1 : Nat) : Int) := by rw [wrap_id (by omega)]; omega
  refine W_seqn (W_seqn (W_region (fun k => by simp (decide := true) (disch := first | omega | simp (decide := true) only [List.length_set, hl]) only [sims, autos, simprocAttr, hcc, h1, g0, h3, h4, hk, hb, hcl, hcg, hlt]; rfl) ⟨rfl, W_tru (W_skip ⟨rfl, ?_⟩)⟩))
  refine W_seq (W_block (W_seqn (W_region (fun k => by simp (decide := true) (disch := first | omega | simp (decide := true) only [List.length_set, hl]) only [sims, autos, simprocAttr]; rfl) ⟨rfl, W_block ?_⟩)))
  refine sn3_loop m hok k hk i hil _ (fun st' h2 hno => ?_) (fun st' w hS hw => ?_) ((row (cacheAt m k) i).length - 0) _ ⟨0, ⟨?_, ?_, ?_, ?_, ?_, ?_, ?_⟩, fun j hj => absurd hj (by omega), by omega, rfl⟩
  case refine_6 => show 1 ≤ st.nx + 9 + 1; omega
  case refine_1 =>
    simp only [reduceCtorEq, false_and, false_or, or_false, exists_false, exists_const, ne_eq, not_false_eq_true, true_and, implies_true]
    exact hQr _ h2 (fun h => hno (h i hil))
  case refine_2 =>
    obtain ⟨hl, h1, g0, hnx, h3, h4, h5⟩ := hS
    refine .inl ⟨rfl, .inr (.inl ⟨by simp, .inl ⟨rfl, ?_⟩⟩)⟩
    refine W_region (fun k => by simp (decide := true) (disch := first | omega | simp (decide := true) only [List.length_set, hl]) only [sims, autos, simprocAttr, h4, hw2]; rfl) ?_
    refine .inl ⟨rfl, (cacheAt m k).sets.length - (i + 1), by omega, i + 1, ⟨?_, ?_, g0, ?_, ?_⟩, ?_, fun j hj => ?_, by omega, rfl⟩
    case refine_3 => show 1 ≤ st'.nx + 3; omega
    case refine_6 =>
      by_cases hji : j = i
      · subst hji; exact hw
      · exact hall j (by omega)
    all_goals simp (decide := true) (disch := first | omega | simp (decide := true) only [List.length_set, hl]) only [sims, autos, simprocAttr, hl, h1, h3]
  all_goals simp (decide := true) (disch := first | omega | simp (decide := true) only [List.length_set, hl]) only [sims, autos, simprocAttr, hl, h1, h3, h4, g0]
theorem sn1_loop (m : Coh) (hok : Ok m) (Q : AExit → St → Prop)
    (hQr : ∀ st : St, rho st.s (.tmp 2) = .bool false → ¬ SoundK m m.caches.length → Q .ret st)
    (hQe : ∀ (st : St), st.s.length = 101 → SoundK m m.caches.length → Q (.exit 0) st) :
    ∀ (n : Nat) (st : St), (∃ k : Nat, SnK m k st ∧ SoundK m k ∧ k ≤ m.caches.length ∧ n = m.caches.length - k) → W ap (.loop snL1) st Q := by
  refine W_loop _ ?_
  rintro n st ⟨k, ⟨hl, h1, g0, hnx, h3⟩, hall, hk, hn⟩
  have hcc : cachT m = .imm false m.caches.length (m.caches.flatMap Cache.enc) := rfl
  have hc4 := hok.2.2.1
  by_cases hend : k = m.caches.length
  · have hlt : decide ((k : Int) < (m.caches.length : Int)) = false := decide_eq_false (by omega)
    rw [hend] at hall
    refine W_seq (W_seqn (W_region (fun k => by simp (decide := true) (disch := first | omega | simp (decide := true) only [List.length_set, hl]) only [sims, autos, simprocAttr, hcc, h1, g0, h3, hlt]; rfl) ⟨rfl, W_fls (W_exit (.inr ⟨by simp, .inr ⟨by simp, hQe _ ?_ hall⟩⟩))⟩))
    simp (decide := true) (disch := first | omega | simp (decide := true) only [List.length_set, hl]) only [sims, autos, simprocAttr, hl]
  have hlt : decide ((k : Int) < (m.caches.length : Int)) = true := decide_eq_true (by omega)
  have hkl : k < m.caches.length := by omega
  have hw2 : IntKind.i64.wrap ((k : Int) + 1) = ((k + 1 : Nat) : Int) := by rw [wrap_id (by omega)]; omega
  have hb : k * 1 + 1 ≤ m.caches.length := by omega
  have hcl := caches_len m
  have hcu := caches_cut m k hkl
  obtain ⟨v, hv, b, rfl, hiff⟩ := ref_right (cacheAt m k) (cacheAt_wf hok.1 k hkl) (hok.2.2.2 k hkl)
  obtain ⟨N, c45⟩ := hv.call ap45s (fun g => rfl)
  have q45 := c45 N (Nat.le_refl _)
  have bad : ¬ (RightP (cacheAt m k) ∧ SoundT m (cacheAt m k) (cacheAt m k).sets.length) → ¬ SoundK m m.caches.length := fun h h' => h (h' k hkl)
  refine W_seqn (W_seqn (W_region (fun k => by simp (decide := true) (disch := first | omega | simp (decide := true) only [List.length_set, hl]) only [sims, autos, simprocAttr, hcc, h1, g0, h3, hlt]; rfl) ⟨rfl, W_tru (W_skip ⟨rfl, ?_⟩)⟩))
  refine W_seq (W_block ?_)
  cases b with
  | false =>
    refine W_seq (W_seqn (W_regionN ⟨N, by simp (decide := true) (disch := first | omega | simp (decide := true) only [List.length_set, hl]) only [sims, autos, simprocAttr, hps, hcc, h1, g0, h3, hkl, hb, hcl, hcu, ap45s, p45s, n45s, q45]; rfl⟩ ⟨rfl, W_tru ?_⟩))
    refine W_seqn (W_region (fun k => by simp (decide := true) (disch := first | omega | simp (decide := true) only [List.length_set, hl]) only [sims, autos, simprocAttr]; rfl) ⟨rfl, W_ret ?_⟩)
    simp only [reduceCtorEq, false_and, false_or, or_false, exists_false, exists_const, ne_eq, not_false_eq_true, true_and, implies_true]
    refine hQr _ ?_ (bad (fun h => by have := hiff.mpr h.1; cases this))
    simp (decide := true) (disch := first | omega | simp (decide := true) only [List.length_set, hl]) only [sims, autos, simprocAttr]
  | true =>
    refine W_cut (fun t => SnK m k t) (W_seqn (W_regionN ⟨N, by simp (decide := true) (disch := first | omega | simp (decide := true) only [List.length_set, hl]) only [sims, autos, simprocAttr, hps, hcc, h1, g0, h3, hkl, hb, hcl, hcu, ap45s, p45s, n45s, q45]; rfl⟩ ⟨rfl, W_fls (W_skip ⟨rfl, ?_, ?_, ?_, ?_, ?_⟩)⟩)) ?_
    case refine_4 => show 1 ≤ st.nx + 5 + 7; omega
    case refine_6 =>
      rintro st ⟨hl, h1, g0, hnx, h3⟩
      refine W_seqn (W_region (fun k => by simp (decide := true) (disch := first | omega | simp (decide := true) only [List.length_set, hl]) only [sims, autos, simprocAttr]; rfl) ⟨rfl, W_block ?_⟩)
      refine sn2_loop m hok k hkl _ (fun st' h2 hno => ?_) (fun st' hS hw => ?_) ((cacheAt m k).sets.length - 0) _ ⟨0, ⟨?_, ?_, g0, ?_, ?_⟩, ?_, fun j hj => absurd hj (by omega), by omega, rfl⟩
      case refine_5 => show 1 ≤ st.nx + 1; omega
      case refine_1 =>
        simp only [reduceCtorEq, false_and, false_or, or_false, exists_false, exists_const, ne_eq, not_false_eq_true, true_and, implies_true]
        exact hQr _ h2 (bad (fun h => hno h.2))
      case refine_2 =>
        obtain ⟨hl, h1, g0, hnx, h3⟩ := hS
        refine .inl ⟨rfl, .inr (.inl ⟨by simp, .inl ⟨rfl, ?_⟩⟩)⟩
        refine W_region (fun k => by simp (decide := true) (disch := first | omega | simp (decide := true) only [List.length_set, hl]) only [sims, autos, simprocAttr, h3, hw2]; rfl) ?_
        refine .inl ⟨rfl, m.caches.length - (k + 1), by omega, k + 1, ⟨?_, ?_, g0, ?_, ?_⟩, fun j hj => ?_, by omega, rfl⟩
        case refine_3 => show 1 ≤ st'.nx + 3; omega
        case refine_5 =>
          by_cases hjk : j = k
          · subst hjk; exact ⟨hiff.mp rfl, hw⟩
          · exact hall j (by omega)
        all_goals simp (decide := true) (disch := first | omega | simp (decide := true) only [List.length_set, hl]) only [sims, autos, simprocAttr, hl, h1]
      all_goals simp (decide := true) (disch := first | omega | simp (decide := true) only [List.length_set, hl]) only [sims, autos, simprocAttr, hl, h1, h3]
    all_goals simp (decide := true) (disch := first | omega | simp (decide := true) only [List.length_set, hl]) only [sims, autos, simprocAttr, hps, hl, h1, h3, g0, hcc]
theorem ref_sound (m : Coh) (hok : Ok m) : ∃ v, E ap 21 [.agg [memT m, cachT m]] v ∧ ∃ b, v = .bool b ∧ (b = true ↔ SoundK m m.caches.length) := by
  refine E_bodyV (F := f21) rfl rfl rfl (P := fun v => ∃ b, v = .bool b ∧ (b = true ↔ SoundK m m.caches.length)) ?_
  generalize hs0 : (_ : List T) ++ List.replicate _ T.undef = s0
  have e0 : s0.length = 101 ∧ rho s0 (.tmp 0) = .agg [memT m, cachT m] := by subst hs0; exact ⟨rfl, rfl⟩
  clear hs0
  obtain ⟨hl, h0⟩ := e0
  have hleaf : allLeaf [memT m, cachT m] = true := rfl
  refine W_seqn (W_region (fun k => by simp (decide := true) (disch := first | omega | simp (decide := true) only [List.length_set, hl]) only [sims, autos, simprocAttr, hps, h0, hleaf]; rfl) ⟨rfl, ?_⟩)
  refine W_seq (W_seqn (W_region (fun k => by simp (decide := true) (disch := first | omega | simp (decide := true) only [List.length_set, hl]) only [sims, autos, simprocAttr]; rfl) ⟨rfl, W_block ?_⟩))
  refine sn1_loop m hok _ (fun st' h2 hno => ?_) (fun st' hl hw => ?_) (m.caches.length - 0) _ ⟨0, ⟨?_, ?_, ?_, ?_, ?_⟩, fun j hj => absurd hj (by omega), by omega, rfl⟩
  case refine_1 =>
    simp only [reduceCtorEq, false_and, false_or, or_false, exists_false, exists_const, ne_eq, not_false_eq_true, true_and, implies_true]
    exact ⟨rfl, fin_bool (F := f21) (b := false) (P := fun b => b = true ↔ SoundK m m.caches.length) rfl (bfalse hno) h2⟩
  case refine_2 =>
    refine .inl ⟨rfl, .inl ⟨rfl, W_seqn (W_region (fun k => by simp (decide := true) (disch := first | omega | simp (decide := true) only [List.length_set, hl]) only [sims, autos, simprocAttr]; rfl) ⟨rfl, W_ret ?_⟩)⟩⟩
    refine ⟨rfl, fin_bool (F := f21) (b := true) (P := fun b => b = true ↔ SoundK m m.caches.length) rfl (btrue hw) ?_⟩
    simp (decide := true) (disch := first | omega | simp (decide := true) only [List.length_set, hl]) only [sims, autos, simprocAttr, hl]
  all_goals first | (simp (decide := true) (disch := first | omega | simp (decide := true) only [List.length_set, hl]) only [sims, autos, simprocAttr, hps, hl]; done) | (simp (decide := true) (disch := first | omega | simp (decide := true) only [List.length_set, hl]) only [sims, autos, simprocAttr, hps, hl]; rfl)
end Go.Proofs.Ytdkaclgfkgcmpaa.Abs
