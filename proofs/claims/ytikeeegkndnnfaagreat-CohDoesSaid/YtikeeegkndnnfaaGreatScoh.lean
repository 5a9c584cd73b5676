/- A system is one with itself, and with what tells no less: the comparison's walk. -/
import Derived.Test.YtikeeegkndnnfaaGreatBdo2
namespace Go.Proofs.YtikeeegkndnnfaaGreat.Abs
open Go Go.RowKit Fn
set_option linter.unusedVariables false
set_option linter.unusedSimpArgs false
set_option linter.unnecessarySimpa false
set_option maxRecDepth 100000
set_option maxHeartbeats 2000000

theorem ap25' : ap 25 = some f25 := rfl
theorem p25' : f25.pure = true := rfl
theorem n25' : f25.nat = none := rfl
theorem ap26' : ap 26 = some f26 := rfl
theorem p26' : f26.pure = true := rfl
theorem n26' : f26.nat = none := rfl
theorem cell_at' {cs : List T} {i : Nat} {z : T} (h : cs[i]? = some z) : cut cs i 1 = [z] := by
  obtain ⟨hi, rfl⟩ := List.getElem?_eq_some_iff.mp h
  unfold cut
  rw [List.drop_eq_getElem_cons hi, List.take_succ_cons, List.take_zero]
def sbLoop : ACode := match f25.body with | .seq _ (.seq _ (.seq (.seq _ (.block _ (.loop c))) _)) => c | _ => .skip
theorem sb_loop (l : List Int) (hl1 : l.length ≤ 1024) (Q : AExit → St → Prop)
    (hQ : ∀ st : St, st.s.length = 32 → Q (.exit 0) st) :
    ∀ (n : Nat) (st : St), (∃ i : Nat, st.s.length = 32 ∧ rho st.s (.tmp 0) = .imm false l.length (l.flatMap u8T) ∧ rho st.s (.tmp 1) = .imm false l.length (l.flatMap u8T) ∧ rho st.s (.tmp 5) = .int .i64 (i : Int) ∧ i ≤ l.length ∧ n = l.length - i) → W ap (.loop sbLoop) st Q := by
  refine W_loop _ ?_
  rintro n st ⟨i, hl, h0, h1, h5, hi, hn⟩
  by_cases hend : i = l.length
  · have hlt : decide ((i : Int) < (l.length : Int)) = false := decide_eq_false (by omega)
    refine W_seq (W_seqn (W_region (fun k => by simp (decide := true) (disch := first | omega | simp (decide := true) only [List.length_set, hl]) only [sims, autos, simprocAttr, hps, h0, h1, h5, hlt]; rfl) ⟨rfl, W_fls (W_exit (.inr ⟨by simp, .inr ⟨by simp, hQ _ ?_⟩⟩))⟩))
    simp (decide := true) (disch := first | omega | simp (decide := true) only [List.length_set, hl]) only [sims, autos, simprocAttr, hl]
  · have hlt : decide ((i : Int) < (l.length : Int)) = true := decide_eq_true (by omega)
    have hil : i < l.length := by omega
    have hw : IntKind.i64.wrap ((i : Int) + 1) = ((i + 1 : Nat) : Int) := by rw [wrap_id (by omega)]; omega
    have hbl := u8_len l
    have hg := u8_get l i hil
    rw [Nat.mul_one] at hg
    have hb1 : i + 1 ≤ (l.flatMap u8T).length := by omega
    have hne : (l[i] != l[i]) = false := by simp
    generalize l.flatMap u8T = C at *
    refine W_seqn (W_seqn (W_region (fun k => by simp (decide := true) (disch := first | omega | simp (decide := true) only [List.length_set, hl]) only [sims, autos, simprocAttr, hps, h0, h1, h5, hlt]; rfl) ⟨rfl, W_tru (W_skip ⟨rfl, ?_⟩)⟩))
    refine W_seqn (W_block (W_seqn (W_region (fun k => by simp (decide := true) (disch := first | omega | simp (decide := true) only [List.length_set, hl]) only [sims, autos, simprocAttr, hps, h0, h1, h5, hil, hb1, hg, hne, Nat.mul_one]; rfl) ⟨rfl, W_fls (W_skip (.inr (.inl ⟨by simp, rfl, ?_⟩)))⟩)))
    refine W_region (fun k => by simp (decide := true) (disch := first | omega | simp (decide := true) only [List.length_set, hl]) only [sims, autos, simprocAttr, hps, h5, hw]; rfl) (.inl ⟨rfl, l.length - (i + 1), by omega, i + 1, ?_, ?_, ?_, ?_, by omega, rfl⟩) <;> simp (decide := true) (disch := first | omega | simp (decide := true) only [List.length_set, hl]) only [sims, autos, simprocAttr, hl, h0, h1]
theorem same_bytes (l : List Int) (hl1 : l.length ≤ 1024) : E ap 25 [.imm false l.length (l.flatMap u8T), .imm false l.length (l.flatMap u8T)] (.bool true) := by
  refine E_body (F := f25) rfl rfl rfl ?_
  generalize hs0 : (_ : List T) ++ List.replicate _ T.undef = s0
  have e0 : s0.length = 32 ∧ rho s0 (.tmp 0) = .imm false l.length (l.flatMap u8T) ∧ rho s0 (.tmp 1) = .imm false l.length (l.flatMap u8T) := by subst hs0; exact ⟨rfl, rfl, rfl⟩
  clear hs0
  obtain ⟨hl, h0, h1⟩ := e0
  have hne : ((l.length : Int) != (l.length : Int)) = false := by simp
  refine W_seqn (W_region (fun k => by simp (decide := true) (disch := first | omega | simp (decide := true) only [List.length_set, hl]) only [sims, autos, simprocAttr, hps]; rfl) ⟨rfl, ?_⟩)
  refine W_seqn (W_seqn (W_region (fun k => by simp (decide := true) (disch := first | omega | simp (decide := true) only [List.length_set, hl]) only [sims, autos, simprocAttr, hps, h0, h1, hne]; rfl) ⟨rfl, W_fls (W_skip ⟨rfl, ?_⟩)⟩))
  refine W_seq (W_seqn (W_region (fun k => by simp (decide := true) (disch := first | omega | simp (decide := true) only [List.length_set, hl]) only [sims, autos, simprocAttr, hps]; rfl) ⟨rfl, W_block ?_⟩))
  refine sb_loop l hl1 _ (fun st hl => ?_) (l.length - 0) _ ⟨0, ?_, ?_, ?_, ?_, by omega, rfl⟩
  · refine .inl ⟨rfl, .inl ⟨rfl, ?_⟩⟩
    refine W_seqn (W_region (fun k => by simp (decide := true) (disch := first | omega | simp (decide := true) only [List.length_set, hl]) only [sims, autos, simprocAttr, hps]; rfl) ⟨rfl, W_ret ?_⟩)
    refine fin_of (F := f25) rfl (fun _ => rfl) ?_
    simp (decide := true) (disch := first | omega | simp (decide := true) only [List.length_set, hl]) only [sims, autos, simprocAttr]
  · simp (decide := true) (disch := first | omega | simp (decide := true) only [List.length_set, hl]) only [sims, autos, simprocAttr, hl]
  · simp (decide := true) (disch := first | omega | simp (decide := true) only [List.length_set, hl]) only [sims, autos, simprocAttr, h0]
  · simp (decide := true) (disch := first | omega | simp (decide := true) only [List.length_set, hl]) only [sims, autos, simprocAttr, h1]
  · simp (decide := true) (disch := first | omega | simp (decide := true) only [List.length_set, hl]) only [sims, autos, simprocAttr]
    try rfl
def scLoop : ACode := match f8.body with | .seq _ (.seq _ (.seq (.seq _ (.block _ (.loop c))) _)) => c | _ => .skip
theorem same_at (m : Coh) (hok : Ok m) (i : Nat) (hi : i < m.caches.length) : E ap 26 [.agg [setsT (cacheAt m i)], .agg [setsT (cacheAt m i)]] (.bool true) := same_of (hok.2.2.2 i hi) (cacheOf_sets _) (cacheOf_sets _)
theorem sc_loop (m : Coh) (hok : Ok m) (Q : AExit → St → Prop)
    (hQ : ∀ st : St, st.s.length = 47 → Q (.exit 0) st) :
    ∀ (n : Nat) (st : St), (∃ i : Nat, st.s.length = 47 ∧ rho st.s (.tmp 2) = .ptr 0 0 ∧ rho st.s (.tmp 3) = .ptr 1 0 ∧ rho st.s (.tmp 5) = .int .i64 (i : Int) ∧ st.g 0 = some [memT m, cachT m] ∧ st.g 1 = some [memT m, cachT m] ∧ i ≤ m.caches.length ∧ n = m.caches.length - i) → W ap (.loop scLoop) st Q := by
  refine W_loop _ ?_
  rintro n st ⟨i, hl, h2, h3, h5, g0, g1, hi, hn⟩
  have hcc : cachT m = .imm false m.caches.length (m.caches.flatMap Cache.enc) := rfl
  rw [hcc] at g0 g1
  have hm4 := hok.2.2.1
  by_cases hend : i = m.caches.length
  · have hlt : decide ((i : Int) < (m.caches.length : Int)) = false := decide_eq_false (by omega)
    refine W_seq (W_seqn (W_region (fun k => by simp (decide := true) (disch := first | omega | simp (decide := true) only [List.length_set, hl]) only [sims, autos, simprocAttr, hps, h2, h3, h5, g0, g1, hlt]; rfl) ⟨rfl, W_fls (W_exit (.inr ⟨by simp, .inr ⟨by simp, hQ _ ?_⟩⟩))⟩))
    simp (decide := true) (disch := first | omega | simp (decide := true) only [List.length_set, hl]) only [sims, autos, simprocAttr, hl]
  · have hlt : decide ((i : Int) < (m.caches.length : Int)) = true := decide_eq_true (by omega)
    have hil : i < m.caches.length := by omega
    have hw : IntKind.i64.wrap ((i : Int) + 1) = ((i + 1 : Nat) : Int) := by rw [wrap_id (by omega)]; omega
    have hcl := caches_len' m
    have hg := caches_get m i hil
    rw [Nat.mul_one] at hg
    have hcut := cell_at' hg
    obtain ⟨N, q⟩ := (same_at m hok i hil).call ap26' (fun g => rfl)
    have q := q N (Nat.le_refl _)
    generalize setsT (cacheAt m i) = z at *
    generalize hCe : m.caches.flatMap Cache.enc = C at *
    have hb1 : i + 1 ≤ C.length := by omega
    refine W_seqn (W_seqn (W_region (fun k => by simp (decide := true) (disch := first | omega | simp (decide := true) only [List.length_set, hl]) only [sims, autos, simprocAttr, hps, h2, h3, h5, g0, g1, hlt]; rfl) ⟨rfl, W_tru (W_skip ⟨rfl, ?_⟩)⟩))
    refine W_seqn (W_block (W_seqn (W_regionN ⟨N, by simp (decide := true) (disch := first | omega | simp (decide := true) only [List.length_set, hl]) only [sims, autos, simprocAttr, hps, h2, h3, h5, g0, g1, hil, hb1, hcut, ap26', p26', n26', q, Nat.mul_one]; rfl⟩ ⟨rfl, W_fls (W_skip (.inr (.inl ⟨by simp, rfl, ?_⟩)))⟩)))
    refine W_region (fun k => by simp (decide := true) (disch := first | omega | simp (decide := true) only [List.length_set, hl]) only [sims, autos, simprocAttr, hps, h5, hw]; rfl) (.inl ⟨rfl, m.caches.length - (i + 1), by omega, i + 1, ?_, ?_, ?_, ?_, ?_, ?_, by omega, rfl⟩) <;> simp (decide := true) (disch := first | omega | simp (decide := true) only [List.length_set, hl]) only [sims, autos, simprocAttr, hl, h2, h3, g0, g1, hcc, hCe]
theorem same_coh (m : Coh) (hok : Ok m) : E ap 8 [.agg m.enc, .agg m.enc] (.bool true) := by
  rw [coh_enc]
  refine E_body (F := f8) rfl rfl rfl ?_
  generalize hs0 : (_ : List T) ++ List.replicate _ T.undef = s0
  have e0 : s0.length = 47 ∧ rho s0 (.tmp 0) = .agg [memT m, cachT m] ∧ rho s0 (.tmp 1) = .agg [memT m, cachT m] := by subst hs0; exact ⟨rfl, rfl, rfl⟩
  clear hs0
  obtain ⟨hl, h0, h1⟩ := e0
  have hleaf : allLeaf [memT m, cachT m] = true := rfl
  have hcc : cachT m = .imm false m.caches.length (m.caches.flatMap Cache.enc) := rfl
  have hmm : memT m = .imm false m.mem.length (m.mem.flatMap u8T) := rfl
  have hne : ((m.caches.length : Int) != (m.caches.length : Int)) = false := by simp
  obtain ⟨N, q⟩ := (same_bytes m.mem hok.2.1).call ap25' (fun g => rfl)
  have q := q N (Nat.le_refl _)
  refine W_seqn (W_region (fun k => by simp (decide := true) (disch := first | omega | simp (decide := true) only [List.length_set, hl]) only [sims, autos, simprocAttr, hps, h0, h1, hleaf]; rfl) ⟨rfl, ?_⟩)
  refine W_seqn (W_seqn (W_regionN ⟨N, by simp (decide := true) (disch := first | omega | simp (decide := true) only [List.length_set, hl]) only [sims, autos, simprocAttr, hps, hmm, hcc, hne, ap25', p25', n25', q]; rfl⟩ ⟨rfl, W_fls (W_skip ⟨rfl, ?_⟩)⟩))
  refine W_seq (W_seqn (W_region (fun k => by simp (decide := true) (disch := first | omega | simp (decide := true) only [List.length_set, hl]) only [sims, autos, simprocAttr, hps]; rfl) ⟨rfl, W_block ?_⟩))
  refine sc_loop m hok _ (fun st hl => ?_) (m.caches.length - 0) _ ⟨0, ?_, ?_, ?_, ?_, ?_, ?_, by omega, rfl⟩
  · refine .inl ⟨rfl, .inl ⟨rfl, ?_⟩⟩
    refine W_seqn (W_region (fun k => by simp (decide := true) (disch := first | omega | simp (decide := true) only [List.length_set, hl]) only [sims, autos, simprocAttr, hps]; rfl) ⟨rfl, W_ret ?_⟩)
    refine fin_of (F := f8) rfl (fun _ => rfl) ?_
    simp (decide := true) (disch := first | omega | simp (decide := true) only [List.length_set, hl]) only [sims, autos, simprocAttr]
  · simp (decide := true) (disch := first | omega | simp (decide := true) only [List.length_set, hl]) only [sims, autos, simprocAttr, hl]
  · simp (decide := true) (disch := first | omega | simp (decide := true) only [List.length_set, hl]) only [sims, autos, simprocAttr]
  · simp (decide := true) (disch := first | omega | simp (decide := true) only [List.length_set, hl]) only [sims, autos, simprocAttr]
  · simp (decide := true) (disch := first | omega | simp (decide := true) only [List.length_set, hl]) only [sims, autos, simprocAttr]
    try rfl
  · simp (decide := true) (disch := first | omega | simp (decide := true) only [List.length_set, hl]) only [sims, autos, simprocAttr, hps, hmm, hcc]
  · simp (decide := true) (disch := first | omega | simp (decide := true) only [List.length_set, hl]) only [sims, autos, simprocAttr, hps, hmm, hcc]
/-- The same, of what tells no less. -/
theorem same_cohU (m : Coh) (hok : Ok m) {u v : T} (hu : UpT (.agg m.enc) u) (hv : UpT (.agg m.enc) v) : E ap 8 [u, v] (.bool true) := by
  obtain ⟨v', h1, h2⟩ := (same_coh m hok).up (UpL.cons hu (UpL.cons hv UpL.nil))
  rw [h2.bool] at h1
  exact h1
end Go.Proofs.YtikeeegkndnnfaaGreat.Abs
