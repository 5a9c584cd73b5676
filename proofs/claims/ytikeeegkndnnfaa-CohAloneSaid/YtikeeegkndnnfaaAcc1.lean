/- May a place be reached: both functions' walks. -/
import Derived.Test.YtikeeegkndnnfaaRw
namespace Go.Proofs.Ytikeeegkndnnfaa.Abs
open Go Go.RowKit Fn
set_option linter.unusedVariables false
set_option linter.unusedSimpArgs false
set_option linter.unnecessarySimpa false
set_option maxRecDepth 100000
set_option maxHeartbeats 4000000

def MayP (m : Coh) (who : Int) (addr : Nat) (size : Int) : Prop := has m who ∧ (size = 1 ∨ size = 2 ∨ size = 4) ∧ ((addr % 16 : Nat) : Int) + size ≤ 16 ∧ (addr : Int) + size ≤ (m.mem.length : Int)
instance (m : Coh) (who : Int) (addr : Nat) (size : Int) : Decidable (MayP m who addr size) := by unfold MayP; infer_instance
theorem bus_check (m : Coh) (hml : m.mem.length ≤ 1024) (addr : Nat) (ha : addr ≤ 4294967295) (size : Int) (hs : size = 1 ∨ size = 2 ∨ size = 4) : E ap 51 [memT m, .int .u32 (addr : Int), .int .i64 size] (.int .i64 (if (addr : Int) + size ≤ (m.mem.length : Int) then 0 else 9)) := by
  refine E_body (F := f51) rfl rfl rfl ?_
  generalize hs0 : (_ : List T) ++ List.replicate _ T.undef = s0
  have e0 : s0.length = 28 ∧ rho s0 (.tmp 0) = memT m ∧ rho s0 (.tmp 1) = .int .u32 (addr : Int) ∧ rho s0 (.tmp 2) = .int .i64 size := by subst hs0; exact ⟨rfl, rfl, rfl, rfl⟩
  clear hs0
  obtain ⟨hl, h0, h1, h2⟩ := e0
  have hmm : memT m = .imm false m.mem.length (m.mem.flatMap u8T) := rfl
  have w1 : IntKind.u64.wrap (addr : Int) = (addr : Int) := by rw [wrap_u64]; omega
  have w2 : IntKind.u64.wrap size = size := by rw [wrap_u64]; omega
  have w3 : IntKind.u64.wrap ((addr : Int) + size) = (addr : Int) + size := by rw [wrap_u64]; omega
  have w4 : IntKind.u64.wrap (m.mem.length : Int) = (m.mem.length : Int) := by rw [wrap_u64]; omega
  refine W_seqn (W_region (fun k => by simp (decide := true) (disch := first | omega | simp (decide := true) only [List.length_set, hl]) only [sims, autos, simprocAttr, hps]; rfl) ⟨rfl, ?_⟩)
  by_cases hin : (addr : Int) + size ≤ (m.mem.length : Int)
  · have hd : decide ((addr : Int) + size > (m.mem.length : Int)) = false := decide_eq_false (by omega)
    rw [if_pos hin]
    refine W_seqn (W_cut (fun s => s.s.length = 28 ∧ rho s.s (.tmp 27) = .bool false) ?_ (fun s hs => W_false hs.2 (W_skip ⟨rfl, ?_⟩)))
    · rcases hs with rfl | rfl | rfl <;> (refine W_region (fun k => by simp (decide := true) (disch := first | omega | simp (decide := true) only [List.length_set, hl]) only [sims, autos, simprocAttr, hps, h0, h1, h2, hmm, w1, w2, w3, w4, hd]; rfl) ⟨rfl, ?_, ?_⟩ <;> simp (decide := true) (disch := first | omega | simp (decide := true) only [List.length_set, hl]) only [sims, autos, simprocAttr, hl])
    · have hl := hs.1
      refine W_seqn (W_region (fun k => by simp (decide := true) (disch := first | omega | simp (decide := true) only [List.length_set, hl]) only [sims, autos, simprocAttr, hps]; rfl) ⟨rfl, W_ret ?_⟩)
      refine fin_of (F := f51) rfl (fun _ => rfl) ?_
      simp (decide := true) (disch := first | omega | simp (decide := true) only [List.length_set, hl]) only [sims, autos, simprocAttr]
  · have hd : decide ((addr : Int) + size > (m.mem.length : Int)) = true := decide_eq_true (by omega)
    rw [if_neg hin]
    refine W_seq (W_cut (fun s => s.s.length = 28 ∧ rho s.s (.tmp 27) = .bool true) ?_ (fun s hs => W_true hs.2 ?_))
    · rcases hs with rfl | rfl | rfl <;> (refine W_region (fun k => by simp (decide := true) (disch := first | omega | simp (decide := true) only [List.length_set, hl]) only [sims, autos, simprocAttr, hps, h0, h1, h2, hmm, w1, w2, w3, w4, hd]; rfl) ⟨rfl, ?_, ?_⟩ <;> simp (decide := true) (disch := first | omega | simp (decide := true) only [List.length_set, hl]) only [sims, autos, simprocAttr, hl])
    · have hl := hs.1
      refine W_seqn (W_region (fun k => by simp (decide := true) (disch := first | omega | simp (decide := true) only [List.length_set, hl]) only [sims, autos, simprocAttr, hps]; rfl) ⟨rfl, W_ret ?_⟩)
      refine .inr ⟨by simp, ?_⟩
      refine fin_of (F := f51) rfl (fun _ => rfl) ?_
      simp (decide := true) (disch := first | omega | simp (decide := true) only [List.length_set, hl]) only [sims, autos, simprocAttr]
theorem ref_check (m : Coh) (hml : m.mem.length ≤ 1024) (addr : Nat) (ha : addr ≤ 4294967295) (size : Int) (hs : size = 1 ∨ size = 2 ∨ size = 4) : E ap 32 [memT m, .int .u32 (addr : Int), .int .i64 size] (.int .i64 (if (addr : Int) + size ≤ (m.mem.length : Int) then 0 else 9)) := by
  refine E_body (F := f32) rfl rfl rfl ?_
  generalize hs0 : (_ : List T) ++ List.replicate _ T.undef = s0
  have e0 : s0.length = 26 ∧ rho s0 (.tmp 0) = memT m ∧ rho s0 (.tmp 1) = .int .u32 (addr : Int) ∧ rho s0 (.tmp 2) = .int .i64 size := by subst hs0; exact ⟨rfl, rfl, rfl, rfl⟩
  clear hs0
  obtain ⟨hl, h0, h1, h2⟩ := e0
  have hmm : memT m = .imm false m.mem.length (m.mem.flatMap u8T) := rfl
  have w1 : IntKind.i64.wrap (addr : Int) = (addr : Int) := wrap_id (by omega)
  have w3 : IntKind.i64.wrap ((addr : Int) + size) = (addr : Int) + size := wrap_id (by omega)
  refine W_seqn (W_region (fun k => by simp (decide := true) (disch := first | omega | simp (decide := true) only [List.length_set, hl]) only [sims, autos, simprocAttr, hps]; rfl) ⟨rfl, ?_⟩)
  by_cases hin : (addr : Int) + size ≤ (m.mem.length : Int)
  · have hd : decide ((addr : Int) + size ≤ (m.mem.length : Int)) = true := decide_eq_true hin
    rw [if_pos hin]
    refine W_seq (W_cut (fun s => s.s.length = 26 ∧ rho s.s (.tmp 25) = .bool true) ?_ (fun s hs => W_true hs.2 ?_))
    · rcases hs with rfl | rfl | rfl <;> (refine W_region (fun k => by simp (decide := true) (disch := first | omega | simp (decide := true) only [List.length_set, hl]) only [sims, autos, simprocAttr, hps, h0, h1, h2, hmm, w1, w3, hd]; rfl) ⟨rfl, ?_, ?_⟩ <;> simp (decide := true) (disch := first | omega | simp (decide := true) only [List.length_set, hl]) only [sims, autos, simprocAttr, hl])
    · have hl := hs.1
      refine W_seqn (W_region (fun k => by simp (decide := true) (disch := first | omega | simp (decide := true) only [List.length_set, hl]) only [sims, autos, simprocAttr, hps]; rfl) ⟨rfl, W_ret ?_⟩)
      refine .inr ⟨by simp, ?_⟩
      refine fin_of (F := f32) rfl (fun _ => rfl) ?_
      simp (decide := true) (disch := first | omega | simp (decide := true) only [List.length_set, hl]) only [sims, autos, simprocAttr]
  · have hd : decide ((addr : Int) + size ≤ (m.mem.length : Int)) = false := decide_eq_false hin
    rw [if_neg hin]
    refine W_seqn (W_cut (fun s => s.s.length = 26 ∧ rho s.s (.tmp 25) = .bool false) ?_ (fun s hs => W_false hs.2 (W_skip ⟨rfl, ?_⟩)))
    · rcases hs with rfl | rfl | rfl <;> (refine W_region (fun k => by simp (decide := true) (disch := first | omega | simp (decide := true) only [List.length_set, hl]) only [sims, autos, simprocAttr, hps, h0, h1, h2, hmm, w1, w3, hd]; rfl) ⟨rfl, ?_, ?_⟩ <;> simp (decide := true) (disch := first | omega | simp (decide := true) only [List.length_set, hl]) only [sims, autos, simprocAttr, hl])
    · have hl := hs.1
      refine W_seqn (W_region (fun k => by simp (decide := true) (disch := first | omega | simp (decide := true) only [List.length_set, hl]) only [sims, autos, simprocAttr, hps]; rfl) ⟨rfl, W_ret ?_⟩)
      refine fin_of (F := f32) rfl (fun _ => rfl) ?_
      simp (decide := true) (disch := first | omega | simp (decide := true) only [List.length_set, hl]) only [sims, autos, simprocAttr]
theorem qCHK : ap 51 = some f51 := rfl
theorem rCHK : f51.pure = true := rfl
theorem sCHK : f51.nat = none := rfl
theorem qRCHK : ap 32 = some f32 := rfl
theorem rRCHK : f32.pure = true := rfl
theorem sRCHK : f32.nat = none := rfl
theorem bus_reached (m : Coh) (hm : m.wf) (hml : m.mem.length ≤ 1024) (who : Int) (addr : Nat) (ha : addr ≤ 4294967295) (size : Int) : E ap 33 [.agg [memT m, cachT m], .int .i64 who, .int .u32 (addr : Int), .int .i64 size] (.bool (decide (MayP m who addr size))) := by
  refine E_body (F := f33) rfl rfl rfl ?_
  generalize hs0 : (_ : List T) ++ List.replicate _ T.undef = s0
  have e0 : s0.length = 44 ∧ rho s0 (.tmp 0) = .agg [memT m, cachT m] ∧ rho s0 (.tmp 1) = .int .i64 who ∧ rho s0 (.tmp 2) = .int .u32 (addr : Int) ∧ rho s0 (.tmp 3) = .int .i64 size := by subst hs0; exact ⟨rfl, rfl, rfl, rfl, rfl⟩
  clear hs0
  obtain ⟨hl, h0, h1, h2, h3⟩ := e0
  have hleaf : allLeaf [memT m, cachT m] = true := rfl
  have hcc : cachT m = .imm false m.caches.length (m.caches.flatMap Cache.enc) := rfl
  refine W_cut (fun st => st.s.length = 44 ∧ rho st.s (.tmp 1) = .int .i64 who ∧ rho st.s (.tmp 2) = .int .u32 (addr : Int) ∧ rho st.s (.tmp 3) = .int .i64 size ∧ rho st.s (.tmp 4) = .ptr 0 0 ∧ st.g 0 = some [memT m, cachT m]) (W_region (fun k => by simp (decide := true) (disch := first | omega | simp (decide := true) only [List.length_set, hl]) only [sims, autos, simprocAttr, hps, h0, hleaf]; rfl) ⟨rfl, ?_⟩) ?_
  · refine ⟨?_, ?_, ?_, ?_, ?_, ?_⟩ <;> simp (decide := true) (disch := first | omega | simp (decide := true) only [List.length_set, hl]) only [sims, autos, simprocAttr, hps, hl, h1, h2, h3]
  clear hl h0 h1 h2 h3
  rintro st ⟨hl, h1, h2, h3, h4, g0⟩
  have bad : ∀ z : St, z.s.length = 44 → ¬ MayP m who addr size → W ap (.seq (.region [⟨some 8, .mv (.con (.bool false)), none⟩] []) .ret) z (fun e s => (e = .normal ∧ False) ∨ (e ≠ .normal ∧ (e.leaves = true ∧ ∃ u ids, resT s.s s.g f33.res = some u ∧ frz ⟨s.g, s.nx⟩ frzDepth u = some (.bool (decide (MayP m who addr size)), ids)))) := by
    intro z hl hn
    rw [decide_eq_false hn]
    refine W_seqn (W_region (fun k => by simp (decide := true) (disch := first | omega | simp (decide := true) only [List.length_set, hl]) only [sims, autos, simprocAttr, hps]; rfl) ⟨rfl, W_ret (.inr ⟨by simp, ?_⟩)⟩)
    refine fin_of (F := f33) rfl (fun _ => rfl) ?_
    simp (decide := true) (disch := first | omega | simp (decide := true) only [List.length_set, hl]) only [sims, autos, simprocAttr]
  by_cases c1 : who < 0
  · have d1 : decide (who < 0) = true := decide_eq_true c1
    refine W_seq (W_seqn (W_region (fun k => by simp (decide := true) (disch := first | omega | simp (decide := true) only [List.length_set, hl]) only [sims, autos, simprocAttr, hps, h1, d1]; rfl) ⟨rfl, W_tru ((bad _ ?_ (fun h => by have := h.1.1; omega)).mono (fun e s h => h.elim (fun h => h.2.elim) .inr))⟩))
    simp (decide := true) (disch := first | omega | simp (decide := true) only [List.length_set, hl]) only [sims, autos, simprocAttr, hl]
  have d1 : decide (who < 0) = false := decide_eq_false c1
  by_cases c2 : who ≥ (m.caches.length : Int)
  · have d2 : decide (who ≥ (m.caches.length : Int)) = true := decide_eq_true c2
    refine W_seq (W_seqn (W_region (fun k => by simp (decide := true) (disch := first | omega | simp (decide := true) only [List.length_set, hl]) only [sims, autos, simprocAttr, hps, h1, h4, g0, hcc, d1, d2]; rfl) ⟨rfl, W_tru ((bad _ ?_ (fun h => by have := h.1.2; omega)).mono (fun e s h => h.elim (fun h => h.2.elim) .inr))⟩))
    simp (decide := true) (disch := first | omega | simp (decide := true) only [List.length_set, hl]) only [sims, autos, simprocAttr, hl]
  have d2 : decide (who ≥ (m.caches.length : Int)) = false := decide_eq_false c2
  by_cases c3 : size = 1 ∨ size = 2 ∨ size = 4
  · refine W_seqn (W_cut (fun s => s.s.length = 44 ∧ rho s.s (.tmp 29) = .bool false ∧ rho s.s (.tmp 2) = .int .u32 (addr : Int) ∧ rho s.s (.tmp 3) = .int .i64 size ∧ rho s.s (.tmp 4) = .ptr 0 0 ∧ s.g 0 = some [memT m, cachT m]) ?_ (fun s hs => W_false hs.2.1 (W_skip ⟨rfl, ?_⟩)))
    · rw [hcc] at g0
      rcases c3 with rfl | rfl | rfl <;> (refine W_region (fun k => by simp (decide := true) (disch := first | omega | simp (decide := true) only [List.length_set, hl]) only [sims, autos, simprocAttr, hps, h1, h3, h4, g0, d1, d2]; rfl) ⟨rfl, ?_, ?_, ?_, ?_, ?_, ?_⟩ <;> simp (decide := true) (disch := first | omega | simp (decide := true) only [List.length_set, hl]) only [sims, autos, simprocAttr, hps, hl, h2, h3, h4, g0, hcc])
    obtain ⟨hl, _, h2, h3, h4, g0⟩ := hs
    obtain ⟨N, q⟩ := (bus_check m hml addr ha size c3).call qCHK (fun g => rfl)
    have q := q N (Nat.le_refl _)
    have w0 : (addr : Int).tmod 16 = ((addr % 16 : Nat) : Int) := by rw [Int.tmod_eq_emod_of_nonneg (by omega)]; omega
    have w1 : IntKind.i64.wrap ((addr % 16 : Nat) : Int) = ((addr % 16 : Nat) : Int) := wrap_id (by omega)
    have w2 : IntKind.i64.wrap (((addr % 16 : Nat) : Int) + size) = ((addr % 16 : Nat) : Int) + size := wrap_id (by omega)
    by_cases c4 : ((addr % 16 : Nat) : Int) + size ≤ 16
    · have d4 : decide (((addr % 16 : Nat) : Int) + size ≤ 16) = true := decide_eq_true c4
      have hres : ((if (addr : Int) + size ≤ (m.mem.length : Int) then (0 : Int) else 9) == 0) = decide (MayP m who addr size) := by
        by_cases c5 : (addr : Int) + size ≤ (m.mem.length : Int)
        · rw [if_pos c5, decide_eq_true (show MayP m who addr size from ⟨⟨by omega, by omega⟩, c3, c4, c5⟩)]; rfl
        · rw [if_neg c5, decide_eq_false (fun h : MayP m who addr size => c5 h.2.2.2)]; rfl
      refine W_seqn (W_regionN ⟨N, by simp (decide := true) (disch := first | omega | simp (decide := true) only [List.length_set, hl]) only [sims, autos, simprocAttr, hps, h2, h3, h4, g0, w0, w1, w2, d4, qCHK, rCHK, sCHK, q, hres]; rfl⟩ ⟨rfl, W_ret ?_⟩)
      refine fin_of (F := f33) rfl (fun _ => rfl) ?_
      simp (decide := true) (disch := first | omega | simp (decide := true) only [List.length_set, hl]) only [sims, autos, simprocAttr]
    · have d4 : decide (((addr % 16 : Nat) : Int) + size ≤ 16) = false := decide_eq_false c4
      rw [decide_eq_false (fun h : MayP m who addr size => c4 h.2.2.1)]
      refine W_seqn (W_region (fun k => by simp (decide := true) (disch := first | omega | simp (decide := true) only [List.length_set, hl]) only [sims, autos, simprocAttr, hps, h2, h3, w0, w1, w2, d4]; rfl) ⟨rfl, W_ret ?_⟩)
      refine fin_of (F := f33) rfl (fun _ => rfl) ?_
      simp (decide := true) (disch := first | omega | simp (decide := true) only [List.length_set, hl]) only [sims, autos, simprocAttr]
  · have k1 : (size != 1) = true := by simp; omega
    have k2 : (size != 2) = true := by simp; omega
    have k3 : (size != 4) = true := by simp; omega
    rw [hcc] at g0
    refine W_seq (W_seqn (W_region (fun k => by simp (decide := true) (disch := first | omega | simp (decide := true) only [List.length_set, hl]) only [sims, autos, simprocAttr, hps, h1, h3, h4, g0, d1, d2, k1, k2, k3]; rfl) ⟨rfl, W_tru ((bad _ ?_ (fun h => c3 h.2.1)).mono (fun e s h => h.elim (fun h => h.2.elim) .inr))⟩))
    simp (decide := true) (disch := first | omega | simp (decide := true) only [List.length_set, hl]) only [sims, autos, simprocAttr, hl]
theorem ref_may (m : Coh) (hm : m.wf) (hml : m.mem.length ≤ 1024) (who : Int) (addr : Nat) (ha : addr ≤ 4294967295) (size : Int) : E ap 13 [.agg [memT m, cachT m], .int .i64 who, .int .u32 (addr : Int), .int .i64 size] (.bool (decide (MayP m who addr size))) := by
  refine E_body (F := f13) rfl rfl rfl ?_
  generalize hs0 : (_ : List T) ++ List.replicate _ T.undef = s0
  have e0 : s0.length = 44 ∧ rho s0 (.tmp 0) = .agg [memT m, cachT m] ∧ rho s0 (.tmp 1) = .int .i64 who ∧ rho s0 (.tmp 2) = .int .u32 (addr : Int) ∧ rho s0 (.tmp 3) = .int .i64 size := by subst hs0; exact ⟨rfl, rfl, rfl, rfl, rfl⟩
  clear hs0
  obtain ⟨hl, h0, h1, h2, h3⟩ := e0
  have hleaf : allLeaf [memT m, cachT m] = true := rfl
  have hcc : cachT m = .imm false m.caches.length (m.caches.flatMap Cache.enc) := rfl
  refine W_cut (fun st => st.s.length = 44 ∧ rho st.s (.tmp 1) = .int .i64 who ∧ rho st.s (.tmp 2) = .int .u32 (addr : Int) ∧ rho st.s (.tmp 3) = .int .i64 size ∧ rho st.s (.tmp 4) = .ptr 0 0 ∧ st.g 0 = some [memT m, cachT m]) (W_region (fun k => by simp (decide := true) (disch := first | omega | simp (decide := true) only [List.length_set, hl]) only [sims, autos, simprocAttr, hps, h0, hleaf]; rfl) ⟨rfl, ?_⟩) ?_
  · refine ⟨?_, ?_, ?_, ?_, ?_, ?_⟩ <;> simp (decide := true) (disch := first | omega | simp (decide := true) only [List.length_set, hl]) only [sims, autos, simprocAttr, hps, hl, h1, h2, h3]
  clear hl h0 h1 h2 h3
  rintro st ⟨hl, h1, h2, h3, h4, g0⟩
  have bad : ∀ z : St, z.s.length = 44 → ¬ MayP m who addr size → W ap (.seq (.region [⟨some 8, .mv (.con (.bool false)), none⟩] []) .ret) z (fun e s => (e = .normal ∧ False) ∨ (e ≠ .normal ∧ (e.leaves = true ∧ ∃ u ids, resT s.s s.g f13.res = some u ∧ frz ⟨s.g, s.nx⟩ frzDepth u = some (.bool (decide (MayP m who addr size)), ids)))) := by
    intro z hl hn
    rw [decide_eq_false hn]
    refine W_seqn (W_region (fun k => by simp (decide := true) (disch := first | omega | simp (decide := true) only [List.length_set, hl]) only [sims, autos, simprocAttr, hps]; rfl) ⟨rfl, W_ret (.inr ⟨by simp, ?_⟩)⟩)
    refine fin_of (F := f13) rfl (fun _ => rfl) ?_
    simp (decide := true) (disch := first | omega | simp (decide := true) only [List.length_set, hl]) only [sims, autos, simprocAttr]
  by_cases c1 : who < 0
  · have d1 : decide (who < 0) = true := decide_eq_true c1
    refine W_seq (W_seqn (W_region (fun k => by simp (decide := true) (disch := first | omega | simp (decide := true) only [List.length_set, hl]) only [sims, autos, simprocAttr, hps, h1, d1]; rfl) ⟨rfl, W_tru ((bad _ ?_ (fun h => by have := h.1.1; omega)).mono (fun e s h => h.elim (fun h => h.2.elim) .inr))⟩))
    simp (decide := true) (disch := first | omega | simp (decide := true) only [List.length_set, hl]) only [sims, autos, simprocAttr, hl]
  have d1 : decide (who < 0) = false := decide_eq_false c1
  by_cases c2 : who ≥ (m.caches.length : Int)
  · have d2 : decide (who ≥ (m.caches.length : Int)) = true := decide_eq_true c2
    refine W_seq (W_seqn (W_region (fun k => by simp (decide := true) (disch := first | omega | simp (decide := true) only [List.length_set, hl]) only [sims, autos, simprocAttr, hps, h1, h4, g0, hcc, d1, d2]; rfl) ⟨rfl, W_tru ((bad _ ?_ (fun h => by have := h.1.2; omega)).mono (fun e s h => h.elim (fun h => h.2.elim) .inr))⟩))
    simp (decide := true) (disch := first | omega | simp (decide := true) only [List.length_set, hl]) only [sims, autos, simprocAttr, hl]
  have d2 : decide (who ≥ (m.caches.length : Int)) = false := decide_eq_false c2
  by_cases c3 : size = 1 ∨ size = 2 ∨ size = 4
  · refine W_seqn (W_cut (fun s => s.s.length = 44 ∧ rho s.s (.tmp 29) = .bool false ∧ rho s.s (.tmp 2) = .int .u32 (addr : Int) ∧ rho s.s (.tmp 3) = .int .i64 size ∧ rho s.s (.tmp 4) = .ptr 0 0 ∧ s.g 0 = some [memT m, cachT m]) ?_ (fun s hs => W_false hs.2.1 (W_skip ⟨rfl, ?_⟩)))
    · rw [hcc] at g0
      rcases c3 with rfl | rfl | rfl <;> (refine W_region (fun k => by simp (decide := true) (disch := first | omega | simp (decide := true) only [List.length_set, hl]) only [sims, autos, simprocAttr, hps, h1, h3, h4, g0, d1, d2]; rfl) ⟨rfl, ?_, ?_, ?_, ?_, ?_, ?_⟩ <;> simp (decide := true) (disch := first | omega | simp (decide := true) only [List.length_set, hl]) only [sims, autos, simprocAttr, hps, hl, h2, h3, h4, g0, hcc])
    obtain ⟨hl, _, h2, h3, h4, g0⟩ := hs
    obtain ⟨N, q⟩ := (ref_check m hml addr ha size c3).call qRCHK (fun g => rfl)
    have q := q N (Nat.le_refl _)
    have w0 : (addr : Int).tmod 16 = ((addr % 16 : Nat) : Int) := by rw [Int.tmod_eq_emod_of_nonneg (by omega)]; omega
    have w1 : IntKind.i64.wrap ((addr % 16 : Nat) : Int) = ((addr % 16 : Nat) : Int) := wrap_id (by omega)
    have w2 : IntKind.i64.wrap (((addr % 16 : Nat) : Int) + size) = ((addr % 16 : Nat) : Int) + size := wrap_id (by omega)
    by_cases c4 : ((addr % 16 : Nat) : Int) + size ≤ 16
    · have d4 : decide (((addr % 16 : Nat) : Int) + size ≤ 16) = true := decide_eq_true c4
      have hres : ((if (addr : Int) + size ≤ (m.mem.length : Int) then (0 : Int) else 9) == 0) = decide (MayP m who addr size) := by
        by_cases c5 : (addr : Int) + size ≤ (m.mem.length : Int)
        · rw [if_pos c5, decide_eq_true (show MayP m who addr size from ⟨⟨by omega, by omega⟩, c3, c4, c5⟩)]; rfl
        · rw [if_neg c5, decide_eq_false (fun h : MayP m who addr size => c5 h.2.2.2)]; rfl
      refine W_seqn (W_regionN ⟨N, by simp (decide := true) (disch := first | omega | simp (decide := true) only [List.length_set, hl]) only [sims, autos, simprocAttr, hps, h2, h3, h4, g0, w0, w1, w2, d4, qRCHK, rRCHK, sRCHK, q, hres]; rfl⟩ ⟨rfl, W_ret ?_⟩)
      refine fin_of (F := f13) rfl (fun _ => rfl) ?_
      simp (decide := true) (disch := first | omega | simp (decide := true) only [List.length_set, hl]) only [sims, autos, simprocAttr]
    · have d4 : decide (((addr % 16 : Nat) : Int) + size ≤ 16) = false := decide_eq_false c4
      rw [decide_eq_false (fun h : MayP m who addr size => c4 h.2.2.1)]
      refine W_seqn (W_region (fun k => by simp (decide := true) (disch := first | omega | simp (decide := true) only [List.length_set, hl]) only [sims, autos, simprocAttr, hps, h2, h3, w0, w1, w2, d4]; rfl) ⟨rfl, W_ret ?_⟩)
      refine fin_of (F := f13) rfl (fun _ => rfl) ?_
      simp (decide := true) (disch := first | omega | simp (decide := true) only [List.length_set, hl]) only [sims, autos, simprocAttr]
  · have k1 : (size != 1) = true := by simp; omega
    have k2 : (size != 2) = true := by simp; omega
    have k3 : (size != 4) = true := by simp; omega
    rw [hcc] at g0
    refine W_seq (W_seqn (W_region (fun k => by simp (decide := true) (disch := first | omega | simp (decide := true) only [List.length_set, hl]) only [sims, autos, simprocAttr, hps, h1, h3, h4, g0, d1, d2, k1, k2, k3]; rfl) ⟨rfl, W_tru ((bad _ ?_ (fun h => c3 h.2.1)).mono (fun e s h => h.elim (fun h => h.2.elim) .inr))⟩))
    simp (decide := true) (disch := first | omega | simp (decide := true) only [List.length_set, hl]) only [sims, autos, simprocAttr, hl]
end Go.Proofs.Ytikeeegkndnnfaa.Abs
