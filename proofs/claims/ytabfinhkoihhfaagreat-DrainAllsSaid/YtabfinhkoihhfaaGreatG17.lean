/- Words of other seats' texts, as they are used here: Acc1 Acc2. -/
import Derived.Test.YtabfinhkoihhfaaGreatG16
namespace Go.Proofs.YtabfinhkoihhfaaGreat.Abs
open Go Go.RowKit Fn
set_option linter.unusedVariables false
set_option linter.unusedSimpArgs false
set_option linter.unnecessarySimpa false
set_option maxRecDepth 100000
set_option maxHeartbeats 4000000

def MayP (m : Coh) (who : Int) (addr : Nat) (size : Int) : Prop := has m who ∧ (size = 1 ∨ size = 2 ∨ size = 4) ∧ ((addr % 16 : Nat) : Int) + size ≤ 16 ∧ (addr : Int) + size ≤ (m.mem.length : Int)
instance (m : Coh) (who : Int) (addr : Nat) (size : Int) : Decidable (MayP m who addr size) := by unfold MayP; infer_instance
theorem bus_check (m : Coh) (hml : m.mem.length ≤ 4096) (addr : Nat) (ha : addr ≤ 4294967295) (size : Int) (hs : size = 1 ∨ size = 2 ∨ size = 4) : E ap 62 [memT m, .int .u32 (addr : Int), .int .i64 size] (.int .i64 (if (addr : Int) + size ≤ (m.mem.length : Int) then 0 else 9)) := by
  refine E_body (F := f62) rfl rfl rfl ?_
  generalize hs0 : (_ : List T) ++ List.replicate _ T.undef = s0
  have e0 : s0.length = 28 ∧ rho s0 (.tmp 0) = memT m ∧ rho s0 (.tmp 1) = .int .u32 (addr : Int) ∧ rho s0 (.tmp 2) = .int .i64 size := by subst hs0; exact ⟨rfl, rfl, rfl, rfl⟩
  clear hs0
  obtain ⟨hl, h0, h1, h2⟩ := e0
  have hmm : memT m = .imm false m.mem.length (m.mem.flatMap u8T) := rfl
  have w1 : IntKind.u64.wrap (addr : Int) = (addr : Int) := by rw [wrap_u64]; omega
  have w2 : IntKind.u64.wrap size = size := by rw [wrap_u64]; omega
  have w3 : IntKind.u64.wrap ((addr : Int) + size) = (addr : Int) + size := by rw [wrap_u64]; omega
  have w4 : IntKind.u64.wrap (m.mem.length : Int) = (m.mem.length : Int) := by rw [wrap_u64]; omega
  refine W_seqn (W_region (fun k => by simp +decide (disch := first | omega | simp +decide [hl]) only [s9, simprocAttr]; rfl) ⟨rfl, ?_⟩)
  by_cases hin : (addr : Int) + size ≤ (m.mem.length : Int)
  · have hd : decide ((addr : Int) + size > (m.mem.length : Int)) = false := decide_eq_false (by omega)
    rw [if_pos hin]
    refine W_seqn (W_cut (fun s => s.s.length = 28 ∧ rho s.s (.tmp 27) = .bool false) ?_ (fun s hs => W_false hs.2 (W_skip ⟨rfl, ?_⟩)))
    · rcases hs with rfl | rfl | rfl <;> (refine W_region (fun k => by simp +decide (disch := first | omega | simp +decide [hl]) only [s9, simprocAttr, h0, h1, h2, hmm, w1, w2, w3, w4, hd]; rfl) ⟨rfl, ?_, ?_⟩ <;> simp +decide (disch := first | omega | simp +decide [hl]) only [s8, simprocAttr, hl])
    · have hl := hs.1
      refine W_seqn (W_region (fun k => by simp +decide (disch := first | omega | simp +decide [hl]) only [s9, simprocAttr]; rfl) ⟨rfl, W_ret ?_⟩)
      refine fin_of (F := f62) rfl (fun _ => rfl) ?_
      simp +decide (disch := first | omega | simp +decide [hl]) only [s8, simprocAttr]
  · have hd : decide ((addr : Int) + size > (m.mem.length : Int)) = true := decide_eq_true (by omega)
    rw [if_neg hin]
    refine W_seq (W_cut (fun s => s.s.length = 28 ∧ rho s.s (.tmp 27) = .bool true) ?_ (fun s hs => W_true hs.2 ?_))
    · rcases hs with rfl | rfl | rfl <;> (refine W_region (fun k => by simp +decide (disch := first | omega | simp +decide [hl]) only [s9, simprocAttr, h0, h1, h2, hmm, w1, w2, w3, w4, hd]; rfl) ⟨rfl, ?_, ?_⟩ <;> simp +decide (disch := first | omega | simp +decide [hl]) only [s8, simprocAttr, hl])
    · have hl := hs.1
      refine W_seqn (W_region (fun k => by simp +decide (disch := first | omega | simp +decide [hl]) only [s9, simprocAttr]; rfl) ⟨rfl, W_ret ?_⟩)
      refine .inr ⟨by simp, ?_⟩
      refine fin_of (F := f62) rfl (fun _ => rfl) ?_
      simp +decide (disch := first | omega | simp +decide [hl]) only [s8, simprocAttr]
theorem ref_check (m : Coh) (hml : m.mem.length ≤ 4096) (addr : Nat) (ha : addr ≤ 4294967295) (size : Int) (hs : size = 1 ∨ size = 2 ∨ size = 4) : E ap 54 [memT m, .int .u32 (addr : Int), .int .i64 size] (.int .i64 (if (addr : Int) + size ≤ (m.mem.length : Int) then 0 else 9)) := by
  refine E_body (F := f54) rfl rfl rfl ?_
  generalize hs0 : (_ : List T) ++ List.replicate _ T.undef = s0
  have e0 : s0.length = 26 ∧ rho s0 (.tmp 0) = memT m ∧ rho s0 (.tmp 1) = .int .u32 (addr : Int) ∧ rho s0 (.tmp 2) = .int .i64 size := by subst hs0; exact ⟨rfl, rfl, rfl, rfl⟩
  clear hs0
  obtain ⟨hl, h0, h1, h2⟩ := e0
  have hmm : memT m = .imm false m.mem.length (m.mem.flatMap u8T) := rfl
  have w1 : IntKind.i64.wrap (addr : Int) = (addr : Int) := wrap_id (by omega)
  have w3 : IntKind.i64.wrap ((addr : Int) + size) = (addr : Int) + size := wrap_id (by omega)
  refine W_seqn (W_region (fun k => by simp +decide (disch := first | omega | simp +decide [hl]) only [s9, simprocAttr]; rfl) ⟨rfl, ?_⟩)
  by_cases hin : (addr : Int) + size ≤ (m.mem.length : Int)
  · have hd : decide ((addr : Int) + size ≤ (m.mem.length : Int)) = true := decide_eq_true hin
    rw [if_pos hin]
    refine W_seq (W_cut (fun s => s.s.length = 26 ∧ rho s.s (.tmp 25) = .bool true) ?_ (fun s hs => W_true hs.2 ?_))
    · rcases hs with rfl | rfl | rfl <;> (refine W_region (fun k => by simp +decide (disch := first | omega | simp +decide [hl]) only [s9, simprocAttr, h0, h1, h2, hmm, w1, w3, hd]; rfl) ⟨rfl, ?_, ?_⟩ <;> simp +decide (disch := first | omega | simp +decide [hl]) only [s8, simprocAttr, hl])
    · have hl := hs.1
      refine W_seqn (W_region (fun k => by simp +decide (disch := first | omega | simp +decide [hl]) only [s9, simprocAttr]; rfl) ⟨rfl, W_ret ?_⟩)
      refine .inr ⟨by simp, ?_⟩
      refine fin_of (F := f54) rfl (fun _ => rfl) ?_
      simp +decide (disch := first | omega | simp +decide [hl]) only [s8, simprocAttr]
  · have hd : decide ((addr : Int) + size ≤ (m.mem.length : Int)) = false := decide_eq_false hin
    rw [if_neg hin]
    refine W_seqn (W_cut (fun s => s.s.length = 26 ∧ rho s.s (.tmp 25) = .bool false) ?_ (fun s hs => W_false hs.2 (W_skip ⟨rfl, ?_⟩)))
    · rcases hs with rfl | rfl | rfl <;> (refine W_region (fun k => by simp +decide (disch := first | omega | simp +decide [hl]) only [s9, simprocAttr, h0, h1, h2, hmm, w1, w3, hd]; rfl) ⟨rfl, ?_, ?_⟩ <;> simp +decide (disch := first | omega | simp +decide [hl]) only [s8, simprocAttr, hl])
    · have hl := hs.1
      refine W_seqn (W_region (fun k => by simp +decide (disch := first | omega | simp +decide [hl]) only [s9, simprocAttr]; rfl) ⟨rfl, W_ret ?_⟩)
      refine fin_of (F := f54) rfl (fun _ => rfl) ?_
      simp +decide (disch := first | omega | simp +decide [hl]) only [s8, simprocAttr]
theorem qCHK : ap 62 = some f62 := rfl
theorem rCHK : f62.pure = true := rfl
theorem sCHK : f62.nat = none := rfl
theorem qRCHK : ap 54 = some f54 := rfl
theorem rRCHK : f54.pure = true := rfl
theorem sRCHK : f54.nat = none := rfl
theorem bus_reached (m : Coh) (hm : m.wf) (hml : m.mem.length ≤ 4096) (who : Int) (addr : Nat) (ha : addr ≤ 4294967295) (size : Int) : E ap 49 [.agg [memT m, cachT m], .int .i64 who, .int .u32 (addr : Int), .int .i64 size] (.bool (decide (MayP m who addr size))) := by
  refine E_body (F := f49) rfl rfl rfl ?_
  generalize hs0 : (_ : List T) ++ List.replicate _ T.undef = s0
  have e0 : s0.length = 44 ∧ rho s0 (.tmp 0) = .agg [memT m, cachT m] ∧ rho s0 (.tmp 1) = .int .i64 who ∧ rho s0 (.tmp 2) = .int .u32 (addr : Int) ∧ rho s0 (.tmp 3) = .int .i64 size := by subst hs0; exact ⟨rfl, rfl, rfl, rfl, rfl⟩
  clear hs0
  obtain ⟨hl, h0, h1, h2, h3⟩ := e0
  have hleaf : allLeaf [memT m, cachT m] = true := rfl
  have hcc : cachT m = .imm false m.caches.length (m.caches.flatMap Cache.enc) := rfl
  refine W_cut (fun st => st.s.length = 44 ∧ rho st.s (.tmp 1) = .int .i64 who ∧ rho st.s (.tmp 2) = .int .u32 (addr : Int) ∧ rho st.s (.tmp 3) = .int .i64 size ∧ rho st.s (.tmp 4) = .ptr 0 0 ∧ st.g 0 = some [memT m, cachT m]) (W_region (fun k => by simp +decide (disch := first | omega | simp +decide [hl]) only [s9, simprocAttr, h0, hleaf]; rfl) ⟨rfl, ?_⟩) ?_
  · refine ⟨?_, ?_, ?_, ?_, ?_, ?_⟩ <;> simp +decide (disch := first | omega | simp +decide [hl]) only [s9, simprocAttr, hl, h1, h2, h3]
  clear hl h0 h1 h2 h3
  rintro st ⟨hl, h1, h2, h3, h4, g0⟩
  have bad : ∀ z : St, z.s.length = 44 → ¬ MayP m who addr size → W ap (.seq (.region [⟨some 8, .mv (.con (.bool false)), none⟩] []) .ret) z (fun e s => (e = .normal ∧ False) ∨ (e ≠ .normal ∧ (e.leaves = true ∧ ∃ u ids, resT s.s s.g f49.res = some u ∧ frz ⟨s.g, s.nx⟩ frzDepth u = some (.bool (decide (MayP m who addr size)), ids)))) := by
    intro z hl hn
    rw [decide_eq_false hn]
    refine W_seqn (W_region (fun k => by simp +decide (disch := first | omega | simp +decide [hl]) only [s9, simprocAttr]; rfl) ⟨rfl, W_ret (.inr ⟨by simp, ?_⟩)⟩)
    refine fin_of (F := f49) rfl (fun _ => rfl) ?_
    simp +decide (disch := first | omega | simp +decide [hl]) only [s8, simprocAttr]
  by_cases c1 : who < 0
  · have d1 : decide (who < 0) = true := decide_eq_true c1
    refine W_seq (W_seqn (W_region (fun k => by simp +decide (disch := first | omega | simp +decide [hl]) only [s9, simprocAttr, h1, d1]; rfl) ⟨rfl, W_tru ((bad _ ?_ (fun h => by have := h.1.1; omega)).mono (fun e s h => h.elim (fun h => h.2.elim) .inr))⟩))
    simp +decide (disch := first | omega | simp +decide [hl]) only [s8, simprocAttr, hl]
  have d1 : decide (who < 0) = false := decide_eq_false c1
  by_cases c2 : who ≥ (m.caches.length : Int)
  · have d2 : decide (who ≥ (m.caches.length : Int)) = true := decide_eq_true c2
    refine W_seq (W_seqn (W_region (fun k => by simp +decide (disch := first | omega | simp +decide [hl]) only [s9, simprocAttr, h1, h4, g0, hcc, d1, d2]; rfl) ⟨rfl, W_tru ((bad _ ?_ (fun h => by have := h.1.2; omega)).mono (fun e s h => h.elim (fun h => h.2.elim) .inr))⟩))
    simp +decide (disch := first | omega | simp +decide [hl]) only [s8, simprocAttr, hl]
  have d2 : decide (who ≥ (m.caches.length : Int)) = false := decide_eq_false c2
  by_cases c3 : size = 1 ∨ size = 2 ∨ size = 4
  · refine W_seqn (W_cut (fun s => s.s.length = 44 ∧ rho s.s (.tmp 29) = .bool false ∧ rho s.s (.tmp 2) = .int .u32 (addr : Int) ∧ rho s.s (.tmp 3) = .int .i64 size ∧ rho s.s (.tmp 4) = .ptr 0 0 ∧ s.g 0 = some [memT m, cachT m]) ?_ (fun s hs => W_false hs.2.1 (W_skip ⟨rfl, ?_⟩)))
    · rw [hcc] at g0
      rcases c3 with rfl | rfl | rfl <;> (refine W_region (fun k => by simp +decide (disch := first | omega | simp +decide [hl]) only [s9, simprocAttr, h1, h3, h4, g0, d1, d2]; rfl) ⟨rfl, ?_, ?_, ?_, ?_, ?_, ?_⟩ <;> simp +decide (disch := first | omega | simp +decide [hl]) only [s9, simprocAttr, hl, h2, h3, h4, g0, hcc])
    obtain ⟨hl, _, h2, h3, h4, g0⟩ := hs
    obtain ⟨N, q⟩ := (bus_check m hml addr ha size c3).call qCHK (fun g => rfl)
    have q := q N (Nat.le_refl _)
    have w0 : (addr : Int).tmod 16 = ((addr % 16 : Nat) : Int) := by rw [Int.tmod_eq_emod_of_nonneg (by omega)]; omega
    have w1 : IntKind.i64.wrap ((addr % 16 : Nat) : Int) = ((addr % 16 : Nat) : Int) := wrap_id (by omega)
    have w2 : IntKind.i64.wrap (((addr % 16 : Nat) : Int) + size) = ((addr % 16 : Nat) : Int) + size := wrap_id (by omega)
    by_cases c4 : ((addr % 16 : Nat) : Int) + size ≤ 16
    · have d4 : decide (((addr % 16 : Nat) : Int) + size ≤ 16) = true := decide_eq_true c4
      have hres : ((if (addr : Int) + size ≤ (m.mem.length : Int) then (0 : Int) else 9) == 0) = decide (MayP m who addr size) := by
        by_cases c5 : (addr : Int) + size ≤ (m.mem.length : Int)
        · rw [if_pos c5, decide_eq_true (show MayP m who addr size from ⟨⟨by omega, by omega⟩, c3, c4, c5⟩)]; rfl
        · rw [if_neg c5, decide_eq_false (fun h : MayP m who addr size => c5 h.2.2.2)]; rfl
      refine W_seqn (W_regionN ⟨N, by simp +decide (disch := first | omega | simp +decide [hl]) only [s9, simprocAttr, h2, h3, h4, g0, w0, w1, w2, d4, qCHK, rCHK, sCHK, q, hres]; rfl⟩ ⟨rfl, W_ret ?_⟩)
      refine fin_of (F := f49) rfl (fun _ => rfl) ?_
      simp +decide (disch := first | omega | simp +decide [hl]) only [s8, simprocAttr]
    · have d4 : decide (((addr % 16 : Nat) : Int) + size ≤ 16) = false := decide_eq_false c4
      rw [decide_eq_false (fun h : MayP m who addr size => c4 h.2.2.1)]
      refine W_seqn (W_region (fun k => by simp +decide (disch := first | omega | simp +decide [hl]) only [s9, simprocAttr, h2, h3, w0, w1, w2, d4]; rfl) ⟨rfl, W_ret ?_⟩)
      refine fin_of (F := f49) rfl (fun _ => rfl) ?_
      simp +decide (disch := first | omega | simp +decide [hl]) only [s8, simprocAttr]
  · have k1 : (size != 1) = true := by simp; omega
    have k2 : (size != 2) = true := by simp; omega
    have k3 : (size != 4) = true := by simp; omega
    rw [hcc] at g0
    refine W_seq (W_seqn (W_region (fun k => by simp +decide (disch := first | omega | simp +decide [hl]) only [s9, simprocAttr, h1, h3, h4, g0, d1, d2, k1, k2, k3]; rfl) ⟨rfl, W_tru ((bad _ ?_ (fun h => c3 h.2.1)).mono (fun e s h => h.elim (fun h => h.2.elim) .inr))⟩))
    simp +decide (disch := first | omega | simp +decide [hl]) only [s8, simprocAttr, hl]
theorem ref_may (m : Coh) (hm : m.wf) (hml : m.mem.length ≤ 4096) (who : Int) (addr : Nat) (ha : addr ≤ 4294967295) (size : Int) : E ap 41 [.agg [memT m, cachT m], .int .i64 who, .int .u32 (addr : Int), .int .i64 size] (.bool (decide (MayP m who addr size))) := by
  refine E_body (F := f41) rfl rfl rfl ?_
  generalize hs0 : (_ : List T) ++ List.replicate _ T.undef = s0
  have e0 : s0.length = 44 ∧ rho s0 (.tmp 0) = .agg [memT m, cachT m] ∧ rho s0 (.tmp 1) = .int .i64 who ∧ rho s0 (.tmp 2) = .int .u32 (addr : Int) ∧ rho s0 (.tmp 3) = .int .i64 size := by subst hs0; exact ⟨rfl, rfl, rfl, rfl, rfl⟩
  clear hs0
  obtain ⟨hl, h0, h1, h2, h3⟩ := e0
  have hleaf : allLeaf [memT m, cachT m] = true := rfl
  have hcc : cachT m = .imm false m.caches.length (m.caches.flatMap Cache.enc) := rfl
  refine W_cut (fun st => st.s.length = 44 ∧ rho st.s (.tmp 1) = .int .i64 who ∧ rho st.s (.tmp 2) = .int .u32 (addr : Int) ∧ rho st.s (.tmp 3) = .int .i64 size ∧ rho st.s (.tmp 4) = .ptr 0 0 ∧ st.g 0 = some [memT m, cachT m]) (W_region (fun k => by simp +decide (disch := first | omega | simp +decide [hl]) only [s9, simprocAttr, h0, hleaf]; rfl) ⟨rfl, ?_⟩) ?_
  · refine ⟨?_, ?_, ?_, ?_, ?_, ?_⟩ <;> simp +decide (disch := first | omega | simp +decide [hl]) only [s9, simprocAttr, hl, h1, h2, h3]
  clear hl h0 h1 h2 h3
  rintro st ⟨hl, h1, h2, h3, h4, g0⟩
  have bad : ∀ z : St, z.s.length = 44 → ¬ MayP m who addr size → W ap (.seq (.region [⟨some 8, .mv (.con (.bool false)), none⟩] []) .ret) z (fun e s => (e = .normal ∧ False) ∨ (e ≠ .normal ∧ (e.leaves = true ∧ ∃ u ids, resT s.s s.g f41.res = some u ∧ frz ⟨s.g, s.nx⟩ frzDepth u = some (.bool (decide (MayP m who addr size)), ids)))) := by
    intro z hl hn
    rw [decide_eq_false hn]
    refine W_seqn (W_region (fun k => by simp +decide (disch := first | omega | simp +decide [hl]) only [s9, simprocAttr]; rfl) ⟨rfl, W_ret (.inr ⟨by simp, ?_⟩)⟩)
    refine fin_of (F := f41) rfl (fun _ => rfl) ?_
    simp +decide (disch := first | omega | simp +decide [hl]) only [s8, simprocAttr]
  by_cases c1 : who < 0
  · have d1 : decide (who < 0) = true := decide_eq_true c1
    refine W_seq (W_seqn (W_region (fun k => by simp +decide (disch := first | omega | simp +decide [hl]) only [s9, simprocAttr, h1, d1]; rfl) ⟨rfl, W_tru ((bad _ ?_ (fun h => by have := h.1.1; omega)).mono (fun e s h => h.elim (fun h => h.2.elim) .inr))⟩))
    simp +decide (disch := first | omega | simp +decide [hl]) only [s8, simprocAttr, hl]
  have d1 : decide (who < 0) = false := decide_eq_false c1
  by_cases c2 : who ≥ (m.caches.length : Int)
  · have d2 : decide (who ≥ (m.caches.length : Int)) = true := decide_eq_true c2
    refine W_seq (W_seqn (W_region (fun k => by simp +decide (disch := first | omega | simp +decide [hl]) only [s9, simprocAttr, h1, h4, g0, hcc, d1, d2]; rfl) ⟨rfl, W_tru ((bad _ ?_ (fun h => by have := h.1.2; omega)).mono (fun e s h => h.elim (fun h => h.2.elim) .inr))⟩))
    simp +decide (disch := first | omega | simp +decide [hl]) only [s8, simprocAttr, hl]
  have d2 : decide (who ≥ (m.caches.length : Int)) = false := decide_eq_false c2
  by_cases c3 : size = 1 ∨ size = 2 ∨ size = 4
  · refine W_seqn (W_cut (fun s => s.s.length = 44 ∧ rho s.s (.tmp 29) = .bool false ∧ rho s.s (.tmp 2) = .int .u32 (addr : Int) ∧ rho s.s (.tmp 3) = .int .i64 size ∧ rho s.s (.tmp 4) = .ptr 0 0 ∧ s.g 0 = some [memT m, cachT m]) ?_ (fun s hs => W_false hs.2.1 (W_skip ⟨rfl, ?_⟩)))
    · rw [hcc] at g0
      rcases c3 with rfl | rfl | rfl <;> (refine W_region (fun k => by simp +decide (disch := first | omega | simp +decide [hl]) only [s9, simprocAttr, h1, h3, h4, g0, d1, d2]; rfl) ⟨rfl, ?_, ?_, ?_, ?_, ?_, ?_⟩ <;> simp +decide (disch := first | omega | simp +decide [hl]) only [s9, simprocAttr, hl, h2, h3, h4, g0, hcc])
    obtain ⟨hl, _, h2, h3, h4, g0⟩ := hs
    obtain ⟨N, q⟩ := (ref_check m hml addr ha size c3).call qRCHK (fun g => rfl)
    have q := q N (Nat.le_refl _)
    have w0 : (addr : Int).tmod 16 = ((addr % 16 : Nat) : Int) := by rw [Int.tmod_eq_emod_of_nonneg (by omega)]; omega
    have w1 : IntKind.i64.wrap ((addr % 16 : Nat) : Int) = ((addr % 16 : Nat) : Int) := wrap_id (by omega)
    have w2 : IntKind.i64.wrap (((addr % 16 : Nat) : Int) + size) = ((addr % 16 : Nat) : Int) + size := wrap_id (by omega)
    by_cases c4 : ((addr % 16 : Nat) : Int) + size ≤ 16
    · have d4 : decide (((addr % 16 : Nat) : Int) + size ≤ 16) = true := decide_eq_true c4
      have hres : ((if (addr : Int) + size ≤ (m.mem.length : Int) then (0 : Int) else 9) == 0) = decide (MayP m who addr size) := by
        by_cases c5 : (addr : Int) + size ≤ (m.mem.length : Int)
        · rw [if_pos c5, decide_eq_true (show MayP m who addr size from ⟨⟨by omega, by omega⟩, c3, c4, c5⟩)]; rfl
        · rw [if_neg c5, decide_eq_false (fun h : MayP m who addr size => c5 h.2.2.2)]; rfl
      refine W_seqn (W_regionN ⟨N, by simp +decide (disch := first | omega | simp +decide [hl]) only [s9, simprocAttr, h2, h3, h4, g0, w0, w1, w2, d4, qRCHK, rRCHK, sRCHK, q, hres]; rfl⟩ ⟨rfl, W_ret ?_⟩)
      refine fin_of (F := f41) rfl (fun _ => rfl) ?_
      simp +decide (disch := first | omega | simp +decide [hl]) only [s8, simprocAttr]
    · have d4 : decide (((addr % 16 : Nat) : Int) + size ≤ 16) = false := decide_eq_false c4
      rw [decide_eq_false (fun h : MayP m who addr size => c4 h.2.2.1)]
      refine W_seqn (W_region (fun k => by simp +decide (disch := first | omega | simp +decide [hl]) only [s9, simprocAttr, h2, h3, w0, w1, w2, d4]; rfl) ⟨rfl, W_ret ?_⟩)
      refine fin_of (F := f41) rfl (fun _ => rfl) ?_
      simp +decide (disch := first | omega | simp +decide [hl]) only [s8, simprocAttr]
  · have k1 : (size != 1) = true := by simp; omega
    have k2 : (size != 2) = true := by simp; omega
    have k3 : (size != 4) = true := by simp; omega
    rw [hcc] at g0
    refine W_seq (W_seqn (W_region (fun k => by simp +decide (disch := first | omega | simp +decide [hl]) only [s9, simprocAttr, h1, h3, h4, g0, d1, d2, k1, k2, k3]; rfl) ⟨rfl, W_tru ((bad _ ?_ (fun h => c3 h.2.1)).mono (fun e s h => h.elim (fun h => h.2.elim) .inr))⟩))
    simp +decide (disch := first | omega | simp +decide [hl]) only [s8, simprocAttr, hl]
theorem coh_parts {m : Coh} {v : T} (h : UpT (.agg m.enc) v) : ∃ f1 f2 ys, v = .agg [.imm f1 m.mem.length (m.mem.flatMap u8T), .imm f2 m.caches.length ys] ∧ UpL (m.caches.flatMap Cache.enc) ys ∧ UpL [memT m, cachT m] [.imm f1 m.mem.length (m.mem.flatMap u8T), .imm f2 m.caches.length ys] := by
  obtain ⟨l, rfl, h2⟩ := h.agg
  rw [coh_enc] at h2
  have h3 := h2
  simp only [UpL] at h2
  obtain ⟨a, _, rfl, ha, b, _, rfl, hb, rfl⟩ := h2
  obtain ⟨f1, c1, rfl, _, hc1⟩ := UpT.imm (f := false) (n := m.mem.length) (c := m.mem.flatMap u8T) ha
  obtain ⟨f2, c2, rfl, _, hc2⟩ := UpT.imm (f := false) (n := m.caches.length) (c := m.caches.flatMap Cache.enc) hb
  obtain rfl := upL_ints hc1 (u8_ints _)
  exact ⟨f1, f2, c2, rfl, hc2, h3⟩
theorem fin_cb {F : AFun} {t1 t2 p : Nat} {f1 f2 b : Bool} {n1 n2 : Nat} {c1 c2 : List T} (hF : F.res = [.cell t1 false 2, .tmp t2]) {s : List T} {g : Mem} {nx : Nat} (h1 : rho s (.tmp t1) = .ptr p 0) (g1 : g p = some [.imm f1 n1 c1, .imm f2 n2 c2]) (h2 : rho s (.tmp t2) = .bool b) : ∃ u ids, resT s g F.res = some u ∧ frz ⟨g, nx⟩ frzDepth u = some (.tup [.agg [.imm f1 n1 c1, .imm f2 n2 c2], .bool b], ids) := by
  have hcut : cut [T.imm f1 n1 c1, T.imm f2 n2 c2] 0 2 = [T.imm f1 n1 c1, T.imm f2 n2 c2] := rfl
  have hl : s.length = s.length := rfl
  refine ⟨.tup [.agg [.imm f1 n1 c1, .imm f2 n2 c2], .bool b], [], ?_, rfl⟩
  rw [hF]
  simp only [resT, resL, resOne]
  simp +decide (disch := first | omega | simp +decide [hl]) only [s9, simprocAttr, h1, g1, h2, hcut]
def askK (m : Coh) (who : Int) (ln : Nat) (a : Int) : Int := askv (stateOf m who ln) a
def askM (m : Coh) (who : Int) (ln : Nat) (a : Int) : Coh × Bool := if askK m who ln a = 0 then (m, true) else (doM m who (askK m who ln a) ln, false)
def touchM (m : Coh) (w ln : Nat) : Coh := match find (cacheAt m w) ln with
  | some k => withC m w (touchR (cacheAt m w).sets (seti (cacheAt m w) ln : Int) (k : Int))
  | none => m
theorem ok_ask {m : Coh} (h : Ok m) (who : Int) (ln : Nat) (hln : ln ≤ 4294967295) (a : Int) : Ok (askM m who ln a).1 := by
  unfold askM
  split
  · exact h
  · exact ok_do h who _ ln hln
theorem doGot_len (m : Coh) (who kind : Int) (ln : Nat) : (doGot m who kind ln).caches.length = m.caches.length := by
  unfold doGot
  split
  · exact withC_len _ _ _
  · rw [backM_caches]; exact withC_len _ _ _
theorem doM_len (m : Coh) (who kind : Int) (ln : Nat) : (doM m who kind ln).caches.length = m.caches.length := by
  unfold doM
  split
  · rw [doGot_len, (snoopN_len who kind ln m m.caches.length).1]
  · rfl
theorem ask_len (m : Coh) (who : Int) (ln : Nat) (a : Int) : (askM m who ln a).1.caches.length = m.caches.length := by
  unfold askM
  split
  · rfl
  · exact doM_len _ _ _ _
theorem ok_touch {m : Coh} (h : Ok m) (w ln : Nat) (hw : w < m.caches.length) : Ok (touchM m w ln) := by
  unfold touchM
  split
  · exact ok_with h hw (fit_touch (h.2.2.2 w hw) _ _)
  · exact h
theorem qWANT : ap 63 = some f63 := rfl
theorem rWANT : f63.pure = true := rfl
theorem sWANT : f63.nat = none := rfl
theorem qRWANT : ap 55 = some f55 := rfl
theorem rRWANT : f55.pure = true := rfl
theorem sRWANT : f55.nat = none := rfl
theorem qDO : ap 64 = some f64 := rfl
theorem rDO : f64.pure = true := rfl
theorem sDO : f64.nat = none := rfl
theorem qRDO : ap 56 = some f56 := rfl
theorem rRDO : f56.pure = true := rfl
theorem sRDO : f56.nat = none := rfl
theorem qFIND : ap 69 = some f69 := rfl
theorem rFIND : f69.pure = true := rfl
theorem sFIND : f69.nat = none := rfl
theorem qRFIND : ap 57 = some f57 := rfl
theorem rRFIND : f57.pure = true := rfl
theorem sRFIND : f57.nat = none := rfl
theorem qTOUCH : ap 70 = some f70 := rfl
theorem rTOUCH : f70.pure = true := rfl
theorem sTOUCH : f70.nat = none := rfl
theorem qRTOUCH : ap 60 = some f60 := rfl
theorem rRTOUCH : f60.pure = true := rfl
theorem sRTOUCH : f60.nat = none := rfl
theorem bus_got2 (m : Coh) (hok : Ok m) (who : Int) (hw : has m who) (ln : Nat) (hln : ln ≤ 4294967295) (a : Int) : ∃ u, E ap 50 [.agg [memT m, cachT m], .int .i64 who, .int .u32 (ln : Int), .int .i64 a] (.tup [u, .bool (askM m who ln a).2]) ∧ UpT (.agg (askM m who ln a).1.enc) u := by
  obtain ⟨v, hE, u, rfl, hu⟩ := E_bodyV (F := f50) (f := 50) (AP := ap) rfl rfl rfl (args := [.agg [memT m, cachT m], .int .i64 who, .int .u32 (ln : Int), .int .i64 a]) (P := fun v => ∃ u, v = .tup [u, .bool (askM m who ln a).2] ∧ UpT (.agg (askM m who ln a).1.enc) u) (by
    generalize hs0 : (_ : List T) ++ List.replicate _ T.undef = s0
    have e0 : s0.length = 24 ∧ rho s0 (.tmp 0) = .agg [memT m, cachT m] ∧ rho s0 (.tmp 1) = .int .i64 who ∧ rho s0 (.tmp 2) = .int .u32 (ln : Int) ∧ rho s0 (.tmp 3) = .int .i64 a := by subst hs0; exact ⟨rfl, rfl, rfl, rfl, rfl⟩
    clear hs0
    obtain ⟨hl, h0, h1, h2, h3⟩ := e0
    have hleaf : allLeaf [memT m, cachT m] = true := rfl
    have hcut : cut [memT m, cachT m] 0 2 = [memT m, cachT m] := rfl
    obtain ⟨N1, q1⟩ := (bus_want m hok.1 who ln a hln).call qWANT (fun g => rfl)
    have hwt : wantT m who ln a = .agg [.int .i64 (askK m who ln a), .int .u32 (ln : Int)] := by unfold wantT; rw [if_pos hw]; rfl
    rw [hwt] at q1
    have hcr : ∀ k : Int, cut [T.int .i64 k, T.int .u32 (ln : Int)] 0 2 = [T.int .i64 k, T.int .u32 (ln : Int)] := fun _ => rfl
    have hlr : ∀ k : Int, allLeaf [T.int .i64 k, T.int .u32 (ln : Int)] = true := fun _ => rfl
    have q1 := q1 N1 (Nat.le_refl _)
    refine W_cut (fun st => st.s.length = 24 ∧ rho st.s (.tmp 1) = .int .i64 who ∧ rho st.s (.tmp 2) = .int .u32 (ln : Int) ∧ rho st.s (.tmp 3) = .int .i64 a ∧ rho st.s (.tmp 4) = .ptr 0 0 ∧ rho st.s (.tmp 8) = .ptr 1 0 ∧ st.g 0 = some [memT m, cachT m] ∧ st.g 1 = some [.imm true 0 [], .imm true 0 []] ∧ st.nx = 3) (W_region (fun k => by simp +decide (disch := first | omega | simp +decide [hl]) only [s9, simprocAttr, h0, hleaf]; rfl) ⟨rfl, ?_⟩) ?_
    · refine ⟨?_, ?_, ?_, ?_, ?_, ?_, ?_, ?_, rfl⟩ <;> simp +decide (disch := first | omega | simp +decide [hl]) only [s9, simprocAttr, hl, h1, h2, h3]
    clear hl h0 h1 h2 h3
    rintro ⟨ss, gg, nx⟩ ⟨hl, h1, h2, h3, h4, h8, g0, g1, hnx⟩
    simp only at hl h1 h2 h3 h4 h8 g0 g1 hnx
    subst hnx
    refine W_cut (fun st => st.s.length = 24 ∧ rho st.s (.tmp 1) = .int .i64 who ∧ rho st.s (.tmp 4) = .ptr 0 0 ∧ rho st.s (.tmp 8) = .ptr 1 0 ∧ rho st.s (.tmp 10) = .ptr 8 0 ∧ st.g 0 = some [memT m, cachT m] ∧ st.g 1 = some [.imm true 0 [], .imm true 0 []] ∧ st.g 8 = some [.int .i64 (askK m who ln a), .int .u32 (ln : Int)]) (W_regionN ⟨N1, by simp +decide (disch := first | omega | simp +decide [hl]) only [s9, simprocAttr, h1, h2, h3, h4, g0, hcut, qWANT, rWANT, sWANT, q1, hlr]; rfl⟩ ⟨rfl, ?_⟩) ?_
    · refine ⟨?_, ?_, ?_, ?_, ?_, ?_, ?_, ?_⟩ <;> simp +decide (disch := first | omega | simp +decide [hl]) only [s9, simprocAttr, hl, h1, h4, h8, g0, g1]
    clear hl h1 h2 h3 h4 h8 g0 g1
    rintro st ⟨hl, h1, h4, h8, h10, g0, g1, g8⟩
    unfold askM
    by_cases hk : askK m who ln a = 0
    · have hd : (askK m who ln a == 0) = true := by rw [hk]; rfl
      rw [if_pos hk]
      refine W_seq (W_seqn (W_region (fun k => by simp +decide (disch := first | omega | simp +decide [hl]) only [s9, simprocAttr, h10, g8, hd]; rfl) ⟨rfl, W_tru ?_⟩))
      refine W_seqn (W_region (fun k => by simp +decide (disch := first | omega | simp +decide [hl]) only [s9, simprocAttr, h4, h8, g0, g1, hcut, hleaf]; rfl) ⟨rfl, W_ret (.inr ⟨by simp, rfl, _, ⟨_, rfl, UpT.refl _⟩, fin_cb (p := 1) rfl ?_ ?_ ?_⟩)⟩)
      · simp +decide (disch := first | omega | simp +decide [hl]) only [s8, simprocAttr, h8]
      · simp +decide (disch := first | omega | simp +decide [hl]) only [s9, simprocAttr]
        try rfl
      · simp +decide (disch := first | omega | simp +decide [hl]) only [s8, simprocAttr]
    · have hd : (askK m who ln a == 0) = false := by simpa using hk
      rw [if_neg hk]
      obtain ⟨v, hE2, hv⟩ := bus_do m hok who (askK m who ln a) ln hln
      obtain ⟨f1, f2, ys, rfl, hys, hup⟩ := coh_parts hv
      obtain ⟨N2, q2⟩ := hE2.call qDO (fun g => rfl)
      have q2 := q2 N2 (Nat.le_refl _)
      have hl2 : allLeaf [T.imm f1 (doM m who (askK m who ln a) ln).mem.length ((doM m who (askK m who ln a) ln).mem.flatMap u8T), T.imm f2 (doM m who (askK m who ln a) ln).caches.length ys] = true := rfl
      refine W_seqn (W_seqn (W_region (fun k => by simp +decide (disch := first | omega | simp +decide [hl]) only [s9, simprocAttr, h10, g8, hd]; rfl) ⟨rfl, W_fls (W_skip ⟨rfl, ?_⟩)⟩))
      refine W_seqn (W_regionN ⟨N2, by simp +decide (disch := first | omega | simp +decide [hl]) only [s9, simprocAttr, h1, h4, h8, h10, g0, g1, g8, hcut, hcr, hl2, qDO, rDO, sDO, q2]; rfl⟩ ⟨rfl, W_ret ⟨rfl, _, ⟨_, rfl, hv⟩, fin_cb (p := 1) rfl ?_ ?_ ?_⟩⟩)
      · simp +decide (disch := first | omega | simp +decide [hl]) only [s8, simprocAttr, h8]
      · simp +decide (disch := first | omega | simp +decide [hl]) only [s9, simprocAttr]
      · simp +decide (disch := first | omega | simp +decide [hl]) only [s8, simprocAttr])
  exact ⟨u, hE, hu⟩
theorem ref_ask2 (m : Coh) (hok : Ok m) (who : Int) (hw : has m who) (ln : Nat) (hln : ln ≤ 4294967295) (a : Int) : ∃ u, E ap 42 [.agg [memT m, cachT m], .int .i64 who, .int .u32 (ln : Int), .int .i64 a] (.tup [u, .bool (askM m who ln a).2]) ∧ UpT (.agg (askM m who ln a).1.enc) u := by
  obtain ⟨v, hE, u, rfl, hu⟩ := E_bodyV (F := f42) (f := 42) (AP := ap) rfl rfl rfl (args := [.agg [memT m, cachT m], .int .i64 who, .int .u32 (ln : Int), .int .i64 a]) (P := fun v => ∃ u, v = .tup [u, .bool (askM m who ln a).2] ∧ UpT (.agg (askM m who ln a).1.enc) u) (by
    generalize hs0 : (_ : List T) ++ List.replicate _ T.undef = s0
    have e0 : s0.length = 24 ∧ rho s0 (.tmp 0) = .agg [memT m, cachT m] ∧ rho s0 (.tmp 1) = .int .i64 who ∧ rho s0 (.tmp 2) = .int .u32 (ln : Int) ∧ rho s0 (.tmp 3) = .int .i64 a := by subst hs0; exact ⟨rfl, rfl, rfl, rfl, rfl⟩
    clear hs0
    obtain ⟨hl, h0, h1, h2, h3⟩ := e0
    have hleaf : allLeaf [memT m, cachT m] = true := rfl
    have hcut : cut [memT m, cachT m] 0 2 = [memT m, cachT m] := rfl
    obtain ⟨N1, q1⟩ := (ref_want m hok.1 who ln a hln).call qRWANT (fun g => rfl)
    have hwt : wantT m who ln a = .agg [.int .i64 (askK m who ln a), .int .u32 (ln : Int)] := by unfold wantT; rw [if_pos hw]; rfl
    rw [hwt] at q1
    have hcr : ∀ k : Int, cut [T.int .i64 k, T.int .u32 (ln : Int)] 0 2 = [T.int .i64 k, T.int .u32 (ln : Int)] := fun _ => rfl
    have hlr : ∀ k : Int, allLeaf [T.int .i64 k, T.int .u32 (ln : Int)] = true := fun _ => rfl
    have q1 := q1 N1 (Nat.le_refl _)
    refine W_cut (fun st => st.s.length = 24 ∧ rho st.s (.tmp 1) = .int .i64 who ∧ rho st.s (.tmp 2) = .int .u32 (ln : Int) ∧ rho st.s (.tmp 3) = .int .i64 a ∧ rho st.s (.tmp 4) = .ptr 0 0 ∧ rho st.s (.tmp 8) = .ptr 1 0 ∧ st.g 0 = some [memT m, cachT m] ∧ st.g 1 = some [.imm true 0 [], .imm true 0 []] ∧ st.nx = 3) (W_region (fun k => by simp +decide (disch := first | omega | simp +decide [hl]) only [s9, simprocAttr, h0, hleaf]; rfl) ⟨rfl, ?_⟩) ?_
    · refine ⟨?_, ?_, ?_, ?_, ?_, ?_, ?_, ?_, rfl⟩ <;> simp +decide (disch := first | omega | simp +decide [hl]) only [s9, simprocAttr, hl, h1, h2, h3]
    clear hl h0 h1 h2 h3
    rintro ⟨ss, gg, nx⟩ ⟨hl, h1, h2, h3, h4, h8, g0, g1, hnx⟩
    simp only at hl h1 h2 h3 h4 h8 g0 g1 hnx
    subst hnx
    refine W_cut (fun st => st.s.length = 24 ∧ rho st.s (.tmp 1) = .int .i64 who ∧ rho st.s (.tmp 4) = .ptr 0 0 ∧ rho st.s (.tmp 8) = .ptr 1 0 ∧ rho st.s (.tmp 10) = .ptr 8 0 ∧ st.g 0 = some [memT m, cachT m] ∧ st.g 1 = some [.imm true 0 [], .imm true 0 []] ∧ st.g 8 = some [.int .i64 (askK m who ln a), .int .u32 (ln : Int)]) (W_regionN ⟨N1, by simp +decide (disch := first | omega | simp +decide [hl]) only [s9, simprocAttr, h1, h2, h3, h4, g0, hcut, qRWANT, rRWANT, sRWANT, q1, hlr]; rfl⟩ ⟨rfl, ?_⟩) ?_
    · refine ⟨?_, ?_, ?_, ?_, ?_, ?_, ?_, ?_⟩ <;> simp +decide (disch := first | omega | simp +decide [hl]) only [s9, simprocAttr, hl, h1, h4, h8, g0, g1]
    clear hl h1 h2 h3 h4 h8 g0 g1
    rintro st ⟨hl, h1, h4, h8, h10, g0, g1, g8⟩
    unfold askM
    by_cases hk : askK m who ln a = 0
    · have hd : (askK m who ln a == 0) = true := by rw [hk]; rfl
      rw [if_pos hk]
      refine W_seq (W_seqn (W_region (fun k => by simp +decide (disch := first | omega | simp +decide [hl]) only [s9, simprocAttr, h10, g8, hd]; rfl) ⟨rfl, W_tru ?_⟩))
      refine W_seqn (W_region (fun k => by simp +decide (disch := first | omega | simp +decide [hl]) only [s9, simprocAttr, h4, h8, g0, g1, hcut, hleaf]; rfl) ⟨rfl, W_ret (.inr ⟨by simp, rfl, _, ⟨_, rfl, UpT.refl _⟩, fin_cb (p := 1) rfl ?_ ?_ ?_⟩)⟩)
      · simp +decide (disch := first | omega | simp +decide [hl]) only [s8, simprocAttr, h8]
      · simp +decide (disch := first | omega | simp +decide [hl]) only [s9, simprocAttr]
        try rfl
      · simp +decide (disch := first | omega | simp +decide [hl]) only [s8, simprocAttr]
    · have hd : (askK m who ln a == 0) = false := by simpa using hk
      rw [if_neg hk]
      obtain ⟨v, hE2, hv⟩ := ref_do m hok who (askK m who ln a) ln hln
      obtain ⟨f1, f2, ys, rfl, hys, hup⟩ := coh_parts hv
      obtain ⟨N2, q2⟩ := hE2.call qRDO (fun g => rfl)
      have q2 := q2 N2 (Nat.le_refl _)
      have hl2 : allLeaf [T.imm f1 (doM m who (askK m who ln a) ln).mem.length ((doM m who (askK m who ln a) ln).mem.flatMap u8T), T.imm f2 (doM m who (askK m who ln a) ln).caches.length ys] = true := rfl
      refine W_seqn (W_seqn (W_region (fun k => by simp +decide (disch := first | omega | simp +decide [hl]) only [s9, simprocAttr, h10, g8, hd]; rfl) ⟨rfl, W_fls (W_skip ⟨rfl, ?_⟩)⟩))
      refine W_seqn (W_regionN ⟨N2, by simp +decide (disch := first | omega | simp +decide [hl]) only [s9, simprocAttr, h1, h4, h8, h10, g0, g1, g8, hcut, hcr, hl2, qRDO, rRDO, sRDO, q2]; rfl⟩ ⟨rfl, W_ret ⟨rfl, _, ⟨_, rfl, hv⟩, fin_cb (p := 1) rfl ?_ ?_ ?_⟩⟩)
      · simp +decide (disch := first | omega | simp +decide [hl]) only [s8, simprocAttr, h8]
      · simp +decide (disch := first | omega | simp +decide [hl]) only [s9, simprocAttr]
      · simp +decide (disch := first | omega | simp +decide [hl]) only [s8, simprocAttr])
  exact ⟨u, hE, hu⟩
end Go.Proofs.YtabfinhkoihhfaaGreat.Abs
