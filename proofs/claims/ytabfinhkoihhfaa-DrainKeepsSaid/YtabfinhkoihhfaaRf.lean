/- Stores drained over a memory, whether stores may be, and whether a system may be: the given functions' walks. -/
import Derived.Test.YtabfinhkoihhfaaAll
namespace Go.Proofs.Ytabfinhkoihhfaa.Abs
open Go Go.RowKit Fn
set_option linter.unusedVariables false
set_option linter.unusedSimpArgs false
set_option linter.unnecessarySimpa false
set_option maxRecDepth 100000
set_option maxHeartbeats 4000000

theorem qRMR : ap 15 = some f15 := rfl
theorem rRMR : f15.pure = true := rfl
theorem sRMR : f15.nat = none := rfl
theorem ref_memright (f : Bool) (L : List Int) (hL : L.length ≤ 4096) : E ap 15 [.imm f L.length (L.flatMap u8T)] (.bool (decide (MemP L))) := by
  refine E_body (F := f15) rfl rfl rfl ?_
  generalize hs0 : (_ : List T) ++ List.replicate _ T.undef = s0
  have e0 : s0.length = 17 ∧ rho s0 (.tmp 0) = .imm f L.length (L.flatMap u8T) := by subst hs0; exact ⟨rfl, rfl⟩
  clear hs0
  obtain ⟨hl, h0⟩ := e0
  have w0 : (L.length : Int).tmod 64 = ((L.length % 64 : Nat) : Int) := by rw [Int.tmod_eq_emod_of_nonneg (by omega)]; omega
  refine W_seqn (W_region (fun k => by simp +decide (disch := first | omega | simp +decide only [List.length_set, hl]) only [sa, simprocAttr, hps]; rfl) ⟨rfl, ?_⟩)
  by_cases c1 : L.length % 64 = 0
  · have d1 : (((L.length % 64 : Nat) : Int) == 0) = true := by rw [c1]; rfl
    by_cases c2 : 64 ≤ L.length
    · have d2 : decide ((L.length : Int) ≥ 64) = true := decide_eq_true (by omega)
      have d3 : decide ((L.length : Int) ≤ 16384) = true := decide_eq_true (by omega)
      rw [decide_eq_true (show MemP L from ⟨c2, by omega, c1⟩)]
      refine W_seqn (W_region (fun k => by simp +decide (disch := first | omega | simp +decide only [List.length_set, hl]) only [sa, simprocAttr, hps, h0, w0, d1, d2, d3]; rfl) ⟨rfl, W_ret ?_⟩)
      refine fin_of (F := f15) rfl (fun _ => rfl) ?_
      simp +decide (disch := first | omega | simp +decide only [List.length_set, hl]) only [sa, simprocAttr]
    · have d2 : decide ((L.length : Int) ≥ 64) = false := decide_eq_false (by omega)
      rw [decide_eq_false (fun e : MemP L => c2 e.1)]
      refine W_seqn (W_region (fun k => by simp +decide (disch := first | omega | simp +decide only [List.length_set, hl]) only [sa, simprocAttr, hps, h0, w0, d1, d2]; rfl) ⟨rfl, W_ret ?_⟩)
      refine fin_of (F := f15) rfl (fun _ => rfl) ?_
      simp +decide (disch := first | omega | simp +decide only [List.length_set, hl]) only [sa, simprocAttr]
  · have d1 : (((L.length % 64 : Nat) : Int) == 0) = false := by simp; omega
    rw [decide_eq_false (fun e : MemP L => c1 e.2.2)]
    refine W_seqn (W_region (fun k => by simp +decide (disch := first | omega | simp +decide only [List.length_set, hl]) only [sa, simprocAttr, hps, h0, w0, d1]; rfl) ⟨rfl, W_ret ?_⟩)
    refine fin_of (F := f15) rfl (fun _ => rfl) ?_
    simp +decide (disch := first | omega | simp +decide only [List.length_set, hl]) only [sa, simprocAttr]
theorem qSND : ap 16 = some f16 := rfl
theorem rSND : f16.pure = true := rfl
theorem sSND : f16.nat = none := rfl
theorem ref_right41 (m : Coh) (hok : Ok m) : ∃ v, E ap 5 [.agg [memT m, cachT m]] v ∧ ∃ b, v = .bool b ∧ (b = true → RightM m) := by
  refine E_bodyV (F := f5) rfl rfl rfl (P := fun v => ∃ b, v = .bool b ∧ (b = true → RightM m)) ?_
  generalize hs0 : (_ : List T) ++ List.replicate _ T.undef = s0
  have e0 : s0.length = 22 ∧ rho s0 (.tmp 0) = .agg [memT m, cachT m] := by subst hs0; exact ⟨rfl, rfl⟩
  clear hs0
  obtain ⟨hl, h0⟩ := e0
  have hleaf : allLeaf [memT m, cachT m] = true := rfl
  have hcut : cut [memT m, cachT m] 0 2 = [memT m, cachT m] := rfl
  have hcc : cachT m = .imm false m.caches.length (m.caches.flatMap Cache.enc) := rfl
  have hmm : memT m = .imm false m.mem.length (m.mem.flatMap u8T) := rfl
  obtain ⟨NM, qM⟩ := (ref_memright false m.mem hok.2.1).call qRMR (fun g => rfl)
  rw [← hmm] at qM
  obtain ⟨v, hS, b, rfl, hb⟩ := ref_sound m hok
  obtain ⟨NS, qS⟩ := hS.call qSND (fun g => rfl)
  have qM := qM (NM + NS) (by omega)
  have qS := qS (NM + NS) (by omega)
  refine W_cut (fun st => st.s.length = 22 ∧ rho st.s (.tmp 1) = .ptr 0 0 ∧ st.g 0 = some [memT m, cachT m]) (W_region (fun k => by simp +decide (disch := first | omega | simp +decide only [List.length_set, hl]) only [sa, simprocAttr, hps, h0, hleaf]; rfl) ⟨rfl, ?_⟩) ?_
  · refine ⟨?_, ?_, ?_⟩ <;> simp +decide (disch := first | omega | simp +decide only [List.length_set, hl]) only [sa, simprocAttr, hps, hl]
  clear hl h0
  rintro st ⟨hl, h1, g0⟩
  by_cases c1 : MemP m.mem
  · rw [decide_eq_true c1] at qM
    by_cases c2 : 1 ≤ m.caches.length
    · have d2 : decide ((m.caches.length : Int) ≥ 1) = true := decide_eq_true (by omega)
      by_cases c3 : m.caches.length ≤ 2
      · have d3 : decide ((m.caches.length : Int) ≤ 2) = true := decide_eq_true (by omega)
        rw [hcc] at g0 hcut qS
        refine W_seqn (W_regionN ⟨NM + NS, by simp +decide (disch := first | omega | simp +decide only [List.length_set, hl]) only [sa, simprocAttr, hps, h1, g0, hcut, d2, d3, qRMR, rRMR, sRMR, qM, qSND, rSND, sSND, qS]; rfl⟩ ⟨rfl, W_ret ?_⟩)
        refine ⟨rfl, fin_bool (F := f5) (b := b) (P := fun b => b = true → RightM m) rfl (fun h => ⟨c1, c2, c3, hb.mp h⟩) ?_⟩
        simp +decide (disch := first | omega | simp +decide only [List.length_set, hl]) only [sa, simprocAttr]
      · have d3 : decide ((m.caches.length : Int) ≤ 2) = false := decide_eq_false (by omega)
        rw [hcc] at g0
        refine W_seqn (W_regionN ⟨NM + NS, by simp +decide (disch := first | omega | simp +decide only [List.length_set, hl]) only [sa, simprocAttr, hps, h1, g0, d2, d3, qRMR, rRMR, sRMR, qM]; rfl⟩ ⟨rfl, W_ret ?_⟩)
        refine ⟨rfl, fin_bool (F := f5) (b := false) (P := fun b => b = true → RightM m) rfl (fun h => by cases h) ?_⟩
        simp +decide (disch := first | omega | simp +decide only [List.length_set, hl]) only [sa, simprocAttr]
    · have d2 : decide ((m.caches.length : Int) ≥ 1) = false := decide_eq_false (by omega)
      rw [hcc] at g0
      refine W_seqn (W_regionN ⟨NM + NS, by simp +decide (disch := first | omega | simp +decide only [List.length_set, hl]) only [sa, simprocAttr, hps, h1, g0, d2, qRMR, rRMR, sRMR, qM]; rfl⟩ ⟨rfl, W_ret ?_⟩)
      refine ⟨rfl, fin_bool (F := f5) (b := false) (P := fun b => b = true → RightM m) rfl (fun h => by cases h) ?_⟩
      simp +decide (disch := first | omega | simp +decide only [List.length_set, hl]) only [sa, simprocAttr]
  · rw [decide_eq_false c1] at qM
    refine W_seqn (W_regionN ⟨NM + NS, by simp +decide (disch := first | omega | simp +decide only [List.length_set, hl]) only [sa, simprocAttr, hps, h1, g0, qRMR, rRMR, sRMR, qM]; rfl⟩ ⟨rfl, W_ret ?_⟩)
    refine ⟨rfl, fin_bool (F := f5) (b := false) (P := fun b => b = true → RightM m) rfl (fun h => by cases h) ?_⟩
    simp +decide (disch := first | omega | simp +decide only [List.length_set, hl]) only [sa, simprocAttr]
theorem qRV40 : ap 21 = some f21 := rfl
theorem rRV40 : f21.pure = true := rfl
theorem sRV40 : f21.nat = none := rfl
theorem ref_view41 (m : Coh) (hok : Ok m) : ∃ v, E ap 9 [.agg [memT m, cachT m]] v ∧ ∃ f, v = .imm f (viewM m).length ((viewM m).flatMap u8T) := by
  obtain ⟨v, hV, f, rfl⟩ := ref_view m hok
  obtain ⟨N, q⟩ := hV.call qRV40 (fun g => rfl)
  have q := q N (Nat.le_refl _)
  refine ⟨_, ?_, f, rfl⟩
  refine E_body (F := f9) rfl rfl rfl ?_
  generalize hs0 : (_ : List T) ++ List.replicate _ T.undef = s0
  have e0 : s0.length = 5 ∧ rho s0 (.tmp 0) = .agg [memT m, cachT m] := by subst hs0; exact ⟨rfl, rfl⟩
  clear hs0
  obtain ⟨hl, h0⟩ := e0
  have hleaf : allLeaf [memT m, cachT m] = true := rfl
  have hcut : cut [memT m, cachT m] 0 2 = [memT m, cachT m] := rfl
  generalize memT m = mt at *
  generalize cachT m = ct at *
  refine W_cut (fun st => st.s.length = 5 ∧ rho st.s (.tmp 1) = .ptr 0 0 ∧ st.g 0 = some [mt, ct]) (W_region (fun k => by simp +decide (disch := first | omega | simp +decide only [List.length_set, hl]) only [sa, simprocAttr, hps, h0, hleaf]; rfl) ⟨rfl, ?_⟩) ?_
  · refine ⟨?_, ?_, ?_⟩ <;> simp +decide (disch := first | omega | simp +decide only [List.length_set, hl]) only [sa, simprocAttr, hps, hl]
  clear hl h0
  rintro st ⟨hl, h1, g0⟩
  refine W_seqn (W_regionN ⟨N, by simp +decide (disch := first | omega | simp +decide only [List.length_set, hl]) only [sa, simprocAttr, hps, h1, g0, hcut, qRV40, rRV40, sRV40, q]; rfl⟩ ⟨rfl, W_ret ?_⟩)
  refine fin_of (F := f9) rfl (fun _ => rfl) ?_
  simp +decide (disch := first | omega | simp +decide only [List.length_set, hl]) only [sa, simprocAttr]
theorem view9_lax {m : Coh} (h : Ok m) {x y : T} (hl : Lax m x y) : ∃ N f, ∀ k, N ≤ k → ∀ g, callPure (ev ap k) f9 [.agg [x, y]] g = some ⟨.imm f (viewM m).length ((viewM m).flatMap u8T), [], []⟩ := by
  obtain ⟨v, hE, f, rfl⟩ := ref_view41 m h
  obtain ⟨v', hE', hu'⟩ := hE.up (lax_args hl _)
  obtain ⟨f', c', rfl, _, hc⟩ := UpT.imm hu'
  have hcc : c' = (viewM m).flatMap u8T := upL_ints hc (u8_ints _)
  rw [hcc] at hE'
  obtain ⟨f1, n1, c1, f2, n2, c2, rfl, rfl⟩ := lax_frz hl
  obtain ⟨N, q⟩ := hE'.call (F := f9) rfl (fun g => rfl)
  exact ⟨N, f', q⟩
end Go.Proofs.Ytabfinhkoihhfaa.Abs
