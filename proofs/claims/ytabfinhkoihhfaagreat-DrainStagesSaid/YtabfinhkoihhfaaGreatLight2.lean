/- Are a core, and memory, not too great? The given functions' walks. -/
import Derived.Test.YtabfinhkoihhfaaGreatCmp5
namespace Go.Proofs.YtabfinhkoihhfaaGreat.Abs
open Go Go.RowKit Fn
set_option linter.unusedVariables false
set_option linter.unusedSimpArgs false
set_option linter.unnecessarySimpa false
set_option maxRecDepth 100000
set_option maxHeartbeats 4000000

theorem qL43 : ap 13 = some f13 := rfl
theorem rL43 : f13.pure = true := rfl
theorem sL43 : f13.nat = none := rfl
def LeS (cs : List T) : Prop := ∀ f n x, cs[107]? = some (.imm f n x) → n ≤ 20
theorem law_light (cs : List T) (hc : CoreC cs) (m : Coh) (hm : m.wf) : ∃ v, E ap 5 [.agg cs, .agg [memT m, cachT m]] v ∧ ∃ b, v = .bool b ∧ (b = true → Ok m ∧ LeS cs) := by
  refine E_bodyV (F := f5) rfl rfl rfl (P := fun v => ∃ b, v = .bool b ∧ (b = true → Ok m ∧ LeS cs)) ?_
  generalize hs0 : (_ : List T) ++ List.replicate _ T.undef = s0
  have e0 : s0.length = 83 ∧ rho s0 (.tmp 0) = .agg cs ∧ rho s0 (.tmp 1) = .agg [memT m, cachT m] := by subst hs0; exact ⟨rfl, rfl, rfl⟩
  clear hs0
  obtain ⟨hl, h0, h1⟩ := e0
  obtain ⟨v, hE, lb, rfl⟩ := light43 cs hc
  obtain ⟨hlen, hst, ⟨f52, n52, x52, c52⟩, _, _, _, ⟨f62, n62, x62, c62⟩, _, _, _, _, _, _, _, ⟨f107, n107, x107, c107⟩, _, ⟨f109, n109, x109, c109⟩⟩ := hc
  obtain ⟨N, q⟩ := hE.call qL43 (fun g => by
    have e1 : frz ⟨g, 0⟩ 12 (.agg cs) = some (.agg cs, []) := still_agg (d := 10) hst
    unfold frzL
    rw [show frzDepth = 12 from rfl]
    simp only [frzAll, e1, List.append_nil])
  have q := q N (Nat.le_refl _)
  have hleaf := still_leaf hst
  have hcc0 : cut cs 0 112 = cs := by unfold cut; rw [List.drop_zero, List.take_of_length_le (by omega)]
  have hleaf2 : allLeaf [memT m, cachT m] = true := rfl
  have hcc : cachT m = .imm false m.caches.length (m.caches.flatMap Cache.enc) := rfl
  have hmm : memT m = .imm false m.mem.length (m.mem.flatMap u8T) := rfl
  refine W_cut (fun t => t.s.length = 83 ∧ rho t.s (.tmp 2) = .ptr 0 0 ∧ rho t.s (.tmp 3) = .ptr 1 0 ∧ t.g 0 = some cs ∧ t.g 1 = some [memT m, cachT m]) (W_region (fun k => by simp +decide (disch := first | omega | simp +decide [hl]) only [s9, simprocAttr, h0, h1, hleaf, hleaf2]; rfl) ⟨rfl, ?_⟩) ?_
  · refine ⟨?_, ?_, ?_, ?_, ?_⟩ <;> simp +decide (disch := first | omega | simp +decide [hl]) only [s9, simprocAttr, hl]
  clear hl h0 h1
  rintro st ⟨hl, h2, h3, g0, g1⟩
  have fin : ∀ (t : St) (b : Bool), rho t.s (.tmp 4) = .bool b → (b = true → Ok m ∧ LeS cs) → AExit.ret.leaves = true ∧ ∃ v, (∃ b, v = .bool b ∧ (b = true → Ok m ∧ LeS cs)) ∧ ∃ u ids, resT t.s t.g f5.res = some u ∧ frz ⟨t.g, t.nx⟩ frzDepth u = some (v, ids) := fun t b h hb => ⟨rfl, .bool b, ⟨b, rfl, hb⟩, .bool b, [], res_one (F := f5) rfl h, rfl⟩
  have bad : ∀ t : St, t.s.length = 83 → W ap (.seq (.region [⟨some 4, .mv (.con (.bool false)), none⟩] []) .ret) t (fun e s => (e = .normal ∧ False) ∨ (e ≠ .normal ∧ (e.leaves = true ∧ ∃ v, (∃ b, v = .bool b ∧ (b = true → Ok m ∧ LeS cs)) ∧ ∃ u ids, resT s.s s.g f5.res = some u ∧ frz ⟨s.g, s.nx⟩ frzDepth u = some (v, ids)))) := by
    intro t hl
    refine W_seqn (W_region (fun k => by simp +decide (disch := first | omega | simp +decide [hl]) only [s9, simprocAttr]; rfl) ⟨rfl, W_ret (.inr ⟨by simp, fin _ false ?_ (fun h => by cases h)⟩)⟩)
    simp +decide (disch := first | omega | simp +decide [hl]) only [s8, simprocAttr]
  cases lb with
  | false =>
    refine W_seq (W_seqn (W_regionN ⟨N, by simp +decide (disch := first | omega | simp +decide [hl]) only [s9, simprocAttr, h2, h3, g0, g1, hlen, hcc0, hcc, hmm, c52, c62, c107, c109, qL43, rL43, sL43, q]; rfl⟩ ⟨rfl, W_tru ((bad _ ?_).mono (fun e s h => h.elim (fun h => h.2.elim) .inr))⟩))
    simp +decide (disch := first | omega | simp +decide [hl]) only [s9, simprocAttr, hl]
  | true =>
    cases d1 : decide ((n52 : Int) > 4096) with
    | true =>
      refine W_seq (W_seqn (W_regionN ⟨N, by simp +decide (disch := first | omega | simp +decide [hl]) only [s9, simprocAttr, h2, h3, g0, g1, hlen, hcc0, hcc, hmm, c52, c62, c107, c109, qL43, rL43, sL43, q, d1]; rfl⟩ ⟨rfl, W_tru ((bad _ ?_).mono (fun e s h => h.elim (fun h => h.2.elim) .inr))⟩))
      simp +decide (disch := first | omega | simp +decide [hl]) only [s9, simprocAttr, hl]
    | false =>
      cases d2 : decide ((n62 : Int) > 20) with
      | true =>
        refine W_seq (W_seqn (W_regionN ⟨N, by simp +decide (disch := first | omega | simp +decide [hl]) only [s9, simprocAttr, h2, h3, g0, g1, hlen, hcc0, hcc, hmm, c52, c62, c107, c109, qL43, rL43, sL43, q, d1, d2]; rfl⟩ ⟨rfl, W_tru ((bad _ ?_).mono (fun e s h => h.elim (fun h => h.2.elim) .inr))⟩))
        simp +decide (disch := first | omega | simp +decide [hl]) only [s9, simprocAttr, hl]
      | false =>
        cases d3 : decide ((n107 : Int) > 20) with
        | true =>
          refine W_seq (W_seqn (W_regionN ⟨N, by simp +decide (disch := first | omega | simp +decide [hl]) only [s9, simprocAttr, h2, h3, g0, g1, hlen, hcc0, hcc, hmm, c52, c62, c107, c109, qL43, rL43, sL43, q, d1, d2, d3]; rfl⟩ ⟨rfl, W_tru ((bad _ ?_).mono (fun e s h => h.elim (fun h => h.2.elim) .inr))⟩))
          simp +decide (disch := first | omega | simp +decide [hl]) only [s9, simprocAttr, hl]
        | false =>
          cases d4 : decide ((n109 : Int) > 40) with
          | true =>
            refine W_seq (W_seqn (W_regionN ⟨N, by simp +decide (disch := first | omega | simp +decide [hl]) only [s9, simprocAttr, h2, h3, g0, g1, hlen, hcc0, hcc, hmm, c52, c62, c107, c109, qL43, rL43, sL43, q, d1, d2, d3, d4]; rfl⟩ ⟨rfl, W_tru ((bad _ ?_).mono (fun e s h => h.elim (fun h => h.2.elim) .inr))⟩))
            simp +decide (disch := first | omega | simp +decide [hl]) only [s9, simprocAttr, hl]
          | false =>
            cases d5 : decide ((m.mem.length : Int) > 4096) with
            | true =>
              refine W_seq (W_seqn (W_regionN ⟨N, by simp +decide (disch := first | omega | simp +decide [hl]) only [s9, simprocAttr, h2, h3, g0, g1, hlen, hcc0, hcc, hmm, c52, c62, c107, c109, qL43, rL43, sL43, q, d1, d2, d3, d4, d5]; rfl⟩ ⟨rfl, W_tru ((bad _ ?_).mono (fun e s h => h.elim (fun h => h.2.elim) .inr))⟩))
              simp +decide (disch := first | omega | simp +decide [hl]) only [s9, simprocAttr, hl]
            | false =>
              cases d6 : decide ((m.caches.length : Int) > 4) with
              | true =>
                refine W_seq (W_seqn (W_regionN ⟨N, by simp +decide (disch := first | omega | simp +decide [hl]) only [s9, simprocAttr, h2, h3, g0, g1, hlen, hcc0, hcc, hmm, c52, c62, c107, c109, qL43, rL43, sL43, q, d1, d2, d3, d4, d5, d6]; rfl⟩ ⟨rfl, W_tru ((bad _ ?_).mono (fun e s h => h.elim (fun h => h.2.elim) .inr))⟩))
                simp +decide (disch := first | omega | simp +decide [hl]) only [s9, simprocAttr, hl]
              | false =>
                refine W_seqn (W_cut (fun t => t.s.length = 83 ∧ rho t.s (.tmp 3) = .ptr 1 0 ∧ t.g 1 = some [memT m, cachT m] ∧ rho t.s (.tmp 45) = .bool false) (W_regionN ⟨N, by simp +decide (disch := first | omega | simp +decide [hl]) only [s9, simprocAttr, h2, h3, g0, g1, hlen, hcc0, hcc, hmm, c52, c62, c107, c109, qL43, rL43, sL43, q, d1, d2, d3, d4, d5, d6]; rfl⟩ ⟨rfl, ?_, ?_, ?_, ?_⟩) ?_)
                case refine_5 =>
                  clear hl h2 h3 g0 g1 q
                  rintro st ⟨hl, h3, g1, h45⟩
                  refine W_false h45 (W_skip ⟨rfl, ?_⟩)
                  refine W_seq (W_seqn (W_region (fun k => by simp +decide (disch := first | omega | simp +decide [hl]) only [s9, simprocAttr]; rfl) ⟨rfl, W_block ?_⟩))
                  refine light_out m hm _ (fun st h4 => ?_) (fun st hl hto => ?_) (m.caches.length - 0) _ ⟨0, ?_, ?_, ?_, ?_, fun k hk => absurd hk (by omega), by omega, rfl⟩
                  · simp only [reduceCtorEq, false_and, false_or, or_false, exists_false, exists_const, ne_eq, not_false_eq_true, true_and, implies_true]
                    exact fin _ false h4 (fun h => by cases h)
                  · refine .inl ⟨rfl, .inl ⟨rfl, ?_⟩⟩
                    refine W_seqn (W_region (fun k => by simp +decide (disch := first | omega | simp +decide [hl]) only [s9, simprocAttr]; rfl) ⟨rfl, W_ret (fin _ true ?_ (fun _ => ⟨⟨hm, by have := of_decide_eq_false d5; omega, by have := of_decide_eq_false d6; omega, fun k hk => ?_⟩, fun f n x h => by rw [c107] at h; injection h with h; injection h with _ h _; have := of_decide_eq_false d3; omega⟩))⟩)
                    · simp +decide (disch := first | omega | simp +decide [hl]) only [s8, simprocAttr]
                    · obtain ⟨h1, h2⟩ := hto k hk
                      exact fit_cache (cacheAt_wf hm k hk) ⟨by omega, fun j hj => by have := h2 j hj; omega⟩
                  all_goals simp +decide (disch := first | omega | simp +decide [hl]) only [s9, simprocAttr, hl, h3, g1]
                  try rfl
                all_goals simp +decide (disch := first | omega | simp +decide [hl]) only [s9, simprocAttr, hl, h2, h3, g0, g1]
end Go.Proofs.YtabfinhkoihhfaaGreat.Abs
