/- Are a core, and memory, not too great? The given functions' walks. -/
import Derived.Test.YtabfinhkoihhfaaGreatG19
namespace Go.Proofs.YtabfinhkoihhfaaGreat.Abs
open Go Go.RowKit Fn
set_option linter.unusedVariables false
set_option linter.unusedSimpArgs false
set_option linter.unnecessarySimpa false
set_option maxRecDepth 100000
set_option maxHeartbeats 4000000

def liOut : ACode := match f5.body with | .seq _ (.seq _ (.seq (.seq _ (.block _ (.loop c))) _)) => c | _ => .skip
def liIn : ACode := match liOut with | .seq _ (.seq (.block _ (.seq _ (.seq _ (.block _ (.loop c))))) _) => c | _ => .skip
def LightIn (m : Coh) (k n : Nat) : Prop := ∀ s, s < n → (row (cacheAt m k) s).length ≤ 10
def LightTo (m : Coh) (n : Nat) : Prop := ∀ k, k < n → (cacheAt m k).sets.length ≤ 20 ∧ LightIn m k (cacheAt m k).sets.length
theorem light_in (m : Coh) (hm : m.wf) (k : Nat) (hk : k < m.caches.length) (Q : AExit → St → Prop)
    (hQr : ∀ st : St, rho st.s (.tmp 4) = .bool false → Q .ret st) (hQe : ∀ st : St, st.s.length = 83 → rho st.s (.tmp 3) = .ptr 1 0 → st.g 1 = some [memT m, cachT m] → rho st.s (.tmp 5) = .int .i64 (k : Int) → LightIn m k (cacheAt m k).sets.length → Q (.exit 2) st) :
    ∀ (n : Nat) (st : St), (∃ s : Nat, st.s.length = 83 ∧ rho st.s (.tmp 3) = .ptr 1 0 ∧ st.g 1 = some [memT m, cachT m] ∧ rho st.s (.tmp 5) = .int .i64 (k : Int) ∧ rho st.s (.tmp 6) = .int .i64 (s : Int) ∧ LightIn m k s ∧ s ≤ (cacheAt m k).sets.length ∧ n = (cacheAt m k).sets.length - s) → W ap (.loop liIn) st Q := by
  refine W_loop _ ?_
  rintro n st ⟨s, hl, h1, hg, h3, h4, hsm, hs, hn⟩
  have hmx := max_small
  have hcw := cacheAt_wf hm k hk
  have hcm := hcw.1
  have hcl := caches_len m
  have hb : k * 1 + 1 ≤ m.caches.length := by omega
  have hcg := caches_get m k hk
  have hcc : cachT m = .imm false m.caches.length (m.caches.flatMap Cache.enc) := rfl
  have hsc : setsT (cacheAt m k) = .imm false (cacheAt m k).sets.length ((cacheAt m k).sets.flatMap (fun l => [rowT l])) := rfl
  rw [hsc] at hcg
  have hrl := rows_len (cacheAt m k)
  have hrow := rows_get (cacheAt m k) s
  generalize (cacheAt m k).sets.flatMap (fun l => [rowT l]) = rows at *
  generalize m.caches.flatMap Cache.enc = ccs at *
  by_cases hend : s = (cacheAt m k).sets.length
  · have hlt : decide ((s : Int) < ((cacheAt m k).sets.length : Int)) = false := decide_eq_false (by omega)
    refine W_seq (W_seqn (W_region (fun k => by simp +decide only [s8, simprocAttr, hl, h1, hg, h3, h4, hcc, hk, hb, hcl, hcg, hlt]; rfl) ⟨rfl, W_fls (W_exit (.inr ⟨by simp, .inr ⟨by simp, hQe _ ?_ ?_ ?_ ?_ (by rw [← hend]; exact hsm)⟩⟩))⟩)) <;> simp +decide only [s8, simprocAttr, hl, h1, hg, h3, hcc]
  · have hlt : decide ((s : Int) < ((cacheAt m k).sets.length : Int)) = true := decide_eq_true (by omega)
    have hsl : s < (cacheAt m k).sets.length := by omega
    have hrow := hrow hsl
    have hb1 : s * 1 + 1 ≤ (cacheAt m k).sets.length := by omega
    have hw2 : IntKind.i64.wrap ((s : Int) + 1) = ((s + 1 : Nat) : Int) := by rw [wrap_id (by omega)]; omega
    have hrt : rowT (row (cacheAt m k) s) = .imm false (row (cacheAt m k) s).length ((row (cacheAt m k) s).flatMap Way.enc) := rfl
    rw [hrt] at hrow
    generalize (row (cacheAt m k) s).flatMap Way.enc = ws at *
    generalize hwl : (row (cacheAt m k) s).length = wl at *
    refine W_seqn (W_seqn (W_region (fun k => by simp +decide only [s8, simprocAttr, hl, h1, hg, h3, h4, hcc, hk, hb, hcl, hcg, hlt]; rfl) ⟨rfl, W_tru (W_skip ⟨rfl, ?_⟩)⟩))
    cases hbig : decide ((wl : Int) > 10) with
    | true =>
      refine W_seq (W_block ?_)
      refine W_seqn (W_region (fun k => by simp +decide only [s8, simprocAttr, hl, h1, hg, h3, h4, hcc, hk, hb, hcl, hcg, hsl, hb1, hrl, hrow, hbig]; rfl) ⟨rfl, W_tru ?_⟩)
      refine W_seqn (W_region (fun k => by simp +decide only [s8, simprocAttr]; rfl) ⟨rfl, W_ret ?_⟩)
      simp only [reduceCtorEq, false_and, false_or, or_false, exists_false, exists_const, ne_eq, not_false_eq_true, true_and, implies_true]
      refine hQr _ ?_
      simp +decide only [s8, simprocAttr, hl]
    | false =>
      refine W_seqn (W_block ?_)
      refine W_seqn (W_region (fun k => by simp +decide only [s8, simprocAttr, hl, h1, hg, h3, h4, hcc, hk, hb, hcl, hcg, hsl, hb1, hrl, hrow, hbig]; rfl) ⟨rfl, W_fls (W_skip (.inr (.inl ⟨by simp, rfl, ?_⟩)))⟩)
      refine W_region (fun k => by simp +decide only [s8, simprocAttr, hl, h4, hw2]; rfl) (.inl ⟨rfl, (cacheAt m k).sets.length - (s + 1), by omega, s + 1, ?_, ?_, ?_, ?_, ?_, fun s' hs' => by (rcases Nat.lt_succ_iff_lt_or_eq.mp hs' with h | rfl; exact hsm s' h; rw [hwl]; have := of_decide_eq_false hbig; omega), by omega, rfl⟩) <;> simp +decide only [s8, simprocAttr, hl, h1, hg, h3, hcc]
theorem light_out (m : Coh) (hm : m.wf) (Q : AExit → St → Prop)
    (hQr : ∀ st : St, rho st.s (.tmp 4) = .bool false → Q .ret st) (hQe : ∀ st : St, st.s.length = 83 → LightTo m m.caches.length → Q (.exit 0) st) :
    ∀ (n : Nat) (st : St), (∃ k : Nat, st.s.length = 83 ∧ rho st.s (.tmp 3) = .ptr 1 0 ∧ st.g 1 = some [memT m, cachT m] ∧ rho st.s (.tmp 5) = .int .i64 (k : Int) ∧ LightTo m k ∧ k ≤ m.caches.length ∧ n = m.caches.length - k) → W ap (.loop liOut) st Q := by
  refine W_loop _ ?_
  rintro n st ⟨k, hl, h1, hg, h3, hsm, hk, hn⟩
  have hmx := max_small
  have hml := hm.2.1
  have hcc : cachT m = .imm false m.caches.length (m.caches.flatMap Cache.enc) := rfl
  by_cases hend : k = m.caches.length
  · have hlt : decide ((k : Int) < (m.caches.length : Int)) = false := decide_eq_false (by omega)
    refine W_seq (W_seqn (W_region (fun k => by simp +decide only [s8, simprocAttr, hl, h1, hg, h3, hcc, hlt]; rfl) ⟨rfl, W_fls (W_exit (.inr ⟨by simp, .inr ⟨by simp, hQe _ ?_ (by rw [← hend]; exact hsm)⟩⟩))⟩))
    simp +decide only [s8, simprocAttr, hl]
  · have hlt : decide ((k : Int) < (m.caches.length : Int)) = true := decide_eq_true (by omega)
    have hkl : k < m.caches.length := by omega
    have hw2 : IntKind.i64.wrap ((k : Int) + 1) = ((k + 1 : Nat) : Int) := by rw [wrap_id (by omega)]; omega
    have hcl := caches_len m
    have hb : k * 1 + 1 ≤ m.caches.length := by omega
    have hcg := caches_get m k hkl
    have hsc : setsT (cacheAt m k) = .imm false (cacheAt m k).sets.length ((cacheAt m k).sets.flatMap (fun l => [rowT l])) := rfl
    rw [hsc] at hcg
    refine W_seqn (W_seqn (W_region (fun k => by simp +decide only [s8, simprocAttr, hl, h1, hg, h3, hcc, hlt]; rfl) ⟨rfl, W_tru (W_skip ⟨rfl, ?_⟩)⟩))
    cases hbig : decide (((cacheAt m k).sets.length : Int) > 20) with
    | true =>
      refine W_seq (W_block ?_)
      refine W_seq (W_seqn (W_region (fun k => by simp +decide only [s8, simprocAttr, hl, h1, hg, h3, hcc, hkl, hb, hcl, hcg, hbig]; rfl) ⟨rfl, W_tru ?_⟩))
      refine W_seqn (W_region (fun k => by simp +decide only [s8, simprocAttr]; rfl) ⟨rfl, W_ret ?_⟩)
      simp only [reduceCtorEq, false_and, false_or, or_false, exists_false, exists_const, ne_eq, not_false_eq_true, true_and, implies_true]
      refine hQr _ ?_
      simp +decide only [s8, simprocAttr, hl]
    | false =>
      refine W_seq (W_block ?_)
      refine W_seqn (W_seqn (W_region (fun k => by simp +decide only [s8, simprocAttr, hl, h1, hg, h3, hcc, hkl, hb, hcl, hcg, hbig]; rfl) ⟨rfl, W_fls (W_skip ⟨rfl, ?_⟩)⟩))
      refine W_seqn (W_region (fun k => by simp +decide only [s8, simprocAttr]; rfl) ⟨rfl, W_block ?_⟩)
      refine light_in m hm k hkl _ (fun st h2 => ?_) (fun st hl h1 hg h3 hin => ?_) (cacheAt m k).sets.length _ ⟨0, ?_, ?_, ?_, ?_, ?_, fun s hs => absurd hs (by omega), by omega, rfl⟩
      · simp only [reduceCtorEq, false_and, false_or, or_false, exists_false, exists_const, ne_eq, not_false_eq_true, true_and, implies_true]
        exact hQr _ h2
      · refine .inl ⟨rfl, .inr (.inl ⟨by simp, .inl ⟨rfl, ?_⟩⟩)⟩
        refine W_region (fun k => by simp +decide only [s8, simprocAttr, hl, h3, hw2]; rfl) (.inl ⟨rfl, m.caches.length - (k + 1), by omega, k + 1, ?_, ?_, ?_, ?_, fun k' hk' => by (rcases Nat.lt_succ_iff_lt_or_eq.mp hk' with h | rfl; exact hsm k' h; exact ⟨by have := of_decide_eq_false hbig; omega, hin⟩), by omega, rfl⟩) <;> simp +decide only [s8, simprocAttr, hl, h1, hg]
      all_goals simp +decide only [s8, simprocAttr, hl, h1, hg, h3, hcc]
      try rfl
def ImmAt (cs : List T) (i : Nat) : Prop := ∃ f n c, cs[i]? = some (.imm f n c)
def CoreC (cs : List T) : Prop := cs.length = 112 ∧ cs.all still1 = true ∧ ImmAt cs 52 ∧ ImmAt cs 57 ∧ ImmAt cs 58 ∧ ImmAt cs 60 ∧ ImmAt cs 62 ∧ ImmAt cs 64 ∧ ImmAt cs 97 ∧ ImmAt cs 101 ∧ ImmAt cs 103 ∧ ImmAt cs 104 ∧ ImmAt cs 105 ∧ ImmAt cs 106 ∧ ImmAt cs 107 ∧ ImmAt cs 108 ∧ ImmAt cs 109
theorem still_leaf : ∀ {l : List T}, l.all still1 = true → allLeaf l = true
  | [], _ => rfl
  | x :: l, h => by
    rw [List.all_cons, Bool.and_eq_true] at h
    show (x.leaf && allLeaf l) = true
    rw [still_leaf h.2]
    cases x <;> first | rfl | (have := h.1; cases this)
theorem still_frz {h : Hp} {d : Nat} : ∀ {l : List T}, l.all still1 = true → frzAll (frz h (d + 1)) l = some (l, [])
  | [], _ => rfl
  | x :: l, hl => by
    rw [List.all_cons, Bool.and_eq_true] at hl
    have e : frz h (d + 1) x = some (x, []) := by cases x <;> first | rfl | (have := hl.1; cases this)
    simp only [frzAll, e, still_frz hl.2, List.append_nil]
theorem still_agg {h : Hp} {d : Nat} {l : List T} (hl : l.all still1 = true) : frz h (d + 2) (.agg l) = some (.agg l, []) := by
  rw [frz]; simp only [still_frz hl]
theorem light43 (cs : List T) (hc : CoreC cs) : ∃ v, E ap 13 [.agg cs] v ∧ ∃ b, v = .bool b := by
  refine E_bodyV (F := f13) rfl rfl rfl (P := fun v => ∃ b, v = .bool b) ?_
  generalize hs0 : (_ : List T) ++ List.replicate _ T.undef = s0
  have e0 : s0.length = 73 ∧ rho s0 (.tmp 0) = .agg cs := by subst hs0; exact ⟨rfl, rfl⟩
  clear hs0
  obtain ⟨hl, h0⟩ := e0
  obtain ⟨hlen, hst, ⟨f65, n65, x52, c52⟩, ⟨f70, n70, x57, c57⟩, ⟨f87, n87, x58, c58⟩, ⟨f89, n89, x60, c60⟩, ⟨f91, n91, x62, c62⟩, ⟨f93, n93, x64, c64⟩, ⟨f97, n97, x97, c97⟩, ⟨f101, n101, x101, c101⟩, ⟨f103, n103, x103, c103⟩, ⟨f104, n104, x104, c104⟩, ⟨f105, n105, x105, c105⟩, ⟨f106, n106, x106, c106⟩, ⟨f107, n107, x107, c107⟩, ⟨f108, n108, x108, c108⟩, ⟨f109, n109, x109, c109⟩⟩ := hc
  have hleaf := still_leaf hst
  refine W_cut (fun t => t.s.length = 73 ∧ rho t.s (.tmp 1) = .ptr 0 0 ∧ t.g 0 = some cs) (W_region (fun k => by simp +decide (disch := first | omega | simp +decide [hl]) only [s9, simprocAttr, h0, hleaf]; rfl) ⟨rfl, ?_⟩) ?_
  · refine ⟨?_, ?_, ?_⟩ <;> simp +decide (disch := first | omega | simp +decide [hl]) only [s9, simprocAttr, hl]
  clear hl h0
  rintro st ⟨hl, h1, g0⟩
  refine W_seqn ?_
  have fin : ∀ (t : St) (b : Bool), rho t.s (.tmp 2) = .bool b → W ap .ret t (fun e st => e.leaves = true ∧ ∃ v, (∃ b, v = .bool b) ∧ ∃ u ids, resT st.s st.g f13.res = some u ∧ frz ⟨st.g, st.nx⟩ frzDepth u = some (v, ids)) := fun t b h => W_ret ⟨rfl, .bool b, ⟨b, rfl⟩, .bool b, [], res_one (F := f13) rfl h, rfl⟩
  cases d0 : decide ((n103 : Int) ≤ 70) with
  | false =>
    refine W_region (fun k => by simp +decide (disch := first | omega | simp +decide [hl]) only [s9, simprocAttr, h1, g0, hlen, c103, d0]; rfl) ⟨rfl, fin _ false ?_⟩
    simp +decide (disch := first | omega | simp +decide [hl]) only [s9, simprocAttr]
  | true =>
    cases d1 : decide ((n104 : Int) ≤ 40) with
    | false =>
      refine W_region (fun k => by simp +decide (disch := first | omega | simp +decide [hl]) only [s9, simprocAttr, h1, g0, hlen, c103, d0, c104, d1]; rfl) ⟨rfl, fin _ false ?_⟩
      simp +decide (disch := first | omega | simp +decide [hl]) only [s9, simprocAttr]
    | true =>
      cases d2 : decide ((n105 : Int) ≤ 20) with
      | false =>
        refine W_region (fun k => by simp +decide (disch := first | omega | simp +decide [hl]) only [s9, simprocAttr, h1, g0, hlen, c103, d0, c104, d1, c105, d2]; rfl) ⟨rfl, fin _ false ?_⟩
        simp +decide (disch := first | omega | simp +decide [hl]) only [s9, simprocAttr]
      | true =>
        cases d3 : decide ((n106 : Int) ≤ 20) with
        | false =>
          refine W_region (fun k => by simp +decide (disch := first | omega | simp +decide [hl]) only [s9, simprocAttr, h1, g0, hlen, c103, d0, c104, d1, c105, d2, c106, d3]; rfl) ⟨rfl, fin _ false ?_⟩
          simp +decide (disch := first | omega | simp +decide [hl]) only [s9, simprocAttr]
        | true =>
          cases d4 : decide ((n108 : Int) ≤ 70) with
          | false =>
            refine W_region (fun k => by simp +decide (disch := first | omega | simp +decide [hl]) only [s9, simprocAttr, h1, g0, hlen, c103, d0, c104, d1, c105, d2, c106, d3, c108, d4]; rfl) ⟨rfl, fin _ false ?_⟩
            simp +decide (disch := first | omega | simp +decide [hl]) only [s9, simprocAttr]
          | true =>
            cases d5 : decide ((n93 : Int) ≤ 20) with
            | false =>
              refine W_region (fun k => by simp +decide (disch := first | omega | simp +decide [hl]) only [s9, simprocAttr, h1, g0, hlen, c103, d0, c104, d1, c105, d2, c106, d3, c108, d4, c64, d5]; rfl) ⟨rfl, fin _ false ?_⟩
              simp +decide (disch := first | omega | simp +decide [hl]) only [s9, simprocAttr]
            | true =>
              cases d6 : decide ((n97 : Int) ≤ 100) with
              | false =>
                refine W_region (fun k => by simp +decide (disch := first | omega | simp +decide [hl]) only [s9, simprocAttr, h1, g0, hlen, c103, d0, c104, d1, c105, d2, c106, d3, c108, d4, c64, d5, c97, d6]; rfl) ⟨rfl, fin _ false ?_⟩
                simp +decide (disch := first | omega | simp +decide [hl]) only [s9, simprocAttr]
              | true =>
                cases d7 : decide ((n101 : Int) ≤ 100) with
                | false =>
                  refine W_region (fun k => by simp +decide (disch := first | omega | simp +decide [hl]) only [s9, simprocAttr, h1, g0, hlen, c103, d0, c104, d1, c105, d2, c106, d3, c108, d4, c64, d5, c97, d6, c101, d7]; rfl) ⟨rfl, fin _ false ?_⟩
                  simp +decide (disch := first | omega | simp +decide [hl]) only [s9, simprocAttr]
                | true =>
                  cases d8 : decide ((n70 : Int) ≤ 300) with
                  | false =>
                    refine W_region (fun k => by simp +decide (disch := first | omega | simp +decide [hl]) only [s9, simprocAttr, h1, g0, hlen, c103, d0, c104, d1, c105, d2, c106, d3, c108, d4, c64, d5, c97, d6, c101, d7, c57, d8]; rfl) ⟨rfl, fin _ false ?_⟩
                    simp +decide (disch := first | omega | simp +decide [hl]) only [s9, simprocAttr]
                  | true =>
                    cases d9 : decide ((n87 : Int) ≤ 40) with
                    | false =>
                      refine W_region (fun k => by simp +decide (disch := first | omega | simp +decide [hl]) only [s9, simprocAttr, h1, g0, hlen, c103, d0, c104, d1, c105, d2, c106, d3, c108, d4, c64, d5, c97, d6, c101, d7, c57, d8, c58, d9]; rfl) ⟨rfl, fin _ false ?_⟩
                      simp +decide (disch := first | omega | simp +decide [hl]) only [s9, simprocAttr]
                    | true =>
                      refine W_region (fun k => by simp +decide (disch := first | omega | simp +decide [hl]) only [s9, simprocAttr, h1, g0, hlen, c103, d0, c104, d1, c105, d2, c106, d3, c108, d4, c64, d5, c97, d6, c101, d7, c57, d8, c58, d9, c60]; rfl) ⟨rfl, fin _ (decide ((n89 : Int) ≤ 40)) ?_⟩
                      simp +decide (disch := first | omega | simp +decide [hl]) only [s9, simprocAttr]
end Go.Proofs.YtabfinhkoihhfaaGreat.Abs
