/- A system of right caches behind a whole request. Plain lists, no program. -/
import Derived.Test.YtikeeegkndnnfaaLegal
namespace Go.Proofs.Ytikeeegkndnnfaa.Abs
open Go Go.RowKit Fn
set_option linter.unusedVariables false
set_option linter.unusedSimpArgs false
set_option linter.unnecessarySimpa false
set_option maxRecDepth 100000
set_option maxHeartbeats 4000000

theorem snoop_all {m : Coh} (hok : Ok m) (h : SoundP m) (who kind : Int) (ln : Nat) (hlies : ln * 16 + 16 ≤ m.mem.length) : ∀ k, k ≤ m.caches.length →
    SoundP (snoopN who kind ln m k) ∧ (∀ x d, Says m x d → Says (snoopN who kind ln m k) x d) ∧ (∀ j x, (x ≠ ln ∨ k ≤ j ∨ (j : Int) = who) → stA (snoopN who kind ln m k) j x = stA m j x ∧ daA (snoopN who kind ln m k) j x = daA m j x) ∧ ∀ j, j < k → (j : Int) ≠ who → stA (snoopN who kind ln m k) j ln = if kind = 1 ∧ stA m j ln > 0 then 1 else 0
  | 0, _ => ⟨h, fun _ _ h => h, fun _ _ _ => ⟨rfl, rfl⟩, fun j hj => absurd hj (by omega)⟩
  | k + 1, hk => by
    obtain ⟨i1, i2, i3, i4⟩ := snoop_all hok h who kind ln hlies k (by omega)
    have hsl := snoopN_len who kind ln m k
    have hokk := ok_snoopN hok who kind ln k (by omega)
    have hkk : k < (snoopN who kind ln m k).caches.length := by rw [hsl.1]; omega
    have hdl : (daA (snoopN who kind ln m k) k ln).length = 16 := (wayOf_wf (cacheAt_wf hokk.1 k hkk) ln).2.2.1.1
    obtain ⟨s1, s2, s3, s4, s5⟩ := snoop_step i1 who kind ln (by rw [hsl.2]; exact hlies) k hkk hdl
    refine ⟨s1, fun x d hd => s2 x d (i2 x d hd), fun j x hjx => ?_, fun j hj hjw => ?_⟩
    · by_cases hh : j = k ∧ x = ln
      · obtain ⟨rfl, rfl⟩ := hh
        have hw : (j : Int) = who := by
          rcases hjx with h | h | h
          · exact absurd rfl h
          · omega
          · exact h
        show stA (snoop1 who kind x (snoopN who kind x m j) j) j x = _ ∧ daA (snoop1 who kind x (snoopN who kind x m j) j) j x = _
        rw [s5 hw]
        exact i3 j x (.inr (.inr hw))
      · obtain ⟨a, b⟩ := s3 j x hh
        obtain ⟨c, d⟩ := i3 j x (by
          rcases hjx with h | h | h
          · exact .inl h
          · exact .inr (.inl (by omega))
          · exact .inr (.inr h))
        exact ⟨a.trans c, b.trans d⟩
    · by_cases hjk : j = k
      · subst hjk
        show stA (snoop1 who kind ln (snoopN who kind ln m j) j) j ln = _
        rw [s4 hjw, (i3 j ln (.inr (.inl (Nat.le_refl _)))).1]
      · obtain ⟨a, _⟩ := s3 j ln (fun e => hjk e.1)
        show stA (snoop1 who kind ln (snoopN who kind ln m k) k) j ln = _
        rw [a]
        exact i4 j (by omega) hjw
theorem bytesM_wf' {m : Coh} (hm : m.wf) (ln : Nat) : ∀ y ∈ bytesM m ln, (Lit.int .u8 y).wf = true := fun y hy => hm.1.2 y (List.mem_of_mem_drop (List.mem_of_mem_take hy))
/-- The asker's line is filled in. -/
theorem fill_keep {n : Coh} (hok : Ok n) (h : SoundP n) (w : Nat) (hw : w < n.caches.length) (ln : Nat) (hlies : ln * 16 + 16 ≤ n.mem.length) (s : Int) (hs : 1 ≤ s ∧ s ≤ 3) (h0 : stA n w ln = 0) (hone : s > 1 → ∀ j, j < n.caches.length → j ≠ w → stA n j ln = 0) (hle : ∀ j, j < n.caches.length → j ≠ w → stA n j ln ≤ 1) :
    SoundP (backM (withC n w (fillR (cacheAt n w) ln s (bytesM n ln)).1) (fillR (cacheAt n w) ln s (bytesM n ln)).2) ∧ (∀ x d, Says n x d → Says (backM (withC n w (fillR (cacheAt n w) ln s (bytesM n ln)).1) (fillR (cacheAt n w) ln s (bytesM n ln)).2) x d) ∧ stA (backM (withC n w (fillR (cacheAt n w) ln s (bytesM n ln)).1) (fillR (cacheAt n w) ln s (bytesM n ln)).2) w ln = s := by
  have hcw := cacheAt_wf hok.1 w hw
  obtain ⟨f1, f2, f90003, f90004, f90005⟩ := fill_all hcw (h.1 w hw) ln hs (bytesM n ln)
  have hgw := (fit_fillR (hok.2.2.2 w hw) ln (by have := hok.2.1; omega) s (bytesM n ln) ⟨bytesM_len n ln hlies, bytesM_wf' hok.1 ln⟩).2
  generalize (fillR (cacheAt n w) ln s (bytesM n ln)).1 = R at *
  generalize (fillR (cacheAt n w) ln s (bytesM n ln)).2 = g at *
  have hG : ∀ x : Nat, g.state ≠ 0 ∧ g.tag = (x : Int) → x ≠ ln ∧ stA n w x = g.state ∧ daA n w x = g.data ∧ (wayOf ⟨R⟩ x).state = 0 := fun x hx => by
    obtain ⟨y, hy, ht, e, hz⟩ := f90004 hx.1
    have : y = x := by have := hx.2; rw [ht] at this; omega
    subst this
    exact ⟨hy, by show (wayOf (cacheAt n w) y).state = _; rw [e], by show (wayOf (cacheAt n w) y).data = _; rw [e], hz⟩
  have hcl : (backM (withC n w R) g).caches.length = n.caches.length := by rw [backM_caches]; exact withC_len _ _ _
  have hml : (backM (withC n w R) g).mem.length = n.mem.length := bkM_len _ _
  have hat : ∀ j, cacheAt (backM (withC n w R) g) j = cacheAt (withC n w R) j := fun j => by unfold cacheAt; rw [backM_caches]
  have hS : ∀ (j x : Nat), stA (backM (withC n w R) g) j x = (if j = w then (if x = ln then s else if g.state ≠ 0 ∧ g.tag = (x : Int) then 0 else stA n w x) else stA n j x) := fun j x => by
    have e : stA (backM (withC n w R) g) j x = stA (withC n w R) j x := by unfold stA; rw [hat]
    rw [e, (withC_st n hw R j x).1]
    by_cases hj : j = w
    · rw [if_pos hj, if_pos hj]
      by_cases hx : x = ln
      · rw [if_pos hx, hx]; exact f2
      · rw [if_neg hx]
        by_cases hg : g.state ≠ 0 ∧ g.tag = (x : Int)
        · rw [if_pos hg]; exact (hG x hg).2.2.2
        · rw [if_neg hg]; exact (f90005 x hx hg).1
    · rw [if_neg hj, if_neg hj]
  have hD : ∀ (j x : Nat), ¬ (j = w ∧ g.state ≠ 0 ∧ g.tag = (x : Int)) → daA (backM (withC n w R) g) j x = if j = w ∧ x = ln then bytesM n ln else daA n j x := fun j x hn => by
    have e : daA (backM (withC n w R) g) j x = daA (withC n w R) j x := by unfold daA; rw [hat]
    rw [e, (withC_st n hw R j x).2]
    by_cases hj : j = w
    · rw [if_pos hj]
      by_cases hx : x = ln
      · rw [if_pos ⟨hj, hx⟩, hx]; exact f90003
      · rw [if_neg (fun e => hx e.2), hj]; exact (f90005 x hx (fun hg => hn ⟨hj, hg⟩)).2
    · rw [if_neg hj, if_neg (fun e => hj e.1)]
  have hB : ∀ x : Nat, bytesM (backM (withC n w R) g) x = if g.state = 3 ∧ g.tag = (x : Int) then g.data else bytesM n x := fun x => by
    unfold backM
    by_cases h3 : g.state = 3
    · rw [if_pos h3]
      obtain ⟨y, hy, ht, e, hz⟩ := f90004 (by omega)
      have hsy : stA n w y = 3 := by show (wayOf (cacheAt n w) y).state = _; rw [e]; exact h3
      have hly := (h.2 w hw y (by omega)).1
      rw [ht, Int.toNat_natCast, bytes_put (withC n w R) y g.data hly hgw.2.2.1.1]
      by_cases hx : x = y
      · rw [if_pos hx, if_pos ⟨h3, by rw [hx]⟩]
      · rw [if_neg hx, if_neg (fun e => hx (by have := e.2; omega))]; rfl
    · rw [if_neg h3, if_neg (fun e => h3 e.1)]; rfl
  have hRQ : ∀ j, j < n.caches.length → RQ (cacheAt (backM (withC n w R) g) j) := fun j hj => by
    rw [hat, cacheAt_set n w R j hw]
    by_cases hjw : j = w
    · rw [if_pos hjw]; exact f1
    · rw [if_neg hjw]; exact h.1 j hj
  have hsw : stA (backM (withC n w R) g) w ln = s := by rw [hS, if_pos rfl, if_pos rfl]
  generalize backM (withC n w R) g = m' at *
  refine ⟨⟨fun j hj => hRQ j (by rw [← hcl]; exact hj), fun j hj x hx => ?_⟩, fun x d hd => ?_, hsw⟩
  · rw [hcl] at hj
    by_cases hjw : j = w
    · subst hjw
      rw [hS, if_pos rfl] at hx
      by_cases hxl : x = ln
      · subst hxl
        refine ⟨by rw [hml]; exact hlies, fun _ => ?_, fun h1 i hi hij => ?_⟩
        · rw [hD j x (fun e => (hG x e.2).1 rfl), if_pos ⟨rfl, rfl⟩, hB, if_neg (fun e => (hG x ⟨by omega, e.2⟩).1 rfl)]
        · rw [hcl] at hi
          rw [hS, if_neg hij]
          rw [hsw] at h1
          exact hone h1 i hi hij
      · rw [if_neg hxl] at hx
        have hng : ¬ (g.state ≠ 0 ∧ g.tag = (x : Int)) := fun e => hx (by rw [if_pos e])
        rw [if_neg hng] at hx
        obtain ⟨c1, c2, c3⟩ := h.2 j hj x hx
        have hst : stA m' j x = stA n j x := by rw [hS, if_pos rfl, if_neg hxl, if_neg hng]
        refine ⟨by rw [hml]; exact c1, fun h3 => ?_, fun h1 i hi hij => ?_⟩
        · rw [hst] at h3
          rw [hD j x (fun e => hng e.2), if_neg (fun e => hxl e.2), hB, if_neg (fun e => hng ⟨by omega, e.2⟩)]
          exact c2 h3
        · rw [hcl] at hi
          rw [hst] at h1
          rw [hS, if_neg hij]
          exact c3 h1 i hi hij
    · have hst : stA m' j x = stA n j x := by rw [hS, if_neg hjw]
      rw [hst] at hx
      obtain ⟨c1, c2, c3⟩ := h.2 j hj x hx
      refine ⟨by rw [hml]; exact c1, fun h3 => ?_, fun h1 i hi hij => ?_⟩
      · rw [hst] at h3
        rw [hD j x (fun e => hjw e.1), if_neg (fun e => hjw e.1), hB]
        by_cases hg : g.state = 3 ∧ g.tag = (x : Int)
        · exfalso
          obtain ⟨_, e2, _, _⟩ := hG x ⟨by omega, hg.2⟩
          exact hx ((h.2 w hw x (by omega)).2.2 (by omega) j hj hjw)
        · rw [if_neg hg]; exact c2 h3
      · rw [hcl] at hi
        rw [hst] at h1
        rw [hS]
        by_cases hiw : i = w
        · rw [if_pos hiw]
          by_cases hxl : x = ln
          · have := hle j hj hjw
            rw [hxl] at h1
            omega
          · rw [if_neg hxl]
            split
            · rfl
            · exact c3 h1 w hw (fun e => hjw e.symm)
        · rw [if_neg hiw]; exact c3 h1 i hi hij
  · rcases hd with ⟨i, hi, h3, rfl⟩ | ⟨hno, rfl⟩
    · by_cases hiw : i = w
      · subst hiw
        have hxl : x ≠ ln := fun e => by rw [e] at h3; omega
        by_cases hg : g.state ≠ 0 ∧ g.tag = (x : Int)
        · obtain ⟨_, e2, e3, _⟩ := hG x hg
          refine .inr ⟨fun j hj => ?_, by rw [hB, if_pos ⟨by omega, hg.2⟩, e3]⟩
          rw [hcl] at hj
          rw [hS]
          by_cases hji : j = i
          · rw [if_pos hji, if_neg hxl, if_pos hg]; omega
          · rw [if_neg hji, (h.2 i hi x (by omega)).2.2 (by omega) j hj hji]; omega
        · refine .inl ⟨i, by rw [hcl]; exact hi, by rw [hS, if_pos rfl, if_neg hxl, if_neg hg]; exact h3, ?_⟩
          rw [hD i x (fun e => hg e.2), if_neg (fun e => hxl e.2)]
      · refine .inl ⟨i, by rw [hcl]; exact hi, by rw [hS, if_neg hiw]; exact h3, ?_⟩
        rw [hD i x (fun e => hiw e.1), if_neg (fun e => hiw e.1)]
    · by_cases hxl : x = ln
      · subst hxl
        by_cases hs3 : s = 3
        · refine .inl ⟨w, by rw [hcl]; exact hw, by rw [hsw]; exact hs3, ?_⟩
          rw [hD w x (fun e => (hG x e.2).1 rfl), if_pos ⟨rfl, rfl⟩]
        · refine .inr ⟨fun j hj => ?_, ?_⟩
          · rw [hcl] at hj
            rw [hS]
            by_cases hjw : j = w
            · rw [if_pos hjw, if_pos rfl]; exact hs3
            · rw [if_neg hjw]; exact hno j hj
          · rw [hB, if_neg (fun e => (hG x ⟨by omega, e.2⟩).1 rfl)]
      · refine .inr ⟨fun j hj => ?_, ?_⟩
        · rw [hcl] at hj
          rw [hS]
          by_cases hjw : j = w
          · rw [if_pos hjw, if_neg hxl]
            split
            · omega
            · exact hno w hw
          · rw [if_neg hjw]; exact hno j hj
        · rw [hB, if_neg (fun e => by
            obtain ⟨_, e2, _, _⟩ := hG x ⟨by omega, e.2⟩
            exact hno w hw (by omega))]
end Go.Proofs.Ytikeeegkndnnfaa.Abs
