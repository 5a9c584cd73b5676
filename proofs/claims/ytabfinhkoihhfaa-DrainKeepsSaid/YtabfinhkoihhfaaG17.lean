/- Words of other seats' texts, as they are used here: Legal2 Legal3 Lgl. -/
import Derived.Test.YtabfinhkoihhfaaG16
namespace Go.Proofs.Ytabfinhkoihhfaa.Abs
open Go Go.RowKit Fn
set_option linter.unusedVariables false
set_option linter.unusedSimpArgs false
set_option linter.unnecessarySimpa false
set_option maxRecDepth 100000
set_option maxHeartbeats 4000000

theorem snoop_all {m : Coh} (hok : Ok m) (h : SoundP m) (who kind : Int) (ln : Nat) (hlies : ln * 16 + 16 ≤ m.mem.length) : ∀ k, k ≤ m.caches.length →
    SoundP (snoopN who kind ln m k) ∧ (∀ x d, Says m x d → Says (snoopN who kind ln m k) x d) ∧ (∀ j x, (x ≠ ln ∨ k ≤ j ∨ (j : Int) = who) → stA (snoopN who kind ln m k) j x = stA m j x ∧ daA (snoopN who kind ln m k) j x = daA m j x) ∧ ∀ j, j < k → (j : Int) ≠ who → stA (snoopN who kind ln m k) j ln = if kind = 1 ∧ stA m j ln > 0 then 1 else 0
  | 0, _ => ⟨h, fun _ _ h => h, fun _ _ _ => ⟨rfl, rfl⟩, fun j hj => absurd hj (by omega)⟩
  | k + 1, hk => by
    obtain ⟨i1, i2, i3, i4⟩ := snoop_all hok h who kind ln hlies k (by omega)
    have hsl := snoopN_len who kind ln m k
    have hokk := ok_snoopN hok who kind ln k (by omega)
    have hkk : k < (snoopN who kind ln m k).caches.length := by rw [hsl.1]; omega
    have hdl : (daA (snoopN who kind ln m k) k ln).length = 16 := (wayOf_wf (cacheAt_wf hokk.1 k hkk) ln).2.2.1.1
    obtain ⟨s1, s2, s3, s4, s5⟩ := snoop_step i1 who kind ln (by rw [hsl.2]; exact hlies) k hkk hdl
    refine ⟨s1, fun x d hd => s2 x d (i2 x d hd), fun j x hjx => ?_, fun j hj hjw => ?_⟩
    · by_cases hh : j = k ∧ x = ln
      · obtain ⟨rfl, rfl⟩ := hh
        have hw : (j : Int) = who := by
          rcases hjx with h | h | h
          · exact absurd rfl h
          · omega
          · exact h
        show stA (snoop1 who kind x (snoopN who kind x m j) j) j x = _ ∧ daA (snoop1 who kind x (snoopN who kind x m j) j) j x = _
        rw [s5 hw]
        exact i3 j x (.inr (.inr hw))
      · obtain ⟨a, b⟩ := s3 j x hh
        obtain ⟨c, d⟩ := i3 j x (by
          rcases hjx with h | h | h
          · exact .inl h
          · exact .inr (.inl (by omega))
          · exact .inr (.inr h))
        exact ⟨a.trans c, b.trans d⟩
    · by_cases hjk : j = k
      · subst hjk
        show stA (snoop1 who kind ln (snoopN who kind ln m j) j) j ln = _
        rw [s4 hjw, (i3 j ln (.inr (.inl (Nat.le_refl _)))).1]
      · obtain ⟨a, _⟩ := s3 j ln (fun e => hjk e.1)
        show stA (snoop1 who kind ln (snoopN who kind ln m k) k) j ln = _
        rw [a]
        exact i4 j (by omega) hjw
theorem bytesM_wf' {m : Coh} (hm : m.wf) (ln : Nat) : ∀ y ∈ bytesM m ln, (Lit.int .u8 y).wf = true := fun y hy => hm.1.2 y (List.mem_of_mem_drop (List.mem_of_mem_take hy))
theorem fill_keep {n : Coh} (hok : Ok n) (h : SoundP n) (w : Nat) (hw : w < n.caches.length) (ln : Nat) (hlies : ln * 16 + 16 ≤ n.mem.length) (s : Int) (hs : 1 ≤ s ∧ s ≤ 3) (h0 : stA n w ln = 0) (hone : s > 1 → ∀ j, j < n.caches.length → j ≠ w → stA n j ln = 0) (hle : ∀ j, j < n.caches.length → j ≠ w → stA n j ln ≤ 1) :
    SoundP (backM (withC n w (fillR (cacheAt n w) ln s (bytesM n ln)).1) (fillR (cacheAt n w) ln s (bytesM n ln)).2) ∧ (∀ x d, Says n x d → Says (backM (withC n w (fillR (cacheAt n w) ln s (bytesM n ln)).1) (fillR (cacheAt n w) ln s (bytesM n ln)).2) x d) ∧ stA (backM (withC n w (fillR (cacheAt n w) ln s (bytesM n ln)).1) (fillR (cacheAt n w) ln s (bytesM n ln)).2) w ln = s := by
  have hcw := cacheAt_wf hok.1 w hw
  obtain ⟨f1, f2, f90003, f90004, f90005⟩ := fill_all hcw (h.1 w hw) ln hs (bytesM n ln)
  have hgw := (fit_fillR (hok.2.2.2 w hw) ln (by have := hok.2.1; omega) s (bytesM n ln) ⟨bytesM_len n ln hlies, bytesM_wf' hok.1 ln⟩).2
  generalize (fillR (cacheAt n w) ln s (bytesM n ln)).1 = R at *
  generalize (fillR (cacheAt n w) ln s (bytesM n ln)).2 = g at *
  have hG : ∀ x : Nat, g.state ≠ 0 ∧ g.tag = (x : Int) → x ≠ ln ∧ stA n w x = g.state ∧ daA n w x = g.data ∧ (wayOf ⟨R⟩ x).state = 0 := fun x hx => by
    obtain ⟨y, hy, ht, e, hz⟩ := f90004 hx.1
    have : y = x := by have := hx.2; rw [ht] at this; omega
    subst this
    exact ⟨hy, by show (wayOf (cacheAt n w) y).state = _; rw [e], by show (wayOf (cacheAt n w) y).data = _; rw [e], hz⟩
  have hcl : (backM (withC n w R) g).caches.length = n.caches.length := by rw [backM_caches]; exact withC_len _ _ _
  have hml : (backM (withC n w R) g).mem.length = n.mem.length := bkM_len _ _
  have hat : ∀ j, cacheAt (backM (withC n w R) g) j = cacheAt (withC n w R) j := fun j => by unfold cacheAt; rw [backM_caches]
  have hS : ∀ (j x : Nat), stA (backM (withC n w R) g) j x = (if j = w then (if x = ln then s else if g.state ≠ 0 ∧ g.tag = (x : Int) then 0 else stA n w x) else stA n j x) := fun j x => by
    have e : stA (backM (withC n w R) g) j x = stA (withC n w R) j x := by unfold stA; rw [hat]
    rw [e, (withC_st n hw R j x).1]
    by_cases hj : j = w
    · rw [if_pos hj, if_pos hj]
      by_cases hx : x = ln
      · rw [if_pos hx, hx]; exact f2
      · rw [if_neg hx]
        by_cases hg : g.state ≠ 0 ∧ g.tag = (x : Int)
        · rw [if_pos hg]; exact (hG x hg).2.2.2
        · rw [if_neg hg]; exact (f90005 x hx hg).1
    · rw [if_neg hj, if_neg hj]
  have hD : ∀ (j x : Nat), ¬ (j = w ∧ g.state ≠ 0 ∧ g.tag = (x : Int)) → daA (backM (withC n w R) g) j x = if j = w ∧ x = ln then bytesM n ln else daA n j x := fun j x hn => by
    have e : daA (backM (withC n w R) g) j x = daA (withC n w R) j x := by unfold daA; rw [hat]
    rw [e, (withC_st n hw R j x).2]
    by_cases hj : j = w
    · rw [if_pos hj]
      by_cases hx : x = ln
      · rw [if_pos ⟨hj, hx⟩, hx]; exact f90003
      · rw [if_neg (fun e => hx e.2), hj]; exact (f90005 x hx (fun hg => hn ⟨hj, hg⟩)).2
    · rw [if_neg hj, if_neg (fun e => hj e.1)]
  have hB : ∀ x : Nat, bytesM (backM (withC n w R) g) x = if g.state = 3 ∧ g.tag = (x : Int) then g.data else bytesM n x := fun x => by
    unfold backM
    by_cases h3 : g.state = 3
    · rw [if_pos h3]
      obtain ⟨y, hy, ht, e, hz⟩ := f90004 (by omega)
      have hsy : stA n w y = 3 := by show (wayOf (cacheAt n w) y).state = _; rw [e]; exact h3
      have hly := (h.2 w hw y (by omega)).1
      rw [ht, Int.toNat_natCast, bytes_put (withC n w R) y g.data hly hgw.2.2.1.1]
      by_cases hx : x = y
      · rw [if_pos hx, if_pos ⟨h3, by rw [hx]⟩]
      · rw [if_neg hx, if_neg (fun e => hx (by have := e.2; omega))]; rfl
    · rw [if_neg h3, if_neg (fun e => h3 e.1)]; rfl
  have hRQ : ∀ j, j < n.caches.length → RQ (cacheAt (backM (withC n w R) g) j) := fun j hj => by
    rw [hat, cacheAt_set n w R j hw]
    by_cases hjw : j = w
    · rw [if_pos hjw]; exact f1
    · rw [if_neg hjw]; exact h.1 j hj
  have hsw : stA (backM (withC n w R) g) w ln = s := by rw [hS, if_pos rfl, if_pos rfl]
  generalize backM (withC n w R) g = m' at *
  refine ⟨⟨fun j hj => hRQ j (by rw [← hcl]; exact hj), fun j hj x hx => ?_⟩, fun x d hd => ?_, hsw⟩
  · rw [hcl] at hj
    by_cases hjw : j = w
    · subst hjw
      rw [hS, if_pos rfl] at hx
      by_cases hxl : x = ln
      · subst hxl
        refine ⟨by rw [hml]; exact hlies, fun _ => ?_, fun h1 i hi hij => ?_⟩
        · rw [hD j x (fun e => (hG x e.2).1 rfl), if_pos ⟨rfl, rfl⟩, hB, if_neg (fun e => (hG x ⟨by omega, e.2⟩).1 rfl)]
        · rw [hcl] at hi
          rw [hS, if_neg hij]
          rw [hsw] at h1
          exact hone h1 i hi hij
      · rw [if_neg hxl] at hx
        have hng : ¬ (g.state ≠ 0 ∧ g.tag = (x : Int)) := fun e => hx (by rw [if_pos e])
        rw [if_neg hng] at hx
        obtain ⟨c1, c2, c3⟩ := h.2 j hj x hx
        have hst : stA m' j x = stA n j x := by rw [hS, if_pos rfl, if_neg hxl, if_neg hng]
        refine ⟨by rw [hml]; exact c1, fun h3 => ?_, fun h1 i hi hij => ?_⟩
        · rw [hst] at h3
          rw [hD j x (fun e => hng e.2), if_neg (fun e => hxl e.2), hB, if_neg (fun e => hng ⟨by omega, e.2⟩)]
          exact c2 h3
        · rw [hcl] at hi
          rw [hst] at h1
          rw [hS, if_neg hij]
          exact c3 h1 i hi hij
    · have hst : stA m' j x = stA n j x := by rw [hS, if_neg hjw]
      rw [hst] at hx
      obtain ⟨c1, c2, c3⟩ := h.2 j hj x hx
      refine ⟨by rw [hml]; exact c1, fun h3 => ?_, fun h1 i hi hij => ?_⟩
      · rw [hst] at h3
        rw [hD j x (fun e => hjw e.1), if_neg (fun e => hjw e.1), hB]
        by_cases hg : g.state = 3 ∧ g.tag = (x : Int)
        · exfalso
          obtain ⟨_, e2, _, _⟩ := hG x ⟨by omega, hg.2⟩
          exact hx ((h.2 w hw x (by omega)).2.2 (by omega) j hj hjw)
        · rw [if_neg hg]; exact c2 h3
      · rw [hcl] at hi
        rw [hst] at h1
        rw [hS]
        by_cases hiw : i = w
        · rw [if_pos hiw]
          by_cases hxl : x = ln
          · have := hle j hj hjw
            rw [hxl] at h1
            omega
          · rw [if_neg hxl]
            split
            · rfl
            · exact c3 h1 w hw (fun e => hjw e.symm)
        · rw [if_neg hiw]; exact c3 h1 i hi hij
  · rcases hd with ⟨i, hi, h3, rfl⟩ | ⟨hno, rfl⟩
    · by_cases hiw : i = w
      · subst hiw
        have hxl : x ≠ ln := fun e => by rw [e] at h3; omega
        by_cases hg : g.state ≠ 0 ∧ g.tag = (x : Int)
        · obtain ⟨_, e2, e3, _⟩ := hG x hg
          refine .inr ⟨fun j hj => ?_, by rw [hB, if_pos ⟨by omega, hg.2⟩, e3]⟩
          rw [hcl] at hj
          rw [hS]
          by_cases hji : j = i
          · rw [if_pos hji, if_neg hxl, if_pos hg]; omega
          · rw [if_neg hji, (h.2 i hi x (by omega)).2.2 (by omega) j hj hji]; omega
        · refine .inl ⟨i, by rw [hcl]; exact hi, by rw [hS, if_pos rfl, if_neg hxl, if_neg hg]; exact h3, ?_⟩
          rw [hD i x (fun e => hg e.2), if_neg (fun e => hxl e.2)]
      · refine .inl ⟨i, by rw [hcl]; exact hi, by rw [hS, if_neg hiw]; exact h3, ?_⟩
        rw [hD i x (fun e => hiw e.1), if_neg (fun e => hiw e.1)]
    · by_cases hxl : x = ln
      · subst hxl
        by_cases hs3 : s = 3
        · refine .inl ⟨w, by rw [hcl]; exact hw, by rw [hsw]; exact hs3, ?_⟩
          rw [hD w x (fun e => (hG x e.2).1 rfl), if_pos ⟨rfl, rfl⟩]
        · refine .inr ⟨fun j hj => ?_, ?_⟩
          · rw [hcl] at hj
            rw [hS]
            by_cases hjw : j = w
            · rw [if_pos hjw, if_pos rfl]; exact hs3
            · rw [if_neg hjw]; exact hno j hj
          · rw [hB, if_neg (fun e => (hG x ⟨by omega, e.2⟩).1 rfl)]
      · refine .inr ⟨fun j hj => ?_, ?_⟩
        · rw [hcl] at hj
          rw [hS]
          by_cases hjw : j = w
          · rw [if_pos hjw, if_neg hxl]
            split
            · omega
            · exact hno w hw
          · rw [if_neg hjw]; exact hno j hj
        · rw [hB, if_neg (fun e => by
            obtain ⟨_, e2, _, _⟩ := hG x ⟨by omega, e.2⟩
            exact hno w hw (by omega))]
theorem own_keep {n : Coh} (hok : Ok n) (h : SoundP n) (w : Nat) (hw : w < n.caches.length) (ln : Nat) (h1 : stA n w ln = 1) (hone : ∀ j, j < n.caches.length → j ≠ w → stA n j ln = 0) :
    SoundP (withC n w (setR (cacheAt n w) ln 3)) ∧ (∀ x d, Says n x d → Says (withC n w (setR (cacheAt n w) ln 3)) x d) ∧ stA (withC n w (setR (cacheAt n w) ln 3)) w ln = 3 := by
  have hs0 : (wayOf (cacheAt n w) ln).state ≠ 0 := by show stA n w ln ≠ 0; omega
  obtain ⟨a1, a2, a3, a4⟩ := set_all (h.1 w hw) ln (st := 3) (by omega) hs0
  obtain ⟨l1, l2, _⟩ := h.2 w hw ln (by omega)
  have hdat := l2 (by omega)
  have hS : ∀ (j x : Nat), stA (withC n w (setR (cacheAt n w) ln 3)) j x = (if j = w ∧ x = ln then 3 else stA n j x) ∧ daA (withC n w (setR (cacheAt n w) ln 3)) j x = daA n j x := fun j x => by
    obtain ⟨b1, b2⟩ := withC_st n hw (setR (cacheAt n w) ln 3) j x
    rw [b1, b2]
    by_cases hj : j = w
    · subst hj
      rw [if_pos rfl, if_pos rfl]
      by_cases hx : x = ln
      · subst hx
        rw [if_pos ⟨rfl, rfl⟩]
        exact ⟨a2, a3 (by omega)⟩
      · rw [if_neg (fun e => hx e.2), a4 x hx]
        exact ⟨rfl, rfl⟩
    · rw [if_neg hj, if_neg hj, if_neg (fun e => hj e.1)]
      exact ⟨rfl, rfl⟩
  have hL := withC_len n w (setR (cacheAt n w) ln 3)
  have hB : ∀ x, bytesM (withC n w (setR (cacheAt n w) ln 3)) x = bytesM n x := fun x => withC_bytes _ _ _ _
  have hM : (withC n w (setR (cacheAt n w) ln 3)).mem.length = n.mem.length := rfl
  have hRQ : ∀ j, j < n.caches.length → RQ (cacheAt (withC n w (setR (cacheAt n w) ln 3)) j) := fun j hj => by
    rw [cacheAt_set n w _ j hw]
    by_cases hjw : j = w
    · rw [if_pos hjw]; exact a1
    · rw [if_neg hjw]; exact h.1 j hj
  generalize withC n w (setR (cacheAt n w) ln 3) = m' at *
  refine ⟨⟨fun j hj => hRQ j (by rw [← hL]; exact hj), fun j hj x hx => ?_⟩, fun x d hd => ?_, by rw [(hS w ln).1, if_pos ⟨rfl, rfl⟩]⟩
  · rw [hL] at hj
    rw [(hS j x).1] at hx
    by_cases hjx : j = w ∧ x = ln
    · obtain ⟨rfl, rfl⟩ := hjx
      refine ⟨by rw [hM]; exact l1, fun h3 => absurd (by rw [(hS j x).1, if_pos ⟨rfl, rfl⟩]) h3, fun _ i hi hij => ?_⟩
      rw [hL] at hi
      rw [(hS i x).1, if_neg (fun e => hij e.1)]
      exact hone i hi hij
    · rw [if_neg hjx] at hx
      obtain ⟨c1, c2, c3⟩ := h.2 j hj x hx
      refine ⟨by rw [hM]; exact c1, fun h3 => ?_, fun hgt i hi hij => ?_⟩
      · rw [(hS j x).1, if_neg hjx] at h3
        rw [(hS j x).2, hB]; exact c2 h3
      · rw [hL] at hi
        rw [(hS j x).1, if_neg hjx] at hgt
        have := c3 hgt i hi hij
        by_cases hix : i = w ∧ x = ln
        · rw [hix.1, hix.2] at this; omega
        · rw [(hS i x).1, if_neg hix]; exact this
  · rcases hd with ⟨i, hi, h3, rfl⟩ | ⟨hno, rfl⟩
    · have hix : ¬ (i = w ∧ x = ln) := fun e => by rw [e.1, e.2] at h3; omega
      exact .inl ⟨i, by rw [hL]; exact hi, by rw [(hS i x).1, if_neg hix]; exact h3, (hS i x).2.symm⟩
    · by_cases hx : x = ln
      · subst hx
        exact .inl ⟨w, by rw [hL]; exact hw, by rw [(hS w x).1, if_pos ⟨rfl, rfl⟩], by rw [(hS w x).2]; exact hdat.symm⟩
      · refine .inr ⟨fun j hj => ?_, (hB x).symm⟩
        rw [hL] at hj
        rw [(hS j x).1, if_neg (fun e => hx e.2)]
        exact hno j hj
theorem stateOf_is (m : Coh) (j : Nat) (hj : j < m.caches.length) (ln : Nat) : stateOf m (j : Int) ln = stA m j ln := by
  unfold stateOf
  rw [if_pos (show has m (j : Int) from ⟨by omega, by omega⟩), Int.toNat_natCast]; rfl
theorem shared_no (m : Coh) (who : Int) (ln : Nat) : ∀ n k, k + n ≤ m.caches.length → sharedN m who ln k n = false → ∀ j, k ≤ j → j < k + n → (j : Int) ≠ who → stA m j ln = 0
  | 0, k, _, _, j, h1, h2, _ => by omega
  | n + 1, k, hk, h, j, h1, h2, hw => by
    unfold sharedN at h
    split at h
    · cases h
    · rename_i hc
      by_cases hjk : j = k
      · subst hjk
        rw [← stateOf_is m j (by omega) ln]
        refine Classical.byContradiction fun hs => hc ?_
        have e1 : ((j : Int) != who) = true := by simpa using hw
        have e2 : (stateOf m (j : Int) ln != 0) = true := by simpa using hs
        rw [e1, e2]; rfl
      · exact shared_no m who ln n (k + 1) (by omega) h j (by omega) (by omega) hw
theorem legal_do {m : Coh} (hok : Ok m) (h : SoundP m) (w : Nat) (hw : w < m.caches.length) (ln : Nat) (hlies : ln * 16 + 16 ≤ m.mem.length) (a : Int) (ha : a = 1 ∨ a = 2) :
    SoundP (doM m (w : Int) (askv (stA m w ln) a) ln) ∧ (∀ x d, Says m x d → Says (doM m (w : Int) (askv (stA m w ln) a) ln) x d) ∧ stA (doM m (w : Int) (askv (stA m w ln) a) ln) w ln ≠ 0 ∧ (a = 2 → stA (doM m (w : Int) (askv (stA m w ln) a) ln) w ln = 2 ∨ stA (doM m (w : Int) (askv (stA m w ln) a) ln) w ln = 3) := by
  have hrg : 0 ≤ stA m w ln ∧ stA m w ln ≤ 3 := rq_range (h.1 w hw) ln
  obtain ⟨K, hK⟩ : ∃ K, K = askv (stA m w ln) a := ⟨_, rfl⟩
  have hKv : K = if a = 1 then (if stA m w ln = 0 then 1 else 0) else (if stA m w ln = 0 then 2 else if stA m w ln = 1 then 3 else 0) := by
    rw [hK]
    unfold askv
    rw [stv_id hrg]
    rcases ha with rfl | rfl <;> rfl
  rw [← hK]
  by_cases hk0 : K = 0
  · have e : doM m (w : Int) K ln = m := if_neg (fun hg => by have := hg.2.1.1; omega)
    rw [e]
    refine ⟨h, fun _ _ hd => hd, fun e0 => ?_, fun h2 => ?_⟩
    · rw [e0] at hKv
      rcases ha with rfl | rfl <;> simp at hKv <;> omega
    · subst h2
      rw [hk0] at hKv
      simp at hKv
      by_cases e0 : stA m w ln = 0
      · simp [e0] at hKv
      · by_cases e1 : stA m w ln = 1
        · simp [e1] at hKv
        · omega
  have hkr : K = 1 ∨ K = 2 ∨ K = 3 := by
    rw [hKv] at hk0 ⊢
    rcases ha with rfl | rfl
    · simp at hk0 ⊢; simp [hk0]
    · by_cases e0 : stA m w ln = 0
      · simp [e0]
      · by_cases e1 : stA m w ln = 1
        · simp [e1]
        · simp [e0, e1] at hk0
  have hst0 : K ≠ 3 → stA m w ln = 0 := fun h3 => by
    rw [hKv] at h3 hk0
    rcases ha with rfl | rfl
    · simp at hk0; exact hk0
    · by_cases e0 : stA m w ln = 0
      · exact e0
      · by_cases e1 : stA m w ln = 1
        · simp [e1] at h3
        · simp [e0, e1] at hk0
  have hst1 : K = 3 → stA m w ln = 1 := fun h3 => by
    rw [hKv] at h3
    rcases ha with rfl | rfl
    · by_cases e0 : stA m w ln = 0 <;> simp [e0] at h3
    · by_cases e0 : stA m w ln = 0
      · simp [e0] at h3
      · by_cases e1 : stA m w ln = 1
        · exact e1
        · simp [e0, e1] at h3
  have ha2 : a = 2 → K ≠ 1 := fun e h1 => by
    rw [hKv, e] at h1
    by_cases e0 : stA m w ln = 0
    · simp [e0] at h1
    · by_cases e1 : stA m w ln = 1 <;> simp [e0, e1] at h1
  have hdm : doM m (w : Int) K ln = doGot (snoopN (w : Int) K ln m m.caches.length) (w : Int) K ln := if_pos ⟨⟨by omega, by omega⟩, ⟨by omega, by omega⟩, hlies⟩
  rw [hdm]
  obtain ⟨s1, s2, s3, s4⟩ := snoop_all hok h (w : Int) K ln hlies m.caches.length (Nat.le_refl _)
  have hsl := snoopN_len (w : Int) K ln m m.caches.length
  have hokn := ok_snoopN hok (w : Int) K ln m.caches.length (Nat.le_refl _)
  have hwst := (s3 w ln (.inr (.inr rfl))).1
  have hwda := (s3 w ln (.inr (.inr rfl))).2
  generalize snoopN (w : Int) K ln m m.caches.length = n at *
  have hwn : w < n.caches.length := by rw [hsl.1]; exact hw
  have hln : ln * 16 + 16 ≤ n.mem.length := by rw [hsl.2]; exact hlies
  have hoth : ∀ j, j < n.caches.length → j ≠ w → stA n j ln = if K = 1 ∧ stA m j ln > 0 then 1 else 0 := fun j hj hjw => s4 j (by rw [← hsl.1]; exact hj) (by omega)
  have hwo : wayOf (cacheAt n w) ln = wayOf (cacheAt n w) ln := rfl
  by_cases hk3 : K = 3
  · have hs1 : stA n w ln = 1 := by rw [hwst]; exact hst1 hk3
    have hcond : K = 3 ∧ (wayOf (cacheAt n w) ln).state ≠ 0 := ⟨hk3, by show stA n w ln ≠ 0; omega⟩
    have e : doGot n (w : Int) K ln = withC n w (setR (cacheAt n w) ln 3) := by
      unfold doGot
      rw [Int.toNat_natCast, if_pos hcond]
      have : gotv K (sharedN n (w : Int) ln 0 n.caches.length) = 3 := by unfold gotv; rw [if_neg (by omega)]
      rw [this]
    rw [e]
    obtain ⟨k1, k2, k3⟩ := own_keep hokn s1 w hwn ln hs1 (fun j hj hjw => by rw [hoth j hj hjw, if_neg (fun e => by omega)])
    exact ⟨k1, fun x d hd => k2 x d (s2 x d hd), by rw [k3]; omega, fun _ => .inr k3⟩
  · have hs0 : stA n w ln = 0 := by rw [hwst]; exact hst0 hk3
    have hcond : ¬ (K = 3 ∧ (wayOf (cacheAt n w) ln).state ≠ 0) := fun e => hk3 e.1
    obtain ⟨s, hs⟩ : ∃ s, s = gotv K (sharedN n (w : Int) ln 0 n.caches.length) := ⟨_, rfl⟩
    have e : doGot n (w : Int) K ln = backM (withC n w (fillR (cacheAt n w) ln s (bytesM n ln)).1) (fillR (cacheAt n w) ln s (bytesM n ln)).2 := by
      unfold doGot
      rw [Int.toNat_natCast, if_neg hcond, hs]
    rw [e]
    have hsr : 1 ≤ s ∧ s ≤ 3 := by rw [hs]; exact gotv_rng _ _
    have hle : ∀ j, j < n.caches.length → j ≠ w → stA n j ln ≤ 1 := fun j hj hjw => by rw [hoth j hj hjw]; split <;> omega
    have hone : s > 1 → ∀ j, j < n.caches.length → j ≠ w → stA n j ln = 0 := fun hgt j hj hjw => by
      by_cases hk1 : K = 1
      · cases hsh : sharedN n (w : Int) ln 0 n.caches.length with
        | true =>
          exfalso
          rw [hs, hsh, hk1] at hgt
          have : gotv 1 true = 1 := rfl
          omega
        | false => exact shared_no n (w : Int) ln n.caches.length 0 (by omega) hsh j (by omega) (by omega) (by omega)
      · rw [hoth j hj hjw, if_neg (fun e => hk1 e.1)]
    obtain ⟨k1, k2, k3⟩ := fill_keep hokn s1 w hwn ln hln s hsr hs0 hone hle
    refine ⟨k1, fun x d hd => k2 x d (s2 x d hd), by rw [k3]; omega, fun h2 => .inr ?_⟩
    rw [k3, hs]
    unfold gotv
    rw [if_neg (ha2 h2)]
def at0 (L : List Int) (i : Nat) : Int := (L[i]?).getD 0
def posN (L : List Int) : Nat → Nat
  | 0 => 0
  | i + 1 => posN L i + if at0 L i > 0 then 1 else 0
def aloneN (L : List Int) : Nat → Bool
  | 0 => false
  | i + 1 => aloneN L i || decide (at0 L i > 1)
def rngN (L : List Int) (n : Nat) : Prop := ∀ i, i < n → 0 ≤ at0 L i ∧ at0 L i ≤ 3
def LegalP (L : List Int) : Prop := rngN L L.length ∧ (aloneN L L.length = false ∨ posN L L.length = 1)
theorem posN_le (L : List Int) : ∀ n, posN L n ≤ n
  | 0 => Nat.le_refl _
  | n + 1 => by have := posN_le L n; rw [posN]; split <;> omega
def lgT (L : List Int) : List T := L.map (T.int .i64)
theorem lgT_get (L : List Int) (i : Nat) (h : i < L.length) : (lgT L)[i * 1]? = some (.int .i64 (at0 L i)) := by
  rw [Nat.mul_one]; unfold lgT at0; rw [List.getElem?_map, List.getElem?_eq_getElem h]; rfl
def lgLoop : ACode := match f27.body with | .seq _ (.seq _ (.seq (.seq _ (.block _ (.loop c))) _)) => c | _ => .skip
theorem lg_loop (L : List Int) (hL : L.length ≤ 1000) (f : Bool) (Q : AExit → St → Prop)
    (hQr : ∀ st : St, rho st.s (.tmp 2) = .bool false → ¬ rngN L L.length → Q .ret st) (hQe : ∀ st : St, st.s.length = 42 → rho st.s (.tmp 3) = .int .i64 (posN L L.length : Int) → rho st.s (.tmp 4) = .bool (aloneN L L.length) → rngN L L.length → Q (.exit 0) st) :
    ∀ (m : Nat) (st : St), (∃ i : Nat, st.s.length = 42 ∧ rho st.s (.tmp 0) = .imm f L.length (lgT L) ∧ rho st.s (.tmp 3) = .int .i64 (posN L i : Int) ∧ rho st.s (.tmp 4) = .bool (aloneN L i) ∧ rho st.s (.tmp 5) = .int .i64 (i : Int) ∧ rngN L i ∧ i ≤ L.length ∧ m = L.length - i) → W ap (.loop lgLoop) st Q := by
  refine W_loop _ ?_
  rintro m st ⟨i, hl, h0, h3, h4, h5, hr, hi, hm⟩
  by_cases hend : i = L.length
  · subst hend
    have hlt : decide ((L.length : Int) < (L.length : Int)) = false := decide_eq_false (by omega)
    refine W_seq (W_seqn (W_region (fun k => by simp +decide (disch := first | omega | simp +decide only [List.length_set, hl]) only [sa, simprocAttr, h0, h5, hlt]; rfl) ⟨rfl, W_fls (W_exit (.inr ⟨by simp, .inr ⟨by simp, hQe _ ?_ ?_ ?_ hr⟩⟩))⟩)) <;> simp +decide (disch := first | omega | simp +decide only [List.length_set, hl]) only [sa, simprocAttr, hl, h3, h4]
  have hlt : decide ((i : Int) < (L.length : Int)) = true := decide_eq_true (by omega)
  have hil : i < L.length := by omega
  have hw : IntKind.i64.wrap ((i : Int) + 1) = ((i + 1 : Nat) : Int) := by rw [wrap_id (by omega)]; omega
  have hpl := posN_le L i
  have hw3 : IntKind.i64.wrap ((posN L i : Int) + 1) = ((posN L i + 1 : Nat) : Int) := by rw [wrap_id (by omega)]; omega
  have hcl : (lgT L).length = L.length := by unfold lgT; rw [List.length_map]
  have hg := lgT_get L i hil
  have hb : i * 1 + 1 ≤ L.length := by omega
  have hp1 : posN L (i + 1) = posN L i + if at0 L i > 0 then 1 else 0 := rfl
  have ha1 : aloneN L (i + 1) = (aloneN L i || decide (at0 L i > 1)) := rfl
  have hrn : (0 ≤ at0 L i ∧ at0 L i ≤ 3) → rngN L (i + 1) := fun h j hj => by
    by_cases hji : j = i
    · subst hji; exact h
    · exact hr j (by omega)
  have hrx : rngN L L.length → 0 ≤ at0 L i ∧ at0 L i ≤ 3 := fun h => h i hil
  generalize at0 L i = x at *
  generalize lgT L = cs at *
  refine W_seqn (W_seqn (W_region (fun k => by simp +decide (disch := first | omega | simp +decide only [List.length_set, hl]) only [sa, simprocAttr, h0, h5, hlt]; rfl) ⟨rfl, W_tru (W_skip ⟨rfl, ?_⟩)⟩))
  refine W_seq (W_block ?_)
  by_cases hx : 0 ≤ x ∧ x ≤ 3
  · have d1 : decide (x < 0) = false := decide_eq_false (by omega)
    have d2 : decide (x > 3) = false := decide_eq_false (by omega)
    refine W_cut (fun s => s.s.length = 42 ∧ rho s.s (.tmp 0) = .imm f L.length cs ∧ rho s.s (.tmp 3) = .int .i64 (posN L i : Int) ∧ rho s.s (.tmp 4) = .bool (aloneN L i) ∧ rho s.s (.tmp 5) = .int .i64 (i : Int)) (W_seqn (W_region (fun k => by simp +decide (disch := first | omega | simp +decide only [List.length_set, hl]) only [sa, simprocAttr, h0, h5, hil, hcl, hb, hg, d1, d2]; rfl) ⟨rfl, W_fls (W_skip ⟨rfl, ?_⟩)⟩)) ?_
    · refine ⟨?_, ?_, ?_, ?_, ?_⟩ <;> simp +decide (disch := first | omega | simp +decide only [List.length_set, hl]) only [sa, simprocAttr, hl, h0, h3, h4, h5]
    rintro st ⟨hl, h0, h3, h4, h5⟩
    refine W_cut (fun s => s.s.length = 42 ∧ rho s.s (.tmp 0) = .imm f L.length cs ∧ rho s.s (.tmp 3) = .int .i64 (posN L (i + 1) : Int) ∧ rho s.s (.tmp 4) = .bool (aloneN L i) ∧ rho s.s (.tmp 5) = .int .i64 (i : Int)) ?_ ?_
    · by_cases hx0 : x > 0
      · have d3 : decide (x > 0) = true := decide_eq_true hx0
        rw [if_pos hx0] at hp1
        rw [hp1]
        refine W_seqn (W_region (fun k => by simp +decide (disch := first | omega | simp +decide only [List.length_set, hl]) only [sa, simprocAttr, h0, h5, hil, hcl, hb, hg, d3]; rfl) ⟨rfl, W_tru (W_region (fun k => by simp +decide (disch := first | omega | simp +decide only [List.length_set, hl]) only [sa, simprocAttr, h3, hw3]; rfl) ⟨rfl, ?_⟩)⟩)
        refine ⟨?_, ?_, ?_, ?_, ?_⟩ <;> simp +decide (disch := first | omega | simp +decide only [List.length_set, hl]) only [sa, simprocAttr, hl, h0, h3, h4, h5]
      · have d3 : decide (x > 0) = false := decide_eq_false hx0
        rw [if_neg hx0] at hp1
        rw [hp1]
        refine W_seqn (W_region (fun k => by simp +decide (disch := first | omega | simp +decide only [List.length_set, hl]) only [sa, simprocAttr, h0, h5, hil, hcl, hb, hg, d3]; rfl) ⟨rfl, W_fls (W_skip ⟨rfl, ?_⟩)⟩)
        refine ⟨?_, ?_, ?_, ?_, ?_⟩ <;> simp +decide (disch := first | omega | simp +decide only [List.length_set, hl]) only [sa, simprocAttr, hl, h0, h3, h4, h5]
    rintro st ⟨hl, h0, h3, h4, h5⟩
    refine W_abs (fun s => s.s.length = 42 ∧ rho s.s (.tmp 0) = .imm f L.length cs ∧ rho s.s (.tmp 3) = .int .i64 (posN L (i + 1) : Int) ∧ rho s.s (.tmp 4) = .bool (aloneN L i) ∧ rho s.s (.tmp 5) = .int .i64 (i : Int)) ⟨hl, h0, h3, h4, h5⟩ ?_
    rintro st ⟨hl, h0, h3, h4, h5⟩
    by_cases hx1 : x > 1
    · have d3 : decide (x > 1) = true := decide_eq_true hx1
      rw [d3, Bool.or_true] at ha1
      refine W_seqn (W_region (fun k => by simp +decide (disch := first | omega | simp +decide only [List.length_set, hl]) only [sa, simprocAttr, h0, h5, hil, hcl, hb, hg, d3]; rfl) ⟨rfl, W_tru (W_region (fun k => by simp +decide (disch := first | omega | simp +decide only [List.length_set, hl]) only [sa, simprocAttr]; rfl) (.inr (.inl ⟨by simp, .inl ⟨rfl, ?_⟩⟩)))⟩)
      refine W_region (fun k => by simp +decide (disch := first | omega | simp +decide only [List.length_set, hl]) only [sa, simprocAttr, h5, hw]; rfl) (.inl ⟨rfl, L.length - (i + 1), by omega, i + 1, ?_, ?_, ?_, ?_, ?_, hrn hx, by omega, rfl⟩) <;> simp +decide (disch := first | omega | simp +decide only [List.length_set, hl]) only [sa, simprocAttr, hl, h0, h3, h4, h5, ha1]
    · have d3 : decide (x > 1) = false := decide_eq_false hx1
      rw [d3, Bool.or_false] at ha1
      refine W_seqn (W_region (fun k => by simp +decide (disch := first | omega | simp +decide only [List.length_set, hl]) only [sa, simprocAttr, h0, h5, hil, hcl, hb, hg, d3]; rfl) ⟨rfl, W_fls (W_skip (.inr (.inl ⟨by simp, .inl ⟨rfl, ?_⟩⟩)))⟩)
      refine W_region (fun k => by simp +decide (disch := first | omega | simp +decide only [List.length_set, hl]) only [sa, simprocAttr, h5, hw]; rfl) (.inl ⟨rfl, L.length - (i + 1), by omega, i + 1, ?_, ?_, ?_, ?_, ?_, hrn hx, by omega, rfl⟩) <;> simp +decide (disch := first | omega | simp +decide only [List.length_set, hl]) only [sa, simprocAttr, hl, h0, h3, h4, h5, ha1]
  · by_cases hx0 : x < 0
    · have d1 : decide (x < 0) = true := decide_eq_true hx0
      refine W_seq (W_seqn (W_region (fun k => by simp +decide (disch := first | omega | simp +decide only [List.length_set, hl]) only [sa, simprocAttr, h0, h5, hil, hcl, hb, hg, d1]; rfl) ⟨rfl, W_tru ?_⟩))
      refine W_seqn (W_region (fun k => by simp +decide (disch := first | omega | simp +decide only [List.length_set, hl]) only [sa, simprocAttr]; rfl) ⟨rfl, W_ret ?_⟩)
      simp only [reduceCtorEq, false_and, false_or, or_false, exists_false, exists_const, ne_eq, not_false_eq_true, true_and, implies_true]
      refine hQr _ ?_ (fun h => hx (hrx h))
      simp +decide (disch := first | omega | simp +decide only [List.length_set, hl]) only [sa, simprocAttr]
    · have d1 : decide (x < 0) = false := decide_eq_false hx0
      have d2 : decide (x > 3) = true := decide_eq_true (by omega)
      refine W_seq (W_seqn (W_region (fun k => by simp +decide (disch := first | omega | simp +decide only [List.length_set, hl]) only [sa, simprocAttr, h0, h5, hil, hcl, hb, hg, d1, d2]; rfl) ⟨rfl, W_tru ?_⟩))
      refine W_seqn (W_region (fun k => by simp +decide (disch := first | omega | simp +decide only [List.length_set, hl]) only [sa, simprocAttr]; rfl) ⟨rfl, W_ret ?_⟩)
      simp only [reduceCtorEq, false_and, false_or, or_false, exists_false, exists_const, ne_eq, not_false_eq_true, true_and, implies_true]
      refine hQr _ ?_ (fun h => hx (hrx h))
      simp +decide (disch := first | omega | simp +decide only [List.length_set, hl]) only [sa, simprocAttr]
theorem ref_legal (L : List Int) (hL : L.length ≤ 1000) (f : Bool) : ∃ v, E ap 27 [.imm f L.length (lgT L)] v ∧ ∃ b, v = .bool b ∧ (b = true ↔ LegalP L) := by
  refine E_bodyV (F := f27) rfl rfl rfl (P := fun v => ∃ b, v = .bool b ∧ (b = true ↔ LegalP L)) ?_
  generalize hs0 : (_ : List T) ++ List.replicate _ T.undef = s0
  have e0 : s0.length = 42 ∧ rho s0 (.tmp 0) = .imm f L.length (lgT L) := by subst hs0; exact ⟨rfl, rfl⟩
  clear hs0
  obtain ⟨hl, h0⟩ := e0
  refine W_seqn (W_region (fun k => by simp +decide (disch := first | omega | simp +decide only [List.length_set, hl]) only [sa, simprocAttr]; rfl) ⟨rfl, ?_⟩)
  refine W_seqn (W_region (fun k => by simp +decide (disch := first | omega | simp +decide only [List.length_set, hl]) only [sa, simprocAttr]; rfl) ⟨rfl, ?_⟩)
  refine W_seq (W_seqn (W_region (fun k => by simp +decide (disch := first | omega | simp +decide only [List.length_set, hl]) only [sa, simprocAttr]; rfl) ⟨rfl, W_block ?_⟩))
  refine lg_loop L hL f _ (fun st h2 hno => ?_) (fun st hl h3 h4 hr => ?_) (L.length - 0) _ ⟨0, ?_, ?_, ?_, ?_, ?_, fun j hj => absurd hj (by omega), by omega, rfl⟩
  · simp only [reduceCtorEq, false_and, false_or, or_false, exists_false, exists_const, ne_eq, not_false_eq_true, true_and, implies_true]
    exact ⟨rfl, fin_bool (F := f27) (b := false) (P := fun b => b = true ↔ LegalP L) rfl (bfalse (fun h => hno h.1)) h2⟩
  · refine .inl ⟨rfl, .inl ⟨rfl, ?_⟩⟩
    have hdef : LegalP L = (rngN L L.length ∧ (aloneN L L.length = false ∨ posN L L.length = 1)) := rfl
    cases ha : aloneN L L.length with
    | false =>
      rw [ha] at h4
      refine W_seqn (W_region (fun k => by simp +decide (disch := first | omega | simp +decide only [List.length_set, hl]) only [sa, simprocAttr, h3, h4]; rfl) ⟨rfl, W_ret ?_⟩)
      refine ⟨rfl, fin_bool (F := f27) (b := true) (P := fun b => b = true ↔ LegalP L) rfl (btrue ⟨hr, .inl ha⟩) ?_⟩
      simp +decide (disch := first | omega | simp +decide only [List.length_set, hl]) only [sa, simprocAttr]
    | true =>
      rw [ha] at h4
      by_cases hp : posN L L.length = 1
      · have e1 : ((posN L L.length : Int) == 1) = true := by rw [hp]; rfl
        refine W_seqn (W_region (fun k => by simp +decide (disch := first | omega | simp +decide only [List.length_set, hl]) only [sa, simprocAttr, h3, h4, e1]; rfl) ⟨rfl, W_ret ?_⟩)
        refine ⟨rfl, fin_bool (F := f27) (b := true) (P := fun b => b = true ↔ LegalP L) rfl (btrue ⟨hr, .inr hp⟩) ?_⟩
        simp +decide (disch := first | omega | simp +decide only [List.length_set, hl]) only [sa, simprocAttr]
      · have e1 : ((posN L L.length : Int) == 1) = false := by simp; omega
        refine W_seqn (W_region (fun k => by simp +decide (disch := first | omega | simp +decide only [List.length_set, hl]) only [sa, simprocAttr, h3, h4, e1]; rfl) ⟨rfl, W_ret ?_⟩)
        refine ⟨rfl, fin_bool (F := f27) (b := false) (P := fun b => b = true ↔ LegalP L) rfl (bfalse (fun h => by rw [hdef] at h; rcases h.2 with h | h; rw [ha] at h; cases h; exact hp h)) ?_⟩
        simp +decide (disch := first | omega | simp +decide only [List.length_set, hl]) only [sa, simprocAttr]
  all_goals first | (simp +decide (disch := first | omega | simp +decide only [List.length_set, hl]) only [sa, simprocAttr, hl, h0]; done) | (simp +decide (disch := first | omega | simp +decide only [List.length_set, hl]) only [sa, simprocAttr, hl, h0]; rfl)
theorem pos_one (L : List Int) : ∀ n, (∀ i, i < n → 0 ≤ at0 L i) → (posN L n = 0 ↔ ∀ i, i < n → at0 L i = 0)
  | 0, _ => ⟨fun _ i h => absurd h (by omega), fun _ => rfl⟩
  | n + 1, h => by
    have ih := pos_one L n (fun i hi => h i (by omega))
    have hn := h n (by omega)
    rw [posN]
    constructor
    · intro e i hi
      split at e
      · omega
      · by_cases hin : i = n
        · subst hin; omega
        · exact ih.mp (by omega) i (by omega)
    · intro e
      rw [if_neg (by have := e n (by omega); omega), ih.mpr (fun i hi => e i (by omega))]
theorem pos_alone (L : List Int) : ∀ n, (∀ i, i < n → 0 ≤ at0 L i) → ∀ k, k < n → at0 L k > 0 → (posN L n = 1 ↔ ∀ i, i < n → i ≠ k → at0 L i = 0)
  | 0, _, k, hk, _ => absurd hk (by omega)
  | n + 1, h, k, hk, hp => by
    rw [posN]
    by_cases hkn : k = n
    · subst hkn
      rw [if_pos hp]
      have := pos_one L k (fun i hi => h i (by omega))
      constructor
      · intro e i hi hne
        exact this.mp (by omega) i (by omega)
      · intro e
        rw [this.mpr (fun i hi => e i (by omega) (by omega))]
    · have ih := pos_alone L n (fun i hi => h i (by omega)) k (by omega) hp
      have hz : posN L n = 0 → False := fun e => by
        have := (pos_one L n (fun i hi => h i (by omega))).mp e k (by omega)
        omega
      have hn := h n (by omega)
      constructor
      · intro e i hi hne
        split at e
        · exact absurd (by omega) hz
        · by_cases hin : i = n
          · subst hin; omega
          · exact ih.mp (by omega) i (by omega) hne
      · intro e
        rw [if_neg (by have := e n (by omega) (by omega); omega), ih.mpr (fun i hi => e i (by omega))]
theorem alone_iff (L : List Int) : ∀ n, (aloneN L n = true ↔ ∃ i, i < n ∧ at0 L i > 1)
  | 0 => ⟨fun h => (by cases h), fun ⟨i, h, _⟩ => absurd h (by omega)⟩
  | n + 1 => by
    have ih := alone_iff L n
    rw [aloneN, Bool.or_eq_true, ih, decide_eq_true_eq]
    constructor
    · rintro (⟨i, h1, h2⟩ | h)
      · exact ⟨i, by omega, h2⟩
      · exact ⟨n, by omega, h⟩
    · rintro ⟨i, h1, h2⟩
      by_cases hin : i = n
      · subst hin; exact .inr h2
      · exact .inl ⟨i, by omega, h2⟩
theorem legal_iff (L : List Int) : LegalP L ↔ rngN L L.length ∧ ∀ k, k < L.length → at0 L k > 1 → ∀ i, i < L.length → i ≠ k → at0 L i = 0 := by
  unfold LegalP
  constructor
  · rintro ⟨hr, h⟩
    refine ⟨hr, fun k hk hgt => ?_⟩
    have ha := (alone_iff L L.length).mpr ⟨k, hk, hgt⟩
    have hp : posN L L.length = 1 := by
      rcases h with h | h
      · rw [ha] at h; cases h
      · exact h
    exact (pos_alone L L.length (fun i hi => (hr i hi).1) k hk (by omega)).mp hp
  · rintro ⟨hr, h⟩
    refine ⟨hr, ?_⟩
    cases ha : aloneN L L.length with
    | false => exact .inl rfl
    | true =>
      obtain ⟨k, hk, hgt⟩ := (alone_iff L L.length).mp ha
      exact .inr ((pos_alone L L.length (fun i hi => (hr i hi).1) k hk (by omega)).mpr (h k hk hgt))
end Go.Proofs.Ytabfinhkoihhfaa.Abs
