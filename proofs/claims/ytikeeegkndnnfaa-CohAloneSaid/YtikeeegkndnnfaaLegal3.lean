/- A system that may be stays so behind what a cache wants, and says what it said. Plain lists, no program. -/
import Derived.Test.YtikeeegkndnnfaaLegal2
namespace Go.Proofs.Ytikeeegkndnnfaa.Abs
open Go Go.RowKit Fn
set_option linter.unusedVariables false
set_option linter.unusedSimpArgs false
set_option linter.unnecessarySimpa false
set_option maxRecDepth 100000
set_option maxHeartbeats 4000000

/-- The asker has the line, shared, and owns it from now on. -/
theorem own_keep {n : Coh} (hok : Ok n) (h : SoundP n) (w : Nat) (hw : w < n.caches.length) (ln : Nat) (h1 : stA n w ln = 1) (hone : ∀ j, j < n.caches.length → j ≠ w → stA n j ln = 0) :
    SoundP (withC n w (setR (cacheAt n w) ln 3)) ∧ (∀ x d, Says n x d → Says (withC n w (setR (cacheAt n w) ln 3)) x d) ∧ stA (withC n w (setR (cacheAt n w) ln 3)) w ln = 3 := by
  have hs0 : (wayOf (cacheAt n w) ln).state ≠ 0 := by show stA n w ln ≠ 0; omega
  obtain ⟨a1, a2, a3, a4⟩ := set_all (h.1 w hw) ln (st := 3) (by omega) hs0
  obtain ⟨l1, l2, _⟩ := h.2 w hw ln (by omega)
  have hdat := l2 (by omega)
  have hS : ∀ (j x : Nat), stA (withC n w (setR (cacheAt n w) ln 3)) j x = (if j = w ∧ x = ln then 3 else stA n j x) ∧ daA (withC n w (setR (cacheAt n w) ln 3)) j x = daA n j x := fun j x => by
    obtain ⟨b1, b2⟩ := withC_st n hw (setR (cacheAt n w) ln 3) j x
    rw [b1, b2]
    by_cases hj : j = w
    · subst hj
      rw [if_pos rfl, if_pos rfl]
      by_cases hx : x = ln
      · subst hx
        rw [if_pos ⟨rfl, rfl⟩]
        exact ⟨a2, a3 (by omega)⟩
      · rw [if_neg (fun e => hx e.2), a4 x hx]
        exact ⟨rfl, rfl⟩
    · rw [if_neg hj, if_neg hj, if_neg (fun e => hj e.1)]
      exact ⟨rfl, rfl⟩
  have hL := withC_len n w (setR (cacheAt n w) ln 3)
  have hB : ∀ x, bytesM (withC n w (setR (cacheAt n w) ln 3)) x = bytesM n x := fun x => withC_bytes _ _ _ _
  have hM : (withC n w (setR (cacheAt n w) ln 3)).mem.length = n.mem.length := rfl
  have hRQ : ∀ j, j < n.caches.length → RQ (cacheAt (withC n w (setR (cacheAt n w) ln 3)) j) := fun j hj => by
    rw [cacheAt_set n w _ j hw]
    by_cases hjw : j = w
    · rw [if_pos hjw]; exact a1
    · rw [if_neg hjw]; exact h.1 j hj
  generalize withC n w (setR (cacheAt n w) ln 3) = m' at *
  refine ⟨⟨fun j hj => hRQ j (by rw [← hL]; exact hj), fun j hj x hx => ?_⟩, fun x d hd => ?_, by rw [(hS w ln).1, if_pos ⟨rfl, rfl⟩]⟩
  · rw [hL] at hj
    rw [(hS j x).1] at hx
    by_cases hjx : j = w ∧ x = ln
    · obtain ⟨rfl, rfl⟩ := hjx
      refine ⟨by rw [hM]; exact l1, fun h3 => absurd (by rw [(hS j x).1, if_pos ⟨rfl, rfl⟩]) h3, fun _ i hi hij => ?_⟩
      rw [hL] at hi
      rw [(hS i x).1, if_neg (fun e => hij e.1)]
      exact hone i hi hij
    · rw [if_neg hjx] at hx
      obtain ⟨c1, c2, c3⟩ := h.2 j hj x hx
      refine ⟨by rw [hM]; exact c1, fun h3 => ?_, fun hgt i hi hij => ?_⟩
      · rw [(hS j x).1, if_neg hjx] at h3
        rw [(hS j x).2, hB]; exact c2 h3
      · rw [hL] at hi
        rw [(hS j x).1, if_neg hjx] at hgt
        have := c3 hgt i hi hij
        by_cases hix : i = w ∧ x = ln
        · rw [hix.1, hix.2] at this; omega
        · rw [(hS i x).1, if_neg hix]; exact this
  · rcases hd with ⟨i, hi, h3, rfl⟩ | ⟨hno, rfl⟩
    · have hix : ¬ (i = w ∧ x = ln) := fun e => by rw [e.1, e.2] at h3; omega
      exact .inl ⟨i, by rw [hL]; exact hi, by rw [(hS i x).1, if_neg hix]; exact h3, (hS i x).2.symm⟩
    · by_cases hx : x = ln
      · subst hx
        exact .inl ⟨w, by rw [hL]; exact hw, by rw [(hS w x).1, if_pos ⟨rfl, rfl⟩], by rw [(hS w x).2]; exact hdat.symm⟩
      · refine .inr ⟨fun j hj => ?_, (hB x).symm⟩
        rw [hL] at hj
        rw [(hS j x).1, if_neg (fun e => hx e.2)]
        exact hno j hj
theorem stateOf_is (m : Coh) (j : Nat) (hj : j < m.caches.length) (ln : Nat) : stateOf m (j : Int) ln = stA m j ln := by
  unfold stateOf
  rw [if_pos (show has m (j : Int) from ⟨by omega, by omega⟩), Int.toNat_natCast]; rfl
theorem shared_no (m : Coh) (who : Int) (ln : Nat) : ∀ n k, k + n ≤ m.caches.length → sharedN m who ln k n = false → ∀ j, k ≤ j → j < k + n → (j : Int) ≠ who → stA m j ln = 0
  | 0, k, _, _, j, h1, h2, _ => by omega
  | n + 1, k, hk, h, j, h1, h2, hw => by
    unfold sharedN at h
    split at h
    · cases h
    · rename_i hc
      by_cases hjk : j = k
      · subst hjk
        rw [← stateOf_is m j (by omega) ln]
        refine Classical.byContradiction fun hs => hc ?_
        have e1 : ((j : Int) != who) = true := by simpa using hw
        have e2 : (stateOf m (j : Int) ln != 0) = true := by simpa using hs
        rw [e1, e2]; rfl
      · exact shared_no m who ln n (k + 1) (by omega) h j (by omega) (by omega) hw
/-- THE PLAIN LAW OF THE BUS. -/
theorem legal_do {m : Coh} (hok : Ok m) (h : SoundP m) (w : Nat) (hw : w < m.caches.length) (ln : Nat) (hlies : ln * 16 + 16 ≤ m.mem.length) (a : Int) (ha : a = 1 ∨ a = 2) :
    SoundP (doM m (w : Int) (askv (stA m w ln) a) ln) ∧ (∀ x d, Says m x d → Says (doM m (w : Int) (askv (stA m w ln) a) ln) x d) ∧ stA (doM m (w : Int) (askv (stA m w ln) a) ln) w ln ≠ 0 ∧ (a = 2 → stA (doM m (w : Int) (askv (stA m w ln) a) ln) w ln = 2 ∨ stA (doM m (w : Int) (askv (stA m w ln) a) ln) w ln = 3) := by
  have hrg : 0 ≤ stA m w ln ∧ stA m w ln ≤ 3 := rq_range (h.1 w hw) ln
  obtain ⟨K, hK⟩ : ∃ K, K = askv (stA m w ln) a := ⟨_, rfl⟩
  have hKv : K = if a = 1 then (if stA m w ln = 0 then 1 else 0) else (if stA m w ln = 0 then 2 else if stA m w ln = 1 then 3 else 0) := by
    rw [hK]
    unfold askv
    rw [stv_id hrg]
    rcases ha with rfl | rfl <;> rfl
  rw [← hK]
  by_cases hk0 : K = 0
  · have e : doM m (w : Int) K ln = m := if_neg (fun hg => by have := hg.2.1.1; omega)
    rw [e]
    refine ⟨h, fun _ _ hd => hd, fun e0 => ?_, fun h2 => ?_⟩
    · rw [e0] at hKv
      rcases ha with rfl | rfl <;> simp at hKv <;> omega
    · subst h2
      rw [hk0] at hKv
      simp at hKv
      by_cases e0 : stA m w ln = 0
      · simp [e0] at hKv
      · by_cases e1 : stA m w ln = 1
        · simp [e1] at hKv
        · omega
  have hkr : K = 1 ∨ K = 2 ∨ K = 3 := by
    rw [hKv] at hk0 ⊢
    rcases ha with rfl | rfl
    · simp at hk0 ⊢; simp [hk0]
    · by_cases e0 : stA m w ln = 0
      · simp [e0]
      · by_cases e1 : stA m w ln = 1
        · simp [e1]
        · simp [e0, e1] at hk0
  have hst0 : K ≠ 3 → stA m w ln = 0 := fun h3 => by
    rw [hKv] at h3 hk0
    rcases ha with rfl | rfl
    · simp at hk0; exact hk0
    · by_cases e0 : stA m w ln = 0
      · exact e0
      · by_cases e1 : stA m w ln = 1
        · simp [e1] at h3
        · simp [e0, e1] at hk0
  have hst1 : K = 3 → stA m w ln = 1 := fun h3 => by
    rw [hKv] at h3
    rcases ha with rfl | rfl
    · by_cases e0 : stA m w ln = 0 <;> simp [e0] at h3
    · by_cases e0 : stA m w ln = 0
      · simp [e0] at h3
      · by_cases e1 : stA m w ln = 1
        · exact e1
        · simp [e0, e1] at h3
  have ha2 : a = 2 → K ≠ 1 := fun e h1 => by
    rw [hKv, e] at h1
    by_cases e0 : stA m w ln = 0
    · simp [e0] at h1
    · by_cases e1 : stA m w ln = 1 <;> simp [e0, e1] at h1
  have hdm : doM m (w : Int) K ln = doGot (snoopN (w : Int) K ln m m.caches.length) (w : Int) K ln := if_pos ⟨⟨by omega, by omega⟩, ⟨by omega, by omega⟩, hlies⟩
  rw [hdm]
  obtain ⟨s1, s2, s3, s4⟩ := snoop_all hok h (w : Int) K ln hlies m.caches.length (Nat.le_refl _)
  have hsl := snoopN_len (w : Int) K ln m m.caches.length
  have hokn := ok_snoopN hok (w : Int) K ln m.caches.length (Nat.le_refl _)
  have hwst := (s3 w ln (.inr (.inr rfl))).1
  have hwda := (s3 w ln (.inr (.inr rfl))).2
  generalize snoopN (w : Int) K ln m m.caches.length = n at *
  have hwn : w < n.caches.length := by rw [hsl.1]; exact hw
  have hln : ln * 16 + 16 ≤ n.mem.length := by rw [hsl.2]; exact hlies
  have hoth : ∀ j, j < n.caches.length → j ≠ w → stA n j ln = if K = 1 ∧ stA m j ln > 0 then 1 else 0 := fun j hj hjw => s4 j (by rw [← hsl.1]; exact hj) (by omega)
  have hwo : wayOf (cacheAt n w) ln = wayOf (cacheAt n w) ln := rfl
  by_cases hk3 : K = 3
  · have hs1 : stA n w ln = 1 := by rw [hwst]; exact hst1 hk3
    have hcond : K = 3 ∧ (wayOf (cacheAt n w) ln).state ≠ 0 := ⟨hk3, by show stA n w ln ≠ 0; omega⟩
    have e : doGot n (w : Int) K ln = withC n w (setR (cacheAt n w) ln 3) := by
      unfold doGot
      rw [Int.toNat_natCast, if_pos hcond]
      have : gotv K (sharedN n (w : Int) ln 0 n.caches.length) = 3 := by unfold gotv; rw [if_neg (by omega)]
      rw [this]
    rw [e]
    obtain ⟨k1, k2, k3⟩ := own_keep hokn s1 w hwn ln hs1 (fun j hj hjw => by rw [hoth j hj hjw, if_neg (fun e => by omega)])
    exact ⟨k1, fun x d hd => k2 x d (s2 x d hd), by rw [k3]; omega, fun _ => .inr k3⟩
  · have hs0 : stA n w ln = 0 := by rw [hwst]; exact hst0 hk3
    have hcond : ¬ (K = 3 ∧ (wayOf (cacheAt n w) ln).state ≠ 0) := fun e => hk3 e.1
    obtain ⟨s, hs⟩ : ∃ s, s = gotv K (sharedN n (w : Int) ln 0 n.caches.length) := ⟨_, rfl⟩
    have e : doGot n (w : Int) K ln = backM (withC n w (fillR (cacheAt n w) ln s (bytesM n ln)).1) (fillR (cacheAt n w) ln s (bytesM n ln)).2 := by
      unfold doGot
      rw [Int.toNat_natCast, if_neg hcond, hs]
    rw [e]
    have hsr : 1 ≤ s ∧ s ≤ 3 := by rw [hs]; exact gotv_rng _ _
    have hle : ∀ j, j < n.caches.length → j ≠ w → stA n j ln ≤ 1 := fun j hj hjw => by rw [hoth j hj hjw]; split <;> omega
    have hone : s > 1 → ∀ j, j < n.caches.length → j ≠ w → stA n j ln = 0 := fun hgt j hj hjw => by
      by_cases hk1 : K = 1
      · cases hsh : sharedN n (w : Int) ln 0 n.caches.length with
        | true =>
          exfalso
          rw [hs, hsh, hk1] at hgt
          have : gotv 1 true = 1 := rfl
          omega
        | false => exact shared_no n (w : Int) ln n.caches.length 0 (by omega) hsh j (by omega) (by omega) (by omega)
      · rw [hoth j hj hjw, if_neg (fun e => hk1 e.1)]
    obtain ⟨k1, k2, k3⟩ := fill_keep hokn s1 w hwn ln hln s hsr hs0 hone hle
    refine ⟨k1, fun x d hd => k2 x d (s2 x d hd), by rw [k3]; omega, fun h2 => .inr ?_⟩
    rw [k3, hs]
    unfold gotv
    rw [if_neg (ha2 h2)]
end Go.Proofs.Ytikeeegkndnnfaa.Abs
