/- A system of right caches: what a request makes of its lines. Plain lists, no program. -/
import Derived.Test.YtikeeegkndnnfaaPmap
namespace Go.Proofs.Ytikeeegkndnnfaa.Abs
open Go Go.RowKit Fn
set_option linter.unusedVariables false
set_option linter.unusedSimpArgs false
set_option linter.unnecessarySimpa false
set_option maxRecDepth 100000
set_option maxHeartbeats 4000000

def RQ (c : Cache) : Prop := ∃ m, RightQ c.sets.length m c.sets
theorem setR_len (c : Cache) (ln : Nat) (st : Int) : (setR c ln st).length = c.sets.length := by
  unfold setR
  split
  · split
    · rfl
    · rw [List.length_set]
  · rfl
theorem set_all {c : Cache} (h : RQ c) (ln : Nat) {st : Int} (hst : 0 ≤ st ∧ st ≤ 3) (hs0 : (wayOf c ln).state ≠ 0) : RQ ⟨setR c ln st⟩ ∧ (wayOf ⟨setR c ln st⟩ ln).state = st ∧ (st ≠ 0 → (wayOf ⟨setR c ln st⟩ ln).data = (wayOf c ln).data) ∧ ∀ x, x ≠ ln → wayOf ⟨setR c ln st⟩ x = wayOf c x := by
  obtain ⟨m, h⟩ := h
  have hq := rightq_setR h ln st
  obtain ⟨h1, h2⟩ := set_same h ln hst hs0
  exact ⟨⟨m, by rw [show (Cache.mk (setR c ln st)).sets.length = _ from setR_len c ln st]; exact hq⟩, h1, h2, fun x hx => set_other h ln hst x hx⟩
theorem fillR_len {c : Cache} {m : Nat} (h : RightQ c.sets.length m c.sets) (ln : Nat) {st : Int} (hst : 1 ≤ st ∧ st ≤ 3) (data : List Int) : (fillR c ln st data).1.length = c.sets.length := by
  obtain ⟨hq, _⟩ := fill_is h ln st hst data
  exact (fill_is h ln st hst data).elim fun k h => h.2.2.2.1.1
theorem fill_all {c : Cache} (hc : c.wf) (h : RQ c) (ln : Nat) {st : Int} (hst : 1 ≤ st ∧ st ≤ 3) (data : List Int) : RQ ⟨(fillR c ln st data).1⟩ ∧ (wayOf ⟨(fillR c ln st data).1⟩ ln).state = st ∧ (wayOf ⟨(fillR c ln st data).1⟩ ln).data = data ∧
    ((fillR c ln st data).2.state ≠ 0 → ∃ x : Nat, x ≠ ln ∧ (fillR c ln st data).2.tag = (x : Int) ∧ wayOf c x = (fillR c ln st data).2 ∧ (wayOf ⟨(fillR c ln st data).1⟩ x).state = 0) ∧
    ∀ x : Nat, x ≠ ln → ¬ ((fillR c ln st data).2.state ≠ 0 ∧ (fillR c ln st data).2.tag = (x : Int)) → (wayOf ⟨(fillR c ln st data).1⟩ x).state = (wayOf c x).state ∧ (wayOf ⟨(fillR c ln st data).1⟩ x).data = (wayOf c x).data := by
  obtain ⟨m, h⟩ := h
  obtain ⟨h1, h2⟩ := fill_map hc h ln hst data
  exact ⟨⟨m, by rw [show (Cache.mk (fillR c ln st data).1).sets.length = _ from fillR_len h ln hst data]; exact h1⟩, h2⟩
theorem rq_range {c : Cache} (h : RQ c) (x : Nat) : 0 ≤ (wayOf c x).state ∧ (wayOf c x).state ≤ 3 := by
  obtain ⟨m, h⟩ := h
  rcases wayOf_cases h x with ⟨k, hk, _, e, _, _⟩ | ⟨_, e, _⟩
  · rw [e]
    have := (h.2.2.2.2.2 (x % c.sets.length) (mod_lt' h x)).2 k hk
    exact ⟨this.2.2.2.1, this.2.2.2.2.1⟩
  · rw [e]; exact ⟨Int.le_refl _, by show (0 : Int) ≤ 3; omega⟩
def stA (m : Coh) (k x : Nat) : Int := (wayOf (cacheAt m k) x).state
def daA (m : Coh) (k x : Nat) : List Int := (wayOf (cacheAt m k) x).data
/-- May a system be? -/
def SoundP (m : Coh) : Prop := (∀ k, k < m.caches.length → RQ (cacheAt m k)) ∧ ∀ k, k < m.caches.length → ∀ x, stA m k x ≠ 0 → x * 16 + 16 ≤ m.mem.length ∧ (stA m k x ≠ 3 → daA m k x = bytesM m x) ∧ (stA m k x > 1 → ∀ j, j < m.caches.length → j ≠ k → stA m j x = 0)
/-- A line, as all memory says it. -/
def Says (m : Coh) (x : Nat) (d : List Int) : Prop := (∃ k, k < m.caches.length ∧ stA m k x = 3 ∧ d = daA m k x) ∨ ((∀ k, k < m.caches.length → stA m k x ≠ 3) ∧ d = bytesM m x)
theorem says_one {m : Coh} (h : SoundP m) {x : Nat} {d d' : List Int} (h1 : Says m x d) (h2 : Says m x d') : d = d' := by
  rcases h1 with ⟨k, hk, hs, rfl⟩ | ⟨hn, rfl⟩ <;> rcases h2 with ⟨j, hj, hs', rfl⟩ | ⟨hn', rfl⟩
  · by_cases hjk : j = k
    · rw [hjk]
    · have := (h.2 k hk x (by omega)).2.2 (by omega) j hj hjk
      omega
  · exact absurd hs (hn' k hk)
  · exact absurd hs' (hn j hj)
  · rfl
theorem says_some (m : Coh) (x : Nat) : ∃ d, Says m x d := by
  by_cases h : ∃ k, k < m.caches.length ∧ stA m k x = 3
  · obtain ⟨k, hk, hs⟩ := h
    exact ⟨_, .inl ⟨k, hk, hs, rfl⟩⟩
  · exact ⟨_, .inr ⟨fun k hk hs => h ⟨k, hk, hs⟩, rfl⟩⟩
theorem bytes_get (m : Coh) (x i : Nat) : (bytesM m x)[i]? = if i < 16 then m.mem[x * 16 + i]? else none := by
  unfold bytesM
  rw [List.getElem?_take]
  split
  · rw [List.getElem?_drop]
  · rfl
theorem bytes_put (m : Coh) (ln : Nat) (d : List Int) (hl : ln * 16 + 16 ≤ m.mem.length) (hd : d.length = 16) (x : Nat) : bytesM (putM m ln d) x = if x = ln then d else bytesM m x := by
  have hp : putM m ln d = { m with mem := spl m.mem (ln * 16) d } := if_pos hl
  apply List.ext_getElem?
  intro i
  rw [bytes_get, hp]
  show (if i < 16 then (spl m.mem (ln * 16) d)[x * 16 + i]? else none) = _
  rw [spl_get _ _ _ (by omega)]
  by_cases hx : x = ln
  · subst hx
    rw [if_pos rfl]
    by_cases hi : i < 16
    · rw [if_pos hi, if_pos (by omega), show x * 16 + i - x * 16 = i by omega]
    · rw [if_neg hi, List.getElem?_eq_none (by omega)]
  · rw [if_neg hx, bytes_get]
    by_cases hi : i < 16
    · rw [if_pos hi, if_pos hi, if_neg (by omega)]
    · rw [if_neg hi, if_neg hi]
theorem putM_at (m : Coh) (ln : Nat) (d : List Int) (k : Nat) : cacheAt (putM m ln d) k = cacheAt m k := by unfold cacheAt; rw [putM_caches]
theorem withC_st (m : Coh) {k : Nat} (hk : k < m.caches.length) (R : List (List Way)) (j x : Nat) : stA (withC m k R) j x = (if j = k then (wayOf ⟨R⟩ x).state else stA m j x) ∧ daA (withC m k R) j x = (if j = k then (wayOf ⟨R⟩ x).data else daA m j x) := by
  unfold stA daA
  rw [cacheAt_set m k R j hk]
  split <;> exact ⟨rfl, rfl⟩
theorem withC_bytes (m : Coh) (k : Nat) (R : List (List Way)) (x : Nat) : bytesM (withC m k R) x = bytesM m x := rfl
theorem bkM_len (m : Coh) (w : Way) : (backM m w).mem.length = m.mem.length := by
  unfold backM
  split
  · exact putM_len _ _ _
  · rfl
theorem gotv_rng (k : Int) (b : Bool) : 1 ≤ gotv k b ∧ gotv k b ≤ 3 := by unfold gotv; split <;> (try split) <;> omega
theorem stv_id {s : Int} (h : 0 ≤ s ∧ s ≤ 3) : stv s = s := by unfold stv; rw [if_neg (by omega), if_neg (by omega)]
/-- One cache is asked: all stays as it may be, and all memory says what it said. -/
theorem snoop_step {m : Coh} (h : SoundP m) (who kind : Int) (ln : Nat) (hlies : ln * 16 + 16 ≤ m.mem.length) (k : Nat) (hk : k < m.caches.length) (hdl : (daA m k ln).length = 16) :
    SoundP (snoop1 who kind ln m k) ∧ (∀ x d, Says m x d → Says (snoop1 who kind ln m k) x d) ∧ (∀ j x, ¬ (j = k ∧ x = ln) → stA (snoop1 who kind ln m k) j x = stA m j x ∧ daA (snoop1 who kind ln m k) j x = daA m j x) ∧ ((k : Int) ≠ who → stA (snoop1 who kind ln m k) k ln = if kind = 1 ∧ stA m k ln > 0 then 1 else 0) ∧ ((k : Int) = who → snoop1 who kind ln m k = m) := by
  have hrg := rq_range (h.1 k hk) ln
  by_cases hskip : (k : Int) = who ∨ (wayOf (cacheAt m k) ln).state = 0
  · have e : snoop1 who kind ln m k = m := if_pos hskip
    rw [e]
    refine ⟨h, fun _ _ h => h, fun _ _ _ => ⟨rfl, rfl⟩, fun hne => ?_, fun _ => rfl⟩
    rcases hskip with hw | h0
    · exact absurd hw hne
    · have h0 : stA m k ln = 0 := h0
      rw [h0, if_neg (by omega)]
  have hs0 : stA m k ln ≠ 0 := fun e => hskip (.inr e)
  have hst : stA m k ln = (wayOf (cacheAt m k) ln).state := rfl
  have hrg : 0 ≤ stA m k ln ∧ stA m k ln ≤ 3 := hrg
  obtain ⟨nx, hnx⟩ : ∃ nx, nx = snoopv (stA m k ln) kind := ⟨_, rfl⟩
  have hnv : nx = if kind = 1 ∧ stA m k ln > 0 then 1 else 0 := by rw [hnx]; unfold snoopv; rw [stv_id hrg]
  have hnr : 0 ≤ nx ∧ nx ≤ 1 := by rw [hnv]; split <;> omega
  obtain ⟨m1, hm1⟩ : ∃ m1, m1 = if stA m k ln = 3 then putM m ln (daA m k ln) else m := ⟨_, rfl⟩
  have hbk : backv (stA m k ln) = decide (stA m k ln = 3) := by unfold backv; rw [stv_id hrg]
  have hm1c : ∀ j, cacheAt m1 j = cacheAt m j := fun j => by rw [hm1]; split; exact putM_at _ _ _ _; rfl
  have hm1l : m1.caches.length = m.caches.length := by rw [hm1]; split; rw [putM_caches]; rfl
  have hm1m : m1.mem.length = m.mem.length := by rw [hm1]; split; exact putM_len _ _ _; rfl
  have hm1b : ∀ x, bytesM m1 x = if stA m k ln = 3 ∧ x = ln then daA m k ln else bytesM m x := fun x => by
    rw [hm1]
    by_cases h3 : stA m k ln = 3
    · rw [if_pos h3, bytes_put m ln _ hlies hdl]
      by_cases hx : x = ln
      · rw [if_pos hx, if_pos ⟨h3, hx⟩]
      · rw [if_neg hx, if_neg (fun e => hx e.2)]
    · rw [if_neg h3, if_neg (fun e => h3 e.1)]
  have he : snoop1 who kind ln m k = withC m1 k (setR (cacheAt m k) ln nx) := by
    unfold snoop1
    rw [if_neg hskip, hnx, hm1]
    show withC (if backv (stA m k ln) = true then putM m ln (daA m k ln) else m) k _ = _
    rw [hbk]
    by_cases h3 : stA m k ln = 3
    · rw [if_pos h3, decide_eq_true h3, if_pos rfl]; rfl
    · rw [if_neg h3, decide_eq_false h3, if_neg (by simp)]; rfl
  obtain ⟨a1, a2, a3, a4⟩ := set_all (h.1 k hk) ln (st := nx) (by omega) hs0
  have hk1 : k < m1.caches.length := by rw [hm1l]; exact hk
  have hS : ∀ j x, stA (withC m1 k (setR (cacheAt m k) ln nx)) j x = (if j = k ∧ x = ln then nx else stA m j x) ∧ (¬ (j = k ∧ x = ln) ∨ nx ≠ 0 → daA (withC m1 k (setR (cacheAt m k) ln nx)) j x = daA m j x) := fun j x => by
    obtain ⟨b1, b2⟩ := withC_st m1 hk1 (setR (cacheAt m k) ln nx) j x
    rw [b1, b2]
    by_cases hj : j = k
    · subst hj
      rw [if_pos rfl, if_pos rfl]
      by_cases hx : x = ln
      · subst hx
        rw [if_pos ⟨rfl, rfl⟩]
        exact ⟨a2, fun hh => hh.elim (fun hh => absurd ⟨rfl, rfl⟩ hh) a3⟩
      · rw [if_neg (fun e => hx e.2), a4 x hx]
        exact ⟨rfl, fun _ => rfl⟩
    · rw [if_neg hj, if_neg hj, if_neg (fun e => hj e.1)]
      unfold stA daA
      rw [hm1c]
      exact ⟨rfl, fun _ => rfl⟩
  have hB : ∀ x, bytesM (withC m1 k (setR (cacheAt m k) ln nx)) x = if stA m k ln = 3 ∧ x = ln then daA m k ln else bytesM m x := fun x => by rw [withC_bytes, hm1b]
  have hL : (withC m1 k (setR (cacheAt m k) ln nx)).caches.length = m.caches.length := by rw [withC_len, hm1l]
  have hM : (withC m1 k (setR (cacheAt m k) ln nx)).mem.length = m.mem.length := hm1m
  have hRQ : ∀ j, j < m.caches.length → RQ (cacheAt (withC m1 k (setR (cacheAt m k) ln nx)) j) := fun j hj => by
    rw [cacheAt_set m1 k _ j hk1]
    by_cases hjk : j = k
    · rw [if_pos hjk]; exact a1
    · rw [if_neg hjk, hm1c]; exact h.1 j hj
  rw [he]
  generalize withC m1 k (setR (cacheAt m k) ln nx) = m' at *
  refine ⟨⟨fun j hj => hRQ j (by rw [← hL]; exact hj), fun j hj x hx => ?_⟩, fun x d hd => ?_, fun j x hn => ?_, fun hne => ?_, fun hw => absurd (.inl hw) hskip⟩
  · rw [hL] at hj
    rw [(hS j x).1] at hx
    have hx0 : stA m j x ≠ 0 := by
      by_cases hjx : j = k ∧ x = ln
      · rw [hjx.1, hjx.2]; exact hs0
      · rw [if_neg hjx] at hx; exact hx
    obtain ⟨c1, c2, c3⟩ := h.2 j hj x hx0
    refine ⟨by rw [hM]; exact c1, fun h3 => ?_, fun h1 i hi hij => ?_⟩
    · rw [(hS j x).1] at h3
      rw [hB]
      by_cases hjx : j = k ∧ x = ln
      · rw [if_pos hjx] at hx
        rw [(hS j x).2 (.inr hx)]
        obtain ⟨rfl, rfl⟩ := hjx
        by_cases hs3 : stA m j x = 3
        · rw [if_pos ⟨hs3, rfl⟩]
        · rw [if_neg (fun e => hs3 e.1)]; exact c2 hs3
      · rw [if_neg hjx] at h3
        rw [(hS j x).2 (.inl hjx)]
        by_cases hs3 : stA m k ln = 3 ∧ x = ln
        · exfalso
          obtain ⟨hs3, rfl⟩ := hs3
          have hjk : j ≠ k := fun e => hjx ⟨e, rfl⟩
          exact hx0 ((h.2 k hk x hs0).2.2 (by omega) j hj hjk)
        · rw [if_neg hs3]; exact c2 h3
    · rw [(hS j x).1] at h1
      rw [(hS i x).1]
      rw [hL] at hi
      by_cases hjx : j = k ∧ x = ln
      · rw [if_pos hjx] at h1; omega
      · rw [if_neg hjx] at h1
        have := c3 h1 i hi hij
        by_cases hix : i = k ∧ x = ln
        · rw [hix.1, hix.2] at this; exact absurd this hs0
        · rw [if_neg hix]; exact this
  · rcases hd with ⟨i, hi, h3, rfl⟩ | ⟨hno, rfl⟩
    · by_cases hix : i = k ∧ x = ln
      · obtain ⟨rfl, rfl⟩ := hix
        refine .inr ⟨fun j hj => ?_, by rw [hB, if_pos ⟨h3, rfl⟩]⟩
        rw [hL] at hj
        rw [(hS j x).1]
        by_cases hjk : j = i
        · rw [if_pos ⟨hjk, rfl⟩]; omega
        · rw [if_neg (fun e => hjk e.1), (h.2 i hi x hs0).2.2 (by omega) j hj hjk]; omega
      · refine .inl ⟨i, by rw [hL]; exact hi, ?_, ((hS i x).2 (.inl hix)).symm⟩
        rw [(hS i x).1, if_neg hix]; exact h3
    · refine .inr ⟨fun j hj => ?_, ?_⟩
      · rw [hL] at hj
        rw [(hS j x).1]
        split
        · omega
        · exact hno j hj
      · rw [hB, if_neg (fun e => hno k hk (by rw [e.2]; exact e.1))]
  · rw [(hS j x).1, if_neg hn]
    exact ⟨rfl, (hS j x).2 (.inl hn)⟩
  · rw [(hS k ln).1, if_pos ⟨rfl, rfl⟩]; exact hnv
end Go.Proofs.Ytikeeegkndnnfaa.Abs
