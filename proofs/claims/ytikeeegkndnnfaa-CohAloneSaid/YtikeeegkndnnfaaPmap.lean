/- A right cache as a map from lines: what setting and filling make of it. Plain lists, no program. -/
import Derived.Test.YtikeeegkndnnfaaKeep
namespace Go.Proofs.Ytikeeegkndnnfaa.Abs
open Go Go.RowKit Fn
set_option linter.unusedVariables false
set_option linter.unusedSimpArgs false
set_option linter.unnecessarySimpa false
set_option maxRecDepth 100000
set_option maxHeartbeats 4000000

theorem wayOf_of {n m : Nat} {c : Cache} (h : RightQ n m c.sets) {x k : Nat} (hk : k < m) (ht : (wayN (row c (x % n)) k).tag = (x : Int)) (hs : (wayN (row c (x % n)) k).state ≠ 0) : find c x = some k ∧ wayOf c x = wayN (row c (x % n)) k := by
  have hf := find_uniq h hk ((isAt_iff x _).mpr ⟨ht, hs⟩)
  have hse : seti c x = x % n := by unfold seti; rw [h.1]
  exact ⟨hf, by unfold wayOf; rw [hf, hse]; rfl⟩
theorem wayOf_cases {n m : Nat} {c : Cache} (h : RightQ n m c.sets) (x : Nat) : (∃ k, k < m ∧ find c x = some k ∧ wayOf c x = wayN (row c (x % n)) k ∧ (wayN (row c (x % n)) k).tag = (x : Int) ∧ (wayN (row c (x % n)) k).state ≠ 0) ∨ (find c x = none ∧ wayOf c x = zeroW ∧ ∀ k, k < m → (wayN (row c (x % n)) k).tag = (x : Int) → (wayN (row c (x % n)) k).state = 0) := by
  cases hf : find c x with
  | some k =>
    obtain ⟨hk, hse, hlt, ht, hs⟩ := find_in h hf
    exact .inl ⟨k, hk, rfl, (wayOf_of h hk ht hs).2, ht, hs⟩
  | none =>
    refine .inr ⟨rfl, by unfold wayOf; rw [hf], fun k hk ht => Classical.byContradiction fun hs => ?_⟩
    rw [(wayOf_of h hk ht hs).1] at hf
    cases hf
theorem mod_lt' {n m : Nat} {R : List (List Way)} (h : RightQ n m R) (x : Nat) : x % n < n := Nat.mod_lt _ h.2.1
theorem row_setq {R : List (List Way)} (s : Nat) (l : List Way) (t : Nat) (hs : s < R.length) : row ⟨R.set s l⟩ t = if t = s then l else row ⟨R⟩ t := by
  unfold row
  by_cases h : t = s
  · subst h; rw [if_pos rfl, List.getElem?_set_self hs]; rfl
  · rw [if_neg h, List.getElem?_set_ne (fun e => h e.symm)]
theorem rowlen {n m : Nat} {c : Cache} (h : RightQ n m c.sets) (s : Nat) (hs : s < n) : (row c s).length = m := (h.2.2.2.2.2 s hs).1
/-- Behind a change of one way of a row. -/
theorem wayOf_upd {n m : Nat} {c : Cache} (h : RightQ n m c.sets) {s k : Nat} (hs : s < n) (hk : k < m) (w : Way) (hR : RightQ n m (c.sets.set s ((row c s).set k w))) (x : Nat) (hx : w.state ≠ 0 → w.tag ≠ (x : Int)) (ho : (wayN (row c s) k).state ≠ 0 → (wayN (row c s) k).tag ≠ (x : Int)) : wayOf ⟨c.sets.set s ((row c s).set k w)⟩ x = wayOf c x := by
  have hsl : s < c.sets.length := by rw [h.1]; exact hs
  have hkl : k < (row c s).length := by rw [rowlen h s hs]; exact hk
  have hrow := row_setq (R := c.sets) s ((row c s).set k w) (x % n) hsl
  rcases wayOf_cases h x with ⟨j, hj, hf, e, ht, hst⟩ | ⟨hf, e, hno⟩
  · have hw : wayN (row ⟨c.sets.set s ((row c s).set k w)⟩ (x % n)) j = wayN (row c (x % n)) j := by
      rw [hrow]
      by_cases hx2 : x % n = s
      · rw [if_pos hx2, wayN_setq _ _ hkl]
        have hjk : j ≠ k := fun e => by
          subst e
          rw [hx2] at ht hst
          exact ho hst ht
        rw [if_neg hjk, hx2]
      · rw [if_neg hx2]
    have := (wayOf_of hR hj (by rw [hw]; exact ht) (by rw [hw]; exact hst)).2
    rw [this, hw, e]
  · rcases wayOf_cases hR x with ⟨j, hj, hf', e', ht, hst⟩ | ⟨hf', e', _⟩
    · exfalso
      rw [hrow] at ht hst
      by_cases hx2 : x % n = s
      · rw [if_pos hx2, wayN_setq _ _ hkl] at ht hst
        by_cases hjk : j = k
        · rw [if_pos hjk] at ht hst
          exact hx hst ht
        · rw [if_neg hjk, ← hx2] at ht hst
          exact hst (hno j hj ht)
      · rw [if_neg hx2] at ht hst
        exact hst (hno j hj ht)
    · rw [e', e]
theorem setR_some {n m : Nat} {c : Cache} (h : RightQ n m c.sets) {ln k : Nat} {st : Int} (hst : 0 ≤ st ∧ st ≤ 3) (hf : find c ln = some k) : setR c ln st = c.sets.set (ln % n) ((row c (ln % n)).set k (setW (wayN (row c (ln % n)) k) st)) := by
  have hse : seti c ln = ln % n := by unfold seti; rw [h.1]
  unfold setR
  rw [hf]
  simp only
  rw [if_neg (by omega), hse]
theorem setR_none {c : Cache} {ln : Nat} {st : Int} (hf : find c ln = none) : setR c ln st = c.sets := by unfold setR; rw [hf]
/-- Other lines are as they were. -/
theorem set_other {n m : Nat} {c : Cache} (h : RightQ n m c.sets) (ln : Nat) {st : Int} (hst : 0 ≤ st ∧ st ≤ 3) (x : Nat) (hx : x ≠ ln) : wayOf ⟨setR c ln st⟩ x = wayOf c x := by
  have hq := rightq_setR h ln st
  cases hf : find c ln with
  | none => rw [setR_none hf]
  | some k =>
    obtain ⟨hk, hse, hlt, ht, hs⟩ := find_in h hf
    rw [setR_some h hst hf] at hq ⊢
    refine wayOf_upd h hlt hk _ hq x (fun hw => ?_) (fun _ => by rw [ht]; omega)
    have : st ≠ 0 := fun e => hw (by unfold setW; rw [if_pos e]; rfl)
    have e : setW (wayN (row c (ln % n)) k) st = stW (wayN (row c (ln % n)) k) st := by unfold setW; rw [if_neg this]
    rw [e]
    show (wayN (row c (ln % n)) k).tag ≠ _
    rw [ht]; omega
/-- The line itself has its new state, and its bytes. -/
theorem set_same {n m : Nat} {c : Cache} (h : RightQ n m c.sets) (ln : Nat) {st : Int} (hst : 0 ≤ st ∧ st ≤ 3) (hs0 : (wayOf c ln).state ≠ 0) : (wayOf ⟨setR c ln st⟩ ln).state = st ∧ (st ≠ 0 → (wayOf ⟨setR c ln st⟩ ln).data = (wayOf c ln).data) := by
  have hq := rightq_setR h ln st
  rcases wayOf_cases h ln with ⟨k, hk, hf, e, ht, hs⟩ | ⟨_, e, _⟩
  · rw [setR_some h hst hf] at hq ⊢
    have hlt := mod_lt' h ln
    have hsl : ln % n < c.sets.length := by rw [h.1]; exact hlt
    have hkl : k < (row c (ln % n)).length := by rw [rowlen h _ hlt]; exact hk
    have hrow := row_setq (R := c.sets) (ln % n) ((row c (ln % n)).set k (setW (wayN (row c (ln % n)) k) st)) (ln % n) hsl
    rw [if_pos rfl] at hrow
    have hw : ∀ j, wayN (row ⟨c.sets.set (ln % n) ((row c (ln % n)).set k (setW (wayN (row c (ln % n)) k) st))⟩ (ln % n)) j = if j = k then setW (wayN (row c (ln % n)) k) st else wayN (row c (ln % n)) j := fun j => by rw [hrow, wayN_setq _ _ hkl]
    by_cases h0 : st = 0
    · refine ⟨?_, fun h => absurd h0 h⟩
      rcases wayOf_cases hq ln with ⟨j, hj, hf', e', ht', hs'⟩ | ⟨_, e', _⟩
      · exfalso
        rw [hw] at ht' hs'
        by_cases hjk : j = k
        · rw [if_pos hjk] at hs'
          exact hs' (by unfold setW; rw [if_pos h0]; rfl)
        · rw [if_neg hjk] at ht' hs'
          have := (wayOf_of h hj ht' hs').1
          rw [hf] at this
          exact hjk (Option.some.inj this).symm
      · rw [e', h0]; rfl
    · have hwk := hw k
      rw [if_pos rfl] at hwk
      have e2 : setW (wayN (row c (ln % n)) k) st = stW (wayN (row c (ln % n)) k) st := by unfold setW; rw [if_neg h0]
      rw [e2] at hwk
      have := (wayOf_of hq hk (by rw [e2, hwk]; exact ht) (by rw [e2, hwk]; exact h0)).2
      rw [e2] at this ⊢
      rw [this, hwk, e]
      exact ⟨rfl, fun _ => rfl⟩
  · rw [e] at hs0
    exact absurd rfl hs0
/-- Touching changes ages alone. -/
theorem touch_still {n m : Nat} {c : Cache} (h : RightQ n m c.sets) {s w : Nat} (hs : s < n) (hw : w < m) (x : Nat) : (wayOf ⟨c.sets.set s (touchL (row c s) w)⟩ x).state = (wayOf c x).state ∧ (wayOf ⟨c.sets.set s (touchL (row c s) w)⟩ x).data = (wayOf c x).data ∧ (wayOf ⟨c.sets.set s (touchL (row c s) w)⟩ x).tag = (wayOf c x).tag := by
  have hsl : s < c.sets.length := by rw [h.1]; exact hs
  have hwl : w < (row c s).length := by rw [rowlen h s hs]; exact hw
  have hq : RightQ n m (c.sets.set s (touchL (row c s) w)) := rightq_set h hs (rowok_touch (h.2.2.2.2.2 s hs) hw)
  have hrow := row_setq (R := c.sets) s (touchL (row c s) w) (x % n) hsl
  have hk : ∀ j, j < m → (wayN (row ⟨c.sets.set s (touchL (row c s) w)⟩ (x % n)) j).state = (wayN (row c (x % n)) j).state ∧ (wayN (row ⟨c.sets.set s (touchL (row c s) w)⟩ (x % n)) j).tag = (wayN (row c (x % n)) j).tag ∧ (wayN (row ⟨c.sets.set s (touchL (row c s) w)⟩ (x % n)) j).data = (wayN (row c (x % n)) j).data := fun j hj => by
    rw [hrow]
    by_cases hx : x % n = s
    · rw [if_pos hx, hx]
      obtain ⟨a, b, d, _⟩ := touch_keep (row c s) w hwl j (by rw [rowlen h s hs]; exact hj)
      exact ⟨a, b, d⟩
    · rw [if_neg hx]
      exact ⟨rfl, rfl, rfl⟩
  rcases wayOf_cases h x with ⟨j, hj, hf, e, ht, hst⟩ | ⟨hf, e, hno⟩
  · obtain ⟨a, b, d⟩ := hk j hj
    have := (wayOf_of hq hj (by rw [b]; exact ht) (by rw [a]; exact hst)).2
    rw [this, e]
    exact ⟨a, d, b⟩
  · rcases wayOf_cases hq x with ⟨j, hj, hf', e', ht, hst⟩ | ⟨hf', e', _⟩
    · obtain ⟨a, b, d⟩ := hk j hj
      rw [b] at ht
      rw [a] at hst
      exact absurd (hno j hj ht) hst
    · rw [e', e]; exact ⟨rfl, rfl, rfl⟩
/-- What filling makes of it. -/
theorem fill_map {n m : Nat} {c : Cache} (hc : c.wf) (h : RightQ n m c.sets) (ln : Nat) {st : Int} (hst : 1 ≤ st ∧ st ≤ 3) (data : List Int) :
    RightQ n m (fillR c ln st data).1 ∧ (wayOf ⟨(fillR c ln st data).1⟩ ln).state = st ∧ (wayOf ⟨(fillR c ln st data).1⟩ ln).data = data ∧
    ((fillR c ln st data).2.state ≠ 0 → ∃ x : Nat, x ≠ ln ∧ (fillR c ln st data).2.tag = (x : Int) ∧ wayOf c x = (fillR c ln st data).2 ∧ (wayOf ⟨(fillR c ln st data).1⟩ x).state = 0) ∧
    ∀ x : Nat, x ≠ ln → ¬ ((fillR c ln st data).2.state ≠ 0 ∧ (fillR c ln st data).2.tag = (x : Int)) → (wayOf ⟨(fillR c ln st data).1⟩ x).state = (wayOf c x).state ∧ (wayOf ⟨(fillR c ln st data).1⟩ x).data = (wayOf c x).data := by
  obtain ⟨k, hk, hlt, hfr, hq, hfd, hd⟩ := fill_is h ln st hst data
  obtain ⟨hk2, _, hdat, hsta⟩ := fill_way h ln st hst data hfd
  have hro : RowOK n m (ln % n) (row c (ln % n)) := h.2.2.2.2.2 _ hlt
  have hsl : ln % n < c.sets.length := by rw [h.1]; exact hlt
  have hkl : k < (row c (ln % n)).length := by rw [rowlen h _ hlt]; exact hk
  have hwk := hro.2 k hk
  have hr1 : RowOK n m (ln % n) ((row c (ln % n)).set k (fillW (wayN (row c (ln % n)) k) ln st data)) := by
    refine rowok_set hro hk rfl (by show 0 ≤ st ∧ st ≤ 3; omega) (fun e => absurd e (by show ¬ st = 0; omega)) (fun _ => ?_) (fun _ j hj hjk hs => hd j hj hjk hs)
    show ((ln : Nat) : Int).toNat % n = ln % n
    rw [Int.toNat_natCast]
  have hq1 : RightQ n m (c.sets.set (ln % n) ((row c (ln % n)).set k (fillW (wayN (row c (ln % n)) k) ln st data))) := rightq_set h hlt hr1
  have hrow1 := row_setq (R := c.sets) (ln % n) ((row c (ln % n)).set k (fillW (wayN (row c (ln % n)) k) ln st data))
  have hR : (fillR c ln st data).1 = (c.sets.set (ln % n) ((row c (ln % n)).set k (fillW (wayN (row c (ln % n)) k) ln st data))).set (ln % n) (touchL (row ⟨c.sets.set (ln % n) ((row c (ln % n)).set k (fillW (wayN (row c (ln % n)) k) ln st data))⟩ (ln % n)) k) := by
    rw [hfr, hrow1 _ hsl, if_pos rfl, List.set_set]
  have hts := fun x => touch_still (c := ⟨c.sets.set (ln % n) ((row c (ln % n)).set k (fillW (wayN (row c (ln % n)) k) ln st data))⟩) hq1 hlt hk x
  have hg : (fillR c ln st data).2 = goneW (wayN (row c (ln % n)) k) ln := by rw [hfr]
  have hstill : ∀ x, (wayOf ⟨(fillR c ln st data).1⟩ x).state = (wayOf ⟨c.sets.set (ln % n) ((row c (ln % n)).set k (fillW (wayN (row c (ln % n)) k) ln st data))⟩ x).state ∧ (wayOf ⟨(fillR c ln st data).1⟩ x).data = (wayOf ⟨c.sets.set (ln % n) ((row c (ln % n)).set k (fillW (wayN (row c (ln % n)) k) ln st data))⟩ x).data := fun x => by
    rw [hR]; exact ⟨(hts x).1, (hts x).2.1⟩
  have hln := (wayOf_of hq (c := ⟨(fillR c ln st data).1⟩) hk (x := ln) ?_ ?_).2
  rotate_left
  · obtain ⟨hk3, hse, _, ht, _⟩ := find_in (c := ⟨(fillR c ln st data).1⟩) hq hfd
    exact ht
  · rw [← ((fill_way h ln st hst data hfd).2.2.2)] at hst
    omega
  refine ⟨hq, ?_, ?_, ?_, ?_⟩
  · rw [hln]; exact hsta
  · rw [hln]; exact hdat
  · rw [hg]
    intro hgs
    have hgo : ¬ ((wayN (row c (ln % n)) k).state = 0 ∨ (wayN (row c (ln % n)) k).tag = (ln : Int)) := fun e => hgs (by unfold goneW; rw [if_pos e]; rfl)
    have hge : goneW (wayN (row c (ln % n)) k) ln = wayN (row c (ln % n)) k := by unfold goneW; rw [if_neg hgo]
    rw [hge]
    have hs0 : (wayN (row c (ln % n)) k).state ≠ 0 := fun e => hgo (.inl e)
    have htn : (wayN (row c (ln % n)) k).tag ≠ (ln : Int) := fun e => hgo (.inr e)
    have hmod := hwk.2.2.2.2.2.2.1 hs0
    have hww : (wayN (row c (ln % n)) k).wf := wayN_wf (row_wf hc _ hsl).2 hkl
    have htr := wf_u32 hww.2.1
    obtain ⟨x, hx⟩ : ∃ x : Nat, (wayN (row c (ln % n)) k).tag = (x : Int) := ⟨(wayN (row c (ln % n)) k).tag.toNat, by omega⟩
    rw [hx, Int.toNat_natCast] at hmod
    have hxl : x ≠ ln := fun e => htn (by rw [hx, e])
    have hw0 := wayOf_of h (x := x) hk (by rw [hmod]; exact hx) (by rw [hmod]; exact hs0)
    refine ⟨x, hxl, hx, by rw [hw0.2, hmod], ?_⟩
    rw [(hstill x).1]
    rcases wayOf_cases (c := ⟨c.sets.set (ln % n) ((row c (ln % n)).set k (fillW (wayN (row c (ln % n)) k) ln st data))⟩) hq1 x with ⟨j, hj, hf', e', ht, hst'⟩ | ⟨_, e', _⟩
    · exfalso
      rw [hrow1 _ hsl, if_pos hmod, wayN_setq _ _ hkl] at ht hst'
      by_cases hjk : j = k
      · rw [if_pos hjk] at ht
        have : ((ln : Nat) : Int) = (x : Int) := ht
        omega
      · rw [if_neg hjk] at ht hst'
        have := (wayOf_of h (x := x) hj (by rw [hmod]; exact ht) (by rw [hmod]; exact hst')).1
        rw [hw0.1] at this
        exact hjk (Option.some.inj this).symm
    · rw [e']; rfl
  · intro x hx hno
    rw [hg] at hno
    obtain ⟨a, b⟩ := hstill x
    have hu := wayOf_upd h hlt hk (fillW (wayN (row c (ln % n)) k) ln st data) hq1 x (fun _ => by show (ln : Int) ≠ (x : Int); omega) (fun hs0 ht => ?_)
    · rw [a, b, hu]; exact ⟨rfl, rfl⟩
    · apply hno
      have hgo : ¬ ((wayN (row c (ln % n)) k).state = 0 ∨ (wayN (row c (ln % n)) k).tag = (ln : Int)) := fun e => e.elim hs0 (fun e => by rw [ht] at e; omega)
      have hge : goneW (wayN (row c (ln % n)) k) ln = wayN (row c (ln % n)) k := by unfold goneW; rw [if_neg hgo]
      rw [hge]
      exact ⟨hs0, ht⟩
end Go.Proofs.Ytikeeegkndnnfaa.Abs
