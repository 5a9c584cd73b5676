/- Words of other seats' texts, as they are used here: Keep Pmap Legal. -/
import Derived.Test.YtabfinhkoihhfaaG15
namespace Go.Proofs.Ytabfinhkoihhfaa.Abs
open Go Go.RowKit Fn
set_option linter.unusedVariables false
set_option linter.unusedSimpArgs false
set_option linter.unnecessarySimpa false
set_option maxRecDepth 100000
set_option maxHeartbeats 4000000

def WayOK (n m s : Nat) (l : List Way) (k : Nat) : Prop :=
  0 ≤ (wayN l k).age ∧ (wayN l k).age < m ∧ (∀ j, j < m → j ≠ k → (wayN l j).age ≠ (wayN l k).age) ∧ 0 ≤ (wayN l k).state ∧ (wayN l k).state ≤ 3 ∧ ((wayN l k).state = 0 → (wayN l k).tag = 0 ∧ (wayN l k).data = zeros) ∧ ((wayN l k).state ≠ 0 → (wayN l k).tag.toNat % n = s) ∧ ((wayN l k).state ≠ 0 → ∀ j, j < m → j ≠ k → (wayN l j).state ≠ 0 → (wayN l j).tag ≠ (wayN l k).tag)
def RowOK (n m s : Nat) (l : List Way) : Prop := l.length = m ∧ ∀ k, k < m → WayOK n m s l k
def RightQ (n m : Nat) (R : List (List Way)) : Prop := R.length = n ∧ 1 ≤ n ∧ n ≤ 8 ∧ 1 ≤ m ∧ m ≤ 4 ∧ ∀ s, s < n → RowOK n m s ((R[s]?).getD [])
theorem right_q (c : Cache) (hc : c.wf) : RightP c ↔ ∃ m, RightQ c.sets.length m c.sets := by
  constructor
  · rintro ⟨h1, h2, h3⟩
    obtain ⟨h4, h5⟩ := h3 0 (by omega)
    refine ⟨(row c 0).length, rfl, h1, h2, h5.1, h5.2.1, fun s hs => ?_⟩
    show RowOK _ _ _ (row c s)
    obtain ⟨h6, h7⟩ := h3 s hs
    obtain ⟨_, _, h8, h9⟩ := (fine_iff c hc s hs).mp h7
    rw [ages_iff] at h8
    rw [← h6]
    refine ⟨rfl, fun k hk => ?_⟩
    obtain ⟨a1, a2, a3⟩ := h8 k hk
    obtain ⟨t1, t2, t3, t4, t5⟩ := h9 k hk
    refine ⟨a1, a2, fun j hj hjk => ?_, t1, t2, t3, t4, fun hz j hj hjk hjz he => ?_⟩
    · rcases Nat.lt_or_gt_of_ne hjk with h | h
      · exact a3 j h
      · exact fun e => (h8 j hj).2.2 k h e.symm
    · rcases Nat.lt_or_gt_of_ne hjk with h | h
      · exact t5 j h ⟨hz, hjz, he.symm⟩
      · exact (h9 j hj).2.2.2.2 k h ⟨hjz, hz, he⟩
  · rintro ⟨m, h0, h1, h2, h3, h4, h5⟩
    refine ⟨h1, h2, fun s hs => ?_⟩
    have hr : ∀ s, s < c.sets.length → (row c s).length = m := fun s hs => (h5 s hs).1
    refine ⟨by rw [hr s hs, hr 0 (by omega)], (fine_iff c hc s hs).mpr ⟨by rw [hr s hs]; exact h3, by rw [hr s hs]; exact h4, ?_, ?_⟩⟩
    · rw [ages_iff, hr s hs]
      intro k hk
      obtain ⟨a1, a2, a3, _⟩ := (h5 s hs).2 k hk
      exact ⟨a1, a2, fun j hj => a3 j (by omega) (by omega)⟩
    · intro k hk
      rw [hr s hs] at hk
      obtain ⟨a1, a2, a3, t1, t2, t3, t4, t5⟩ := (h5 s hs).2 k hk
      exact ⟨t1, t2, t3, t4, fun j hj ⟨d1, d2, d3⟩ => t5 d1 j (by omega) (by omega) d2 d3.symm⟩
theorem wayN_setq (l : List Way) (k : Nat) (h : k < l.length) (x : Way) (j : Nat) : wayN (l.set k x) j = if j = k then x else wayN l j := by
  unfold wayN
  rw [List.getElem?_set]
  by_cases hjk : k = j
  · rw [if_pos hjk, if_pos hjk.symm, if_pos h]; rfl
  · rw [if_neg hjk, if_neg (fun e => hjk e.symm)]
theorem rowok_set {n m s : Nat} {l : List Way} (h : RowOK n m s l) {k : Nat} (hk : k < m) {x : Way} (ha : x.age = (wayN l k).age) (hs : 0 ≤ x.state ∧ x.state ≤ 3) (hz : x.state = 0 → x.tag = 0 ∧ x.data = zeros) (ht : x.state ≠ 0 → x.tag.toNat % n = s) (hd : x.state ≠ 0 → ∀ j, j < m → j ≠ k → (wayN l j).state ≠ 0 → (wayN l j).tag ≠ x.tag) : RowOK n m s (l.set k x) := by
  have hw := fun j => wayN_setq l k (by rw [h.1]; exact hk) x j
  refine ⟨by rw [List.length_set]; exact h.1, fun j hj => ?_⟩
  obtain ⟨a1, a2, a3, t1, t2, t3, t4, t5⟩ := h.2 j hj
  obtain ⟨b1, b2, b3, _⟩ := h.2 k hk
  unfold WayOK
  rw [hw j]
  by_cases hjk : j = k
  · subst hjk
    rw [if_pos rfl, ha]
    refine ⟨b1, b2, fun i hi hik => ?_, hs.1, hs.2, hz, ht, fun h0 i hi hik => ?_⟩
    · rw [hw i, if_neg hik]; exact b3 i hi hik
    · rw [hw i, if_neg hik]; exact hd h0 i hi hik
  · rw [if_neg hjk]
    refine ⟨a1, a2, fun i hi hij => ?_, t1, t2, t3, t4, fun h0 i hi hij => ?_⟩
    · rw [hw i]
      by_cases hik : i = k
      · subst hik; rw [if_pos rfl, ha]; exact a3 i hi hij
      · rw [if_neg hik]; exact a3 i hi hij
    · rw [hw i]
      by_cases hik : i = k
      · subst hik
        rw [if_pos rfl]
        exact fun h1 e => hd h1 j hj hjk h0 e.symm
      · rw [if_neg hik]; exact t5 h0 i hi hij
theorem wayN_map (l : List Way) (f : Way → Way) (j : Nat) (h : j < l.length) : wayN (l.map f) j = f (wayN l j) := by
  unfold wayN; rw [List.getElem?_map, List.getElem?_eq_getElem h]; rfl
theorem wayN_touch (l : List Way) (w : Nat) (hw : w < l.length) (j : Nat) (hj : j < l.length) : wayN (touchL l w) j = if j = w then aged (wayN l w) 0 else up (wayN l w).age (wayN l j) := by
  unfold touchL
  rw [wayN_setq _ _ (by rw [bump_len]; exact hw), bump_all]
  by_cases h : j = w
  · rw [if_pos h, if_pos h, wayN_map _ _ _ hw]
    unfold up aged
    split <;> rfl
  · rw [if_neg h, if_neg h, wayN_map _ _ _ hj]
theorem up_state (a : Int) (x : Way) : (up a x).state = x.state ∧ (up a x).tag = x.tag ∧ (up a x).data = x.data ∧ (up a x).age = if x.age < a then x.age + 1 else x.age := by
  unfold up aged; split <;> exact ⟨rfl, rfl, rfl, rfl⟩
theorem touch_keep (l : List Way) (w : Nat) (hw : w < l.length) (j : Nat) (hj : j < l.length) : (wayN (touchL l w) j).state = (wayN l j).state ∧ (wayN (touchL l w) j).tag = (wayN l j).tag ∧ (wayN (touchL l w) j).data = (wayN l j).data ∧ (wayN (touchL l w) j).age = if j = w then 0 else if (wayN l j).age < (wayN l w).age then (wayN l j).age + 1 else (wayN l j).age := by
  rw [wayN_touch l w hw j hj]
  by_cases h : j = w
  · subst h; rw [if_pos rfl, if_pos rfl]; exact ⟨rfl, rfl, rfl, rfl⟩
  · rw [if_neg h, if_neg h]; exact up_state _ _
theorem rowok_touch {n m s : Nat} {l : List Way} (h : RowOK n m s l) {w : Nat} (hw : w < m) : RowOK n m s (touchL l w) := by
  have hk := fun j (hj : j < m) => touch_keep l w (by rw [h.1]; exact hw) j (by rw [h.1]; exact hj)
  obtain ⟨w1, w2, w3, _⟩ := h.2 w hw
  refine ⟨by rw [touch_len]; exact h.1, fun j hj => ?_⟩
  obtain ⟨a1, a2, a3, t1, t2, t3, t4, t5⟩ := h.2 j hj
  obtain ⟨k1, k2, k3, k4⟩ := hk j hj
  unfold WayOK
  rw [k1, k2, k3, k4]
  have hne := fun i (hi : i < m) (hij : i ≠ j) => a3 i hi hij
  refine ⟨?_, ?_, fun i hi hij => ?_, t1, t2, t3, t4, fun h0 i hi hij => ?_⟩
  · split
    · omega
    · split <;> omega
  · split
    · omega
    · rename_i hjw
      have := a3 w hw (fun e => hjw e.symm)
      split <;> omega
  · obtain ⟨i1, i2, i3, _⟩ := h.2 i hi
    have e1 := a3 i hi hij
    rw [(hk i hi).2.2.2]
    by_cases hiw : i = w
    · by_cases hjw : j = w
      · omega
      · rw [if_pos hiw, if_neg hjw]
        have e2 := a3 w hw (fun e => hjw e.symm)
        split <;> omega
    · have e3 := i3 w hw (fun e => hiw e.symm)
      by_cases hjw : j = w
      · rw [if_neg hiw, if_pos hjw]
        split <;> omega
      · rw [if_neg hiw, if_neg hjw]
        have e2 := a3 w hw (fun e => hjw e.symm)
        split <;> split <;> omega
  · rw [(hk i hi).1, (hk i hi).2.1]
    exact t5 h0 i hi hij
theorem rightq_set {n m : Nat} {R : List (List Way)} (h : RightQ n m R) {i : Nat} (hi : i < n) {l : List Way} (hl : RowOK n m i l) : RightQ n m (R.set i l) := by
  obtain ⟨h0, h1, h2, h3, h4, h5⟩ := h
  refine ⟨by rw [List.length_set]; exact h0, h1, h2, h3, h4, fun s hs => ?_⟩
  rw [List.getElem?_set]
  by_cases his : i = s
  · subst his; rw [if_pos rfl, if_pos (by omega)]; exact hl
  · rw [if_neg his]; exact h5 s hs
theorem rightq_touch {n m : Nat} {R : List (List Way)} (h : RightQ n m R) (a b : Int) : RightQ n m (touchR R a b) := by
  unfold touchR
  split
  · rename_i hb
    obtain ⟨b1, b2, b3, b4⟩ := hb
    have hi : a.toNat < n := by rw [← h.1]; omega
    have hr := h.2.2.2.2.2 _ hi
    refine rightq_set h hi (rowok_touch hr ?_)
    rw [hr.1] at b4; omega
  · exact h
theorem row_of (R : List (List Way)) (s : Nat) : row ⟨R⟩ s = (R[s]?).getD [] := rfl
theorem find_lt' {c : Cache} {ln k : Nat} (h : find c ln = some k) : isAt ln (wayN (row c (seti c ln)) k) = true := by
  unfold find at h
  split at h
  · cases h
  · exact (fnd_first _ _ _ _ _ h).1
theorem find_uniq {n m : Nat} {c : Cache} (h : RightQ n m c.sets) {ln k : Nat} (hk : k < m) (hat : isAt ln (wayN (row c (ln % n)) k) = true) : find c ln = some k := by
  obtain ⟨h0, h1, h2, h3, h4, h5⟩ := h
  have hse : seti c ln = ln % n := by unfold seti; rw [h0]
  have hr : RowOK n m (ln % n) (row c (ln % n)) := h5 _ (Nat.mod_lt _ h1)
  unfold find
  rw [if_neg (by omega), hse]
  obtain ⟨j, hj⟩ := fnd_has (row c (ln % n)) ln (row c (ln % n)).length 0 k (by omega) (by rw [hr.1]; omega) hat
  rw [hj]
  obtain ⟨f1, f2, f90003⟩ := fnd_first _ _ _ _ _ hj
  by_cases hjk : j = k
  · rw [hjk]
  · by_cases hlt : k < j
    · rw [f90003 k (by omega) hlt] at hat; cases hat
    · obtain ⟨g1, g2⟩ := (isAt_iff _ _).mp f1
      obtain ⟨g3, g4⟩ := (isAt_iff _ _).mp hat
      exact absurd (by rw [g1, g3]) ((hr.2 k hk).2.2.2.2.2.2.2 g4 j (by omega) hjk g2)
theorem rightq_upd {n m : Nat} {c : Cache} (h : RightQ n m c.sets) {s k : Nat} (hs : s < n) (hk : k < m) {x : Way} (ha : x.age = (wayN (row c s) k).age) (ht : x.tag = (wayN (row c s) k).tag) (h0 : (wayN (row c s) k).state ≠ 0) (hx : 1 ≤ x.state ∧ x.state ≤ 3) : RightQ n m (c.sets.set s ((row c s).set k x)) := by
  have hr : RowOK n m s (row c s) := h.2.2.2.2.2 s hs
  obtain ⟨a1, a2, a3, t1, t2, t3, t4, t5⟩ := hr.2 k hk
  refine rightq_set h hs (rowok_set hr hk ha (by omega) (by omega) (fun _ => ?_) (fun _ j hj hjk hz => ?_))
  · rw [ht]; exact t4 h0
  · rw [ht]; exact t5 h0 j hj hjk hz
theorem find_in {n m : Nat} {c : Cache} (h : RightQ n m c.sets) {ln k : Nat} (hf : find c ln = some k) : k < m ∧ seti c ln = ln % n ∧ ln % n < n ∧ (wayN (row c (ln % n)) k).tag = (ln : Int) ∧ (wayN (row c (ln % n)) k).state ≠ 0 := by
  obtain ⟨h1, h2⟩ := find_lt hf
  have hse : seti c ln = ln % n := by unfold seti; rw [h.1]
  have hlt : ln % n < n := Nat.mod_lt _ h.2.1
  have hr : RowOK n m (ln % n) (row c (ln % n)) := h.2.2.2.2.2 _ hlt
  have h3 := (isAt_iff _ _).mp (find_lt' hf)
  rw [hse] at h2 h3
  exact ⟨by rw [hr.1] at h2; exact h2, hse, hlt, h3.1, h3.2⟩
theorem rightq_setR {n m : Nat} {c : Cache} (h : RightQ n m c.sets) (ln : Nat) (st : Int) : RightQ n m (setR c ln st) := by
  unfold setR
  cases hf : find c ln with
  | none => exact h
  | some k =>
    obtain ⟨hk, hse, hlt, h1, h2⟩ := find_in h hf
    simp only
    split
    · exact h
    · rename_i hst
      rw [hse]
      have hr : RowOK n m (ln % n) (row c (ln % n)) := h.2.2.2.2.2 _ hlt
      unfold setW
      by_cases hz : st = 0
      · rw [if_pos hz]
        exact rightq_set h hlt (rowok_set hr hk rfl ⟨Int.le_refl 0, by show (0 : Int) ≤ 3; decide⟩ (fun _ => ⟨rfl, rfl⟩) (fun h0 => absurd rfl h0) (fun h0 => absurd rfl h0))
      · rw [if_neg hz]
        exact rightq_upd h hlt hk rfl rfl h2 (by show 1 ≤ st ∧ st ≤ 3; omega)
theorem rightq_write {n m : Nat} {c : Cache} (h : RightQ n m c.sets) (addr : Nat) (size v : Int) (hw : (writeR c addr size v).2 = true) : RightQ n m (writeR c addr size v).1 ∧ ∃ k, k < m ∧ Okay addr size ∧ find c (addr / 16) = some k ∧ writeR c addr size v = (c.sets.set (addr / 16 % n) ((row c (addr / 16 % n)).set k (wrW (wayN (row c (addr / 16 % n)) k) (addr % 16) size.toNat v)), true) := by
  unfold writeR at hw ⊢
  cases hk : writeK c addr size with
  | none => rw [hk] at hw; cases hw
  | some k =>
    simp only
    unfold writeK at hk
    cases hk2 : readK c addr size with
    | none => rw [hk2] at hk; cases hk
    | some k2 =>
      rw [hk2] at hk
      simp only at hk
      split at hk
      · rename_i hst
        obtain rfl := Option.some.inj hk
        obtain ⟨hok, hf, _⟩ := place_some hk2
        obtain ⟨hkm, hse, hlt, h1, h2⟩ := find_in h hf
        rw [hse]
        exact ⟨rightq_upd h hlt hkm rfl rfl h2 ⟨by show (1 : Int) ≤ 3; decide, by show (3 : Int) ≤ 3; decide⟩, k2, hkm, hok, hf, rfl⟩
      · cases hk

theorem fill_is {n m : Nat} {c : Cache} (h : RightQ n m c.sets) (ln : Nat) (st : Int) (hst : 1 ≤ st ∧ st ≤ 3) (data : List Int) :
    ∃ k, k < m ∧ ln % n < n ∧ fillR c ln st data = (c.sets.set (ln % n) (touchL ((row c (ln % n)).set k (fillW (wayN (row c (ln % n)) k) ln st data)) k), goneW (wayN (row c (ln % n)) k) ln) ∧ RightQ n m (fillR c ln st data).1 ∧ find ⟨(fillR c ln st data).1⟩ ln = some k ∧ (∀ j, j < m → j ≠ k → (wayN (row c (ln % n)) j).state ≠ 0 → (wayN (row c (ln % n)) j).tag ≠ (ln : Int)) := by
  have h' := h
  obtain ⟨h0, h1, h2, h3, h4, h5⟩ := h'
  have hse : seti c ln = ln % n := by unfold seti; rw [h0]
  have hlt : ln % n < n := Nat.mod_lt _ h1
  have hr : RowOK n m (ln % n) (row c (ln % n)) := h5 _ hlt
  have hz : ¬ c.sets.length = 0 := by omega
  obtain ⟨v1, v2, v3⟩ := victim_lt c ln hz (by rw [hse, hr.1]; omega)
  rw [hse, hr.1] at v3
  have hd : ∀ j, j < m → j ≠ (victim c ln).2 → (wayN (row c (ln % n)) j).state ≠ 0 → (wayN (row c (ln % n)) j).tag ≠ (ln : Int) := by
    intro j hj hjk hjz he
    have hf := find_uniq h hj ((isAt_iff _ _).mpr ⟨he, hjz⟩)
    unfold victim at hjk
    rw [hf] at hjk
    exact hjk rfl
  have hf : fillR c ln st data = (touchR (c.sets.set (seti c ln) ((row c (seti c ln)).set (victim c ln).2 (fillW (wayN (row c (seti c ln)) (victim c ln).2) ln st data))) (seti c ln : Int) ((victim c ln).2 : Int), goneW (wayN (row c (seti c ln)) (victim c ln).2) ln) := if_neg (by rw [hse, hr.1]; omega)
  rw [hse] at hf
  generalize hk : (victim c ln).2 = k at *
  have hx : (fillW (wayN (row c (ln % n)) k) ln st data).state = st := rfl
  have hro : RowOK n m (ln % n) ((row c (ln % n)).set k (fillW (wayN (row c (ln % n)) k) ln st data)) := rowok_set hr v3 rfl (by rw [hx]; omega) (by rw [hx]; omega) (fun _ => rfl) (fun _ j hj hjk hz => hd j hj hjk hz)
  have hq := rightq_set h hlt hro
  have hil : ln % n < (c.sets.set (ln % n) ((row c (ln % n)).set k (fillW (wayN (row c (ln % n)) k) ln st data))).length := by rw [hq.1]; exact hlt
  have hge : (c.sets.set (ln % n) ((row c (ln % n)).set k (fillW (wayN (row c (ln % n)) k) ln st data)))[ln % n] = (row c (ln % n)).set k (fillW (wayN (row c (ln % n)) k) ln st data) := by rw [List.getElem_set_self]
  have ht := touch_some _ (ln % n) k hil (by rw [hge, hro.1]; exact v3)
  rw [hge, List.set_set] at ht
  rw [ht] at hf
  have hqr : RightQ n m (fillR c ln st data).1 := by rw [hf]; exact rightq_set h hlt (rowok_touch hro v3)
  refine ⟨k, v3, hlt, hf, hqr, ?_, hd⟩
  refine find_uniq (c := ⟨(fillR c ln st data).1⟩) hqr v3 ?_
  rw [hf]
  show isAt ln (wayN (row ⟨c.sets.set (ln % n) _⟩ (ln % n)) k) = true
  rw [row_of, List.getElem?_set, if_pos rfl, if_pos (by omega), Option.getD_some]
  obtain ⟨k1, k2, _⟩ := touch_keep _ k (by rw [hro.1]; exact v3) k (by rw [hro.1]; exact v3)
  rw [isAt_iff, k1, k2, wayN_setq _ _ (by rw [hr.1]; exact v3), if_pos rfl]
  exact ⟨rfl, by rw [hx]; omega⟩
theorem fill_way {n m : Nat} {c : Cache} (h : RightQ n m c.sets) (ln : Nat) (st : Int) (hst : 1 ≤ st ∧ st ≤ 3) (data : List Int) {k : Nat} (hfd : find ⟨(fillR c ln st data).1⟩ ln = some k) :
    k < m ∧ (wayN (row ⟨(fillR c ln st data).1⟩ (ln % n)) k).age = 0 ∧ (wayN (row ⟨(fillR c ln st data).1⟩ (ln % n)) k).data = data ∧ (wayN (row ⟨(fillR c ln st data).1⟩ (ln % n)) k).state = st := by
  obtain ⟨k', hk, hlt, hf, hq, hfd', hd⟩ := fill_is h ln st hst data
  rw [hfd] at hfd'
  obtain rfl := Option.some.inj hfd'
  have hri : RowOK n m (ln % n) (row c (ln % n)) := h.2.2.2.2.2 _ hlt
  have hil : ln % n < c.sets.length := by rw [h.1]; exact hlt
  have hroi : row ⟨(fillR c ln st data).1⟩ (ln % n) = touchL ((row c (ln % n)).set k (fillW (wayN (row c (ln % n)) k) ln st data)) k := by
    rw [hf, row_of, List.getElem?_set, if_pos rfl, if_pos hil]; rfl
  have hsl : ((row c (ln % n)).set k (fillW (wayN (row c (ln % n)) k) ln st data)).length = m := by rw [List.length_set, hri.1]
  rw [hroi]
  obtain ⟨k1, k2, k3, k4⟩ := touch_keep _ k (by rw [hsl]; exact hk) k (by rw [hsl]; exact hk)
  rw [k4, k3, k1, if_pos rfl, wayN_setq _ _ (by rw [hri.1]; exact hk), if_pos rfl]
  exact ⟨hk, rfl, rfl, rfl⟩
theorem wayOf_of {n m : Nat} {c : Cache} (h : RightQ n m c.sets) {x k : Nat} (hk : k < m) (ht : (wayN (row c (x % n)) k).tag = (x : Int)) (hs : (wayN (row c (x % n)) k).state ≠ 0) : find c x = some k ∧ wayOf c x = wayN (row c (x % n)) k := by
  have hf := find_uniq h hk ((isAt_iff x _).mpr ⟨ht, hs⟩)
  have hse : seti c x = x % n := by unfold seti; rw [h.1]
  exact ⟨hf, by unfold wayOf; rw [hf, hse]; rfl⟩
theorem wayOf_cases {n m : Nat} {c : Cache} (h : RightQ n m c.sets) (x : Nat) : (∃ k, k < m ∧ find c x = some k ∧ wayOf c x = wayN (row c (x % n)) k ∧ (wayN (row c (x % n)) k).tag = (x : Int) ∧ (wayN (row c (x % n)) k).state ≠ 0) ∨ (find c x = none ∧ wayOf c x = zeroW ∧ ∀ k, k < m → (wayN (row c (x % n)) k).tag = (x : Int) → (wayN (row c (x % n)) k).state = 0) := by
  cases hf : find c x with
  | some k =>
    obtain ⟨hk, hse, hlt, ht, hs⟩ := find_in h hf
    exact .inl ⟨k, hk, rfl, (wayOf_of h hk ht hs).2, ht, hs⟩
  | none =>
    refine .inr ⟨rfl, by unfold wayOf; rw [hf], fun k hk ht => Classical.byContradiction fun hs => ?_⟩
    rw [(wayOf_of h hk ht hs).1] at hf
    cases hf
theorem mod_lt' {n m : Nat} {R : List (List Way)} (h : RightQ n m R) (x : Nat) : x % n < n := Nat.mod_lt _ h.2.1
theorem row_setq {R : List (List Way)} (s : Nat) (l : List Way) (t : Nat) (hs : s < R.length) : row ⟨R.set s l⟩ t = if t = s then l else row ⟨R⟩ t := by
  unfold row
  by_cases h : t = s
  · subst h; rw [if_pos rfl, List.getElem?_set_self hs]; rfl
  · rw [if_neg h, List.getElem?_set_ne (fun e => h e.symm)]
theorem rowlen {n m : Nat} {c : Cache} (h : RightQ n m c.sets) (s : Nat) (hs : s < n) : (row c s).length = m := (h.2.2.2.2.2 s hs).1
theorem wayOf_upd {n m : Nat} {c : Cache} (h : RightQ n m c.sets) {s k : Nat} (hs : s < n) (hk : k < m) (w : Way) (hR : RightQ n m (c.sets.set s ((row c s).set k w))) (x : Nat) (hx : w.state ≠ 0 → w.tag ≠ (x : Int)) (ho : (wayN (row c s) k).state ≠ 0 → (wayN (row c s) k).tag ≠ (x : Int)) : wayOf ⟨c.sets.set s ((row c s).set k w)⟩ x = wayOf c x := by
  have hsl : s < c.sets.length := by rw [h.1]; exact hs
  have hkl : k < (row c s).length := by rw [rowlen h s hs]; exact hk
  have hrow := row_setq (R := c.sets) s ((row c s).set k w) (x % n) hsl
  rcases wayOf_cases h x with ⟨j, hj, hf, e, ht, hst⟩ | ⟨hf, e, hno⟩
  · have hw : wayN (row ⟨c.sets.set s ((row c s).set k w)⟩ (x % n)) j = wayN (row c (x % n)) j := by
      rw [hrow]
      by_cases hx2 : x % n = s
      · rw [if_pos hx2, wayN_setq _ _ hkl]
        have hjk : j ≠ k := fun e => by
          subst e
          rw [hx2] at ht hst
          exact ho hst ht
        rw [if_neg hjk, hx2]
      · rw [if_neg hx2]
    have := (wayOf_of hR hj (by rw [hw]; exact ht) (by rw [hw]; exact hst)).2
    rw [this, hw, e]
  · rcases wayOf_cases hR x with ⟨j, hj, hf', e', ht, hst⟩ | ⟨hf', e', _⟩
    · exfalso
      rw [hrow] at ht hst
      by_cases hx2 : x % n = s
      · rw [if_pos hx2, wayN_setq _ _ hkl] at ht hst
        by_cases hjk : j = k
        · rw [if_pos hjk] at ht hst
          exact hx hst ht
        · rw [if_neg hjk, ← hx2] at ht hst
          exact hst (hno j hj ht)
      · rw [if_neg hx2] at ht hst
        exact hst (hno j hj ht)
    · rw [e', e]
theorem setR_some {n m : Nat} {c : Cache} (h : RightQ n m c.sets) {ln k : Nat} {st : Int} (hst : 0 ≤ st ∧ st ≤ 3) (hf : find c ln = some k) : setR c ln st = c.sets.set (ln % n) ((row c (ln % n)).set k (setW (wayN (row c (ln % n)) k) st)) := by
  have hse : seti c ln = ln % n := by unfold seti; rw [h.1]
  unfold setR
  rw [hf]
  simp only
  rw [if_neg (by omega), hse]
theorem setR_none {c : Cache} {ln : Nat} {st : Int} (hf : find c ln = none) : setR c ln st = c.sets := by unfold setR; rw [hf]
theorem set_other {n m : Nat} {c : Cache} (h : RightQ n m c.sets) (ln : Nat) {st : Int} (hst : 0 ≤ st ∧ st ≤ 3) (x : Nat) (hx : x ≠ ln) : wayOf ⟨setR c ln st⟩ x = wayOf c x := by
  have hq := rightq_setR h ln st
  cases hf : find c ln with
  | none => rw [setR_none hf]
  | some k =>
    obtain ⟨hk, hse, hlt, ht, hs⟩ := find_in h hf
    rw [setR_some h hst hf] at hq ⊢
    refine wayOf_upd h hlt hk _ hq x (fun hw => ?_) (fun _ => by rw [ht]; omega)
    have : st ≠ 0 := fun e => hw (by unfold setW; rw [if_pos e]; rfl)
    have e : setW (wayN (row c (ln % n)) k) st = stW (wayN (row c (ln % n)) k) st := by unfold setW; rw [if_neg this]
    rw [e]
    show (wayN (row c (ln % n)) k).tag ≠ _
    rw [ht]; omega
theorem set_same {n m : Nat} {c : Cache} (h : RightQ n m c.sets) (ln : Nat) {st : Int} (hst : 0 ≤ st ∧ st ≤ 3) (hs0 : (wayOf c ln).state ≠ 0) : (wayOf ⟨setR c ln st⟩ ln).state = st ∧ (st ≠ 0 → (wayOf ⟨setR c ln st⟩ ln).data = (wayOf c ln).data) := by
  have hq := rightq_setR h ln st
  rcases wayOf_cases h ln with ⟨k, hk, hf, e, ht, hs⟩ | ⟨_, e, _⟩
  · rw [setR_some h hst hf] at hq ⊢
    have hlt := mod_lt' h ln
    have hsl : ln % n < c.sets.length := by rw [h.1]; exact hlt
    have hkl : k < (row c (ln % n)).length := by rw [rowlen h _ hlt]; exact hk
    have hrow := row_setq (R := c.sets) (ln % n) ((row c (ln % n)).set k (setW (wayN (row c (ln % n)) k) st)) (ln % n) hsl
    rw [if_pos rfl] at hrow
    have hw : ∀ j, wayN (row ⟨c.sets.set (ln % n) ((row c (ln % n)).set k (setW (wayN (row c (ln % n)) k) st))⟩ (ln % n)) j = if j = k then setW (wayN (row c (ln % n)) k) st else wayN (row c (ln % n)) j := fun j => by rw [hrow, wayN_setq _ _ hkl]
    by_cases h0 : st = 0
    · refine ⟨?_, fun h => absurd h0 h⟩
      rcases wayOf_cases hq ln with ⟨j, hj, hf', e', ht', hs'⟩ | ⟨_, e', _⟩
      · exfalso
        rw [hw] at ht' hs'
        by_cases hjk : j = k
        · rw [if_pos hjk] at hs'
          exact hs' (by unfold setW; rw [if_pos h0]; rfl)
        · rw [if_neg hjk] at ht' hs'
          have := (wayOf_of h hj ht' hs').1
          rw [hf] at this
          exact hjk (Option.some.inj this).symm
      · rw [e', h0]; rfl
    · have hwk := hw k
      rw [if_pos rfl] at hwk
      have e2 : setW (wayN (row c (ln % n)) k) st = stW (wayN (row c (ln % n)) k) st := by unfold setW; rw [if_neg h0]
      rw [e2] at hwk
      have := (wayOf_of hq hk (by rw [e2, hwk]; exact ht) (by rw [e2, hwk]; exact h0)).2
      rw [e2] at this ⊢
      rw [this, hwk, e]
      exact ⟨rfl, fun _ => rfl⟩
  · rw [e] at hs0
    exact absurd rfl hs0
theorem touch_still {n m : Nat} {c : Cache} (h : RightQ n m c.sets) {s w : Nat} (hs : s < n) (hw : w < m) (x : Nat) : (wayOf ⟨c.sets.set s (touchL (row c s) w)⟩ x).state = (wayOf c x).state ∧ (wayOf ⟨c.sets.set s (touchL (row c s) w)⟩ x).data = (wayOf c x).data ∧ (wayOf ⟨c.sets.set s (touchL (row c s) w)⟩ x).tag = (wayOf c x).tag := by
  have hsl : s < c.sets.length := by rw [h.1]; exact hs
  have hwl : w < (row c s).length := by rw [rowlen h s hs]; exact hw
  have hq : RightQ n m (c.sets.set s (touchL (row c s) w)) := rightq_set h hs (rowok_touch (h.2.2.2.2.2 s hs) hw)
  have hrow := row_setq (R := c.sets) s (touchL (row c s) w) (x % n) hsl
  have hk : ∀ j, j < m → (wayN (row ⟨c.sets.set s (touchL (row c s) w)⟩ (x % n)) j).state = (wayN (row c (x % n)) j).state ∧ (wayN (row ⟨c.sets.set s (touchL (row c s) w)⟩ (x % n)) j).tag = (wayN (row c (x % n)) j).tag ∧ (wayN (row ⟨c.sets.set s (touchL (row c s) w)⟩ (x % n)) j).data = (wayN (row c (x % n)) j).data := fun j hj => by
    rw [hrow]
    by_cases hx : x % n = s
    · rw [if_pos hx, hx]
      obtain ⟨a, b, d, _⟩ := touch_keep (row c s) w hwl j (by rw [rowlen h s hs]; exact hj)
      exact ⟨a, b, d⟩
    · rw [if_neg hx]
      exact ⟨rfl, rfl, rfl⟩
  rcases wayOf_cases h x with ⟨j, hj, hf, e, ht, hst⟩ | ⟨hf, e, hno⟩
  · obtain ⟨a, b, d⟩ := hk j hj
    have := (wayOf_of hq hj (by rw [b]; exact ht) (by rw [a]; exact hst)).2
    rw [this, e]
    exact ⟨a, d, b⟩
  · rcases wayOf_cases hq x with ⟨j, hj, hf', e', ht, hst⟩ | ⟨hf', e', _⟩
    · obtain ⟨a, b, d⟩ := hk j hj
      rw [b] at ht
      rw [a] at hst
      exact absurd (hno j hj ht) hst
    · rw [e', e]; exact ⟨rfl, rfl, rfl⟩
theorem fill_map {n m : Nat} {c : Cache} (hc : c.wf) (h : RightQ n m c.sets) (ln : Nat) {st : Int} (hst : 1 ≤ st ∧ st ≤ 3) (data : List Int) :
    RightQ n m (fillR c ln st data).1 ∧ (wayOf ⟨(fillR c ln st data).1⟩ ln).state = st ∧ (wayOf ⟨(fillR c ln st data).1⟩ ln).data = data ∧
    ((fillR c ln st data).2.state ≠ 0 → ∃ x : Nat, x ≠ ln ∧ (fillR c ln st data).2.tag = (x : Int) ∧ wayOf c x = (fillR c ln st data).2 ∧ (wayOf ⟨(fillR c ln st data).1⟩ x).state = 0) ∧
    ∀ x : Nat, x ≠ ln → ¬ ((fillR c ln st data).2.state ≠ 0 ∧ (fillR c ln st data).2.tag = (x : Int)) → (wayOf ⟨(fillR c ln st data).1⟩ x).state = (wayOf c x).state ∧ (wayOf ⟨(fillR c ln st data).1⟩ x).data = (wayOf c x).data := by
  obtain ⟨k, hk, hlt, hfr, hq, hfd, hd⟩ := fill_is h ln st hst data
  obtain ⟨hk2, _, hdat, hsta⟩ := fill_way h ln st hst data hfd
  have hro : RowOK n m (ln % n) (row c (ln % n)) := h.2.2.2.2.2 _ hlt
  have hsl : ln % n < c.sets.length := by rw [h.1]; exact hlt
  have hkl : k < (row c (ln % n)).length := by rw [rowlen h _ hlt]; exact hk
  have hwk := hro.2 k hk
  have hr1 : RowOK n m (ln % n) ((row c (ln % n)).set k (fillW (wayN (row c (ln % n)) k) ln st data)) := by
    refine rowok_set hro hk rfl (by show 0 ≤ st ∧ st ≤ 3; omega) (fun e => absurd e (by show ¬ st = 0; omega)) (fun _ => ?_) (fun _ j hj hjk hs => hd j hj hjk hs)
    show ((ln : Nat) : Int).toNat % n = ln % n
    rw [Int.toNat_natCast]
  have hq1 : RightQ n m (c.sets.set (ln % n) ((row c (ln % n)).set k (fillW (wayN (row c (ln % n)) k) ln st data))) := rightq_set h hlt hr1
  have hrow1 := row_setq (R := c.sets) (ln % n) ((row c (ln % n)).set k (fillW (wayN (row c (ln % n)) k) ln st data))
  have hR : (fillR c ln st data).1 = (c.sets.set (ln % n) ((row c (ln % n)).set k (fillW (wayN (row c (ln % n)) k) ln st data))).set (ln % n) (touchL (row ⟨c.sets.set (ln % n) ((row c (ln % n)).set k (fillW (wayN (row c (ln % n)) k) ln st data))⟩ (ln % n)) k) := by
    rw [hfr, hrow1 _ hsl, if_pos rfl, List.set_set]
  have hts := fun x => touch_still (c := ⟨c.sets.set (ln % n) ((row c (ln % n)).set k (fillW (wayN (row c (ln % n)) k) ln st data))⟩) hq1 hlt hk x
  have hg : (fillR c ln st data).2 = goneW (wayN (row c (ln % n)) k) ln := by rw [hfr]
  have hstill : ∀ x, (wayOf ⟨(fillR c ln st data).1⟩ x).state = (wayOf ⟨c.sets.set (ln % n) ((row c (ln % n)).set k (fillW (wayN (row c (ln % n)) k) ln st data))⟩ x).state ∧ (wayOf ⟨(fillR c ln st data).1⟩ x).data = (wayOf ⟨c.sets.set (ln % n) ((row c (ln % n)).set k (fillW (wayN (row c (ln % n)) k) ln st data))⟩ x).data := fun x => by
    rw [hR]; exact ⟨(hts x).1, (hts x).2.1⟩
  have hln := (wayOf_of hq (c := ⟨(fillR c ln st data).1⟩) hk (x := ln) ?_ ?_).2
  rotate_left
  · obtain ⟨hk3, hse, _, ht, _⟩ := find_in (c := ⟨(fillR c ln st data).1⟩) hq hfd
    exact ht
  · rw [← ((fill_way h ln st hst data hfd).2.2.2)] at hst
    omega
  refine ⟨hq, ?_, ?_, ?_, ?_⟩
  · rw [hln]; exact hsta
  · rw [hln]; exact hdat
  · rw [hg]
    intro hgs
    have hgo : ¬ ((wayN (row c (ln % n)) k).state = 0 ∨ (wayN (row c (ln % n)) k).tag = (ln : Int)) := fun e => hgs (by unfold goneW; rw [if_pos e]; rfl)
    have hge : goneW (wayN (row c (ln % n)) k) ln = wayN (row c (ln % n)) k := by unfold goneW; rw [if_neg hgo]
    rw [hge]
    have hs0 : (wayN (row c (ln % n)) k).state ≠ 0 := fun e => hgo (.inl e)
    have htn : (wayN (row c (ln % n)) k).tag ≠ (ln : Int) := fun e => hgo (.inr e)
    have hmod := hwk.2.2.2.2.2.2.1 hs0
    have hww : (wayN (row c (ln % n)) k).wf := wayN_wf (row_wf hc _ hsl).2 hkl
    have htr := wf_u32 hww.2.1
    obtain ⟨x, hx⟩ : ∃ x : Nat, (wayN (row c (ln % n)) k).tag = (x : Int) := ⟨(wayN (row c (ln % n)) k).tag.toNat, by omega⟩
    rw [hx, Int.toNat_natCast] at hmod
    have hxl : x ≠ ln := fun e => htn (by rw [hx, e])
    have hw0 := wayOf_of h (x := x) hk (by rw [hmod]; exact hx) (by rw [hmod]; exact hs0)
    refine ⟨x, hxl, hx, by rw [hw0.2, hmod], ?_⟩
    rw [(hstill x).1]
    rcases wayOf_cases (c := ⟨c.sets.set (ln % n) ((row c (ln % n)).set k (fillW (wayN (row c (ln % n)) k) ln st data))⟩) hq1 x with ⟨j, hj, hf', e', ht, hst'⟩ | ⟨_, e', _⟩
    · exfalso
      rw [hrow1 _ hsl, if_pos hmod, wayN_setq _ _ hkl] at ht hst'
      by_cases hjk : j = k
      · rw [if_pos hjk] at ht
        have : ((ln : Nat) : Int) = (x : Int) := ht
        omega
      · rw [if_neg hjk] at ht hst'
        have := (wayOf_of h (x := x) hj (by rw [hmod]; exact ht) (by rw [hmod]; exact hst')).1
        rw [hw0.1] at this
        exact hjk (Option.some.inj this).symm
    · rw [e']; rfl
  · intro x hx hno
    rw [hg] at hno
    obtain ⟨a, b⟩ := hstill x
    have hu := wayOf_upd h hlt hk (fillW (wayN (row c (ln % n)) k) ln st data) hq1 x (fun _ => by show (ln : Int) ≠ (x : Int); omega) (fun hs0 ht => ?_)
    · rw [a, b, hu]; exact ⟨rfl, rfl⟩
    · apply hno
      have hgo : ¬ ((wayN (row c (ln % n)) k).state = 0 ∨ (wayN (row c (ln % n)) k).tag = (ln : Int)) := fun e => e.elim hs0 (fun e => by rw [ht] at e; omega)
      have hge : goneW (wayN (row c (ln % n)) k) ln = wayN (row c (ln % n)) k := by unfold goneW; rw [if_neg hgo]
      rw [hge]
      exact ⟨hs0, ht⟩
def RQ (c : Cache) : Prop := ∃ m, RightQ c.sets.length m c.sets
theorem setR_len (c : Cache) (ln : Nat) (st : Int) : (setR c ln st).length = c.sets.length := by
  unfold setR
  split
  · split
    · rfl
    · rw [List.length_set]
  · rfl
theorem set_all {c : Cache} (h : RQ c) (ln : Nat) {st : Int} (hst : 0 ≤ st ∧ st ≤ 3) (hs0 : (wayOf c ln).state ≠ 0) : RQ ⟨setR c ln st⟩ ∧ (wayOf ⟨setR c ln st⟩ ln).state = st ∧ (st ≠ 0 → (wayOf ⟨setR c ln st⟩ ln).data = (wayOf c ln).data) ∧ ∀ x, x ≠ ln → wayOf ⟨setR c ln st⟩ x = wayOf c x := by
  obtain ⟨m, h⟩ := h
  have hq := rightq_setR h ln st
  obtain ⟨h1, h2⟩ := set_same h ln hst hs0
  exact ⟨⟨m, by rw [show (Cache.mk (setR c ln st)).sets.length = _ from setR_len c ln st]; exact hq⟩, h1, h2, fun x hx => set_other h ln hst x hx⟩
theorem fillR_len {c : Cache} {m : Nat} (h : RightQ c.sets.length m c.sets) (ln : Nat) {st : Int} (hst : 1 ≤ st ∧ st ≤ 3) (data : List Int) : (fillR c ln st data).1.length = c.sets.length := by
  obtain ⟨hq, _⟩ := fill_is h ln st hst data
  exact (fill_is h ln st hst data).elim fun k h => h.2.2.2.1.1
theorem fill_all {c : Cache} (hc : c.wf) (h : RQ c) (ln : Nat) {st : Int} (hst : 1 ≤ st ∧ st ≤ 3) (data : List Int) : RQ ⟨(fillR c ln st data).1⟩ ∧ (wayOf ⟨(fillR c ln st data).1⟩ ln).state = st ∧ (wayOf ⟨(fillR c ln st data).1⟩ ln).data = data ∧
    ((fillR c ln st data).2.state ≠ 0 → ∃ x : Nat, x ≠ ln ∧ (fillR c ln st data).2.tag = (x : Int) ∧ wayOf c x = (fillR c ln st data).2 ∧ (wayOf ⟨(fillR c ln st data).1⟩ x).state = 0) ∧
    ∀ x : Nat, x ≠ ln → ¬ ((fillR c ln st data).2.state ≠ 0 ∧ (fillR c ln st data).2.tag = (x : Int)) → (wayOf ⟨(fillR c ln st data).1⟩ x).state = (wayOf c x).state ∧ (wayOf ⟨(fillR c ln st data).1⟩ x).data = (wayOf c x).data := by
  obtain ⟨m, h⟩ := h
  obtain ⟨h1, h2⟩ := fill_map hc h ln hst data
  exact ⟨⟨m, by rw [show (Cache.mk (fillR c ln st data).1).sets.length = _ from fillR_len h ln hst data]; exact h1⟩, h2⟩
theorem rq_range {c : Cache} (h : RQ c) (x : Nat) : 0 ≤ (wayOf c x).state ∧ (wayOf c x).state ≤ 3 := by
  obtain ⟨m, h⟩ := h
  rcases wayOf_cases h x with ⟨k, hk, _, e, _, _⟩ | ⟨_, e, _⟩
  · rw [e]
    have := (h.2.2.2.2.2 (x % c.sets.length) (mod_lt' h x)).2 k hk
    exact ⟨this.2.2.2.1, this.2.2.2.2.1⟩
  · rw [e]; exact ⟨Int.le_refl _, by show (0 : Int) ≤ 3; omega⟩
def stA (m : Coh) (k x : Nat) : Int := (wayOf (cacheAt m k) x).state
def daA (m : Coh) (k x : Nat) : List Int := (wayOf (cacheAt m k) x).data
def SoundP (m : Coh) : Prop := (∀ k, k < m.caches.length → RQ (cacheAt m k)) ∧ ∀ k, k < m.caches.length → ∀ x, stA m k x ≠ 0 → x * 16 + 16 ≤ m.mem.length ∧ (stA m k x ≠ 3 → daA m k x = bytesM m x) ∧ (stA m k x > 1 → ∀ j, j < m.caches.length → j ≠ k → stA m j x = 0)
def Says (m : Coh) (x : Nat) (d : List Int) : Prop := (∃ k, k < m.caches.length ∧ stA m k x = 3 ∧ d = daA m k x) ∨ ((∀ k, k < m.caches.length → stA m k x ≠ 3) ∧ d = bytesM m x)
theorem says_one {m : Coh} (h : SoundP m) {x : Nat} {d d' : List Int} (h1 : Says m x d) (h2 : Says m x d') : d = d' := by
  rcases h1 with ⟨k, hk, hs, rfl⟩ | ⟨hn, rfl⟩ <;> rcases h2 with ⟨j, hj, hs', rfl⟩ | ⟨hn', rfl⟩
  · by_cases hjk : j = k
    · rw [hjk]
    · have := (h.2 k hk x (by omega)).2.2 (by omega) j hj hjk
      omega
  · exact absurd hs (hn' k hk)
  · exact absurd hs' (hn j hj)
  · rfl
theorem says_some (m : Coh) (x : Nat) : ∃ d, Says m x d := by
  by_cases h : ∃ k, k < m.caches.length ∧ stA m k x = 3
  · obtain ⟨k, hk, hs⟩ := h
    exact ⟨_, .inl ⟨k, hk, hs, rfl⟩⟩
  · exact ⟨_, .inr ⟨fun k hk hs => h ⟨k, hk, hs⟩, rfl⟩⟩
theorem bytes_get (m : Coh) (x i : Nat) : (bytesM m x)[i]? = if i < 16 then m.mem[x * 16 + i]? else none := by
  unfold bytesM
  rw [List.getElem?_take]
  split
  · rw [List.getElem?_drop]
  · rfl
theorem bytes_put (m : Coh) (ln : Nat) (d : List Int) (hl : ln * 16 + 16 ≤ m.mem.length) (hd : d.length = 16) (x : Nat) : bytesM (putM m ln d) x = if x = ln then d else bytesM m x := by
  have hp : putM m ln d = { m with mem := spl m.mem (ln * 16) d } := if_pos hl
  apply List.ext_getElem?
  intro i
  rw [bytes_get, hp]
  show (if i < 16 then (spl m.mem (ln * 16) d)[x * 16 + i]? else none) = _
  rw [spl_get _ _ _ (by omega)]
  by_cases hx : x = ln
  · subst hx
    rw [if_pos rfl]
    by_cases hi : i < 16
    · rw [if_pos hi, if_pos (by omega), show x * 16 + i - x * 16 = i by omega]
    · rw [if_neg hi, List.getElem?_eq_none (by omega)]
  · rw [if_neg hx, bytes_get]
    by_cases hi : i < 16
    · rw [if_pos hi, if_pos hi, if_neg (by omega)]
    · rw [if_neg hi, if_neg hi]
theorem putM_at (m : Coh) (ln : Nat) (d : List Int) (k : Nat) : cacheAt (putM m ln d) k = cacheAt m k := by unfold cacheAt; rw [putM_caches]
theorem withC_st (m : Coh) {k : Nat} (hk : k < m.caches.length) (R : List (List Way)) (j x : Nat) : stA (withC m k R) j x = (if j = k then (wayOf ⟨R⟩ x).state else stA m j x) ∧ daA (withC m k R) j x = (if j = k then (wayOf ⟨R⟩ x).data else daA m j x) := by
  unfold stA daA
  rw [cacheAt_set m k R j hk]
  split <;> exact ⟨rfl, rfl⟩
theorem withC_bytes (m : Coh) (k : Nat) (R : List (List Way)) (x : Nat) : bytesM (withC m k R) x = bytesM m x := rfl
theorem bkM_len (m : Coh) (w : Way) : (backM m w).mem.length = m.mem.length := by
  unfold backM
  split
  · exact putM_len _ _ _
  · rfl
theorem gotv_rng (k : Int) (b : Bool) : 1 ≤ gotv k b ∧ gotv k b ≤ 3 := by unfold gotv; split <;> (try split) <;> omega
theorem stv_id {s : Int} (h : 0 ≤ s ∧ s ≤ 3) : stv s = s := by unfold stv; rw [if_neg (by omega), if_neg (by omega)]
theorem snoop_step {m : Coh} (h : SoundP m) (who kind : Int) (ln : Nat) (hlies : ln * 16 + 16 ≤ m.mem.length) (k : Nat) (hk : k < m.caches.length) (hdl : (daA m k ln).length = 16) :
    SoundP (snoop1 who kind ln m k) ∧ (∀ x d, Says m x d → Says (snoop1 who kind ln m k) x d) ∧ (∀ j x, ¬ (j = k ∧ x = ln) → stA (snoop1 who kind ln m k) j x = stA m j x ∧ daA (snoop1 who kind ln m k) j x = daA m j x) ∧ ((k : Int) ≠ who → stA (snoop1 who kind ln m k) k ln = if kind = 1 ∧ stA m k ln > 0 then 1 else 0) ∧ ((k : Int) = who → snoop1 who kind ln m k = m) := by
  have hrg := rq_range (h.1 k hk) ln
  by_cases hskip : (k : Int) = who ∨ (wayOf (cacheAt m k) ln).state = 0
  · have e : snoop1 who kind ln m k = m := if_pos hskip
    rw [e]
    refine ⟨h, fun _ _ h => h, fun _ _ _ => ⟨rfl, rfl⟩, fun hne => ?_, fun _ => rfl⟩
    rcases hskip with hw | h0
    · exact absurd hw hne
    · have h0 : stA m k ln = 0 := h0
      rw [h0, if_neg (by omega)]
  have hs0 : stA m k ln ≠ 0 := fun e => hskip (.inr e)
  have hst : stA m k ln = (wayOf (cacheAt m k) ln).state := rfl
  have hrg : 0 ≤ stA m k ln ∧ stA m k ln ≤ 3 := hrg
  obtain ⟨nx, hnx⟩ : ∃ nx, nx = snoopv (stA m k ln) kind := ⟨_, rfl⟩
  have hnv : nx = if kind = 1 ∧ stA m k ln > 0 then 1 else 0 := by rw [hnx]; unfold snoopv; rw [stv_id hrg]
  have hnr : 0 ≤ nx ∧ nx ≤ 1 := by rw [hnv]; split <;> omega
  obtain ⟨m1, hm1⟩ : ∃ m1, m1 = if stA m k ln = 3 then putM m ln (daA m k ln) else m := ⟨_, rfl⟩
  have hbk : backv (stA m k ln) = decide (stA m k ln = 3) := by unfold backv; rw [stv_id hrg]
  have hm1c : ∀ j, cacheAt m1 j = cacheAt m j := fun j => by rw [hm1]; split; exact putM_at _ _ _ _; rfl
  have hm1l : m1.caches.length = m.caches.length := by rw [hm1]; split; rw [putM_caches]; rfl
  have hm1m : m1.mem.length = m.mem.length := by rw [hm1]; split; exact putM_len _ _ _; rfl
  have hm1b : ∀ x, bytesM m1 x = if stA m k ln = 3 ∧ x = ln then daA m k ln else bytesM m x := fun x => by
    rw [hm1]
    by_cases h3 : stA m k ln = 3
    · rw [if_pos h3, bytes_put m ln _ hlies hdl]
      by_cases hx : x = ln
      · rw [if_pos hx, if_pos ⟨h3, hx⟩]
      · rw [if_neg hx, if_neg (fun e => hx e.2)]
    · rw [if_neg h3, if_neg (fun e => h3 e.1)]
  have he : snoop1 who kind ln m k = withC m1 k (setR (cacheAt m k) ln nx) := by
    unfold snoop1
    rw [if_neg hskip, hnx, hm1]
    show withC (if backv (stA m k ln) = true then putM m ln (daA m k ln) else m) k _ = _
    rw [hbk]
    by_cases h3 : stA m k ln = 3
    · rw [if_pos h3, decide_eq_true h3, if_pos rfl]; rfl
    · rw [if_neg h3, decide_eq_false h3, if_neg (by simp)]; rfl
  obtain ⟨a1, a2, a3, a4⟩ := set_all (h.1 k hk) ln (st := nx) (by omega) hs0
  have hk1 : k < m1.caches.length := by rw [hm1l]; exact hk
  have hS : ∀ j x, stA (withC m1 k (setR (cacheAt m k) ln nx)) j x = (if j = k ∧ x = ln then nx else stA m j x) ∧ (¬ (j = k ∧ x = ln) ∨ nx ≠ 0 → daA (withC m1 k (setR (cacheAt m k) ln nx)) j x = daA m j x) := fun j x => by
    obtain ⟨b1, b2⟩ := withC_st m1 hk1 (setR (cacheAt m k) ln nx) j x
    rw [b1, b2]
    by_cases hj : j = k
    · subst hj
      rw [if_pos rfl, if_pos rfl]
      by_cases hx : x = ln
      · subst hx
        rw [if_pos ⟨rfl, rfl⟩]
        exact ⟨a2, fun hh => hh.elim (fun hh => absurd ⟨rfl, rfl⟩ hh) a3⟩
      · rw [if_neg (fun e => hx e.2), a4 x hx]
        exact ⟨rfl, fun _ => rfl⟩
    · rw [if_neg hj, if_neg hj, if_neg (fun e => hj e.1)]
      unfold stA daA
      rw [hm1c]
      exact ⟨rfl, fun _ => rfl⟩
  have hB : ∀ x, bytesM (withC m1 k (setR (cacheAt m k) ln nx)) x = if stA m k ln = 3 ∧ x = ln then daA m k ln else bytesM m x := fun x => by rw [withC_bytes, hm1b]
  have hL : (withC m1 k (setR (cacheAt m k) ln nx)).caches.length = m.caches.length := by rw [withC_len, hm1l]
  have hM : (withC m1 k (setR (cacheAt m k) ln nx)).mem.length = m.mem.length := hm1m
  have hRQ : ∀ j, j < m.caches.length → RQ (cacheAt (withC m1 k (setR (cacheAt m k) ln nx)) j) := fun j hj => by
    rw [cacheAt_set m1 k _ j hk1]
    by_cases hjk : j = k
    · rw [if_pos hjk]; exact a1
    · rw [if_neg hjk, hm1c]; exact h.1 j hj
  rw [he]
  generalize withC m1 k (setR (cacheAt m k) ln nx) = m' at *
  refine ⟨⟨fun j hj => hRQ j (by rw [← hL]; exact hj), fun j hj x hx => ?_⟩, fun x d hd => ?_, fun j x hn => ?_, fun hne => ?_, fun hw => absurd (.inl hw) hskip⟩
  · rw [hL] at hj
    rw [(hS j x).1] at hx
    have hx0 : stA m j x ≠ 0 := by
      by_cases hjx : j = k ∧ x = ln
      · rw [hjx.1, hjx.2]; exact hs0
      · rw [if_neg hjx] at hx; exact hx
    obtain ⟨c1, c2, c3⟩ := h.2 j hj x hx0
    refine ⟨by rw [hM]; exact c1, fun h3 => ?_, fun h1 i hi hij => ?_⟩
    · rw [(hS j x).1] at h3
      rw [hB]
      by_cases hjx : j = k ∧ x = ln
      · rw [if_pos hjx] at hx
        rw [(hS j x).2 (.inr hx)]
        obtain ⟨rfl, rfl⟩ := hjx
        by_cases hs3 : stA m j x = 3
        · rw [if_pos ⟨hs3, rfl⟩]
        · rw [if_neg (fun e => hs3 e.1)]; exact c2 hs3
      · rw [if_neg hjx] at h3
        rw [(hS j x).2 (.inl hjx)]
        by_cases hs3 : stA m k ln = 3 ∧ x = ln
        · exfalso
          obtain ⟨hs3, rfl⟩ := hs3
          have hjk : j ≠ k := fun e => hjx ⟨e, rfl⟩
          exact hx0 ((h.2 k hk x hs0).2.2 (by omega) j hj hjk)
        · rw [if_neg hs3]; exact c2 h3
    · rw [(hS j x).1] at h1
      rw [(hS i x).1]
      rw [hL] at hi
      by_cases hjx : j = k ∧ x = ln
      · rw [if_pos hjx] at h1; omega
      · rw [if_neg hjx] at h1
        have := c3 h1 i hi hij
        by_cases hix : i = k ∧ x = ln
        · rw [hix.1, hix.2] at this; exact absurd this hs0
        · rw [if_neg hix]; exact this
  · rcases hd with ⟨i, hi, h3, rfl⟩ | ⟨hno, rfl⟩
    · by_cases hix : i = k ∧ x = ln
      · obtain ⟨rfl, rfl⟩ := hix
        refine .inr ⟨fun j hj => ?_, by rw [hB, if_pos ⟨h3, rfl⟩]⟩
        rw [hL] at hj
        rw [(hS j x).1]
        by_cases hjk : j = i
        · rw [if_pos ⟨hjk, rfl⟩]; omega
        · rw [if_neg (fun e => hjk e.1), (h.2 i hi x hs0).2.2 (by omega) j hj hjk]; omega
      · refine .inl ⟨i, by rw [hL]; exact hi, ?_, ((hS i x).2 (.inl hix)).symm⟩
        rw [(hS i x).1, if_neg hix]; exact h3
    · refine .inr ⟨fun j hj => ?_, ?_⟩
      · rw [hL] at hj
        rw [(hS j x).1]
        split
        · omega
        · exact hno j hj
      · rw [hB, if_neg (fun e => hno k hk (by rw [e.2]; exact e.1))]
  · rw [(hS j x).1, if_neg hn]
    exact ⟨rfl, (hS j x).2 (.inl hn)⟩
  · rw [(hS k ln).1, if_pos ⟨rfl, rfl⟩]; exact hnv
end Go.Proofs.Ytabfinhkoihhfaa.Abs
