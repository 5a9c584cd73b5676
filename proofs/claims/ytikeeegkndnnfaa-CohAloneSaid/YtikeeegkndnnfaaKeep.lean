/- Right caches stay right: in plain Lean. -/
import Derived.Test.YtikeeegkndnnfaaRight
namespace Go.Proofs.Ytikeeegkndnnfaa.Abs
open Go Go.RowKit Fn
set_option linter.unusedVariables false
set_option linter.unusedSimpArgs false
set_option linter.unnecessarySimpa false
set_option maxRecDepth 100000
set_option maxHeartbeats 4000000

/-- May the k-th of the m ways of set s of n be? -/
def WayOK (n m s : Nat) (l : List Way) (k : Nat) : Prop :=
  0 ≤ (wayN l k).age ∧ (wayN l k).age < m ∧ (∀ j, j < m → j ≠ k → (wayN l j).age ≠ (wayN l k).age) ∧ 0 ≤ (wayN l k).state ∧ (wayN l k).state ≤ 3 ∧ ((wayN l k).state = 0 → (wayN l k).tag = 0 ∧ (wayN l k).data = zeros) ∧ ((wayN l k).state ≠ 0 → (wayN l k).tag.toNat % n = s) ∧ ((wayN l k).state ≠ 0 → ∀ j, j < m → j ≠ k → (wayN l j).state ≠ 0 → (wayN l j).tag ≠ (wayN l k).tag)
def RowOK (n m s : Nat) (l : List Way) : Prop := l.length = m ∧ ∀ k, k < m → WayOK n m s l k
def RightQ (n m : Nat) (R : List (List Way)) : Prop := R.length = n ∧ 1 ≤ n ∧ n ≤ 8 ∧ 1 ≤ m ∧ m ≤ 4 ∧ ∀ s, s < n → RowOK n m s ((R[s]?).getD [])
theorem right_q (c : Cache) (hc : c.wf) : RightP c ↔ ∃ m, RightQ c.sets.length m c.sets := by
  constructor
  · rintro ⟨h1, h2, h3⟩
    obtain ⟨h4, h5⟩ := h3 0 (by omega)
    refine ⟨(row c 0).length, rfl, h1, h2, h5.1, h5.2.1, fun s hs => ?_⟩
    show RowOK _ _ _ (row c s)
    obtain ⟨h6, h7⟩ := h3 s hs
    obtain ⟨_, _, h8, h9⟩ := (fine_iff c hc s hs).mp h7
    rw [ages_iff] at h8
    rw [← h6]
    refine ⟨rfl, fun k hk => ?_⟩
    obtain ⟨a1, a2, a3⟩ := h8 k hk
    obtain ⟨t1, t2, t3, t4, t5⟩ := h9 k hk
    refine ⟨a1, a2, fun j hj hjk => ?_, t1, t2, t3, t4, fun hz j hj hjk hjz he => ?_⟩
    · rcases Nat.lt_or_gt_of_ne hjk with h | h
      · exact a3 j h
      · exact fun e => (h8 j hj).2.2 k h e.symm
    · rcases Nat.lt_or_gt_of_ne hjk with h | h
      · exact t5 j h ⟨hz, hjz, he.symm⟩
      · exact (h9 j hj).2.2.2.2 k h ⟨hjz, hz, he⟩
  · rintro ⟨m, h0, h1, h2, h3, h4, h5⟩
    refine ⟨h1, h2, fun s hs => ?_⟩
    have hr : ∀ s, s < c.sets.length → (row c s).length = m := fun s hs => (h5 s hs).1
    refine ⟨by rw [hr s hs, hr 0 (by omega)], (fine_iff c hc s hs).mpr ⟨by rw [hr s hs]; exact h3, by rw [hr s hs]; exact h4, ?_, ?_⟩⟩
    · rw [ages_iff, hr s hs]
      intro k hk
      obtain ⟨a1, a2, a3, _⟩ := (h5 s hs).2 k hk
      exact ⟨a1, a2, fun j hj => a3 j (by omega) (by omega)⟩
    · intro k hk
      rw [hr s hs] at hk
      obtain ⟨a1, a2, a3, t1, t2, t3, t4, t5⟩ := (h5 s hs).2 k hk
      exact ⟨t1, t2, t3, t4, fun j hj ⟨d1, d2, d3⟩ => t5 d1 j (by omega) (by omega) d2 d3.symm⟩
theorem wayN_setq (l : List Way) (k : Nat) (h : k < l.length) (x : Way) (j : Nat) : wayN (l.set k x) j = if j = k then x else wayN l j := by
  unfold wayN
  rw [List.getElem?_set]
  by_cases hjk : k = j
  · rw [if_pos hjk, if_pos hjk.symm, if_pos h]; rfl
  · rw [if_neg hjk, if_neg (fun e => hjk e.symm)]
theorem rowok_set {n m s : Nat} {l : List Way} (h : RowOK n m s l) {k : Nat} (hk : k < m) {x : Way} (ha : x.age = (wayN l k).age) (hs : 0 ≤ x.state ∧ x.state ≤ 3) (hz : x.state = 0 → x.tag = 0 ∧ x.data = zeros) (ht : x.state ≠ 0 → x.tag.toNat % n = s) (hd : x.state ≠ 0 → ∀ j, j < m → j ≠ k → (wayN l j).state ≠ 0 → (wayN l j).tag ≠ x.tag) : RowOK n m s (l.set k x) := by
  have hw := fun j => wayN_setq l k (by rw [h.1]; exact hk) x j
  refine ⟨by rw [List.length_set]; exact h.1, fun j hj => ?_⟩
  obtain ⟨a1, a2, a3, t1, t2, t3, t4, t5⟩ := h.2 j hj
  obtain ⟨b1, b2, b3, _⟩ := h.2 k hk
  unfold WayOK
  rw [hw j]
  by_cases hjk : j = k
  · subst hjk
    rw [if_pos rfl, ha]
    refine ⟨b1, b2, fun i hi hik => ?_, hs.1, hs.2, hz, ht, fun h0 i hi hik => ?_⟩
    · rw [hw i, if_neg hik]; exact b3 i hi hik
    · rw [hw i, if_neg hik]; exact hd h0 i hi hik
  · rw [if_neg hjk]
    refine ⟨a1, a2, fun i hi hij => ?_, t1, t2, t3, t4, fun h0 i hi hij => ?_⟩
    · rw [hw i]
      by_cases hik : i = k
      · subst hik; rw [if_pos rfl, ha]; exact a3 i hi hij
      · rw [if_neg hik]; exact a3 i hi hij
    · rw [hw i]
      by_cases hik : i = k
      · subst hik
        rw [if_pos rfl]
        exact fun h1 e => hd h1 j hj hjk h0 e.symm
      · rw [if_neg hik]; exact t5 h0 i hi hij
theorem wayN_map (l : List Way) (f : Way → Way) (j : Nat) (h : j < l.length) : wayN (l.map f) j = f (wayN l j) := by
  unfold wayN; rw [List.getElem?_map, List.getElem?_eq_getElem h]; rfl
theorem wayN_touch (l : List Way) (w : Nat) (hw : w < l.length) (j : Nat) (hj : j < l.length) : wayN (touchL l w) j = if j = w then aged (wayN l w) 0 else up (wayN l w).age (wayN l j) := by
  unfold touchL
  rw [wayN_setq _ _ (by rw [bump_len]; exact hw), bump_all]
  by_cases h : j = w
  · rw [if_pos h, if_pos h, wayN_map _ _ _ hw]
    unfold up aged
    split <;> rfl
  · rw [if_neg h, if_neg h, wayN_map _ _ _ hj]
theorem up_state (a : Int) (x : Way) : (up a x).state = x.state ∧ (up a x).tag = x.tag ∧ (up a x).data = x.data ∧ (up a x).age = if x.age < a then x.age + 1 else x.age := by
  unfold up aged; split <;> exact ⟨rfl, rfl, rfl, rfl⟩
theorem touch_keep (l : List Way) (w : Nat) (hw : w < l.length) (j : Nat) (hj : j < l.length) : (wayN (touchL l w) j).state = (wayN l j).state ∧ (wayN (touchL l w) j).tag = (wayN l j).tag ∧ (wayN (touchL l w) j).data = (wayN l j).data ∧ (wayN (touchL l w) j).age = if j = w then 0 else if (wayN l j).age < (wayN l w).age then (wayN l j).age + 1 else (wayN l j).age := by
  rw [wayN_touch l w hw j hj]
  by_cases h : j = w
  · subst h; rw [if_pos rfl, if_pos rfl]; exact ⟨rfl, rfl, rfl, rfl⟩
  · rw [if_neg h, if_neg h]; exact up_state _ _
theorem rowok_touch {n m s : Nat} {l : List Way} (h : RowOK n m s l) {w : Nat} (hw : w < m) : RowOK n m s (touchL l w) := by
  have hk := fun j (hj : j < m) => touch_keep l w (by rw [h.1]; exact hw) j (by rw [h.1]; exact hj)
  obtain ⟨w1, w2, w3, _⟩ := h.2 w hw
  refine ⟨by rw [touch_len]; exact h.1, fun j hj => ?_⟩
  obtain ⟨a1, a2, a3, t1, t2, t3, t4, t5⟩ := h.2 j hj
  obtain ⟨k1, k2, k3, k4⟩ := hk j hj
  unfold WayOK
  rw [k1, k2, k3, k4]
  have hne := fun i (hi : i < m) (hij : i ≠ j) => a3 i hi hij
  refine ⟨?_, ?_, fun i hi hij => ?_, t1, t2, t3, t4, fun h0 i hi hij => ?_⟩
  · split
    · omega
    · split <;> omega
  · split
    · omega
    · rename_i hjw
      have := a3 w hw (fun e => hjw e.symm)
      split <;> omega
  · obtain ⟨i1, i2, i3, _⟩ := h.2 i hi
    have e1 := a3 i hi hij
    rw [(hk i hi).2.2.2]
    by_cases hiw : i = w
    · by_cases hjw : j = w
      · omega
      · rw [if_pos hiw, if_neg hjw]
        have e2 := a3 w hw (fun e => hjw e.symm)
        split <;> omega
    · have e3 := i3 w hw (fun e => hiw e.symm)
      by_cases hjw : j = w
      · rw [if_neg hiw, if_pos hjw]
        split <;> omega
      · rw [if_neg hiw, if_neg hjw]
        have e2 := a3 w hw (fun e => hjw e.symm)
        split <;> split <;> omega
  · rw [(hk i hi).1, (hk i hi).2.1]
    exact t5 h0 i hi hij
theorem rightq_set {n m : Nat} {R : List (List Way)} (h : RightQ n m R) {i : Nat} (hi : i < n) {l : List Way} (hl : RowOK n m i l) : RightQ n m (R.set i l) := by
  obtain ⟨h0, h1, h2, h3, h4, h5⟩ := h
  refine ⟨by rw [List.length_set]; exact h0, h1, h2, h3, h4, fun s hs => ?_⟩
  rw [List.getElem?_set]
  by_cases his : i = s
  · subst his; rw [if_pos rfl, if_pos (by omega)]; exact hl
  · rw [if_neg his]; exact h5 s hs
theorem rightq_touch {n m : Nat} {R : List (List Way)} (h : RightQ n m R) (a b : Int) : RightQ n m (touchR R a b) := by
  unfold touchR
  split
  · rename_i hb
    obtain ⟨b1, b2, b3, b4⟩ := hb
    have hi : a.toNat < n := by rw [← h.1]; omega
    have hr := h.2.2.2.2.2 _ hi
    refine rightq_set h hi (rowok_touch hr ?_)
    rw [hr.1] at b4; omega
  · exact h
theorem row_of (R : List (List Way)) (s : Nat) : row ⟨R⟩ s = (R[s]?).getD [] := rfl
theorem find_lt' {c : Cache} {ln k : Nat} (h : find c ln = some k) : isAt ln (wayN (row c (seti c ln)) k) = true := by
  unfold find at h
  split at h
  · cases h
  · exact (fnd_first _ _ _ _ _ h).1
theorem find_uniq {n m : Nat} {c : Cache} (h : RightQ n m c.sets) {ln k : Nat} (hk : k < m) (hat : isAt ln (wayN (row c (ln % n)) k) = true) : find c ln = some k := by
  obtain ⟨h0, h1, h2, h3, h4, h5⟩ := h
  have hse : seti c ln = ln % n := by unfold seti; rw [h0]
  have hr : RowOK n m (ln % n) (row c (ln % n)) := h5 _ (Nat.mod_lt _ h1)
  unfold find
  rw [if_neg (by omega), hse]
  obtain ⟨j, hj⟩ := fnd_has (row c (ln % n)) ln (row c (ln % n)).length 0 k (by omega) (by rw [hr.1]; omega) hat
  rw [hj]
  obtain ⟨f1, f2, f90003⟩ := fnd_first _ _ _ _ _ hj
  by_cases hjk : j = k
  · rw [hjk]
  · by_cases hlt : k < j
    · rw [f90003 k (by omega) hlt] at hat; cases hat
    · obtain ⟨g1, g2⟩ := (isAt_iff _ _).mp f1
      obtain ⟨g3, g4⟩ := (isAt_iff _ _).mp hat
      exact absurd (by rw [g1, g3]) ((hr.2 k hk).2.2.2.2.2.2.2 g4 j (by omega) hjk g2)
theorem rightq_upd {n m : Nat} {c : Cache} (h : RightQ n m c.sets) {s k : Nat} (hs : s < n) (hk : k < m) {x : Way} (ha : x.age = (wayN (row c s) k).age) (ht : x.tag = (wayN (row c s) k).tag) (h0 : (wayN (row c s) k).state ≠ 0) (hx : 1 ≤ x.state ∧ x.state ≤ 3) : RightQ n m (c.sets.set s ((row c s).set k x)) := by
  have hr : RowOK n m s (row c s) := h.2.2.2.2.2 s hs
  obtain ⟨a1, a2, a3, t1, t2, t3, t4, t5⟩ := hr.2 k hk
  refine rightq_set h hs (rowok_set hr hk ha (by omega) (by omega) (fun _ => ?_) (fun _ j hj hjk hz => ?_))
  · rw [ht]; exact t4 h0
  · rw [ht]; exact t5 h0 j hj hjk hz
theorem find_in {n m : Nat} {c : Cache} (h : RightQ n m c.sets) {ln k : Nat} (hf : find c ln = some k) : k < m ∧ seti c ln = ln % n ∧ ln % n < n ∧ (wayN (row c (ln % n)) k).tag = (ln : Int) ∧ (wayN (row c (ln % n)) k).state ≠ 0 := by
  obtain ⟨h1, h2⟩ := find_lt hf
  have hse : seti c ln = ln % n := by unfold seti; rw [h.1]
  have hlt : ln % n < n := Nat.mod_lt _ h.2.1
  have hr : RowOK n m (ln % n) (row c (ln % n)) := h.2.2.2.2.2 _ hlt
  have h3 := (isAt_iff _ _).mp (find_lt' hf)
  rw [hse] at h2 h3
  exact ⟨by rw [hr.1] at h2; exact h2, hse, hlt, h3.1, h3.2⟩
theorem rightq_setR {n m : Nat} {c : Cache} (h : RightQ n m c.sets) (ln : Nat) (st : Int) : RightQ n m (setR c ln st) := by
  unfold setR
  cases hf : find c ln with
  | none => exact h
  | some k =>
    obtain ⟨hk, hse, hlt, h1, h2⟩ := find_in h hf
    simp only
    split
    · exact h
    · rename_i hst
      rw [hse]
      have hr : RowOK n m (ln % n) (row c (ln % n)) := h.2.2.2.2.2 _ hlt
      unfold setW
      by_cases hz : st = 0
      · rw [if_pos hz]
        exact rightq_set h hlt (rowok_set hr hk rfl ⟨Int.le_refl 0, by show (0 : Int) ≤ 3; decide⟩ (fun _ => ⟨rfl, rfl⟩) (fun h0 => absurd rfl h0) (fun h0 => absurd rfl h0))
      · rw [if_neg hz]
        exact rightq_upd h hlt hk rfl rfl h2 (by show 1 ≤ st ∧ st ≤ 3; omega)
theorem rightq_write {n m : Nat} {c : Cache} (h : RightQ n m c.sets) (addr : Nat) (size v : Int) (hw : (writeR c addr size v).2 = true) : RightQ n m (writeR c addr size v).1 ∧ ∃ k, k < m ∧ Okay addr size ∧ find c (addr / 16) = some k ∧ writeR c addr size v = (c.sets.set (addr / 16 % n) ((row c (addr / 16 % n)).set k (wrW (wayN (row c (addr / 16 % n)) k) (addr % 16) size.toNat v)), true) := by
  unfold writeR at hw ⊢
  cases hk : writeK c addr size with
  | none => rw [hk] at hw; cases hw
  | some k =>
    simp only
    unfold writeK at hk
    cases hk2 : readK c addr size with
    | none => rw [hk2] at hk; cases hk
    | some k2 =>
      rw [hk2] at hk
      simp only at hk
      split at hk
      · rename_i hst
        obtain rfl := Option.some.inj hk
        obtain ⟨hok, hf, _⟩ := place_some hk2
        obtain ⟨hkm, hse, hlt, h1, h2⟩ := find_in h hf
        rw [hse]
        exact ⟨rightq_upd h hlt hkm rfl rfl h2 ⟨by show (1 : Int) ≤ 3; decide, by show (3 : Int) ≤ 3; decide⟩, k2, hkm, hok, hf, rfl⟩
      · cases hk

set_option maxHeartbeats 4000000
/-- A filled cache. -/
theorem fill_is {n m : Nat} {c : Cache} (h : RightQ n m c.sets) (ln : Nat) (st : Int) (hst : 1 ≤ st ∧ st ≤ 3) (data : List Int) :
    ∃ k, k < m ∧ ln % n < n ∧ fillR c ln st data = (c.sets.set (ln % n) (touchL ((row c (ln % n)).set k (fillW (wayN (row c (ln % n)) k) ln st data)) k), goneW (wayN (row c (ln % n)) k) ln) ∧ RightQ n m (fillR c ln st data).1 ∧ find ⟨(fillR c ln st data).1⟩ ln = some k ∧ (∀ j, j < m → j ≠ k → (wayN (row c (ln % n)) j).state ≠ 0 → (wayN (row c (ln % n)) j).tag ≠ (ln : Int)) := by
  have h' := h
  obtain ⟨h0, h1, h2, h3, h4, h5⟩ := h'
  have hse : seti c ln = ln % n := by unfold seti; rw [h0]
  have hlt : ln % n < n := Nat.mod_lt _ h1
  have hr : RowOK n m (ln % n) (row c (ln % n)) := h5 _ hlt
  have hz : ¬ c.sets.length = 0 := by omega
  obtain ⟨v1, v2, v3⟩ := victim_lt c ln hz (by rw [hse, hr.1]; omega)
  rw [hse, hr.1] at v3
  have hd : ∀ j, j < m → j ≠ (victim c ln).2 → (wayN (row c (ln % n)) j).state ≠ 0 → (wayN (row c (ln % n)) j).tag ≠ (ln : Int) := by
    intro j hj hjk hjz he
    have hf := find_uniq h hj ((isAt_iff _ _).mpr ⟨he, hjz⟩)
    unfold victim at hjk
    rw [hf] at hjk
    exact hjk rfl
  have hf : fillR c ln st data = (touchR (c.sets.set (seti c ln) ((row c (seti c ln)).set (victim c ln).2 (fillW (wayN (row c (seti c ln)) (victim c ln).2) ln st data))) (seti c ln : Int) ((victim c ln).2 : Int), goneW (wayN (row c (seti c ln)) (victim c ln).2) ln) := if_neg (by rw [hse, hr.1]; omega)
  rw [hse] at hf
  generalize hk : (victim c ln).2 = k at *
  have hx : (fillW (wayN (row c (ln % n)) k) ln st data).state = st := rfl
  have hro : RowOK n m (ln % n) ((row c (ln % n)).set k (fillW (wayN (row c (ln % n)) k) ln st data)) := rowok_set hr v3 rfl (by rw [hx]; omega) (by rw [hx]; omega) (fun _ => rfl) (fun _ j hj hjk hz => hd j hj hjk hz)
  have hq := rightq_set h hlt hro
  have hil : ln % n < (c.sets.set (ln % n) ((row c (ln % n)).set k (fillW (wayN (row c (ln % n)) k) ln st data))).length := by rw [hq.1]; exact hlt
  have hge : (c.sets.set (ln % n) ((row c (ln % n)).set k (fillW (wayN (row c (ln % n)) k) ln st data)))[ln % n] = (row c (ln % n)).set k (fillW (wayN (row c (ln % n)) k) ln st data) := by rw [List.getElem_set_self]
  have ht := touch_some _ (ln % n) k hil (by rw [hge, hro.1]; exact v3)
  rw [hge, List.set_set] at ht
  rw [ht] at hf
  have hqr : RightQ n m (fillR c ln st data).1 := by rw [hf]; exact rightq_set h hlt (rowok_touch hro v3)
  refine ⟨k, v3, hlt, hf, hqr, ?_, hd⟩
  refine find_uniq (c := ⟨(fillR c ln st data).1⟩) hqr v3 ?_
  rw [hf]
  show isAt ln (wayN (row ⟨c.sets.set (ln % n) _⟩ (ln % n)) k) = true
  rw [row_of, List.getElem?_set, if_pos rfl, if_pos (by omega), Option.getD_some]
  obtain ⟨k1, k2, _⟩ := touch_keep _ k (by rw [hro.1]; exact v3) k (by rw [hro.1]; exact v3)
  rw [isAt_iff, k1, k2, wayN_setq _ _ (by rw [hr.1]; exact v3), if_pos rfl]
  exact ⟨rfl, by rw [hx]; omega⟩
/-- The way that was filled. -/
theorem fill_way {n m : Nat} {c : Cache} (h : RightQ n m c.sets) (ln : Nat) (st : Int) (hst : 1 ≤ st ∧ st ≤ 3) (data : List Int) {k : Nat} (hfd : find ⟨(fillR c ln st data).1⟩ ln = some k) :
    k < m ∧ (wayN (row ⟨(fillR c ln st data).1⟩ (ln % n)) k).age = 0 ∧ (wayN (row ⟨(fillR c ln st data).1⟩ (ln % n)) k).data = data ∧ (wayN (row ⟨(fillR c ln st data).1⟩ (ln % n)) k).state = st := by
  obtain ⟨k', hk, hlt, hf, hq, hfd', hd⟩ := fill_is h ln st hst data
  rw [hfd] at hfd'
  obtain rfl := Option.some.inj hfd'
  have hri : RowOK n m (ln % n) (row c (ln % n)) := h.2.2.2.2.2 _ hlt
  have hil : ln % n < c.sets.length := by rw [h.1]; exact hlt
  have hroi : row ⟨(fillR c ln st data).1⟩ (ln % n) = touchL ((row c (ln % n)).set k (fillW (wayN (row c (ln % n)) k) ln st data)) k := by
    rw [hf, row_of, List.getElem?_set, if_pos rfl, if_pos hil]; rfl
  have hsl : ((row c (ln % n)).set k (fillW (wayN (row c (ln % n)) k) ln st data)).length = m := by rw [List.length_set, hri.1]
  rw [hroi]
  obtain ⟨k1, k2, k3, k4⟩ := touch_keep _ k (by rw [hsl]; exact hk) k (by rw [hsl]; exact hk)
  rw [k4, k3, k1, if_pos rfl, wayN_setq _ _ (by rw [hri.1]; exact hk), if_pos rfl]
  exact ⟨hk, rfl, rfl, rfl⟩
theorem bytes_upd {old : Way} (ho : old.wf) (a : Nat) (bs : List Int) (h : a + bs.length ≤ 16) : bytesAt (updW old a bs) a bs.length = bs := by
  show ((updD old.data a bs).drop a).take bs.length = bs
  have hl := ho.2.2.1.1
  unfold updD
  rw [List.drop_append_of_le_length (by rw [List.length_take]; omega), List.drop_eq_nil_of_le (by rw [List.length_take]; omega), List.nil_append, List.take_append_of_le_length (Nat.le_refl _), List.take_length]
end Go.Proofs.Ytikeeegkndnnfaa.Abs
