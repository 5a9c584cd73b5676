/- Right caches stay right: in plain Lean. -/
import Derived.Test.YthanlobfjpjegaaRight2
import Derived.Test.YthanlobfjpjegaaBus
namespace Go.Proofs.Ythanlobfjpjegaa.Abs
open Go Go.RowKit Fn
set_option linter.unusedVariables false
set_option linter.unusedSimpArgs false
set_option linter.unnecessarySimpa false
set_option maxRecDepth 100000
set_option maxHeartbeats 1000000
/-- May the k-th of the m ways of set s of n be? -/
def WayOK (n m s : Nat) (l : List Way) (k : Nat) : Prop :=
  0 ≤ (wayN l k).age ∧ (wayN l k).age < m ∧ (∀ j, j < m → j ≠ k → (wayN l j).age ≠ (wayN l k).age) ∧ 0 ≤ (wayN l k).state ∧ (wayN l k).state ≤ 3 ∧ ((wayN l k).state = 0 → (wayN l k).tag = 0 ∧ (wayN l k).data = zeros) ∧ ((wayN l k).state ≠ 0 → (wayN l k).tag.toNat % n = s) ∧ ((wayN l k).state ≠ 0 → ∀ j, j < m → j ≠ k → (wayN l j).state ≠ 0 → (wayN l j).tag ≠ (wayN l k).tag)
def RowOK (n m s : Nat) (l : List Way) : Prop := l.length = m ∧ ∀ k, k < m → WayOK n m s l k
def RightQ (n m : Nat) (R : List (List Way)) : Prop := R.length = n ∧ 1 ≤ n ∧ n ≤ 8 ∧ 1 ≤ m ∧ m ≤ 4 ∧ ∀ s, s < n → RowOK n m s ((R[s]?).getD [])
theorem right_q (c : Cache) (hc : c.wf) : RightP c ↔ ∃ m, RightQ c.sets.length m c.sets := by
  constructor
  · rintro ⟨h1, h2, h3⟩
    obtain ⟨h4, h5⟩ := h3 0 (by omega)
    refine ⟨(row c 0).length, rfl, h1, h2, h5.1, h5.2.1, fun s hs => ?_⟩
    show RowOK _ _ _ (row c s)
    obtain ⟨h6, h7⟩ := h3 s hs
    obtain ⟨_, _, h8, h9⟩ := (fine_iff c hc s hs).mp h7
    rw [ages_iff] at h8
    rw [← h6]
    refine ⟨rfl, fun k hk => ?_⟩
    obtain ⟨a1, a2, a3⟩ := h8 k hk
    obtain ⟨t1, t2, t3, t4, t5⟩ := h9 k hk
    refine ⟨a1, a2, fun j hj hjk => ?_, t1, t2, t3, t4, fun hz j hj hjk hjz he => ?_⟩
    · rcases Nat.lt_or_gt_of_ne hjk with h | h
      · exact a3 j h
      · exact fun e => (h8 j hj).2.2 k h e.symm
    · rcases Nat.lt_or_gt_of_ne hjk with h | h
      · exact t5 j h ⟨hz, hjz, he.symm⟩
      · exact (h9 j hj).2.2.2.2 k h ⟨hjz, hz, he⟩
  · rintro ⟨m, h0, h1, h2, h3, h4, h5⟩
    refine ⟨h1, h2, fun s hs => ?_⟩
    have hr : ∀ s, s < c.sets.length → (row c s).length = m := fun s hs => (h5 s hs).1
    refine ⟨by rw [hr s hs, hr 0 (by omega)], (fine_iff c hc s hs).mpr ⟨by rw [hr s hs]; exact h3, by rw [hr s hs]; exact h4, ?_, ?_⟩⟩
    · rw [ages_iff, hr s hs]
      intro k hk
      obtain ⟨a1, a2, a3, _⟩ := (h5 s hs).2 k hk
      exact ⟨a1, a2, fun j hj => a3 j (by omega) (by omega)⟩
    · intro k hk
      rw [hr s hs] at hk
      obtain ⟨a1, a2, a3, t1, t2, t3, t4, t5⟩ := (h5 s hs).2 k hk
      exact ⟨t1, t2, t3, t4, fun j hj ⟨d1, d2, d3⟩ => t5 d1 j (by omega) (by omega) d2 d3.symm⟩
theorem wayN_setq (l : List Way) (k : Nat) (h : k < l.length) (x : Way) (j : Nat) : wayN (l.set k x) j = if j = k then x else wayN l j := by
  unfold wayN
  rw [List.getElem?_set]
  by_cases hjk : k = j
  · rw [if_pos hjk, if_pos hjk.symm, if_pos h]; rfl
  · rw [if_neg hjk, if_neg (fun e => hjk e.symm)]
theorem rowok_set {n m s : Nat} {l : List Way} (h : RowOK n m s l) {k : Nat} (hk : k < m) {x : Way} (ha : x.age = (wayN l k).age) (hs : 0 ≤ x.state ∧ x.state ≤ 3) (hz : x.state = 0 → x.tag = 0 ∧ x.data = zeros) (ht : x.state ≠ 0 → x.tag.toNat % n = s) (hd : x.state ≠ 0 → ∀ j, j < m → j ≠ k → (wayN l j).state ≠ 0 → (wayN l j).tag ≠ x.tag) : RowOK n m s (l.set k x) := by
  have hw := fun j => wayN_setq l k (by rw [h.1]; exact hk) x j
  refine ⟨by rw [List.length_set]; exact h.1, fun j hj => ?_⟩
  obtain ⟨a1, a2, a3, t1, t2, t3, t4, t5⟩ := h.2 j hj
  obtain ⟨b1, b2, b3, _⟩ := h.2 k hk
  unfold WayOK
  rw [hw j]
  by_cases hjk : j = k
  · subst hjk
    rw [if_pos rfl, ha]
    refine ⟨b1, b2, fun i hi hik => ?_, hs.1, hs.2, hz, ht, fun h0 i hi hik => ?_⟩
    · rw [hw i, if_neg hik]; exact b3 i hi hik
    · rw [hw i, if_neg hik]; exact hd h0 i hi hik
  · rw [if_neg hjk]
    refine ⟨a1, a2, fun i hi hij => ?_, t1, t2, t3, t4, fun h0 i hi hij => ?_⟩
    · rw [hw i]
      by_cases hik : i = k
      · subst hik; rw [if_pos rfl, ha]; exact a3 i hi hij
      · rw [if_neg hik]; exact a3 i hi hij
    · rw [hw i]
      by_cases hik : i = k
      · subst hik
        rw [if_pos rfl]
        exact fun h1 e => hd h1 j hj hjk h0 e.symm
      · rw [if_neg hik]; exact t5 h0 i hi hij
theorem wayN_map (l : List Way) (f : Way → Way) (j : Nat) (h : j < l.length) : wayN (l.map f) j = f (wayN l j) := by
  unfold wayN; rw [List.getElem?_map, List.getElem?_eq_getElem h]; rfl
theorem wayN_touch (l : List Way) (w : Nat) (hw : w < l.length) (j : Nat) (hj : j < l.length) : wayN (touchL l w) j = if j = w then aged (wayN l w) 0 else up (wayN l w).age (wayN l j) := by
  unfold touchL
  rw [wayN_setq _ _ (by rw [bump_len]; exact hw), bump_all]
  by_cases h : j = w
  · rw [if_pos h, if_pos h, wayN_map _ _ _ hw]
    unfold up aged
    split <;> rfl
  · rw [if_neg h, if_neg h, wayN_map _ _ _ hj]
theorem up_state (a : Int) (x : Way) : (up a x).state = x.state ∧ (up a x).tag = x.tag ∧ (up a x).data = x.data ∧ (up a x).age = if x.age < a then x.age + 1 else x.age := by
  unfold up aged; split <;> exact ⟨rfl, rfl, rfl, rfl⟩
theorem touch_keep (l : List Way) (w : Nat) (hw : w < l.length) (j : Nat) (hj : j < l.length) : (wayN (touchL l w) j).state = (wayN l j).state ∧ (wayN (touchL l w) j).tag = (wayN l j).tag ∧ (wayN (touchL l w) j).data = (wayN l j).data ∧ (wayN (touchL l w) j).age = if j = w then 0 else if (wayN l j).age < (wayN l w).age then (wayN l j).age + 1 else (wayN l j).age := by
  rw [wayN_touch l w hw j hj]
  by_cases h : j = w
  · subst h; rw [if_pos rfl, if_pos rfl]; exact ⟨rfl, rfl, rfl, rfl⟩
  · rw [if_neg h, if_neg h]; exact up_state _ _
theorem rowok_touch {n m s : Nat} {l : List Way} (h : RowOK n m s l) {w : Nat} (hw : w < m) : RowOK n m s (touchL l w) := by
  have hk := fun j (hj : j < m) => touch_keep l w (by rw [h.1]; exact hw) j (by rw [h.1]; exact hj)
  obtain ⟨w1, w2, w3, _⟩ := h.2 w hw
  refine ⟨by rw [touch_len]; exact h.1, fun j hj => ?_⟩
  obtain ⟨a1, a2, a3, t1, t2, t3, t4, t5⟩ := h.2 j hj
  obtain ⟨k1, k2, k3, k4⟩ := hk j hj
  unfold WayOK
  rw [k1, k2, k3, k4]
  have hne := fun i (hi : i < m) (hij : i ≠ j) => a3 i hi hij
  refine ⟨?_, ?_, fun i hi hij => ?_, t1, t2, t3, t4, fun h0 i hi hij => ?_⟩
  · split
    · omega
    · split <;> omega
  · split
    · omega
    · rename_i hjw
      have := a3 w hw (fun e => hjw e.symm)
      split <;> omega
  · obtain ⟨i1, i2, i3, _⟩ := h.2 i hi
    have e1 := a3 i hi hij
    rw [(hk i hi).2.2.2]
    by_cases hiw : i = w
    · by_cases hjw : j = w
      · omega
      · rw [if_pos hiw, if_neg hjw]
        have e2 := a3 w hw (fun e => hjw e.symm)
        split <;> omega
    · have e3 := i3 w hw (fun e => hiw e.symm)
      by_cases hjw : j = w
      · rw [if_neg hiw, if_pos hjw]
        split <;> omega
      · rw [if_neg hiw, if_neg hjw]
        have e2 := a3 w hw (fun e => hjw e.symm)
        split <;> split <;> omega
  · rw [(hk i hi).1, (hk i hi).2.1]
    exact t5 h0 i hi hij
theorem rightq_set {n m : Nat} {R : List (List Way)} (h : RightQ n m R) {i : Nat} (hi : i < n) {l : List Way} (hl : RowOK n m i l) : RightQ n m (R.set i l) := by
  obtain ⟨h0, h1, h2, h3, h4, h5⟩ := h
  refine ⟨by rw [List.length_set]; exact h0, h1, h2, h3, h4, fun s hs => ?_⟩
  rw [List.getElem?_set]
  by_cases his : i = s
  · subst his; rw [if_pos rfl, if_pos (by omega)]; exact hl
  · rw [if_neg his]; exact h5 s hs
theorem rightq_touch {n m : Nat} {R : List (List Way)} (h : RightQ n m R) (a b : Int) : RightQ n m (touchR R a b) := by
  unfold touchR
  split
  · rename_i hb
    obtain ⟨b1, b2, b3, b4⟩ := hb
    have hi : a.toNat < n := by rw [← h.1]; omega
    have hr := h.2.2.2.2.2 _ hi
    refine rightq_set h hi (rowok_touch hr ?_)
    rw [hr.1] at b4; omega
  · exact h
theorem row_of (R : List (List Way)) (s : Nat) : row ⟨R⟩ s = (R[s]?).getD [] := rfl
theorem find_lt' {c : Cache} {ln k : Nat} (h : find c ln = some k) : isAt ln (wayN (row c (seti c ln)) k) = true := by
  unfold find at h
  split at h
  · cases h
  · exact (fnd_first _ _ _ _ _ h).1
theorem find_uniq {n m : Nat} {c : Cache} (h : RightQ n m c.sets) {ln k : Nat} (hk : k < m) (hat : isAt ln (wayN (row c (ln % n)) k) = true) : find c ln = some k := by
  obtain ⟨h0, h1, h2, h3, h4, h5⟩ := h
  have hse : seti c ln = ln % n := by unfold seti; rw [h0]
  have hr : RowOK n m (ln % n) (row c (ln % n)) := h5 _ (Nat.mod_lt _ h1)
  unfold find
  rw [if_neg (by omega), hse]
  obtain ⟨j, hj⟩ := fnd_has (row c (ln % n)) ln (row c (ln % n)).length 0 k (by omega) (by rw [hr.1]; omega) hat
  rw [hj]
  obtain ⟨f1, f2, f3⟩ := fnd_first _ _ _ _ _ hj
  by_cases hjk : j = k
  · rw [hjk]
  · by_cases hlt : k < j
    · rw [f3 k (by omega) hlt] at hat; cases hat
    · obtain ⟨g1, g2⟩ := (isAt_iff _ _).mp f1
      obtain ⟨g3, g4⟩ := (isAt_iff _ _).mp hat
      exact absurd (by rw [g1, g3]) ((hr.2 k hk).2.2.2.2.2.2.2 g4 j (by omega) hjk g2)
theorem rightq_upd {n m : Nat} {c : Cache} (h : RightQ n m c.sets) {s k : Nat} (hs : s < n) (hk : k < m) {x : Way} (ha : x.age = (wayN (row c s) k).age) (ht : x.tag = (wayN (row c s) k).tag) (h0 : (wayN (row c s) k).state ≠ 0) (hx : 1 ≤ x.state ∧ x.state ≤ 3) : RightQ n m (c.sets.set s ((row c s).set k x)) := by
  have hr : RowOK n m s (row c s) := h.2.2.2.2.2 s hs
  obtain ⟨a1, a2, a3, t1, t2, t3, t4, t5⟩ := hr.2 k hk
  refine rightq_set h hs (rowok_set hr hk ha (by omega) (by omega) (fun _ => ?_) (fun _ j hj hjk hz => ?_))
  · rw [ht]; exact t4 h0
  · rw [ht]; exact t5 h0 j hj hjk hz
theorem find_in {n m : Nat} {c : Cache} (h : RightQ n m c.sets) {ln k : Nat} (hf : find c ln = some k) : k < m ∧ seti c ln = ln % n ∧ ln % n < n ∧ (wayN (row c (ln % n)) k).tag = (ln : Int) ∧ (wayN (row c (ln % n)) k).state ≠ 0 := by
  obtain ⟨h1, h2⟩ := find_lt hf
  have hse : seti c ln = ln % n := by unfold seti; rw [h.1]
  have hlt : ln % n < n := Nat.mod_lt _ h.2.1
  have hr : RowOK n m (ln % n) (row c (ln % n)) := h.2.2.2.2.2 _ hlt
  have h3 := (isAt_iff _ _).mp (find_lt' hf)
  rw [hse] at h2 h3
  exact ⟨by rw [hr.1] at h2; exact h2, hse, hlt, h3.1, h3.2⟩
theorem rightq_setR {n m : Nat} {c : Cache} (h : RightQ n m c.sets) (ln : Nat) (st : Int) : RightQ n m (setR c ln st) := by
  unfold setR
  cases hf : find c ln with
  | none => exact h
  | some k =>
    obtain ⟨hk, hse, hlt, h1, h2⟩ := find_in h hf
    simp only
    split
    · exact h
    · rename_i hst
      rw [hse]
      have hr : RowOK n m (ln % n) (row c (ln % n)) := h.2.2.2.2.2 _ hlt
      unfold setW
      by_cases hz : st = 0
      · rw [if_pos hz]
        exact rightq_set h hlt (rowok_set hr hk rfl ⟨Int.le_refl 0, by show (0 : Int) ≤ 3; decide⟩ (fun _ => ⟨rfl, rfl⟩) (fun h0 => absurd rfl h0) (fun h0 => absurd rfl h0))
      · rw [if_neg hz]
        exact rightq_upd h hlt hk rfl rfl h2 (by show 1 ≤ st ∧ st ≤ 3; omega)
theorem rightq_write {n m : Nat} {c : Cache} (h : RightQ n m c.sets) (addr : Nat) (size v : Int) (hw : (writeR c addr size v).2 = true) : RightQ n m (writeR c addr size v).1 ∧ ∃ k, k < m ∧ Okay addr size ∧ find c (addr / 16) = some k ∧ writeR c addr size v = (c.sets.set (addr / 16 % n) ((row c (addr / 16 % n)).set k (wrW (wayN (row c (addr / 16 % n)) k) (addr % 16) size.toNat v)), true) := by
  unfold writeR at hw ⊢
  cases hk : writeK c addr size with
  | none => rw [hk] at hw; cases hw
  | some k =>
    simp only
    unfold writeK at hk
    cases hk2 : readK c addr size with
    | none => rw [hk2] at hk; cases hk
    | some k2 =>
      rw [hk2] at hk
      simp only at hk
      split at hk
      · rename_i hst
        obtain rfl := Option.some.inj hk
        obtain ⟨hok, hf, _⟩ := place_some hk2
        obtain ⟨hkm, hse, hlt, h1, h2⟩ := find_in h hf
        rw [hse]
        exact ⟨rightq_upd h hlt hkm rfl rfl h2 ⟨by show (1 : Int) ≤ 3; decide, by show (3 : Int) ≤ 3; decide⟩, k2, hkm, hok, hf, rfl⟩
      · cases hk

set_option maxHeartbeats 1000000
theorem fit_wf {R : List (List Way)} (h : Fit R) : Cache.wf ⟨R⟩ := by
  have e : (20 : Nat) ≤ maxLen := by decide
  refine ⟨Nat.le_trans h.1 e, fun l hl => ?_⟩
  obtain ⟨h1, h2⟩ := h.2 l hl
  exact ⟨Nat.le_trans h1 (Nat.le_trans (by decide) e), h2⟩
theorem sets_rows (R : List (List Way)) : setsT ⟨R⟩ = .imm false R.length (rowsT R) := by unfold setsT; rw [rows_eq]
theorem rows_at (R : List (List Way)) (i : Nat) (h : i < R.length) : (rowsT R)[i * 1]? = some (.imm false (row ⟨R⟩ i).length ((row ⟨R⟩ i).flatMap Way.enc)) := by
  unfold rowsT row
  rw [Nat.mul_one, List.getElem?_map, List.getElem?_eq_getElem h]; rfl
theorem rows_leng (R : List (List Way)) : (rowsT R).length = R.length := by unfold rowsT; rw [List.length_map]
/-- A filled cache. -/
theorem fill_is {n m : Nat} {c : Cache} (h : RightQ n m c.sets) (ln : Nat) (st : Int) (hst : 1 ≤ st ∧ st ≤ 3) (data : List Int) :
    ∃ k, k < m ∧ ln % n < n ∧ fillR c ln st data = (c.sets.set (ln % n) (touchL ((row c (ln % n)).set k (fillW (wayN (row c (ln % n)) k) ln st data)) k), goneW (wayN (row c (ln % n)) k) ln) ∧ RightQ n m (fillR c ln st data).1 ∧ find ⟨(fillR c ln st data).1⟩ ln = some k ∧ (∀ j, j < m → j ≠ k → (wayN (row c (ln % n)) j).state ≠ 0 → (wayN (row c (ln % n)) j).tag ≠ (ln : Int)) := by
  have h' := h
  obtain ⟨h0, h1, h2, h3, h4, h5⟩ := h'
  have hse : seti c ln = ln % n := by unfold seti; rw [h0]
  have hlt : ln % n < n := Nat.mod_lt _ h1
  have hr : RowOK n m (ln % n) (row c (ln % n)) := h5 _ hlt
  have hz : ¬ c.sets.length = 0 := by omega
  obtain ⟨v1, v2, v3⟩ := victim_lt c ln hz (by rw [hse, hr.1]; omega)
  rw [hse, hr.1] at v3
  have hd : ∀ j, j < m → j ≠ (victim c ln).2 → (wayN (row c (ln % n)) j).state ≠ 0 → (wayN (row c (ln % n)) j).tag ≠ (ln : Int) := by
    intro j hj hjk hjz he
    have hf := find_uniq h hj ((isAt_iff _ _).mpr ⟨he, hjz⟩)
    unfold victim at hjk
    rw [hf] at hjk
    exact hjk rfl
  have hf : fillR c ln st data = (touchR (c.sets.set (seti c ln) ((row c (seti c ln)).set (victim c ln).2 (fillW (wayN (row c (seti c ln)) (victim c ln).2) ln st data))) (seti c ln : Int) ((victim c ln).2 : Int), goneW (wayN (row c (seti c ln)) (victim c ln).2) ln) := if_neg (by rw [hse, hr.1]; omega)
  rw [hse] at hf
  generalize hk : (victim c ln).2 = k at *
  have hx : (fillW (wayN (row c (ln % n)) k) ln st data).state = st := rfl
  have hro : RowOK n m (ln % n) ((row c (ln % n)).set k (fillW (wayN (row c (ln % n)) k) ln st data)) := rowok_set hr v3 rfl (by rw [hx]; omega) (by rw [hx]; omega) (fun _ => rfl) (fun _ j hj hjk hz => hd j hj hjk hz)
  have hq := rightq_set h hlt hro
  have hil : ln % n < (c.sets.set (ln % n) ((row c (ln % n)).set k (fillW (wayN (row c (ln % n)) k) ln st data))).length := by rw [hq.1]; exact hlt
  have hge : (c.sets.set (ln % n) ((row c (ln % n)).set k (fillW (wayN (row c (ln % n)) k) ln st data)))[ln % n] = (row c (ln % n)).set k (fillW (wayN (row c (ln % n)) k) ln st data) := by rw [List.getElem_set_self]
  have ht := touch_some _ (ln % n) k hil (by rw [hge, hro.1]; exact v3)
  rw [hge, List.set_set] at ht
  rw [ht] at hf
  have hqr : RightQ n m (fillR c ln st data).1 := by rw [hf]; exact rightq_set h hlt (rowok_touch hro v3)
  refine ⟨k, v3, hlt, hf, hqr, ?_, hd⟩
  refine find_uniq (c := ⟨(fillR c ln st data).1⟩) hqr v3 ?_
  rw [hf]
  show isAt ln (wayN (row ⟨c.sets.set (ln % n) _⟩ (ln % n)) k) = true
  rw [row_of, List.getElem?_set, if_pos rfl, if_pos (by omega), Option.getD_some]
  obtain ⟨k1, k2, _⟩ := touch_keep _ k (by rw [hro.1]; exact v3) k (by rw [hro.1]; exact v3)
  rw [isAt_iff, k1, k2, wayN_setq _ _ (by rw [hr.1]; exact v3), if_pos rfl]
  exact ⟨rfl, by rw [hx]; omega⟩
/-- What was in a cache is in the filled one, or went. -/
theorem fill_still {n m : Nat} {c : Cache} (hc : c.wf) (h : RightQ n m c.sets) (ln : Nat) (st : Int) (hst : 1 ≤ st ∧ st ≤ 3) (data : List Int) (a b : Nat) (ha : a < n) (hb : b < m) (hz : (wayN (row c a) b).state ≠ 0) :
    find ⟨(fillR c ln st data).1⟩ (wayN (row c a) b).tag.toNat ≠ none ∨ (fillR c ln st data).2 = wayN (row c a) b := by
  obtain ⟨k, hk, hlt, hf, hq, hfd, hd⟩ := fill_is h ln st hst data
  have ha' : a < c.sets.length := by rw [h.1]; exact ha
  have hr : RowOK n m a (row c a) := h.2.2.2.2.2 a ha
  have hri : RowOK n m (ln % n) (row c (ln % n)) := h.2.2.2.2.2 _ hlt
  have hil : ln % n < c.sets.length := by rw [h.1]; exact hlt
  have hw := wayN_wf (row_wf hc a ha').2 (k := b) (by rw [hr.1]; exact hb)
  have htag : (((wayN (row c a) b).tag.toNat : Nat) : Int) = (wayN (row c a) b).tag := by have := wf_u32 hw.2.1; omega
  have hmod := (hr.2 b hb).2.2.2.2.2.2.1 hz
  have hroi : row ⟨(fillR c ln st data).1⟩ (ln % n) = touchL ((row c (ln % n)).set k (fillW (wayN (row c (ln % n)) k) ln st data)) k := by
    rw [hf, row_of, List.getElem?_set, if_pos rfl, if_pos hil]; rfl
  have hsl : ((row c (ln % n)).set k (fillW (wayN (row c (ln % n)) k) ln st data)).length = m := by rw [List.length_set, hri.1]
  by_cases hai : a = ln % n
  · by_cases hbk : b = k
    · by_cases ht : (wayN (row c a) b).tag = (ln : Int)
      · refine .inl ?_
        have : (wayN (row c a) b).tag.toNat = ln := by omega
        rw [this, hfd]; simp
      · refine .inr ?_
        rw [hf]
        show goneW _ _ = _
        rw [← hai, ← hbk]
        unfold goneW
        rw [if_neg]
        rintro (h | h)
        · exact hz h
        · exact ht h
    · refine .inl ?_
      rw [find_uniq (c := ⟨(fillR c ln st data).1⟩) hq hb (ln := (wayN (row c a) b).tag.toNat) ?_]; simp
      rw [hmod, hai, hroi]
      obtain ⟨k1, k2, _⟩ := touch_keep _ k (by rw [hsl]; exact hk) b (by rw [hsl]; exact hb)
      rw [isAt_iff, k1, k2, wayN_setq _ _ (by rw [hri.1]; exact hk), if_neg hbk]
      rw [← hai]
      exact ⟨htag.symm, hz⟩
  · refine .inl ?_
    rw [find_uniq (c := ⟨(fillR c ln st data).1⟩) hq hb (ln := (wayN (row c a) b).tag.toNat) ?_]; simp
    have hro : row ⟨(fillR c ln st data).1⟩ a = row c a := by
      rw [hf, row_of, List.getElem?_set, if_neg (fun e => hai e.symm)]; rfl
    rw [hmod, hro, isAt_iff]
    exact ⟨htag.symm, hz⟩
/-- The way that was filled. -/
theorem fill_way {n m : Nat} {c : Cache} (h : RightQ n m c.sets) (ln : Nat) (st : Int) (hst : 1 ≤ st ∧ st ≤ 3) (data : List Int) {k : Nat} (hfd : find ⟨(fillR c ln st data).1⟩ ln = some k) :
    k < m ∧ (wayN (row ⟨(fillR c ln st data).1⟩ (ln % n)) k).age = 0 ∧ (wayN (row ⟨(fillR c ln st data).1⟩ (ln % n)) k).data = data ∧ (wayN (row ⟨(fillR c ln st data).1⟩ (ln % n)) k).state = st := by
  obtain ⟨k', hk, hlt, hf, hq, hfd', hd⟩ := fill_is h ln st hst data
  rw [hfd] at hfd'
  obtain rfl := Option.some.inj hfd'
  have hri : RowOK n m (ln % n) (row c (ln % n)) := h.2.2.2.2.2 _ hlt
  have hil : ln % n < c.sets.length := by rw [h.1]; exact hlt
  have hroi : row ⟨(fillR c ln st data).1⟩ (ln % n) = touchL ((row c (ln % n)).set k (fillW (wayN (row c (ln % n)) k) ln st data)) k := by
    rw [hf, row_of, List.getElem?_set, if_pos rfl, if_pos hil]; rfl
  have hsl : ((row c (ln % n)).set k (fillW (wayN (row c (ln % n)) k) ln st data)).length = m := by rw [List.length_set, hri.1]
  rw [hroi]
  obtain ⟨k1, k2, k3, k4⟩ := touch_keep _ k (by rw [hsl]; exact hk) k (by rw [hsl]; exact hk)
  rw [k4, k3, k1, if_pos rfl, wayN_setq _ _ (by rw [hri.1]; exact hk), if_pos rfl]
  exact ⟨hk, rfl, rfl, rfl⟩
theorem bytes_upd {old : Way} (ho : old.wf) (a : Nat) (bs : List Int) (h : a + bs.length ≤ 16) : bytesAt (updW old a bs) a bs.length = bs := by
  show ((updD old.data a bs).drop a).take bs.length = bs
  have hl := ho.2.2.1.1
  unfold updD
  rw [List.drop_append_of_le_length (by rw [List.length_take]; omega), List.drop_eq_nil_of_le (by rw [List.length_take]; omega), List.nil_append, List.take_append_of_le_length (Nat.le_refl _), List.take_length]
/-- What was written is read. -/
theorem read_write {n m : Nat} {c : Cache} (hc : c.wf) (h : RightQ n m c.sets) (addr : Nat) (size v : Int) (hw : (writeR c addr size v).2 = true) : RightQ n m (writeR c addr size v).1 ∧ ∃ z : Nat, size = z ∧ (z = 1 ∨ z = 2 ∨ z = 4) ∧ readT ⟨(writeR c addr size v).1⟩ addr size = .tup [.int .u32 (val (bytesOf v z)), .bool true] := by
  obtain ⟨hq, k, hk, hok, hf, he⟩ := rightq_write h addr size v hw
  obtain ⟨z, hz, hzn, hz1, hz4, hza⟩ := okay_nat hok
  refine ⟨hq, z, hz, by have := hok.1; omega, ?_⟩
  obtain ⟨_, hse, hlt, h1, h2⟩ := find_in h hf
  have hil : addr / 16 % n < c.sets.length := by rw [h.1]; exact hlt
  have hri : RowOK n m (addr / 16 % n) (row c (addr / 16 % n)) := h.2.2.2.2.2 _ hlt
  have hkl : k < (row c (addr / 16 % n)).length := by rw [hri.1]; exact hk
  have hwk := wayN_wf (row_wf hc _ hil).2 hkl
  have hro : row ⟨(writeR c addr size v).1⟩ (addr / 16 % n) = (row c (addr / 16 % n)).set k (wrW (wayN (row c (addr / 16 % n)) k) (addr % 16) size.toNat v) := by
    rw [he, row_of, List.getElem?_set, if_pos rfl, if_pos hil]; rfl
  have hf2 : find ⟨(writeR c addr size v).1⟩ (addr / 16) = some k := by
    refine find_uniq (c := ⟨(writeR c addr size v).1⟩) hq hk ?_
    rw [hro, isAt_iff, wayN_setq _ _ hkl, if_pos rfl]
    exact ⟨h1, by show (3 : Int) ≠ 0; decide⟩
  have hse2 : seti ⟨(writeR c addr size v).1⟩ (addr / 16) = addr / 16 % n := by unfold seti; rw [hq.1]
  have hrk : readK ⟨(writeR c addr size v).1⟩ addr size = some k := by unfold readK; rw [if_pos hok]; exact hf2
  unfold readT
  rw [hrk]
  simp only
  rw [hse2, hro, wayN_setq _ _ hkl, if_pos rfl, hzn]
  have hb := bytes_upd hwk (addr % 16) (bytesOf v z) (by rw [bytesOf_len]; exact hza)
  rw [bytesOf_len] at hb
  show T.tup [.int .u32 (val (bytesAt (updW _ _ _) _ _)), _] = _
  rw [hb]
theorem ways_nil (ln : Nat) : E ap 35 [.agg [.imm true 0 []], .int .u32 (ln : Int)] (.imm true 0 []) := by
  refine E_body (F := f35) rfl rfl rfl ?_
  generalize hs0 : (_ : List T) ++ List.replicate _ T.undef = s0
  have e0 : s0.length = 16 ∧ rho s0 (.tmp 0) = .agg [.imm true 0 []] ∧ rho s0 (.tmp 1) = .int .u32 (ln : Int) := by subst hs0; exact ⟨rfl, rfl, rfl⟩
  clear hs0
  obtain ⟨hl, h0, h1⟩ := e0
  have hleaf : allLeaf [T.imm true 0 []] = true := rfl
  have hz0 : (((0 : Nat) : Int) == 0) = true := rfl
  refine W_seqn (W_region (fun k => by simp (decide := true) only [sims, evRegion, evOps, evOp, evG, evR, guardT, callee, opRes, pureR, binT, unT, T.cells, T.leaf, fillT, splice, Nat.reduceLT, Nat.reduceAdd, Nat.reduceMul, Nat.reduceLeDiff, Nat.reduceEqDiff, reduceIte, Int.reduceBEq, Int.reduceBNe, Int.reduceLT, Int.reduceLE, Int.reduceGT, Int.reduceGE, Int.reduceNeg, reduceCtorEq, hl, h0, hleaf]; rfl) ⟨rfl, ?_⟩)
  refine W_seq (W_seqn (W_region (fun k => by simp (decide := true) only [sims, evRegion, evOps, evOp, evG, evR, guardT, callee, opRes, pureR, binT, unT, T.cells, T.leaf, fillT, splice, Nat.reduceLT, Nat.reduceAdd, Nat.reduceMul, Nat.reduceLeDiff, Nat.reduceEqDiff, reduceIte, Int.reduceBEq, Int.reduceBNe, Int.reduceLT, Int.reduceLE, Int.reduceGT, Int.reduceGE, Int.reduceNeg, reduceCtorEq, hl, hz0]; rfl) ⟨rfl, W_true (by simp (decide := true) only [sims, evRegion, evOps, evOp, evG, evR, guardT, callee, opRes, pureR, binT, unT, T.cells, T.leaf, fillT, splice, Nat.reduceLT, Nat.reduceAdd, Nat.reduceMul, Nat.reduceLeDiff, Nat.reduceEqDiff, reduceIte, Int.reduceBEq, Int.reduceBNe, Int.reduceLT, Int.reduceLE, Int.reduceGT, Int.reduceGE, Int.reduceNeg, reduceCtorEq, hl] <;> rfl) ?_⟩))
  refine W_seqn (W_region (fun k => by simp (decide := true) only [sims, evRegion, evOps, evOp, evG, evR, guardT, callee, opRes, pureR, binT, unT, T.cells, T.leaf, fillT, splice, Nat.reduceLT, Nat.reduceAdd, Nat.reduceMul, Nat.reduceLeDiff, Nat.reduceEqDiff, reduceIte, Int.reduceBEq, Int.reduceBNe, Int.reduceLT, Int.reduceLE, Int.reduceGT, Int.reduceGE, Int.reduceNeg, reduceCtorEq]; rfl) ⟨rfl, W_ret ?_⟩)
  simp only [reduceCtorEq, false_and, false_or, or_false, exists_false, exists_const, ne_eq, not_false_eq_true, true_and, implies_true]
  refine fin_of (F := f35) rfl (fun _ => rfl) ?_
  simp (decide := true) only [sims, evRegion, evOps, evOp, evG, evR, guardT, callee, opRes, pureR, binT, unT, T.cells, T.leaf, fillT, splice, Nat.reduceLT, Nat.reduceAdd, Nat.reduceMul, Nat.reduceLeDiff, Nat.reduceEqDiff, reduceIte, Int.reduceBEq, Int.reduceBNe, Int.reduceLT, Int.reduceLE, Int.reduceGT, Int.reduceGE, Int.reduceNeg, reduceCtorEq, hl]
theorem find_nil (ln : Nat) : E ap 15 [.agg [.imm true 0 []], .int .u32 (ln : Int)] (findT ⟨[]⟩ ln) := by
  refine E_body (F := f15) rfl rfl rfl ?_
  generalize hs0 : (_ : List T) ++ List.replicate _ T.undef = s0
  have e0 : s0.length = 19 ∧ rho s0 (.tmp 0) = .agg [.imm true 0 []] ∧ rho s0 (.tmp 1) = .int .u32 (ln : Int) := by subst hs0; exact ⟨rfl, rfl, rfl⟩
  clear hs0
  obtain ⟨hl, h0, h1⟩ := e0
  have hleaf2 : allLeaf [T.int .u32 (ln : Int)] = true := rfl
  obtain ⟨N1, q1⟩ := (ways_nil ln).call ap35 (fun g => rfl)
  have hleaf : allLeaf [T.imm true 0 []] = true := rfl
  have hcut : cut [T.imm true 0 []] 0 1 = [T.imm true 0 []] := rfl
  obtain ⟨st, hst⟩ : ∃ st, st = T.imm true 0 [] := ⟨_, rfl⟩
  rw [show [T.agg [T.imm true 0 []], T.int .u32 (ln : Int)] = [T.agg [st], T.int .u32 (ln : Int)] by rw [hst]] at q1
  rw [← hst] at h0 hleaf hcut
  refine W_seqn (W_region (fun k => by simp (decide := true) only [sims, evRegion, evOps, evOp, evG, evR, guardT, callee, opRes, pureR, binT, unT, T.cells, T.leaf, fillT, splice, Nat.reduceLT, Nat.reduceAdd, Nat.reduceMul, Nat.reduceLeDiff, Nat.reduceEqDiff, reduceIte, Int.reduceBEq, Int.reduceBNe, Int.reduceLT, Int.reduceLE, Int.reduceGT, Int.reduceGE, Int.reduceNeg, reduceCtorEq, hl, h0, h1, hleaf, hleaf2]; rfl) ⟨rfl, ?_⟩)
  generalize hg1 : put1 (put1 (fun _ => none) (0, some [st])) (1, some [T.int .u32 (ln : Int)]) = g1
  have hga : g1 0 = some [st] := by subst hg1; rfl
  have hgb : g1 1 = some [T.int .u32 (ln : Int)] := by subst hg1; rfl
  obtain ⟨N3, g', nx', hN, hg', hnx'⟩ := bus_idx true [] (fun w h => by simp at h) (by simp) ln 1 g1 11 (by omega) hgb
  have q47 := q1 (N1 + N3) (by omega)
  have q63 := hN (N1 + N3) (by omega)
  rw [show T.imm true ([] : List Way).length (([] : List Way).flatMap Way.enc) = T.imm true 0 [] from rfl] at q63
  have hfi : fnd [] ln 0 ([] : List Way).length = none := rfl
  rw [hfi] at q63
  have hd : decide ((-1 : Int) < 0) = true := rfl
  refine W_seqn (W_regionN ⟨N1 + N3, by simp (decide := true) only [sims, evRegion, evOps, evOp, evG, evR, guardT, callee, opRes, pureR, binT, unT, T.cells, T.leaf, fillT, splice, Nat.reduceLT, Nat.reduceAdd, Nat.reduceMul, Nat.reduceLeDiff, Nat.reduceEqDiff, reduceIte, Int.reduceBEq, Int.reduceBNe, Int.reduceLT, Int.reduceLE, Int.reduceGT, Int.reduceGE, Int.reduceNeg, reduceCtorEq, evI, hl, hga, hgb, hcut, ap35, p35, n35, q47, ap34, p34, n34, q63]; rfl⟩ ⟨rfl, ?_⟩)
  refine W_seq (W_seqn (W_region (fun k => by simp (decide := true) only [sims, evRegion, evOps, evOp, evG, evR, guardT, callee, opRes, pureR, binT, unT, T.cells, T.leaf, fillT, splice, Nat.reduceLT, Nat.reduceAdd, Nat.reduceMul, Nat.reduceLeDiff, Nat.reduceEqDiff, reduceIte, Int.reduceBEq, Int.reduceBNe, Int.reduceLT, Int.reduceLE, Int.reduceGT, Int.reduceGE, Int.reduceNeg, reduceCtorEq, hl, idxT, hd]; rfl) ⟨rfl, W_true (by simp (decide := true) only [sims, evRegion, evOps, evOp, evG, evR, guardT, callee, opRes, pureR, binT, unT, T.cells, T.leaf, fillT, splice, Nat.reduceLT, Nat.reduceAdd, Nat.reduceMul, Nat.reduceLeDiff, Nat.reduceEqDiff, reduceIte, Int.reduceBEq, Int.reduceBNe, Int.reduceLT, Int.reduceLE, Int.reduceGT, Int.reduceGE, Int.reduceNeg, reduceCtorEq, hl] <;> rfl) ?_⟩))
  refine W_seqn (W_region (fun k => by simp (decide := true) only [sims, evRegion, evOps, evOp, evG, evR, guardT, callee, opRes, pureR, binT, unT, T.cells, T.leaf, fillT, splice, Nat.reduceLT, Nat.reduceAdd, Nat.reduceMul, Nat.reduceLeDiff, Nat.reduceEqDiff, reduceIte, Int.reduceBEq, Int.reduceBNe, Int.reduceLT, Int.reduceLE, Int.reduceGT, Int.reduceGE, Int.reduceNeg, reduceCtorEq]; rfl) ⟨rfl, W_ret ?_⟩)
  simp only [reduceCtorEq, false_and, false_or, or_false, exists_false, exists_const, ne_eq, not_false_eq_true, true_and, implies_true]
  refine fin_of3 (F := f15) (a := .int .i64 0) (b := .int .i64 0) (c := .bool false) rfl (fun _ => rfl) ?_ ?_ ?_ <;> simp (decide := true) only [sims, evRegion, evOps, evOp, evG, evR, guardT, callee, opRes, pureR, binT, unT, T.cells, T.leaf, fillT, splice, Nat.reduceLT, Nat.reduceAdd, Nat.reduceMul, Nat.reduceLeDiff, Nat.reduceEqDiff, reduceIte, Int.reduceBEq, Int.reduceBNe, Int.reduceLT, Int.reduceLE, Int.reduceGT, Int.reduceGE, Int.reduceNeg, reduceCtorEq, hl]
theorem place_nil (addr : Nat) (ha : addr ≤ 4294967295) (size : Int) : E ap 43 [.agg [T.imm true 0 []], .int .u32 (addr : Int), .int .i64 size] (placeT ⟨[]⟩ addr size) := by
  refine E_body (F := f43) rfl rfl rfl ?_
  generalize hs0 : (_ : List T) ++ List.replicate _ T.undef = s0
  have e0 : s0.length = 45 ∧ rho s0 (.tmp 0) = .agg [T.imm true 0 []] ∧ rho s0 (.tmp 1) = .int .u32 (addr : Int) ∧ rho s0 (.tmp 2) = .int .i64 size := by subst hs0; exact ⟨rfl, rfl, rfl, rfl⟩
  clear hs0
  obtain ⟨hl, h0, h1, h2⟩ := e0
  have hleaf : allLeaf [T.imm true 0 []] = true := rfl
  have hcut : cut [T.imm true 0 []] 0 1 = [T.imm true 0 []] := rfl
  have hm : (addr : Int).tmod 16 = ((addr % 16 : Nat) : Int) := by rw [Int.tmod_eq_emod_of_nonneg (by omega)]; omega
  have h16 : ((16 : Int) = 0) = False := by simp
  have hcv : IntKind.i64.wrap ((addr % 16 : Nat) : Int) = ((addr % 16 : Nat) : Int) := wrap_id (by omega)
  obtain ⟨N1, c51⟩ := (line_of addr ha).call ap51 (fun g => rfl)
  obtain ⟨N2, c15⟩ := (find_nil (addr / 16)).call ap15 (fun g => rfl)
  have q51 := c51 (N1 + N2) (by omega)
  have q15 := c15 (N1 + N2) (by omega)
  refine W_seqn (W_region (fun k => by simp (decide := true) (disch := first | omega | (simp (decide := true) only [List.length_set, hl]; done) | fail) only [sims, evRegion, evOps, evOp, evG, evR, guardT, callee, opRes, pureR, binT, unT, T.cells, T.leaf, fillT, splice, Nat.reduceLT, Nat.reduceAdd, Nat.reduceMul, Nat.reduceLeDiff, Nat.reduceEqDiff, reduceIte, Int.reduceBEq, Int.reduceBNe, Int.reduceLT, Int.reduceLE, Int.reduceGT, Int.reduceGE, Int.reduceNeg, reduceCtorEq, hps, h0, hleaf]; rfl) ⟨rfl, ?_⟩)
  refine W_seqn (W_region (fun k => by simp (decide := true) (disch := first | omega | (simp (decide := true) only [List.length_set, hl]; done) | fail) only [sims, evRegion, evOps, evOp, evG, evR, guardT, callee, opRes, pureR, binT, unT, T.cells, T.leaf, fillT, splice, Nat.reduceLT, Nat.reduceAdd, Nat.reduceMul, Nat.reduceLeDiff, Nat.reduceEqDiff, reduceIte, Int.reduceBEq, Int.reduceBNe, Int.reduceLT, Int.reduceLE, Int.reduceGT, Int.reduceGE, Int.reduceNeg, reduceCtorEq, hps, h1, hm, h16, hcv]; rfl) ⟨rfl, ?_⟩)
  generalize hat : addr % 16 = a at *
  have ha16 : a < 16 := by omega
  have tail : ∀ st' : St, Okay addr size → (st'.s.length = 45 ∧ rho st'.s (.tmp 1) = .int .u32 (addr : Int) ∧ rho st'.s (.tmp 3) = .ptr 0 0 ∧ rho st'.s (.tmp 10) = .int .i64 (a : Int) ∧ st'.g 0 = some [T.imm true 0 []]) → W ap (.seq (.region [⟨some 34, .load false 1 (.tmp 3), none⟩, ⟨some 35, .mv (.tmp 1), none⟩, ⟨some 36, .call 51 [(.tmp 35)], none⟩, ⟨some 37, .call 15 [(.tmp 34), (.tmp 36)], none⟩, ⟨some 33, .mv (.tmp 37), none⟩, ⟨some 38, .extract (.tmp 33) 0, none⟩, ⟨some 39, .extract (.tmp 33) 1, none⟩, ⟨some 40, .extract (.tmp 33) 2, none⟩, ⟨some 11, .mv (.tmp 38), none⟩, ⟨some 12, .mv (.tmp 39), none⟩, ⟨some 13, .mv (.tmp 40), none⟩] [(0, 2)]) (.seq (.region [⟨some 41, .mv (.tmp 11), none⟩, ⟨some 42, .mv (.tmp 12), none⟩, ⟨some 43, .mv (.tmp 10), none⟩, ⟨some 44, .mv (.tmp 13), none⟩, ⟨some 6, .mv (.tmp 41), none⟩, ⟨some 7, .mv (.tmp 42), none⟩, ⟨some 8, .mv (.tmp 43), none⟩, ⟨some 9, .mv (.tmp 44), none⟩] []) .ret)) st' (fun e s => e.leaves = true ∧ ∃ u ids, resT s.s s.g f43.res = some u ∧ frz ⟨s.g, s.nx⟩ frzDepth u = some (placeT ⟨[]⟩ addr size, ids)) := by
    rintro ⟨s, g, nx⟩ hok ⟨hl, h1, h3, h10, g0⟩
    simp only at hl h1 h3 h10 g0
    unfold placeT
    rw [if_pos hok, hat]
    cases hf : find ⟨[]⟩ (addr / 16) with
    | some k =>
      rw [findT_is ⟨[]⟩ _ k hf] at q15
      refine W_seqn (W_regionN ⟨N1 + N2, by simp (decide := true) (disch := first | omega | (simp (decide := true) only [List.length_set, hl]; done) | fail) only [sims, evRegion, evOps, evOp, evG, evR, guardT, callee, opRes, pureR, binT, unT, T.cells, T.leaf, fillT, splice, Nat.reduceLT, Nat.reduceAdd, Nat.reduceMul, Nat.reduceLeDiff, Nat.reduceEqDiff, reduceIte, Int.reduceBEq, Int.reduceBNe, Int.reduceLT, Int.reduceLE, Int.reduceGT, Int.reduceGE, Int.reduceNeg, reduceCtorEq, hps, h1, h3, g0, hcut, ap51, p51, n51, q51, ap15, p15, n15, q15]; rfl⟩ ⟨rfl, ?_⟩)
      refine W_seqn (W_region (fun k => by simp (decide := true) (disch := first | omega | (simp (decide := true) only [List.length_set, hl]; done) | fail) only [sims, evRegion, evOps, evOp, evG, evR, guardT, callee, opRes, pureR, binT, unT, T.cells, T.leaf, fillT, splice, Nat.reduceLT, Nat.reduceAdd, Nat.reduceMul, Nat.reduceLeDiff, Nat.reduceEqDiff, reduceIte, Int.reduceBEq, Int.reduceBNe, Int.reduceLT, Int.reduceLE, Int.reduceGT, Int.reduceGE, Int.reduceNeg, reduceCtorEq, hps, h10]; rfl) ⟨rfl, W_ret ?_⟩)
      refine fin_of4 (F := f43) rfl (fun _ => rfl) ?_ ?_ ?_ ?_ <;> simp (decide := true) (disch := first | omega | (simp (decide := true) only [List.length_set, hl]; done) | fail) only [sims, evRegion, evOps, evOp, evG, evR, guardT, callee, opRes, pureR, binT, unT, T.cells, T.leaf, fillT, splice, Nat.reduceLT, Nat.reduceAdd, Nat.reduceMul, Nat.reduceLeDiff, Nat.reduceEqDiff, reduceIte, Int.reduceBEq, Int.reduceBNe, Int.reduceLT, Int.reduceLE, Int.reduceGT, Int.reduceGE, Int.reduceNeg, reduceCtorEq]
    | none =>
      rw [findT_no ⟨[]⟩ _ hf] at q15
      refine W_seqn (W_regionN ⟨N1 + N2, by simp (decide := true) (disch := first | omega | (simp (decide := true) only [List.length_set, hl]; done) | fail) only [sims, evRegion, evOps, evOp, evG, evR, guardT, callee, opRes, pureR, binT, unT, T.cells, T.leaf, fillT, splice, Nat.reduceLT, Nat.reduceAdd, Nat.reduceMul, Nat.reduceLeDiff, Nat.reduceEqDiff, reduceIte, Int.reduceBEq, Int.reduceBNe, Int.reduceLT, Int.reduceLE, Int.reduceGT, Int.reduceGE, Int.reduceNeg, reduceCtorEq, hps, h1, h3, g0, hcut, ap51, p51, n51, q51, ap15, p15, n15, q15]; rfl⟩ ⟨rfl, ?_⟩)
      refine W_seqn (W_region (fun k => by simp (decide := true) (disch := first | omega | (simp (decide := true) only [List.length_set, hl]; done) | fail) only [sims, evRegion, evOps, evOp, evG, evR, guardT, callee, opRes, pureR, binT, unT, T.cells, T.leaf, fillT, splice, Nat.reduceLT, Nat.reduceAdd, Nat.reduceMul, Nat.reduceLeDiff, Nat.reduceEqDiff, reduceIte, Int.reduceBEq, Int.reduceBNe, Int.reduceLT, Int.reduceLE, Int.reduceGT, Int.reduceGE, Int.reduceNeg, reduceCtorEq, hps, h10]; rfl) ⟨rfl, W_ret ?_⟩)
      refine fin_of4 (F := f43) rfl (fun _ => rfl) ?_ ?_ ?_ ?_ <;> simp (decide := true) (disch := first | omega | (simp (decide := true) only [List.length_set, hl]; done) | fail) only [sims, evRegion, evOps, evOp, evG, evR, guardT, callee, opRes, pureR, binT, unT, T.cells, T.leaf, fillT, splice, Nat.reduceLT, Nat.reduceAdd, Nat.reduceMul, Nat.reduceLeDiff, Nat.reduceEqDiff, reduceIte, Int.reduceBEq, Int.reduceBNe, Int.reduceLT, Int.reduceLE, Int.reduceGT, Int.reduceGE, Int.reduceNeg, reduceCtorEq]
  rcases size_cases size with ⟨k1, _, hs⟩ | ⟨k1, _, k2, _, hs⟩ | ⟨k1, _, k2, _, k3, _, hs⟩ | ⟨k1, _, k2, _, k3, _, hs⟩
  · have hadd : IntKind.i64.wrap ((a : Int) + size) = (a : Int) + size := wrap_id (by omega)
    by_cases hgt : (a : Int) + size > 16
    · have hd : decide ((a : Int) + size > 16) = true := decide_eq_true hgt
      have hno : ¬ Okay addr size := fun h => by have := h.2; rw [hat] at this; omega
      unfold placeT
      rw [if_neg hno]
      refine W_seq (W_seqn (W_region (fun k => by simp (decide := true) (disch := first | omega | (simp (decide := true) only [List.length_set, hl]; done) | fail) only [sims, evRegion, evOps, evOp, evG, evR, guardT, callee, opRes, pureR, binT, unT, T.cells, T.leaf, fillT, splice, Nat.reduceLT, Nat.reduceAdd, Nat.reduceMul, Nat.reduceLeDiff, Nat.reduceEqDiff, reduceIte, Int.reduceBEq, Int.reduceBNe, Int.reduceLT, Int.reduceLE, Int.reduceGT, Int.reduceGE, Int.reduceNeg, reduceCtorEq, hps, h2, hadd, hd, k1]; rfl) ⟨rfl, W_true (by simp (decide := true) (disch := first | omega | (simp (decide := true) only [List.length_set, hl]; done) | fail) only [sims, evRegion, evOps, evOp, evG, evR, guardT, callee, opRes, pureR, binT, unT, T.cells, T.leaf, fillT, splice, Nat.reduceLT, Nat.reduceAdd, Nat.reduceMul, Nat.reduceLeDiff, Nat.reduceEqDiff, reduceIte, Int.reduceBEq, Int.reduceBNe, Int.reduceLT, Int.reduceLE, Int.reduceGT, Int.reduceGE, Int.reduceNeg, reduceCtorEq] <;> rfl) ?_⟩))
      refine W_seqn (W_region (fun k => by simp (decide := true) (disch := first | omega | (simp (decide := true) only [List.length_set, hl]; done) | fail) only [sims, evRegion, evOps, evOp, evG, evR, guardT, callee, opRes, pureR, binT, unT, T.cells, T.leaf, fillT, splice, Nat.reduceLT, Nat.reduceAdd, Nat.reduceMul, Nat.reduceLeDiff, Nat.reduceEqDiff, reduceIte, Int.reduceBEq, Int.reduceBNe, Int.reduceLT, Int.reduceLE, Int.reduceGT, Int.reduceGE, Int.reduceNeg, reduceCtorEq, hps]; rfl) ⟨rfl, W_ret ?_⟩)
      simp only [reduceCtorEq, false_and, false_or, or_false, exists_false, exists_const, ne_eq, not_false_eq_true, true_and, implies_true]
      refine fin_of4 (F := f43) rfl (fun _ => rfl) ?_ ?_ ?_ ?_ <;> simp (decide := true) (disch := first | omega | (simp (decide := true) only [List.length_set, hl]; done) | fail) only [sims, evRegion, evOps, evOp, evG, evR, guardT, callee, opRes, pureR, binT, unT, T.cells, T.leaf, fillT, splice, Nat.reduceLT, Nat.reduceAdd, Nat.reduceMul, Nat.reduceLeDiff, Nat.reduceEqDiff, reduceIte, Int.reduceBEq, Int.reduceBNe, Int.reduceLT, Int.reduceLE, Int.reduceGT, Int.reduceGE, Int.reduceNeg, reduceCtorEq]
    · have hd : decide ((a : Int) + size > 16) = false := decide_eq_false hgt
      refine W_seqn (W_seqn (W_region (fun k => by simp (decide := true) (disch := first | omega | (simp (decide := true) only [List.length_set, hl]; done) | fail) only [sims, evRegion, evOps, evOp, evG, evR, guardT, callee, opRes, pureR, binT, unT, T.cells, T.leaf, fillT, splice, Nat.reduceLT, Nat.reduceAdd, Nat.reduceMul, Nat.reduceLeDiff, Nat.reduceEqDiff, reduceIte, Int.reduceBEq, Int.reduceBNe, Int.reduceLT, Int.reduceLE, Int.reduceGT, Int.reduceGE, Int.reduceNeg, reduceCtorEq, hps, h2, hadd, hd, k1]; rfl) ⟨rfl, W_false (by simp (decide := true) (disch := first | omega | (simp (decide := true) only [List.length_set, hl]; done) | fail) only [sims, evRegion, evOps, evOp, evG, evR, guardT, callee, opRes, pureR, binT, unT, T.cells, T.leaf, fillT, splice, Nat.reduceLT, Nat.reduceAdd, Nat.reduceMul, Nat.reduceLeDiff, Nat.reduceEqDiff, reduceIte, Int.reduceBEq, Int.reduceBNe, Int.reduceLT, Int.reduceLE, Int.reduceGT, Int.reduceGE, Int.reduceNeg, reduceCtorEq] <;> rfl) (W_skip ⟨rfl, ?_⟩)⟩))
      refine tail _ ⟨by omega, by rw [hat]; omega⟩ ⟨?_, ?_, ?_, ?_, ?_⟩
      all_goals simp (decide := true) (disch := first | omega | (simp (decide := true) only [List.length_set, hl]; done) | fail) only [sims, evRegion, evOps, evOp, evG, evR, guardT, callee, opRes, pureR, binT, unT, T.cells, T.leaf, fillT, splice, Nat.reduceLT, Nat.reduceAdd, Nat.reduceMul, Nat.reduceLeDiff, Nat.reduceEqDiff, reduceIte, Int.reduceBEq, Int.reduceBNe, Int.reduceLT, Int.reduceLE, Int.reduceGT, Int.reduceGE, Int.reduceNeg, reduceCtorEq, hps, hl, h1]
  · have hadd : IntKind.i64.wrap ((a : Int) + size) = (a : Int) + size := wrap_id (by omega)
    by_cases hgt : (a : Int) + size > 16
    · have hd : decide ((a : Int) + size > 16) = true := decide_eq_true hgt
      have hno : ¬ Okay addr size := fun h => by have := h.2; rw [hat] at this; omega
      unfold placeT
      rw [if_neg hno]
      refine W_seq (W_seqn (W_region (fun k => by simp (decide := true) (disch := first | omega | (simp (decide := true) only [List.length_set, hl]; done) | fail) only [sims, evRegion, evOps, evOp, evG, evR, guardT, callee, opRes, pureR, binT, unT, T.cells, T.leaf, fillT, splice, Nat.reduceLT, Nat.reduceAdd, Nat.reduceMul, Nat.reduceLeDiff, Nat.reduceEqDiff, reduceIte, Int.reduceBEq, Int.reduceBNe, Int.reduceLT, Int.reduceLE, Int.reduceGT, Int.reduceGE, Int.reduceNeg, reduceCtorEq, hps, h2, hadd, hd, k1, k2]; rfl) ⟨rfl, W_true (by simp (decide := true) (disch := first | omega | (simp (decide := true) only [List.length_set, hl]; done) | fail) only [sims, evRegion, evOps, evOp, evG, evR, guardT, callee, opRes, pureR, binT, unT, T.cells, T.leaf, fillT, splice, Nat.reduceLT, Nat.reduceAdd, Nat.reduceMul, Nat.reduceLeDiff, Nat.reduceEqDiff, reduceIte, Int.reduceBEq, Int.reduceBNe, Int.reduceLT, Int.reduceLE, Int.reduceGT, Int.reduceGE, Int.reduceNeg, reduceCtorEq] <;> rfl) ?_⟩))
      refine W_seqn (W_region (fun k => by simp (decide := true) (disch := first | omega | (simp (decide := true) only [List.length_set, hl]; done) | fail) only [sims, evRegion, evOps, evOp, evG, evR, guardT, callee, opRes, pureR, binT, unT, T.cells, T.leaf, fillT, splice, Nat.reduceLT, Nat.reduceAdd, Nat.reduceMul, Nat.reduceLeDiff, Nat.reduceEqDiff, reduceIte, Int.reduceBEq, Int.reduceBNe, Int.reduceLT, Int.reduceLE, Int.reduceGT, Int.reduceGE, Int.reduceNeg, reduceCtorEq, hps]; rfl) ⟨rfl, W_ret ?_⟩)
      simp only [reduceCtorEq, false_and, false_or, or_false, exists_false, exists_const, ne_eq, not_false_eq_true, true_and, implies_true]
      refine fin_of4 (F := f43) rfl (fun _ => rfl) ?_ ?_ ?_ ?_ <;> simp (decide := true) (disch := first | omega | (simp (decide := true) only [List.length_set, hl]; done) | fail) only [sims, evRegion, evOps, evOp, evG, evR, guardT, callee, opRes, pureR, binT, unT, T.cells, T.leaf, fillT, splice, Nat.reduceLT, Nat.reduceAdd, Nat.reduceMul, Nat.reduceLeDiff, Nat.reduceEqDiff, reduceIte, Int.reduceBEq, Int.reduceBNe, Int.reduceLT, Int.reduceLE, Int.reduceGT, Int.reduceGE, Int.reduceNeg, reduceCtorEq]
    · have hd : decide ((a : Int) + size > 16) = false := decide_eq_false hgt
      refine W_seqn (W_seqn (W_region (fun k => by simp (decide := true) (disch := first | omega | (simp (decide := true) only [List.length_set, hl]; done) | fail) only [sims, evRegion, evOps, evOp, evG, evR, guardT, callee, opRes, pureR, binT, unT, T.cells, T.leaf, fillT, splice, Nat.reduceLT, Nat.reduceAdd, Nat.reduceMul, Nat.reduceLeDiff, Nat.reduceEqDiff, reduceIte, Int.reduceBEq, Int.reduceBNe, Int.reduceLT, Int.reduceLE, Int.reduceGT, Int.reduceGE, Int.reduceNeg, reduceCtorEq, hps, h2, hadd, hd, k1, k2]; rfl) ⟨rfl, W_false (by simp (decide := true) (disch := first | omega | (simp (decide := true) only [List.length_set, hl]; done) | fail) only [sims, evRegion, evOps, evOp, evG, evR, guardT, callee, opRes, pureR, binT, unT, T.cells, T.leaf, fillT, splice, Nat.reduceLT, Nat.reduceAdd, Nat.reduceMul, Nat.reduceLeDiff, Nat.reduceEqDiff, reduceIte, Int.reduceBEq, Int.reduceBNe, Int.reduceLT, Int.reduceLE, Int.reduceGT, Int.reduceGE, Int.reduceNeg, reduceCtorEq] <;> rfl) (W_skip ⟨rfl, ?_⟩)⟩))
      refine tail _ ⟨by omega, by rw [hat]; omega⟩ ⟨?_, ?_, ?_, ?_, ?_⟩
      all_goals simp (decide := true) (disch := first | omega | (simp (decide := true) only [List.length_set, hl]; done) | fail) only [sims, evRegion, evOps, evOp, evG, evR, guardT, callee, opRes, pureR, binT, unT, T.cells, T.leaf, fillT, splice, Nat.reduceLT, Nat.reduceAdd, Nat.reduceMul, Nat.reduceLeDiff, Nat.reduceEqDiff, reduceIte, Int.reduceBEq, Int.reduceBNe, Int.reduceLT, Int.reduceLE, Int.reduceGT, Int.reduceGE, Int.reduceNeg, reduceCtorEq, hps, hl, h1]
  · have hadd : IntKind.i64.wrap ((a : Int) + size) = (a : Int) + size := wrap_id (by omega)
    by_cases hgt : (a : Int) + size > 16
    · have hd : decide ((a : Int) + size > 16) = true := decide_eq_true hgt
      have hno : ¬ Okay addr size := fun h => by have := h.2; rw [hat] at this; omega
      unfold placeT
      rw [if_neg hno]
      refine W_seq (W_seqn (W_region (fun k => by simp (decide := true) (disch := first | omega | (simp (decide := true) only [List.length_set, hl]; done) | fail) only [sims, evRegion, evOps, evOp, evG, evR, guardT, callee, opRes, pureR, binT, unT, T.cells, T.leaf, fillT, splice, Nat.reduceLT, Nat.reduceAdd, Nat.reduceMul, Nat.reduceLeDiff, Nat.reduceEqDiff, reduceIte, Int.reduceBEq, Int.reduceBNe, Int.reduceLT, Int.reduceLE, Int.reduceGT, Int.reduceGE, Int.reduceNeg, reduceCtorEq, hps, h2, hadd, hd, k1, k2, k3]; rfl) ⟨rfl, W_true (by simp (decide := true) (disch := first | omega | (simp (decide := true) only [List.length_set, hl]; done) | fail) only [sims, evRegion, evOps, evOp, evG, evR, guardT, callee, opRes, pureR, binT, unT, T.cells, T.leaf, fillT, splice, Nat.reduceLT, Nat.reduceAdd, Nat.reduceMul, Nat.reduceLeDiff, Nat.reduceEqDiff, reduceIte, Int.reduceBEq, Int.reduceBNe, Int.reduceLT, Int.reduceLE, Int.reduceGT, Int.reduceGE, Int.reduceNeg, reduceCtorEq] <;> rfl) ?_⟩))
      refine W_seqn (W_region (fun k => by simp (decide := true) (disch := first | omega | (simp (decide := true) only [List.length_set, hl]; done) | fail) only [sims, evRegion, evOps, evOp, evG, evR, guardT, callee, opRes, pureR, binT, unT, T.cells, T.leaf, fillT, splice, Nat.reduceLT, Nat.reduceAdd, Nat.reduceMul, Nat.reduceLeDiff, Nat.reduceEqDiff, reduceIte, Int.reduceBEq, Int.reduceBNe, Int.reduceLT, Int.reduceLE, Int.reduceGT, Int.reduceGE, Int.reduceNeg, reduceCtorEq, hps]; rfl) ⟨rfl, W_ret ?_⟩)
      simp only [reduceCtorEq, false_and, false_or, or_false, exists_false, exists_const, ne_eq, not_false_eq_true, true_and, implies_true]
      refine fin_of4 (F := f43) rfl (fun _ => rfl) ?_ ?_ ?_ ?_ <;> simp (decide := true) (disch := first | omega | (simp (decide := true) only [List.length_set, hl]; done) | fail) only [sims, evRegion, evOps, evOp, evG, evR, guardT, callee, opRes, pureR, binT, unT, T.cells, T.leaf, fillT, splice, Nat.reduceLT, Nat.reduceAdd, Nat.reduceMul, Nat.reduceLeDiff, Nat.reduceEqDiff, reduceIte, Int.reduceBEq, Int.reduceBNe, Int.reduceLT, Int.reduceLE, Int.reduceGT, Int.reduceGE, Int.reduceNeg, reduceCtorEq]
    · have hd : decide ((a : Int) + size > 16) = false := decide_eq_false hgt
      refine W_seqn (W_seqn (W_region (fun k => by simp (decide := true) (disch := first | omega | (simp (decide := true) only [List.length_set, hl]; done) | fail) only [sims, evRegion, evOps, evOp, evG, evR, guardT, callee, opRes, pureR, binT, unT, T.cells, T.leaf, fillT, splice, Nat.reduceLT, Nat.reduceAdd, Nat.reduceMul, Nat.reduceLeDiff, Nat.reduceEqDiff, reduceIte, Int.reduceBEq, Int.reduceBNe, Int.reduceLT, Int.reduceLE, Int.reduceGT, Int.reduceGE, Int.reduceNeg, reduceCtorEq, hps, h2, hadd, hd, k1, k2, k3]; rfl) ⟨rfl, W_false (by simp (decide := true) (disch := first | omega | (simp (decide := true) only [List.length_set, hl]; done) | fail) only [sims, evRegion, evOps, evOp, evG, evR, guardT, callee, opRes, pureR, binT, unT, T.cells, T.leaf, fillT, splice, Nat.reduceLT, Nat.reduceAdd, Nat.reduceMul, Nat.reduceLeDiff, Nat.reduceEqDiff, reduceIte, Int.reduceBEq, Int.reduceBNe, Int.reduceLT, Int.reduceLE, Int.reduceGT, Int.reduceGE, Int.reduceNeg, reduceCtorEq] <;> rfl) (W_skip ⟨rfl, ?_⟩)⟩))
      refine tail _ ⟨by omega, by rw [hat]; omega⟩ ⟨?_, ?_, ?_, ?_, ?_⟩
      all_goals simp (decide := true) (disch := first | omega | (simp (decide := true) only [List.length_set, hl]; done) | fail) only [sims, evRegion, evOps, evOp, evG, evR, guardT, callee, opRes, pureR, binT, unT, T.cells, T.leaf, fillT, splice, Nat.reduceLT, Nat.reduceAdd, Nat.reduceMul, Nat.reduceLeDiff, Nat.reduceEqDiff, reduceIte, Int.reduceBEq, Int.reduceBNe, Int.reduceLT, Int.reduceLE, Int.reduceGT, Int.reduceGE, Int.reduceNeg, reduceCtorEq, hps, hl, h1]
  · have hno : ¬ Okay addr size := fun h => hs h.1
    unfold placeT
    rw [if_neg hno]
    refine W_seq (W_seqn (W_region (fun k => by simp (decide := true) (disch := first | omega | (simp (decide := true) only [List.length_set, hl]; done) | fail) only [sims, evRegion, evOps, evOp, evG, evR, guardT, callee, opRes, pureR, binT, unT, T.cells, T.leaf, fillT, splice, Nat.reduceLT, Nat.reduceAdd, Nat.reduceMul, Nat.reduceLeDiff, Nat.reduceEqDiff, reduceIte, Int.reduceBEq, Int.reduceBNe, Int.reduceLT, Int.reduceLE, Int.reduceGT, Int.reduceGE, Int.reduceNeg, reduceCtorEq, hps, h2, k1, k2, k3]; rfl) ⟨rfl, W_true (by simp (decide := true) (disch := first | omega | (simp (decide := true) only [List.length_set, hl]; done) | fail) only [sims, evRegion, evOps, evOp, evG, evR, guardT, callee, opRes, pureR, binT, unT, T.cells, T.leaf, fillT, splice, Nat.reduceLT, Nat.reduceAdd, Nat.reduceMul, Nat.reduceLeDiff, Nat.reduceEqDiff, reduceIte, Int.reduceBEq, Int.reduceBNe, Int.reduceLT, Int.reduceLE, Int.reduceGT, Int.reduceGE, Int.reduceNeg, reduceCtorEq] <;> rfl) ?_⟩))
    refine W_seqn (W_region (fun k => by simp (decide := true) (disch := first | omega | (simp (decide := true) only [List.length_set, hl]; done) | fail) only [sims, evRegion, evOps, evOp, evG, evR, guardT, callee, opRes, pureR, binT, unT, T.cells, T.leaf, fillT, splice, Nat.reduceLT, Nat.reduceAdd, Nat.reduceMul, Nat.reduceLeDiff, Nat.reduceEqDiff, reduceIte, Int.reduceBEq, Int.reduceBNe, Int.reduceLT, Int.reduceLE, Int.reduceGT, Int.reduceGE, Int.reduceNeg, reduceCtorEq, hps]; rfl) ⟨rfl, W_ret ?_⟩)
    simp only [reduceCtorEq, false_and, false_or, or_false, exists_false, exists_const, ne_eq, not_false_eq_true, true_and, implies_true]
    refine fin_of4 (F := f43) rfl (fun _ => rfl) ?_ ?_ ?_ ?_ <;> simp (decide := true) (disch := first | omega | (simp (decide := true) only [List.length_set, hl]; done) | fail) only [sims, evRegion, evOps, evOp, evG, evR, guardT, callee, opRes, pureR, binT, unT, T.cells, T.leaf, fillT, splice, Nat.reduceLT, Nat.reduceAdd, Nat.reduceMul, Nat.reduceLeDiff, Nat.reduceEqDiff, reduceIte, Int.reduceBEq, Int.reduceBNe, Int.reduceLT, Int.reduceLE, Int.reduceGT, Int.reduceGE, Int.reduceNeg, reduceCtorEq]
theorem read_nil (addr : Nat) (ha : addr ≤ 4294967295) (size : Int) : E ap 21 [.agg [.imm true 0 []], .int .u32 (addr : Int), .int .i64 size] (.tup [.int .u32 0, .bool false]) := by
  refine E_body (F := f21) rfl rfl rfl ?_
  generalize hs0 : (_ : List T) ++ List.replicate _ T.undef = s0
  have e0 : s0.length = 37 ∧ rho s0 (.tmp 0) = .agg [.imm true 0 []] ∧ rho s0 (.tmp 1) = .int .u32 (addr : Int) ∧ rho s0 (.tmp 2) = .int .i64 size := by subst hs0; exact ⟨rfl, rfl, rfl, rfl⟩
  clear hs0
  obtain ⟨hl, h0, h1, h2⟩ := e0
  have hleaf : allLeaf [T.imm true 0 []] = true := rfl
  have hcut : cut [T.imm true 0 []] 0 1 = [T.imm true 0 []] := rfl
  obtain ⟨N1, c43⟩ := (place_nil addr ha size).call ap43 (fun g => rfl)
  have q43 := c43 N1 (Nat.le_refl _)
  refine W_seqn (W_region (fun k => by simp (decide := true) (disch := first | omega | (simp (decide := true) only [List.length_set, hl]; done) | fail) only [sims, evRegion, evOps, evOp, evG, evR, guardT, callee, opRes, pureR, binT, unT, T.cells, T.leaf, fillT, splice, Nat.reduceLT, Nat.reduceAdd, Nat.reduceMul, Nat.reduceLeDiff, Nat.reduceEqDiff, reduceIte, Int.reduceBEq, Int.reduceBNe, Int.reduceLT, Int.reduceLE, Int.reduceGT, Int.reduceGE, Int.reduceNeg, reduceCtorEq, hps, h0, hleaf]; rfl) ⟨rfl, ?_⟩)
  have hk : readK ⟨[]⟩ addr size = none := by
    unfold readK
    have : find ⟨[]⟩ (addr / 16) = none := rfl
    rw [this]; split <;> rfl
  obtain ⟨x, hx⟩ := place_none hk
  rw [hx] at q43
  refine W_seqn (W_regionN ⟨N1, by simp (decide := true) (disch := first | omega | (simp (decide := true) only [List.length_set, hl]; done) | fail) only [sims, evRegion, evOps, evOp, evG, evR, guardT, callee, opRes, pureR, binT, unT, T.cells, T.leaf, fillT, splice, Nat.reduceLT, Nat.reduceAdd, Nat.reduceMul, Nat.reduceLeDiff, Nat.reduceEqDiff, reduceIte, Int.reduceBEq, Int.reduceBNe, Int.reduceLT, Int.reduceLE, Int.reduceGT, Int.reduceGE, Int.reduceNeg, reduceCtorEq, hps, h1, h2, hcut, ap43, p43, n43, q43]; rfl⟩ ⟨rfl, ?_⟩)
  refine W_seq (W_seqn (W_region (fun k => by simp (decide := true) (disch := first | omega | (simp (decide := true) only [List.length_set, hl]; done) | fail) only [sims, evRegion, evOps, evOp, evG, evR, guardT, callee, opRes, pureR, binT, unT, T.cells, T.leaf, fillT, splice, Nat.reduceLT, Nat.reduceAdd, Nat.reduceMul, Nat.reduceLeDiff, Nat.reduceEqDiff, reduceIte, Int.reduceBEq, Int.reduceBNe, Int.reduceLT, Int.reduceLE, Int.reduceGT, Int.reduceGE, Int.reduceNeg, reduceCtorEq]; rfl) ⟨rfl, W_true (by simp (decide := true) (disch := first | omega | (simp (decide := true) only [List.length_set, hl]; done) | fail) only [sims, evRegion, evOps, evOp, evG, evR, guardT, callee, opRes, pureR, binT, unT, T.cells, T.leaf, fillT, splice, Nat.reduceLT, Nat.reduceAdd, Nat.reduceMul, Nat.reduceLeDiff, Nat.reduceEqDiff, reduceIte, Int.reduceBEq, Int.reduceBNe, Int.reduceLT, Int.reduceLE, Int.reduceGT, Int.reduceGE, Int.reduceNeg, reduceCtorEq] <;> rfl) ?_⟩))
  refine W_seqn (W_region (fun k => by simp (decide := true) (disch := first | omega | (simp (decide := true) only [List.length_set, hl]; done) | fail) only [sims, evRegion, evOps, evOp, evG, evR, guardT, callee, opRes, pureR, binT, unT, T.cells, T.leaf, fillT, splice, Nat.reduceLT, Nat.reduceAdd, Nat.reduceMul, Nat.reduceLeDiff, Nat.reduceEqDiff, reduceIte, Int.reduceBEq, Int.reduceBNe, Int.reduceLT, Int.reduceLE, Int.reduceGT, Int.reduceGE, Int.reduceNeg, reduceCtorEq]; rfl) ⟨rfl, W_ret ?_⟩)
  simp only [reduceCtorEq, false_and, false_or, or_false, exists_false, exists_const, ne_eq, not_false_eq_true, true_and, implies_true]
  refine fin_of2 (F := f21) rfl (fun _ => rfl) ?_ ?_ <;> simp (decide := true) (disch := first | omega | (simp (decide := true) only [List.length_set, hl]; done) | fail) only [sims, evRegion, evOps, evOp, evG, evR, guardT, callee, opRes, pureR, binT, unT, T.cells, T.leaf, fillT, splice, Nat.reduceLT, Nat.reduceAdd, Nat.reduceMul, Nat.reduceLeDiff, Nat.reduceEqDiff, reduceIte, Int.reduceBEq, Int.reduceBNe, Int.reduceLT, Int.reduceLE, Int.reduceGT, Int.reduceGE, Int.reduceNeg, reduceCtorEq]

set_option maxHeartbeats 2000000
/-- What holds from the filling on. -/
def KI (sc sd : T) (le pe gw : List T) (i k : Nat) (st : St) : Prop := st.s.length = 220 ∧ rho st.s (.tmp 3) = .ptr 0 0 ∧ rho st.s (.tmp 4) = .ptr 1 0 ∧ rho st.s (.tmp 5) = .ptr 2 0 ∧ rho st.s (.tmp 7) = .ptr 33 0 ∧ rho st.s (.tmp 8) = .ptr 34 0 ∧ rho st.s (.tmp 9) = .int .i64 (i : Int) ∧ rho st.s (.tmp 10) = .int .i64 (k : Int) ∧ st.g 0 = some [sc] ∧ st.g 1 = some le ∧ st.g 2 = some pe ∧ st.g 33 = some [sd] ∧ st.g 34 = some gw ∧ 35 ≤ st.nx
def kpBody : ACode := match f7.body with | .seq _ (.seq _ (.seq _ (.seq _ (.seq _ (.seq c _))))) => c | _ => .skip
def kpOut : ACode := match kpBody with | .seq _ (.block _ (.loop c)) => c | _ => .skip
def kpIn : ACode := match kpOut with | .seq _ (.seq (.block _ (.seq _ (.block _ (.loop c)))) _) => c | _ => .skip
theorem kp_in (c : Cache) (hc : c.wf) (xs : List T) (hxs : xs = rowsT c.sets) (R' : List (List Way)) (hwf' : Cache.wf ⟨R'⟩) (sd : T) (hsd : sd = setsT ⟨R'⟩) (gone : Way) (hgw : gone.wf) (le pe gw : List T) (hge : gw = gone.enc) (i k : Nat) (a : Nat) (ha : a < c.sets.length) (hll : (row c a).length ≤ 1000)
    (hst : ∀ b, b < (row c a).length → (wayN (row c a) b).state ≠ 0 → find ⟨R'⟩ (wayN (row c a) b).tag.toNat ≠ none ∨ gone = wayN (row c a) b)
    (Q : AExit → St → Prop) (hQe : ∀ st : St, KI (.imm false c.sets.length xs) sd le pe gw i k st ∧ rho st.s (.tmp 12) = .int .i64 (a : Int) → Q (.exit 2) st) :
    ∀ (d : Nat) (st : St), (∃ b : Nat, KI (.imm false c.sets.length xs) sd le pe gw i k st ∧ rho st.s (.tmp 12) = .int .i64 (a : Int) ∧ rho st.s (.tmp 13) = .int .i64 (b : Int) ∧ b ≤ (row c a).length ∧ d = (row c a).length - b) → W ap (.loop kpIn) st Q := by
  have hrow := (row_wf hc _ ha).2
  have hxa : xs[a * 1]? = some (.imm false (row c a).length ((row c a).flatMap Way.enc)) := by rw [hxs]; exact rows_at c.sets a ha
  have hxl : xs.length = c.sets.length := by rw [hxs, rows_leng]
  generalize row c a = l at *
  have hcl := enc_len l hrow
  have hb1 : a * 1 + 1 ≤ c.sets.length := by omega
  have hzl : zeroW.enc.length = 19 := rfl
  have hzleaf := zenc_leaf
  have hbody : kpIn = kpIn := rfl
  conv at hbody => rhs; simp only [kpIn, kpOut, kpBody, f7]
  simp only [← zero_enc] at hbody
  rw [hbody]
  clear hbody
  generalize hzc : zeroW.enc = zc at *
  refine W_loop _ ?_
  rintro d st ⟨b, hK, h12, h13, hb, hd⟩
  have hK0 := hK
  obtain ⟨hl, h3, h4, h5, h7, h8, h9, h10, g0, g1, g2, g33, g34, hnx⟩ := hK
  have hcut : cut [T.imm false c.sets.length xs] 0 1 = [T.imm false c.sets.length xs] := rfl
  by_cases hend : b = l.length
  · have hlt : decide ((b : Int) < (l.length : Int)) = false := decide_eq_false (by omega)
    refine W_seq (W_seqn (W_region (fun k => by simp (decide := true) (disch := first | omega | (simp (decide := true) only [List.length_set, hl]; done) | fail) only [sims, evRegion, evOps, evOp, evG, evR, guardT, callee, opRes, pureR, binT, unT, T.cells, T.leaf, fillT, splice, Nat.reduceLT, Nat.reduceAdd, Nat.reduceMul, Nat.reduceLeDiff, Nat.reduceEqDiff, reduceIte, Int.reduceBEq, Int.reduceBNe, Int.reduceLT, Int.reduceLE, Int.reduceGT, Int.reduceGE, Int.reduceNeg, reduceCtorEq, hps, h3, h12, h13, g0, hxl, ha, hb1, hxa, hlt]; rfl) ⟨rfl, W_false (by simp (decide := true) (disch := first | omega | (simp (decide := true) only [List.length_set, hl]; done) | fail) only [sims, evRegion, evOps, evOp, evG, evR, guardT, callee, opRes, pureR, binT, unT, T.cells, T.leaf, fillT, splice, Nat.reduceLT, Nat.reduceAdd, Nat.reduceMul, Nat.reduceLeDiff, Nat.reduceEqDiff, reduceIte, Int.reduceBEq, Int.reduceBNe, Int.reduceLT, Int.reduceLE, Int.reduceGT, Int.reduceGE, Int.reduceNeg, reduceCtorEq] <;> rfl) (W_exit ?_)⟩))
    refine (.inr ⟨by simp, .inr ⟨by simp, hQe _ ⟨⟨?_, ?_, ?_, ?_, ?_, ?_, ?_, ?_, g0, g1, g2, g33, g34, Nat.le_add_right_of_le hnx⟩, ?_⟩⟩⟩)
    all_goals simp (decide := true) (disch := first | omega | (simp (decide := true) only [List.length_set, hl]; done) | fail) only [sims, evRegion, evOps, evOp, evG, evR, guardT, callee, opRes, pureR, binT, unT, T.cells, T.leaf, fillT, splice, Nat.reduceLT, Nat.reduceAdd, Nat.reduceMul, Nat.reduceLeDiff, Nat.reduceEqDiff, reduceIte, Int.reduceBEq, Int.reduceBNe, Int.reduceLT, Int.reduceLE, Int.reduceGT, Int.reduceGE, Int.reduceNeg, reduceCtorEq, hl, h3, h4, h5, h7, h8, h9, h10, h12]
  have hlt : decide ((b : Int) < (l.length : Int)) = true := decide_eq_true (by omega)
  have hbl : b < l.length := by omega
  have hw2 : IntKind.i64.wrap ((b : Int) + 1) = ((b + 1 : Nat) : Int) := by rw [wrap_id (by omega)]; omega
  have hwk := wayN_wf hrow hbl
  have hcw : cut (l.flatMap Way.enc) (b * 19) 19 = (wayN l b).enc := by rw [flat_cutM l (fun w h => way_len (hrow w h)) b hbl, wayN_eq hbl]
  have hb2 : b * 19 + 19 ≤ l.length * 19 := by omega
  have hwl := way_len hwk
  have hwlf := leaf_ints _ (way_ints (wayN l b))
  have hws := way_state (wayN l b)
  have hwt := way_tag (wayN l b)
  have hzs : splice zc 0 (wayN l b).enc = (wayN l b).enc := splice_all (by rw [hwl, hzl])
  have hcw2 : cut (wayN l b).enc 0 19 = (wayN l b).enc := cut_all hwl
  have hgl : gw.length = 19 := by rw [hge]; exact way_len hgw
  have hcg : cut gw 0 19 = gw := cut_all hgl
  have hcd : cut [sd] 0 1 = [sd] := rfl
  have htag : (wayN l b).tag = (((wayN l b).tag.toNat : Nat) : Int) := by have := wf_u32 hwk.2.1; omega
  rw [htag] at hwt
  have hconf := conf_way _ hwk
  have hconfg := conf_way _ hgw
  rw [← hge] at hconfg
  obtain ⟨p, q, r, hft, hr⟩ : ∃ p q r, findT ⟨R'⟩ (wayN l b).tag.toNat = .tup [.int .i64 p, .int .i64 q, .bool r] ∧ (r = false → find ⟨R'⟩ (wayN l b).tag.toNat = none) := by
    cases hf : find ⟨R'⟩ (wayN l b).tag.toNat with
    | none => exact ⟨_, _, _, findT_no _ _ hf, fun _ => rfl⟩
    | some j => exact ⟨_, _, _, findT_is _ _ j hf, fun h => by cases h⟩
  obtain ⟨N, c15⟩ := (bus_find ⟨R'⟩ hwf' (wayN l b).tag.toNat (by have := wf_u32 hwk.2.1; omega)).call ap15 (fun g => rfl)
  have q15 := c15 N (Nat.le_refl _)
  rw [hft, ← hsd] at q15
  have heq : gone = wayN l b → eqL gw (wayN l b).enc = true := fun h => by rw [hge, h]; exact eq_way _
  have hgo := hst b hbl
  generalize (wayN l b).tag.toNat = tg at *
  generalize hS : (wayN l b).state = sv at *
  generalize hE : (wayN l b).enc = ow at *
  have next : ∀ st' : St, KI (.imm false c.sets.length xs) sd le pe gw i k st' ∧ rho st'.s (.tmp 12) = .int .i64 (a : Int) ∧ rho st'.s (.tmp 13) = .int .i64 (b : Int) → W ap (.region [⟨some 133, .mv (.tmp 13), none⟩, ⟨some 134, .bin .add (.tmp 133) (.con (.int .i64 1)), none⟩, ⟨some 13, .mv (.tmp 134), none⟩] []) st' (fun e s' => (e = .normal ∧ ∃ d', d' < d ∧ ∃ b : Nat, KI (.imm false c.sets.length xs) sd le pe gw i k s' ∧ rho s'.s (.tmp 12) = .int .i64 (a : Int) ∧ rho s'.s (.tmp 13) = .int .i64 (b : Int) ∧ b ≤ l.length ∧ d' = l.length - b) ∨ (e ≠ .normal ∧ Q e s')) := by
    rintro ⟨sl, g, nx⟩ ⟨⟨hl, h3, h4, h5, h7, h8, h9, h10, g0, g1, g2, g33, g34, hnx⟩, h12, h13⟩
    simp only at hl h3 h4 h5 h7 h8 h9 h10 g0 g1 g2 g33 g34 hnx h12 h13
    refine W_region (fun k => by simp (decide := true) (disch := first | omega | (simp (decide := true) only [List.length_set, hl]; done) | fail) only [sims, evRegion, evOps, evOp, evG, evR, guardT, callee, opRes, pureR, binT, unT, T.cells, T.leaf, fillT, splice, Nat.reduceLT, Nat.reduceAdd, Nat.reduceMul, Nat.reduceLeDiff, Nat.reduceEqDiff, reduceIte, Int.reduceBEq, Int.reduceBNe, Int.reduceLT, Int.reduceLE, Int.reduceGT, Int.reduceGE, Int.reduceNeg, reduceCtorEq, h13, hw2]; rfl) ?_
    refine .inl ⟨rfl, l.length - (b + 1), by omega, b + 1, ⟨?_, ?_, ?_, ?_, ?_, ?_, ?_, ?_, g0, g1, g2, g33, g34, Nat.le_add_right_of_le hnx⟩, ?_, ?_, by omega, rfl⟩
    all_goals simp (decide := true) (disch := first | omega | (simp (decide := true) only [List.length_set, hl]; done) | fail) only [sims, evRegion, evOps, evOp, evG, evR, guardT, callee, opRes, pureR, binT, unT, T.cells, T.leaf, fillT, splice, Nat.reduceLT, Nat.reduceAdd, Nat.reduceMul, Nat.reduceLeDiff, Nat.reduceEqDiff, reduceIte, Int.reduceBEq, Int.reduceBNe, Int.reduceLT, Int.reduceLE, Int.reduceGT, Int.reduceGE, Int.reduceNeg, reduceCtorEq, hl, h3, h4, h5, h7, h8, h9, h10, h12]
  refine W_seqn (W_seqn (W_region (fun k => by simp (decide := true) (disch := first | omega | (simp (decide := true) only [List.length_set, hl]; done) | fail) only [sims, evRegion, evOps, evOp, evG, evR, guardT, callee, opRes, pureR, binT, unT, T.cells, T.leaf, fillT, splice, Nat.reduceLT, Nat.reduceAdd, Nat.reduceMul, Nat.reduceLeDiff, Nat.reduceEqDiff, reduceIte, Int.reduceBEq, Int.reduceBNe, Int.reduceLT, Int.reduceLE, Int.reduceGT, Int.reduceGE, Int.reduceNeg, reduceCtorEq, hps, h3, h12, h13, g0, hxl, ha, hb1, hxa, hlt]; rfl) ⟨rfl, W_true (by simp (decide := true) (disch := first | omega | (simp (decide := true) only [List.length_set, hl]; done) | fail) only [sims, evRegion, evOps, evOp, evG, evR, guardT, callee, opRes, pureR, binT, unT, T.cells, T.leaf, fillT, splice, Nat.reduceLT, Nat.reduceAdd, Nat.reduceMul, Nat.reduceLeDiff, Nat.reduceEqDiff, reduceIte, Int.reduceBEq, Int.reduceBNe, Int.reduceLT, Int.reduceLE, Int.reduceGT, Int.reduceGE, Int.reduceNeg, reduceCtorEq] <;> rfl) (W_skip ⟨rfl, ?_⟩)⟩))
  refine W_seqn (W_block (W_seqn (W_region (fun k => by simp (decide := true) (disch := first | omega | (simp (decide := true) only [List.length_set, hl]; done) | fail) only [sims, evRegion, evOps, evOp, evG, evR, guardT, callee, opRes, pureR, binT, unT, T.cells, T.leaf, fillT, splice, Nat.reduceLT, Nat.reduceAdd, Nat.reduceMul, Nat.reduceLeDiff, Nat.reduceEqDiff, reduceIte, Int.reduceBEq, Int.reduceBNe, Int.reduceLT, Int.reduceLE, Int.reduceGT, Int.reduceGE, Int.reduceNeg, reduceCtorEq, hps, h3, h12, h13, g0, hxl, ha, hb1, hxa, hbl, hcl, hb2, hcw, hzleaf, hzl, hwl, hwlf, hzs]; rfl) ⟨rfl, ?_⟩)))
  refine W_abs (fun st => KI (.imm false c.sets.length xs) sd le pe gw i k st ∧ rho st.s (.tmp 12) = .int .i64 (a : Int) ∧ rho st.s (.tmp 13) = .int .i64 (b : Int) ∧ ∃ t, rho st.s (.tmp 14) = .ptr t 0 ∧ st.g t = some ow ∧ 35 ≤ t) ?_ ?_
  · refine ⟨⟨?_, ?_, ?_, ?_, ?_, ?_, ?_, ?_, ?_, ?_, ?_, ?_, ?_, ?_⟩, ?_, ?_, st.nx + 8 + 8, ?_, ?_, by omega⟩
    rotate_right 4
    all_goals first | (show 35 ≤ st.nx + 8 + 10; omega) | (simp (decide := true) (disch := first | omega | (simp (decide := true) only [List.length_set, hl]; done) | fail) only [sims, evRegion, evOps, evOp, evG, evR, guardT, callee, opRes, pureR, binT, unT, T.cells, T.leaf, fillT, splice, Nat.reduceLT, Nat.reduceAdd, Nat.reduceMul, Nat.reduceLeDiff, Nat.reduceEqDiff, reduceIte, Int.reduceBEq, Int.reduceBNe, Int.reduceLT, Int.reduceLE, Int.reduceGT, Int.reduceGE, Int.reduceNeg, reduceCtorEq, hps, hl, h3, h4, h5, h7, h8, h9, h10, h12, h13, g0, g1, g2, g33, g34]; done) | (simp (decide := true) (disch := first | omega | (simp (decide := true) only [List.length_set, hl]; done) | fail) only [sims, evRegion, evOps, evOp, evG, evR, guardT, callee, opRes, pureR, binT, unT, T.cells, T.leaf, fillT, splice, Nat.reduceLT, Nat.reduceAdd, Nat.reduceMul, Nat.reduceLeDiff, Nat.reduceEqDiff, reduceIte, Int.reduceBEq, Int.reduceBNe, Int.reduceLT, Int.reduceLE, Int.reduceGT, Int.reduceGE, Int.reduceNeg, reduceCtorEq, hps]; rfl)
  clear hl h3 h4 h5 h7 h8 h9 h10 h12 h13 g0 g1 g2 g33 g34 hnx hK0
  rintro ⟨sl, g, nx⟩ ⟨⟨hl, h3, h4, h5, h7, h8, h9, h10, g0, g1, g2, g33, g34, hnx⟩, h12, h13, t, h14, gt, ht⟩
  simp only at hl h3 h4 h5 h7 h8 h9 h10 g0 g1 g2 g33 g34 hnx h12 h13 h14 gt
  refine W_seqn (W_regionN ⟨N, by simp (decide := true) (disch := first | omega | (simp (decide := true) only [List.length_set, hl]; done) | fail) only [sims, evRegion, evOps, evOp, evG, evR, guardT, callee, opRes, pureR, binT, unT, T.cells, T.leaf, fillT, splice, Nat.reduceLT, Nat.reduceAdd, Nat.reduceMul, Nat.reduceLeDiff, Nat.reduceEqDiff, reduceIte, Int.reduceBEq, Int.reduceBNe, Int.reduceLT, Int.reduceLE, Int.reduceGT, Int.reduceGE, Int.reduceNeg, reduceCtorEq, hps, h7, h14, gt, hwl, hwt, g33, hcd, ap15, p15, n15, q15]; rfl⟩ ⟨rfl, ?_⟩)
  have fin : ∀ st' : St, (∃ sl', st' = ⟨sl', g, nx + 11 + 12⟩ ∧ sl'.length = 220 ∧ (∀ x, x < 18 → x ≠ 15 → x ≠ 16 → x ≠ 17 → rho sl' (.tmp x) = rho sl (.tmp x))) → KI (.imm false c.sets.length xs) sd le pe gw i k st' ∧ rho st'.s (.tmp 12) = .int .i64 (a : Int) ∧ rho st'.s (.tmp 13) = .int .i64 (b : Int) := by
    rintro _ ⟨sl', rfl, hl', hs'⟩
    refine ⟨⟨hl', ?_, ?_, ?_, ?_, ?_, ?_, ?_, g0, g1, g2, g33, g34, ?_⟩, ?_, ?_⟩
    · rw [hs' 3 (by omega) (by omega) (by omega) (by omega)]; exact h3
    · rw [hs' 4 (by omega) (by omega) (by omega) (by omega)]; exact h4
    · rw [hs' 5 (by omega) (by omega) (by omega) (by omega)]; exact h5
    · rw [hs' 7 (by omega) (by omega) (by omega) (by omega)]; exact h7
    · rw [hs' 8 (by omega) (by omega) (by omega) (by omega)]; exact h8
    · rw [hs' 9 (by omega) (by omega) (by omega) (by omega)]; exact h9
    · rw [hs' 10 (by omega) (by omega) (by omega) (by omega)]; exact h10
    · show 35 ≤ nx + 11 + 12; omega
    · rw [hs' 12 (by omega) (by omega) (by omega) (by omega)]; exact h12
    · rw [hs' 13 (by omega) (by omega) (by omega) (by omega)]; exact h13
  by_cases hz : sv = 0
  · have e1 : (sv != 0) = false := by simp [hz]
    refine W_seqn (W_region (fun k => by simp (decide := true) (disch := first | omega | (simp (decide := true) only [List.length_set, hl]; done) | fail) only [sims, evRegion, evOps, evOp, evG, evR, guardT, callee, opRes, pureR, binT, unT, T.cells, T.leaf, fillT, splice, Nat.reduceLT, Nat.reduceAdd, Nat.reduceMul, Nat.reduceLeDiff, Nat.reduceEqDiff, reduceIte, Int.reduceBEq, Int.reduceBNe, Int.reduceLT, Int.reduceLE, Int.reduceGT, Int.reduceGE, Int.reduceNeg, reduceCtorEq, hps, h14, gt, hwl, hws, e1]; rfl) ⟨rfl, W_false (by simp (decide := true) (disch := first | omega | (simp (decide := true) only [List.length_set, hl]; done) | fail) only [sims, evRegion, evOps, evOp, evG, evR, guardT, callee, opRes, pureR, binT, unT, T.cells, T.leaf, fillT, splice, Nat.reduceLT, Nat.reduceAdd, Nat.reduceMul, Nat.reduceLeDiff, Nat.reduceEqDiff, reduceIte, Int.reduceBEq, Int.reduceBNe, Int.reduceLT, Int.reduceLE, Int.reduceGT, Int.reduceGE, Int.reduceNeg, reduceCtorEq] <;> rfl) (W_skip (.inr (.inl ⟨by simp, rfl, next _ (fin _ ⟨_, rfl, ?_, ?_⟩)⟩)))⟩)
    · simp (decide := true) (disch := first | omega | (simp (decide := true) only [List.length_set, hl]; done) | fail) only [sims, evRegion, evOps, evOp, evG, evR, guardT, callee, opRes, pureR, binT, unT, T.cells, T.leaf, fillT, splice, Nat.reduceLT, Nat.reduceAdd, Nat.reduceMul, Nat.reduceLeDiff, Nat.reduceEqDiff, reduceIte, Int.reduceBEq, Int.reduceBNe, Int.reduceLT, Int.reduceLE, Int.reduceGT, Int.reduceGE, Int.reduceNeg, reduceCtorEq, hl]
    · intro x hx h15 h16 h17
      simp (decide := true) (disch := first | omega | (simp (decide := true) only [List.length_set, hl]; done) | fail) only [sims, evRegion, evOps, evOp, evG, evR, guardT, callee, opRes, pureR, binT, unT, T.cells, T.leaf, fillT, splice, Nat.reduceLT, Nat.reduceAdd, Nat.reduceMul, Nat.reduceLeDiff, Nat.reduceEqDiff, reduceIte, Int.reduceBEq, Int.reduceBNe, Int.reduceLT, Int.reduceLE, Int.reduceGT, Int.reduceGE, Int.reduceNeg, reduceCtorEq]
  · have e1 : (sv != 0) = true := bne_iff_ne.mpr hz
    cases r with
    | true =>
      refine W_seqn (W_region (fun k => by simp (decide := true) (disch := first | omega | (simp (decide := true) only [List.length_set, hl]; done) | fail) only [sims, evRegion, evOps, evOp, evG, evR, guardT, callee, opRes, pureR, binT, unT, T.cells, T.leaf, fillT, splice, Nat.reduceLT, Nat.reduceAdd, Nat.reduceMul, Nat.reduceLeDiff, Nat.reduceEqDiff, reduceIte, Int.reduceBEq, Int.reduceBNe, Int.reduceLT, Int.reduceLE, Int.reduceGT, Int.reduceGE, Int.reduceNeg, reduceCtorEq, hps, h14, gt, hwl, hws, e1]; rfl) ⟨rfl, W_false (by simp (decide := true) (disch := first | omega | (simp (decide := true) only [List.length_set, hl]; done) | fail) only [sims, evRegion, evOps, evOp, evG, evR, guardT, callee, opRes, pureR, binT, unT, T.cells, T.leaf, fillT, splice, Nat.reduceLT, Nat.reduceAdd, Nat.reduceMul, Nat.reduceLeDiff, Nat.reduceEqDiff, reduceIte, Int.reduceBEq, Int.reduceBNe, Int.reduceLT, Int.reduceLE, Int.reduceGT, Int.reduceGE, Int.reduceNeg, reduceCtorEq] <;> rfl) (W_skip (.inr (.inl ⟨by simp, rfl, next _ (fin _ ⟨_, rfl, ?_, ?_⟩)⟩)))⟩)
      · simp (decide := true) (disch := first | omega | (simp (decide := true) only [List.length_set, hl]; done) | fail) only [sims, evRegion, evOps, evOp, evG, evR, guardT, callee, opRes, pureR, binT, unT, T.cells, T.leaf, fillT, splice, Nat.reduceLT, Nat.reduceAdd, Nat.reduceMul, Nat.reduceLeDiff, Nat.reduceEqDiff, reduceIte, Int.reduceBEq, Int.reduceBNe, Int.reduceLT, Int.reduceLE, Int.reduceGT, Int.reduceGE, Int.reduceNeg, reduceCtorEq, hl]
      · intro x hx h15 h16 h17
        simp (decide := true) (disch := first | omega | (simp (decide := true) only [List.length_set, hl]; done) | fail) only [sims, evRegion, evOps, evOp, evG, evR, guardT, callee, opRes, pureR, binT, unT, T.cells, T.leaf, fillT, splice, Nat.reduceLT, Nat.reduceAdd, Nat.reduceMul, Nat.reduceLeDiff, Nat.reduceEqDiff, reduceIte, Int.reduceBEq, Int.reduceBNe, Int.reduceLT, Int.reduceLE, Int.reduceGT, Int.reduceGE, Int.reduceNeg, reduceCtorEq]
    | false =>
      have e2 : eqL gw ow = true := heq (by
        rcases hgo hz with h | h
        · exact absurd (hr rfl) h
        · exact h)
      refine W_seqn (W_region (fun k => by simp (decide := true) (disch := first | omega | (simp (decide := true) only [List.length_set, hl]; done) | fail) only [sims, evRegion, evOps, evOp, evG, evR, guardT, callee, opRes, pureR, binT, unT, T.cells, T.leaf, fillT, splice, Nat.reduceLT, Nat.reduceAdd, Nat.reduceMul, Nat.reduceLeDiff, Nat.reduceEqDiff, reduceIte, Int.reduceBEq, Int.reduceBNe, Int.reduceLT, Int.reduceLE, Int.reduceGT, Int.reduceGE, Int.reduceNeg, reduceCtorEq, hps, h8, h14, gt, g34, hwl, hws, hgl, hcg, hcw2, e1, e2, hconf, hconfg]; rfl) ⟨rfl, W_false (by simp (decide := true) (disch := first | omega | (simp (decide := true) only [List.length_set, hl]; done) | fail) only [sims, evRegion, evOps, evOp, evG, evR, guardT, callee, opRes, pureR, binT, unT, T.cells, T.leaf, fillT, splice, Nat.reduceLT, Nat.reduceAdd, Nat.reduceMul, Nat.reduceLeDiff, Nat.reduceEqDiff, reduceIte, Int.reduceBEq, Int.reduceBNe, Int.reduceLT, Int.reduceLE, Int.reduceGT, Int.reduceGE, Int.reduceNeg, reduceCtorEq] <;> rfl) (W_skip (.inr (.inl ⟨by simp, rfl, next _ (fin _ ⟨_, rfl, ?_, ?_⟩)⟩)))⟩)
      · simp (decide := true) (disch := first | omega | (simp (decide := true) only [List.length_set, hl]; done) | fail) only [sims, evRegion, evOps, evOp, evG, evR, guardT, callee, opRes, pureR, binT, unT, T.cells, T.leaf, fillT, splice, Nat.reduceLT, Nat.reduceAdd, Nat.reduceMul, Nat.reduceLeDiff, Nat.reduceEqDiff, reduceIte, Int.reduceBEq, Int.reduceBNe, Int.reduceLT, Int.reduceLE, Int.reduceGT, Int.reduceGE, Int.reduceNeg, reduceCtorEq, hl]
      · intro x hx h15 h16 h17
        simp (decide := true) (disch := first | omega | (simp (decide := true) only [List.length_set, hl]; done) | fail) only [sims, evRegion, evOps, evOp, evG, evR, guardT, callee, opRes, pureR, binT, unT, T.cells, T.leaf, fillT, splice, Nat.reduceLT, Nat.reduceAdd, Nat.reduceMul, Nat.reduceLeDiff, Nat.reduceEqDiff, reduceIte, Int.reduceBEq, Int.reduceBNe, Int.reduceLT, Int.reduceLE, Int.reduceGT, Int.reduceGE, Int.reduceNeg, reduceCtorEq]

set_option maxHeartbeats 2000000
theorem kp_out (c : Cache) (hc : c.wf) (hfit : Fit c.sets) (xs : List T) (hxs : xs = rowsT c.sets) (R' : List (List Way)) (hwf' : Cache.wf ⟨R'⟩) (sd : T) (hsd : sd = setsT ⟨R'⟩) (gone : Way) (hgw : gone.wf) (le pe gw : List T) (hge : gw = gone.enc) (i k : Nat)
    (hst : ∀ a, a < c.sets.length → ∀ b, b < (row c a).length → (wayN (row c a) b).state ≠ 0 → find ⟨R'⟩ (wayN (row c a) b).tag.toNat ≠ none ∨ gone = wayN (row c a) b)
    (Q : AExit → St → Prop) (hQe : ∀ st : St, KI (.imm false c.sets.length xs) sd le pe gw i k st → Q (.exit 0) st) :
    ∀ (d : Nat) (st : St), (∃ a : Nat, KI (.imm false c.sets.length xs) sd le pe gw i k st ∧ rho st.s (.tmp 12) = .int .i64 (a : Int) ∧ a ≤ c.sets.length ∧ d = c.sets.length - a) → W ap (.loop kpOut) st Q := by
  have hbig := hfit.big
  refine W_loop _ ?_
  rintro d st ⟨a, hK, h12, ha, hd⟩
  obtain ⟨hl, h3, h4, h5, h7, h8, h9, h10, g0, g1, g2, g33, g34, hnx⟩ := hK
  by_cases hend : a = c.sets.length
  · have hlt : decide ((a : Int) < (c.sets.length : Int)) = false := decide_eq_false (by omega)
    refine W_seq (W_seqn (W_region (fun k => by simp (decide := true) (disch := first | omega | (simp (decide := true) only [List.length_set, hl]; done) | fail) only [sims, evRegion, evOps, evOp, evG, evR, guardT, callee, opRes, pureR, binT, unT, T.cells, T.leaf, fillT, splice, Nat.reduceLT, Nat.reduceAdd, Nat.reduceMul, Nat.reduceLeDiff, Nat.reduceEqDiff, reduceIte, Int.reduceBEq, Int.reduceBNe, Int.reduceLT, Int.reduceLE, Int.reduceGT, Int.reduceGE, Int.reduceNeg, reduceCtorEq, hps, h3, h12, g0, hlt]; rfl) ⟨rfl, W_false (by simp (decide := true) (disch := first | omega | (simp (decide := true) only [List.length_set, hl]; done) | fail) only [sims, evRegion, evOps, evOp, evG, evR, guardT, callee, opRes, pureR, binT, unT, T.cells, T.leaf, fillT, splice, Nat.reduceLT, Nat.reduceAdd, Nat.reduceMul, Nat.reduceLeDiff, Nat.reduceEqDiff, reduceIte, Int.reduceBEq, Int.reduceBNe, Int.reduceLT, Int.reduceLE, Int.reduceGT, Int.reduceGE, Int.reduceNeg, reduceCtorEq] <;> rfl) (W_exit ?_)⟩))
    refine (.inr ⟨by simp, .inr ⟨by simp, hQe _ ⟨?_, ?_, ?_, ?_, ?_, ?_, ?_, ?_, g0, g1, g2, g33, g34, Nat.le_add_right_of_le hnx⟩⟩⟩)
    all_goals simp (decide := true) (disch := first | omega | (simp (decide := true) only [List.length_set, hl]; done) | fail) only [sims, evRegion, evOps, evOp, evG, evR, guardT, callee, opRes, pureR, binT, unT, T.cells, T.leaf, fillT, splice, Nat.reduceLT, Nat.reduceAdd, Nat.reduceMul, Nat.reduceLeDiff, Nat.reduceEqDiff, reduceIte, Int.reduceBEq, Int.reduceBNe, Int.reduceLT, Int.reduceLE, Int.reduceGT, Int.reduceGE, Int.reduceNeg, reduceCtorEq, hl, h3, h4, h5, h7, h8, h9, h10]
  have hlt : decide ((a : Int) < (c.sets.length : Int)) = true := decide_eq_true (by omega)
  have hal : a < c.sets.length := by omega
  have hw2 : IntKind.i64.wrap ((a : Int) + 1) = ((a + 1 : Nat) : Int) := by rw [wrap_id (by omega)]; omega
  refine W_seqn (W_seqn (W_region (fun k => by simp (decide := true) (disch := first | omega | (simp (decide := true) only [List.length_set, hl]; done) | fail) only [sims, evRegion, evOps, evOp, evG, evR, guardT, callee, opRes, pureR, binT, unT, T.cells, T.leaf, fillT, splice, Nat.reduceLT, Nat.reduceAdd, Nat.reduceMul, Nat.reduceLeDiff, Nat.reduceEqDiff, reduceIte, Int.reduceBEq, Int.reduceBNe, Int.reduceLT, Int.reduceLE, Int.reduceGT, Int.reduceGE, Int.reduceNeg, reduceCtorEq, hps, h3, h12, g0, hlt]; rfl) ⟨rfl, W_true (by simp (decide := true) (disch := first | omega | (simp (decide := true) only [List.length_set, hl]; done) | fail) only [sims, evRegion, evOps, evOp, evG, evR, guardT, callee, opRes, pureR, binT, unT, T.cells, T.leaf, fillT, splice, Nat.reduceLT, Nat.reduceAdd, Nat.reduceMul, Nat.reduceLeDiff, Nat.reduceEqDiff, reduceIte, Int.reduceBEq, Int.reduceBNe, Int.reduceLT, Int.reduceLE, Int.reduceGT, Int.reduceGE, Int.reduceNeg, reduceCtorEq] <;> rfl) (W_skip ⟨rfl, ?_⟩)⟩))
  refine W_seqn (W_block (W_seqn (W_region (fun k => by simp (decide := true) (disch := first | omega | (simp (decide := true) only [List.length_set, hl]; done) | fail) only [sims, evRegion, evOps, evOp, evG, evR, guardT, callee, opRes, pureR, binT, unT, T.cells, T.leaf, fillT, splice, Nat.reduceLT, Nat.reduceAdd, Nat.reduceMul, Nat.reduceLeDiff, Nat.reduceEqDiff, reduceIte, Int.reduceBEq, Int.reduceBNe, Int.reduceLT, Int.reduceLE, Int.reduceGT, Int.reduceGE, Int.reduceNeg, reduceCtorEq]; rfl) ⟨rfl, W_block ?_⟩)))
  refine kp_in c hc xs hxs R' hwf' sd hsd gone hgw le pe gw hge i k a hal (by have := (fit_row hfit a hal).1; omega) (hst a hal) _ (fun st' h => ?_) ((row c a).length - 0) _ ⟨0, ⟨?_, ?_, ?_, ?_, ?_, ?_, ?_, ?_, g0, g1, g2, g33, g34, ?_⟩, ?_, ?_, by omega, rfl⟩
  · obtain ⟨⟨hl, h3, h4, h5, h7, h8, h9, h10, g0, g1, g2, g33, g34, hnx⟩, h12⟩ := h
    refine .inl ⟨rfl, .inr (.inl ⟨by simp, rfl, ?_⟩)⟩
    refine W_region (fun k => by simp (decide := true) (disch := first | omega | (simp (decide := true) only [List.length_set, hl]; done) | fail) only [sims, evRegion, evOps, evOp, evG, evR, guardT, callee, opRes, pureR, binT, unT, T.cells, T.leaf, fillT, splice, Nat.reduceLT, Nat.reduceAdd, Nat.reduceMul, Nat.reduceLeDiff, Nat.reduceEqDiff, reduceIte, Int.reduceBEq, Int.reduceBNe, Int.reduceLT, Int.reduceLE, Int.reduceGT, Int.reduceGE, Int.reduceNeg, reduceCtorEq, h12, hw2]; rfl) ?_
    refine .inl ⟨rfl, c.sets.length - (a + 1), by omega, a + 1, ⟨?_, ?_, ?_, ?_, ?_, ?_, ?_, ?_, g0, g1, g2, g33, g34, Nat.le_add_right_of_le hnx⟩, ?_, by omega, rfl⟩
    all_goals simp (decide := true) (disch := first | omega | (simp (decide := true) only [List.length_set, hl]; done) | fail) only [sims, evRegion, evOps, evOp, evG, evR, guardT, callee, opRes, pureR, binT, unT, T.cells, T.leaf, fillT, splice, Nat.reduceLT, Nat.reduceAdd, Nat.reduceMul, Nat.reduceLeDiff, Nat.reduceEqDiff, reduceIte, Int.reduceBEq, Int.reduceBNe, Int.reduceLT, Int.reduceLE, Int.reduceGT, Int.reduceGE, Int.reduceNeg, reduceCtorEq, hl, h3, h4, h5, h7, h8, h9, h10]
  all_goals first | (show 35 ≤ st.nx + 5 + 1; omega) | (simp (decide := true) (disch := first | omega | (simp (decide := true) only [List.length_set, hl]; done) | fail) only [sims, evRegion, evOps, evOp, evG, evR, guardT, callee, opRes, pureR, binT, unT, T.cells, T.leaf, fillT, splice, Nat.reduceLT, Nat.reduceAdd, Nat.reduceMul, Nat.reduceLeDiff, Nat.reduceEqDiff, reduceIte, Int.reduceBEq, Int.reduceBNe, Int.reduceLT, Int.reduceLE, Int.reduceGT, Int.reduceGE, Int.reduceNeg, reduceCtorEq, hl, h3, h4, h5, h7, h8, h9, h10, h12]; done) | (simp (decide := true) (disch := first | omega | (simp (decide := true) only [List.length_set, hl]; done) | fail) only [sims, evRegion, evOps, evOp, evG, evR, guardT, callee, opRes, pureR, binT, unT, T.cells, T.leaf, fillT, splice, Nat.reduceLT, Nat.reduceAdd, Nat.reduceMul, Nat.reduceLeDiff, Nat.reduceEqDiff, reduceIte, Int.reduceBEq, Int.reduceBNe, Int.reduceLT, Int.reduceLE, Int.reduceGT, Int.reduceGE, Int.reduceNeg, reduceCtorEq, hl, h3, h4, h5, h7, h8, h9, h10, h12]; rfl)
def kpTail : ACode := match f7.body with | .seq _ (.seq _ (.seq _ (.seq _ (.seq _ (.seq _ c))))) => c | _ => .skip
theorem ap13 : ap 13 = some f13 := rfl
theorem p13 : f13.pure = true := rfl
theorem n13 : f13.nat = none := rfl
theorem ap14 : ap 14 = some f14 := rfl
theorem p14 : f14.pure = true := rfl
theorem n14 : f14.nat = none := rfl
theorem ap29 : ap 29 = some f29 := rfl
theorem p29 : f29.pure = true := rfl
theorem n29 : f29.nat = none := rfl
theorem right_call {n m : Nat} {R : List (List Way)} (hfit : Fit R) (h : RightQ n m R) : E ap 13 [.agg [.imm false R.length (rowsT R)]] (.bool true) := by
  obtain ⟨v, hv, b, rfl, hb⟩ := bus_right ⟨R⟩ (fit_wf hfit) hfit
  rw [sets_rows] at hv
  have : b = true := hb.mpr ((right_q ⟨R⟩ (fit_wf hfit)).mpr ⟨m, by show RightQ R.length m R; rw [h.1]; exact h⟩)
  rw [this] at hv
  exact hv
theorem zext_runs (z : Nat) (hz : z = 1 ∨ z = 2 ∨ z = 4) : evF ap 400 29 [.int .u32 2864434397, .int .i64 (8 * (z : Int))] = some (.int .u32 (val (bytesOf 2864434397 z))) := by
  rcases hz with rfl | rfl | rfl <;> kernel_rfl

set_option maxHeartbeats 2000000
theorem kp_tail (n m : Nat) (R : List (List Way)) (hfit : Fit R) (hq : RightQ n m R) (sc : T) (le pe gw : List T) (i k : Nat) (hi : i < n) (ln : Nat) (hln : ln ≤ 4294967295) (addr : Nat) (ha : addr ≤ 4294967295) (size : Int) (hsz : -9223372036854775808 ≤ size ∧ size ≤ 9223372036854775807)
    (hle : le.length = 18) (hl0 : le[0]? = some (.int .u32 (ln : Int))) (hpl : pe.length = 2) (hp0 : pe[0]? = some (.int .u32 (addr : Int))) (hp1 : pe[1]? = some (.int .i64 size)) :
    ∀ st : St, KI sc (.imm false R.length (rowsT R)) le pe gw i k st → W ap kpTail st (fun e s => e = .ret ∧ rho s.s (.tmp 6) = .bool true) := by
  rintro ⟨sl, g, nx⟩ ⟨hl, h3, h4, h5, h7, h8, h9, h10, g0, g1, g2, g33, g34, hnx⟩
  simp only at hl h3 h4 h5 h7 h8 h9 h10 g0 g1 g2 g33 g34 hnx
  have hwf := fit_wf hfit
  have hsd := sets_rows R
  have hRn : R.length = n := hq.1
  have hcd : cut [T.imm false R.length (rowsT R)] 0 1 = [T.imm false R.length (rowsT R)] := rfl
  have hil : i < R.length := by omega
  have hrow : RowOK n m i (row ⟨R⟩ i) := hq.2.2.2.2.2 i hi
  have hra := rows_at R i hil
  have hrl := rows_leng R
  rw [hrow.1] at hra
  have hb1 : i * 1 + 1 ≤ R.length := by omega
  have hm1 := hq.2.2.2.1
  have hm4 := hq.2.2.2.2.1
  obtain ⟨N9, c9⟩ := (E_of awake_runs).call ap9 (fun g => rfl)
  obtain ⟨u3, hu3, x3⟩ := bus_set_rows ⟨R⟩ hwf hfit ln hln 0
  have hfS := fit_setR (c := ⟨R⟩) hfit ln 0
  have hqS := rightq_setR (c := ⟨R⟩) hq ln 0
  generalize hSS : setR ⟨R⟩ ln 0 = RS at *
  have hx3 : u3 = _ := x3
  subst hx3
  rw [hsd] at hu3
  obtain ⟨N27, c27⟩ := hu3.call ap27 (fun g => rfl)
  obtain ⟨N13, c13⟩ := (right_call hfS hqS).call ap13 (fun g => rfl)
  obtain ⟨u4, hu4, x4⟩ := touchX hfit (ex_sets ⟨R⟩) (i : Int) ((m : Int) - 1)
  have hfT := fit_touch hfit (i : Int) ((m : Int) - 1)
  have hqT := rightq_touch hq (i : Int) ((m : Int) - 1)
  generalize hTT : touchR R (i : Int) ((m : Int) - 1) = RT at *
  have hx4 : u4 = _ := x4
  subst hx4
  rw [hsd] at hu4
  obtain ⟨N19, c19⟩ := hu4.call ap19 (fun g => rfl)
  obtain ⟨N13', c13'⟩ := (right_call hfT hqT).call ap13 (fun g => rfl)
  have hsub : IntKind.i64.wrap ((m : Int) - 1) = (m : Int) - 1 := wrap_id (by omega)
  obtain ⟨u, hu, hof, hex⟩ := bus_write ⟨R⟩ hwf hfit addr ha size 2864434397 (by omega)
  rw [hsd] at hu
  obtain ⟨N23, c23⟩ := hu.call ap23 (fun g => rfl)
  have hcS : cut [T.imm false RS.length (rowsT RS)] 0 1 = [T.imm false RS.length (rowsT RS)] := rfl
  cases hyes : (writeR ⟨R⟩ addr size 2864434397).2 with
  | true =>
    have hx := hex hyes
    obtain ⟨hqW, z, hz, hz124, hread⟩ := read_write hwf hq addr size 2864434397 hyes
    have hfW := fit_writeR (c := ⟨R⟩) hfit addr size 2864434397
    rw [hyes] at c23
    generalize hWW : (writeR ⟨R⟩ addr size 2864434397).1 = RW at *
    have hx' : u = _ := hx
    subst hx'
    have hr1 := bus_read ⟨RW⟩ (fit_wf hfW) addr ha size
    rw [sets_rows, hread] at hr1
    obtain ⟨N21, c21⟩ := hr1.call ap21 (fun g => rfl)
    obtain ⟨N13w, c13w⟩ := (right_call hfW hqW).call ap13 (fun g => rfl)
    obtain ⟨N29, c29⟩ := (E_of (zext_runs z hz124)).call ap29 (fun g => rfl)
    have hmul : IntKind.i64.wrap (8 * size) = 8 * (z : Int) := by rw [hz, wrap_id (by omega)]
    have hcW : cut [T.imm false RW.length (rowsT RW)] 0 1 = [T.imm false RW.length (rowsT RW)] := rfl
    generalize hM : N9 + N27 + N13 + N19 + N13' + N23 + N21 + N13w + N29 = M
    have q9 := c9 M (by omega)
    have q27 := c27 M (by omega)
    have q13 := c13 M (by omega)
    have q19 := c19 M (by omega)
    have q13' := c13' M (by omega)
    have q23 := c23 M (by omega)
    have q21 := c21 M (by omega)
    have q13w := c13w M (by omega)
    have q29 := c29 M (by omega)
    generalize val (bytesOf 2864434397 z) = vz at *
    have hvv : (vz != vz) = false := by simp
    refine W_seqn (W_regionN ⟨M, by simp (decide := true) (disch := first | omega | (simp (decide := true) only [List.length_set, hl]; done) | fail) only [sims, evRegion, evOps, evOp, evG, evR, guardT, callee, opRes, pureR, binT, unT, T.cells, T.leaf, fillT, splice, Nat.reduceLT, Nat.reduceAdd, Nat.reduceMul, Nat.reduceLeDiff, Nat.reduceEqDiff, reduceIte, Int.reduceBEq, Int.reduceBNe, Int.reduceLT, Int.reduceLE, Int.reduceGT, Int.reduceGE, Int.reduceNeg, reduceCtorEq, hps, h5, h7, g2, g33, hcd, hpl, hp0, hp1, ap23, p23, n23, q23]; rfl⟩ ⟨rfl, ?_⟩)
    refine W_seqn (W_regionN ⟨M, by simp (decide := true) (disch := first | omega | (simp (decide := true) only [List.length_set, hl]; done) | fail) only [sims, evRegion, evOps, evOp, evG, evR, guardT, callee, opRes, pureR, binT, unT, T.cells, T.leaf, fillT, splice, Nat.reduceLT, Nat.reduceAdd, Nat.reduceMul, Nat.reduceLeDiff, Nat.reduceEqDiff, reduceIte, Int.reduceBEq, Int.reduceBNe, Int.reduceLT, Int.reduceLE, Int.reduceGT, Int.reduceGE, Int.reduceNeg, reduceCtorEq, hps, h5, g2, hcW, hpl, hp0, hp1, ap21, p21, n21, q21]; rfl⟩ ⟨rfl, ?_⟩)
    refine W_seqn (W_seqn (W_regionN ⟨M, by simp (decide := true) (disch := first | omega | (simp (decide := true) only [List.length_set, hl]; done) | fail) only [sims, evRegion, evOps, evOp, evG, evR, guardT, callee, opRes, pureR, binT, unT, T.cells, T.leaf, fillT, splice, Nat.reduceLT, Nat.reduceAdd, Nat.reduceMul, Nat.reduceLeDiff, Nat.reduceEqDiff, reduceIte, Int.reduceBEq, Int.reduceBNe, Int.reduceLT, Int.reduceLE, Int.reduceGT, Int.reduceGE, Int.reduceNeg, reduceCtorEq, hps, h5, g2, hcW, hpl, hp0, hp1, hmul, hvv, ap13, p13, n13, q13w, ap29, p29, n29, q29]; rfl⟩ ⟨rfl, W_false (by simp (decide := true) (disch := first | omega | (simp (decide := true) only [List.length_set, hl]; done) | fail) only [sims, evRegion, evOps, evOp, evG, evR, guardT, callee, opRes, pureR, binT, unT, T.cells, T.leaf, fillT, splice, Nat.reduceLT, Nat.reduceAdd, Nat.reduceMul, Nat.reduceLeDiff, Nat.reduceEqDiff, reduceIte, Int.reduceBEq, Int.reduceBNe, Int.reduceLT, Int.reduceLE, Int.reduceGT, Int.reduceGE, Int.reduceNeg, reduceCtorEq] <;> rfl) (W_skip ⟨rfl, ?_⟩)⟩))
    refine W_seqn (W_regionN ⟨M, by simp (decide := true) (disch := first | omega | (simp (decide := true) only [List.length_set, hl]; done) | fail) only [sims, evRegion, evOps, evOp, evG, evR, guardT, callee, opRes, pureR, binT, unT, T.cells, T.leaf, fillT, splice, Nat.reduceLT, Nat.reduceAdd, Nat.reduceMul, Nat.reduceLeDiff, Nat.reduceEqDiff, reduceIte, Int.reduceBEq, Int.reduceBNe, Int.reduceLT, Int.reduceLE, Int.reduceGT, Int.reduceGE, Int.reduceNeg, reduceCtorEq, hps, h4, h7, h9, g1, g33, hcd, hle, hl0, hrl, hil, hb1, hra, hsub, ap27, p27, n27, q27, ap13, p13, n13, q13, ap19, p19, n19, q19, q13', ap9, p9, n9, q9]; rfl⟩ ⟨rfl, W_ret ⟨rfl, ?_⟩⟩)
    simp (decide := true) (disch := first | omega | (simp (decide := true) only [List.length_set, hl]; done) | fail) only [sims, evRegion, evOps, evOp, evG, evR, guardT, callee, opRes, pureR, binT, unT, T.cells, T.leaf, fillT, splice, Nat.reduceLT, Nat.reduceAdd, Nat.reduceMul, Nat.reduceLeDiff, Nat.reduceEqDiff, reduceIte, Int.reduceBEq, Int.reduceBNe, Int.reduceLT, Int.reduceLE, Int.reduceGT, Int.reduceGE, Int.reduceNeg, reduceCtorEq]
  | false =>
    rw [hyes] at c23
    have hR0 : (writeR ⟨R⟩ addr size 2864434397).1 = [] := by
      unfold writeR at hyes ⊢
      cases hk : writeK ⟨R⟩ addr size with
      | none => rfl
      | some k => rw [hk] at hyes; cases hyes
    rw [hR0] at hof
    obtain ⟨f, ys, rfl, hys⟩ := hof
    have hy0 : ys = [] := List.length_eq_zero_iff.mp hys.1
    subst hy0
    have hr1 : E ap 21 [.agg [.imm f 0 []], .int .u32 (addr : Int), .int .i64 size] (.tup [.int .u32 0, .bool false]) := by
      cases f with
      | true => exact read_nil addr ha size
      | false =>
        have := bus_read ⟨[]⟩ (fit_wf (R := []) ⟨by simp, fun l h => by simp at h⟩) addr ha size
        have e : readT ⟨[]⟩ addr size = .tup [.int .u32 0, .bool false] := by
          have hk : readK ⟨[]⟩ addr size = none := by
            unfold readK
            have : find ⟨[]⟩ (addr / 16) = none := rfl
            rw [this]; split <;> rfl
          unfold readT; rw [hk]
        rw [e] at this
        exact this
    obtain ⟨N21, c21⟩ := hr1.call ap21 (fun g => rfl)
    have hcW : cut [T.imm f 0 []] 0 1 = [T.imm f 0 []] := rfl
    generalize hM : N9 + N27 + N13 + N19 + N13' + N23 + N21 = M
    have q9 := c9 M (by omega)
    have q27 := c27 M (by omega)
    have q13 := c13 M (by omega)
    have q19 := c19 M (by omega)
    have q13' := c13' M (by omega)
    have q23 := c23 M (by omega)
    have q21 := c21 M (by omega)
    rw [show T.imm f ([] : List (List Way)).length [] = T.imm f 0 [] from rfl] at q23
    refine W_seqn (W_regionN ⟨M, by simp (decide := true) (disch := first | omega | (simp (decide := true) only [List.length_set, hl]; done) | fail) only [sims, evRegion, evOps, evOp, evG, evR, guardT, callee, opRes, pureR, binT, unT, T.cells, T.leaf, fillT, splice, Nat.reduceLT, Nat.reduceAdd, Nat.reduceMul, Nat.reduceLeDiff, Nat.reduceEqDiff, reduceIte, Int.reduceBEq, Int.reduceBNe, Int.reduceLT, Int.reduceLE, Int.reduceGT, Int.reduceGE, Int.reduceNeg, reduceCtorEq, hps, h5, h7, g2, g33, hcd, hpl, hp0, hp1, ap23, p23, n23, q23]; rfl⟩ ⟨rfl, ?_⟩)
    refine W_seqn (W_regionN ⟨M, by simp (decide := true) (disch := first | omega | (simp (decide := true) only [List.length_set, hl]; done) | fail) only [sims, evRegion, evOps, evOp, evG, evR, guardT, callee, opRes, pureR, binT, unT, T.cells, T.leaf, fillT, splice, Nat.reduceLT, Nat.reduceAdd, Nat.reduceMul, Nat.reduceLeDiff, Nat.reduceEqDiff, reduceIte, Int.reduceBEq, Int.reduceBNe, Int.reduceLT, Int.reduceLE, Int.reduceGT, Int.reduceGE, Int.reduceNeg, reduceCtorEq, hps, h5, g2, hcW, hpl, hp0, hp1, ap21, p21, n21, q21]; rfl⟩ ⟨rfl, ?_⟩)
    refine W_seqn (W_seqn (W_regionN ⟨M, by simp (decide := true) (disch := first | omega | (simp (decide := true) only [List.length_set, hl]; done) | fail) only [sims, evRegion, evOps, evOp, evG, evR, guardT, callee, opRes, pureR, binT, unT, T.cells, T.leaf, fillT, splice, Nat.reduceLT, Nat.reduceAdd, Nat.reduceMul, Nat.reduceLeDiff, Nat.reduceEqDiff, reduceIte, Int.reduceBEq, Int.reduceBNe, Int.reduceLT, Int.reduceLE, Int.reduceGT, Int.reduceGE, Int.reduceNeg, reduceCtorEq, hps, h5, g2, hcW, hpl, hp0, hp1]; rfl⟩ ⟨rfl, W_false (by simp (decide := true) (disch := first | omega | (simp (decide := true) only [List.length_set, hl]; done) | fail) only [sims, evRegion, evOps, evOp, evG, evR, guardT, callee, opRes, pureR, binT, unT, T.cells, T.leaf, fillT, splice, Nat.reduceLT, Nat.reduceAdd, Nat.reduceMul, Nat.reduceLeDiff, Nat.reduceEqDiff, reduceIte, Int.reduceBEq, Int.reduceBNe, Int.reduceLT, Int.reduceLE, Int.reduceGT, Int.reduceGE, Int.reduceNeg, reduceCtorEq] <;> rfl) (W_skip ⟨rfl, ?_⟩)⟩))
    refine W_seqn (W_regionN ⟨M, by simp (decide := true) (disch := first | omega | (simp (decide := true) only [List.length_set, hl]; done) | fail) only [sims, evRegion, evOps, evOp, evG, evR, guardT, callee, opRes, pureR, binT, unT, T.cells, T.leaf, fillT, splice, Nat.reduceLT, Nat.reduceAdd, Nat.reduceMul, Nat.reduceLeDiff, Nat.reduceEqDiff, reduceIte, Int.reduceBEq, Int.reduceBNe, Int.reduceLT, Int.reduceLE, Int.reduceGT, Int.reduceGE, Int.reduceNeg, reduceCtorEq, hps, h4, h7, h9, g1, g33, hcd, hle, hl0, hrl, hil, hb1, hra, hsub, ap27, p27, n27, q27, ap13, p13, n13, q13, ap19, p19, n19, q19, q13', ap9, p9, n9, q9]; rfl⟩ ⟨rfl, W_ret ⟨rfl, ?_⟩⟩)
    simp (decide := true) (disch := first | omega | (simp (decide := true) only [List.length_set, hl]; done) | fail) only [sims, evRegion, evOps, evOp, evG, evR, guardT, callee, opRes, pureR, binT, unT, T.cells, T.leaf, fillT, splice, Nat.reduceLT, Nat.reduceAdd, Nat.reduceMul, Nat.reduceLeDiff, Nat.reduceEqDiff, reduceIte, Int.reduceBEq, Int.reduceBNe, Int.reduceLT, Int.reduceLE, Int.reduceGT, Int.reduceGE, Int.reduceNeg, reduceCtorEq]
end Go.Proofs.Ythanlobfjpjegaa.Abs
