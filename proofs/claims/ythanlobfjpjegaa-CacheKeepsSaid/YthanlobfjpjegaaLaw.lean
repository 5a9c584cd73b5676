/- What the laws of caches share. -/
import Derived.Test.YthanlobfjpjegaaRtouch2
import Derived.Test.YthanlobfjpjegaaLight
namespace Go.Proofs.Ythanlobfjpjegaa.Abs
open Go Go.RowKit Fn
set_option linter.unusedVariables false
set_option linter.unusedSimpArgs false
set_option linter.unnecessarySimpa false
set_option maxRecDepth 100000

theorem awake_runs : evF ap 400 9 [] = some (.bool true) := by kernel_rfl
theorem ap8 : ap 8 = some f8 := rfl
theorem p8 : f8.pure = true := rfl
theorem n8 : f8.nat = none := rfl
theorem ap9 : ap 9 = some f9 := rfl
theorem p9 : f9.pure = true := rfl
theorem n9 : f9.nat = none := rfl
theorem ap11 : ap 11 = some f11 := rfl
theorem p11 : f11.pure = true := rfl
theorem n11 : f11.nat = none := rfl
theorem ap17 : ap 17 = some f17 := rfl
theorem p17 : f17.pure = true := rfl
theorem n17 : f17.nat = none := rfl
theorem ap18 : ap 18 = some f18 := rfl
theorem p18 : f18.pure = true := rfl
theorem n18 : f18.nat = none := rfl
theorem ap19 : ap 19 = some f19 := rfl
theorem p19 : f19.pure = true := rfl
theorem n19 : f19.nat = none := rfl
theorem ap20 : ap 20 = some f20 := rfl
theorem p20 : f20.pure = true := rfl
theorem n20 : f20.nat = none := rfl
theorem tells_cache (c : Cache) : Tells (c.sets.flatMap (fun l => [rowT l])) c.sets := by
  refine ⟨rows_len c, fun i h => ⟨false, ?_⟩⟩
  rw [rows_get c i h]
  unfold row
  rw [List.getElem?_eq_getElem h]; rfl
/-- Rows that are light, and right. -/
def Fit (R : List (List Way)) : Prop := R.length ≤ 20 ∧ ∀ l ∈ R, l.length ≤ 10 ∧ ∀ w ∈ l, w.wf
theorem Fit.big {R : List (List Way)} (h : Fit R) : R.length ≤ 1000 ∧ ∀ l ∈ R, l.length ≤ 1000 ∧ ∀ w ∈ l, w.wf := by
  refine ⟨by have := h.1; omega, fun l hl => ?_⟩
  obtain ⟨h1, h2⟩ := h.2 l hl
  exact ⟨by omega, h2⟩
theorem fit_cache {c : Cache} (hc : c.wf) (h : c.sets.length ≤ 20 ∧ ∀ j, j < c.sets.length → (row c j).length ≤ 10) : Fit c.sets := by
  refine ⟨h.1, fun l hl => ?_⟩
  obtain ⟨j, hj, rfl⟩ := List.getElem_of_mem hl
  have e := h.2 j hj
  unfold row at e
  rw [List.getElem?_eq_getElem hj] at e
  exact ⟨e, (hc.2 _ hl).2⟩
theorem fit_set {R : List (List Way)} (h : Fit R) (i : Nat) (l : List Way) (hl : l.length ≤ 10 ∧ ∀ w ∈ l, w.wf) : Fit (R.set i l) := by
  refine ⟨by rw [List.length_set]; exact h.1, fun x hx => ?_⟩
  rcases List.mem_or_eq_of_mem_set hx with h' | rfl
  · exact h.2 _ h'
  · exact hl
theorem touchR_len (R : List (List Way)) (a b : Int) : (touchR R a b).length = R.length := by
  unfold touchR; split
  · rw [List.length_set]
  · rfl
theorem fit_touch {R : List (List Way)} (h : Fit R) (a b : Int) : Fit (touchR R a b) := by
  by_cases hb : Bad R a b
  · rw [touch_bad hb]; exact h
  · obtain ⟨i, w, hi, rfl, rfl, hwl⟩ := not_bad hb
    rw [touch_some R i w hi hwl]
    obtain ⟨h1, h2⟩ := h.2 _ (List.getElem_mem hi)
    exact fit_set h i _ ⟨by rw [touch_len]; exact h1, touch_wf h2 w hwl⟩
theorem same_of {R : List (List Way)} (h : Fit R) {u v : T} (hu : CacheOf R u) (hv : CacheOf R v) : E ap 11 [u, v] (.bool true) := by
  obtain ⟨f, xs, rfl, hx⟩ := hu
  obtain ⟨f', ys, rfl, hy⟩ := hv
  exact same_cache f f' R xs ys hx hy h.big.1 h.big.2
theorem cacheOf_frz {R : List (List Way)} {u : T} (hu : CacheOf R u) (h : Hp) : frz h frzDepth u = some (u, []) := by
  obtain ⟨f, xs, rfl, hx⟩ := hu; rfl
theorem frzL_two {h : Hp} {u v : T} (hu : frz h frzDepth u = some (u, [])) (hv : frz h frzDepth v = some (v, [])) : frzL h frzDepth [u, v] = some ([u, v], []) := by
  unfold frzL; simp only [frzAll, hu, hv]; rfl
theorem touchB {R : List (List Way)} (h : Fit R) {u : T} (hu : CacheOf R u) (a b : Int) : ∃ v, E ap 19 [u, .int .i64 a, .int .i64 b] v ∧ CacheOf (touchR R a b) v := by
  obtain ⟨f, xs, rfl, hx⟩ := hu
  obtain ⟨f', ys, h1, h2⟩ := bus_touch f R xs hx h.big.1 h.big.2 a b
  exact ⟨_, h1, f', ys, by rw [touchR_len], h2⟩
theorem touchG {R : List (List Way)} (h : Fit R) {u : T} (hu : CacheOf R u) (a b : Int) : ∃ v, E ap 20 [u, .int .i64 a, .int .i64 b] v ∧ CacheOf (touchR R a b) v := by
  obtain ⟨f, xs, rfl, hx⟩ := hu
  exact ref_touch f R xs hx h.big.1 h.big.2 a b
theorem cacheOf_sets (c : Cache) : CacheOf c.sets (.agg [setsT c]) := ⟨false, _, rfl, tells_cache c⟩
/-- What a function of the program gives: exactly these rows. -/
def CacheEx (R : List (List Way)) (v : T) : Prop := v = .agg [.imm false R.length (rowsT R)]
theorem CacheEx.of {R : List (List Way)} {v : T} (h : CacheEx R v) : CacheOf R v := ⟨false, _, h, tells_rows R⟩
theorem rows_eq (L : List (List Way)) : L.flatMap (fun l => [rowT l]) = rowsT L := by
  unfold rowsT
  induction L with
  | nil => rfl
  | cons a L ih => rw [List.flatMap_cons, List.map_cons, ih]; rfl
theorem rows_set (R : List (List Way)) (i : Nat) (l : List Way) : (rowsT R).set i (.imm false l.length (l.flatMap Way.enc)) = rowsT (R.set i l) := by
  unfold rowsT; rw [List.map_set]
theorem ex_sets (c : Cache) : CacheEx c.sets (.agg [setsT c]) := by
  unfold CacheEx setsT; rw [rows_eq]
theorem ex_set {R : List (List Way)} {xs : List T} (hX : R.flatMap (fun l => [rowT l]) = xs) (i : Nat) (l : List Way) : CacheEx (R.set i l) (.agg [.imm false R.length (xs.set i (.imm false l.length (l.flatMap Way.enc)))]) := by
  unfold CacheEx
  rw [← hX, rows_eq, rows_set, List.length_set]
theorem touchX {R : List (List Way)} (h : Fit R) {u : T} (hu : CacheEx R u) (a b : Int) : ∃ v, E ap 19 [u, .int .i64 a, .int .i64 b] v ∧ CacheEx (touchR R a b) v := by
  subst hu
  by_cases hbad : Bad R a b
  · exact ⟨_, bus_touch_bad false R _ (tells_rows R) a b hbad, by rw [touch_bad hbad]; rfl⟩
  · obtain ⟨i, w, hi, rfl, rfl, hwl⟩ := not_bad hbad
    refine ⟨_, bus_touch_ok false R _ (tells_rows R) h.big.1 h.big.2 i w hi hwl, ?_⟩
    rw [touch_some R i w hi hwl]
    unfold CacheEx
    rw [rows_set, List.length_set]
theorem findT_some (c : Cache) (ln : Nat) : ∃ p q r, findT c ln = .tup [.int .i64 p, .int .i64 q, .bool r] := by
  unfold findT; split <;> exact ⟨_, _, _, rfl⟩
end Go.Proofs.Ythanlobfjpjegaa.Abs
