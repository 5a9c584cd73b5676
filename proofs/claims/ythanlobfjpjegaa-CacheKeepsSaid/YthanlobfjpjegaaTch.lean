/- Ways of which one is used: in plain Lean. -/
import Derived.Test.YthanlobfjpjegaaBvict2
import Derived.Test.YthanlobfjpjegaaWith
namespace Go.Proofs.Ythanlobfjpjegaa.Abs
open Go Go.RowKit Fn
set_option linter.unusedVariables false
set_option linter.unusedSimpArgs false
set_option linter.unnecessarySimpa false

def aged (x : Way) (a : Int) : Way := { x with age := a }
def up (a : Int) (x : Way) : Way := if x.age < a then aged x (x.age + 1) else x
def bumpK (a : Int) (k : Nat) (l : List Way) : List Way := (l.take k).map (up a) ++ l.drop k
theorem wayN_eq {l : List Way} {k : Nat} (h : k < l.length) : wayN l k = l[k] := by unfold wayN; rw [List.getElem?_eq_getElem h]; rfl
theorem wayN_wf {l : List Way} (hw : ∀ w ∈ l, w.wf) {k : Nat} (h : k < l.length) : (wayN l k).wf := by rw [wayN_eq h]; exact hw _ (List.getElem_mem h)
theorem bump_len (a : Int) (k : Nat) (l : List Way) : (bumpK a k l).length = l.length := by
  unfold bumpK; rw [List.length_append, List.length_map, List.length_take, List.length_drop]; omega
theorem bump_zero (a : Int) (l : List Way) : bumpK a 0 l = l := by simp [bumpK]
theorem bump_all (a : Int) (l : List Way) : bumpK a l.length l = l.map (up a) := by simp [bumpK]
theorem bump_get (a : Int) (k : Nat) (l : List Way) (h : k < l.length) : wayN (bumpK a k l) k = wayN l k := by
  unfold wayN bumpK
  rw [List.getElem?_append_right (by rw [List.length_map, List.length_take]; omega), List.length_map, List.length_take, Nat.min_eq_left (by omega), Nat.sub_self, List.getElem?_drop, Nat.add_zero]
theorem bump_succ (a : Int) (k : Nat) (l : List Way) (h : k < l.length) : bumpK a (k + 1) l = (bumpK a k l).set k (up a (wayN l k)) := by
  apply List.ext_getElem?
  intro j
  rw [List.getElem?_set, bump_len]
  unfold bumpK
  by_cases hj : k = j
  · subst hj
    rw [if_pos rfl, if_pos h, List.getElem?_append_left (by rw [List.length_map, List.length_take]; omega), List.getElem?_map, List.getElem?_take, if_pos (by omega), wayN_eq h, List.getElem?_eq_getElem h]; rfl
  · rw [if_neg hj]
    by_cases hlt : j < k
    · rw [List.getElem?_append_left (by rw [List.length_map, List.length_take]; omega), List.getElem?_append_left (by rw [List.length_map, List.length_take]; omega), List.getElem?_map, List.getElem?_map, List.getElem?_take, List.getElem?_take, if_pos (by omega), if_pos (by omega)]
    · rw [List.getElem?_append_right (by rw [List.length_map, List.length_take]; omega), List.getElem?_append_right (by rw [List.length_map, List.length_take]; omega), List.length_map, List.length_take, List.length_map, List.length_take, List.getElem?_drop, List.getElem?_drop, Nat.min_eq_left (by omega), Nat.min_eq_left (by omega)]
      congr 1; omega
theorem aged_wf {x : Way} (h : x.wf) {a : Int} (ha : (Lit.int .i64 a).wf = true) : (aged x a).wf := ⟨h.1, h.2.1, h.2.2.1, ha⟩
theorem lit_i64 {n : Int} (h : -9223372036854775808 ≤ n ∧ n ≤ 9223372036854775807) : (Lit.int .i64 n).wf = true := by
  have e : (Lit.int .i64 n).wf = (decide (-(2 ^ 63) ≤ n) && decide (n ≤ 2 ^ 63 - 1)) := rfl
  rw [e, decide_eq_true (by omega), decide_eq_true (by omega)]; rfl
theorem up_wf {x : Way} (h : x.wf) {a : Int} (ha : a ≤ 9223372036854775807) : (up a x).wf := by
  unfold up
  split
  · exact aged_wf h (lit_i64 (by have := wf_i64 h.2.2.2; omega))
  · exact h
theorem mem_bump {a : Int} {k : Nat} {l : List Way} (hw : ∀ w ∈ l, w.wf) (ha : a ≤ 9223372036854775807) : ∀ w ∈ bumpK a k l, w.wf := by
  intro w h
  unfold bumpK at h
  rw [List.mem_append, List.mem_map] at h
  rcases h with ⟨x, hx, rfl⟩ | h
  · exact up_wf (hw _ (List.mem_of_mem_take hx)) ha
  · exact hw _ (List.mem_of_mem_drop h)
/-- The ways of a set behind a use of one. -/
def touchL (l : List Way) (w : Nat) : List Way := (bumpK (wayN l w).age l.length l).set w (aged (wayN (bumpK (wayN l w).age l.length l) w) 0)
theorem touch_len (l : List Way) (w : Nat) : (touchL l w).length = l.length := by unfold touchL; rw [List.length_set, bump_len]
theorem touch_wf {l : List Way} (hw : ∀ w ∈ l, w.wf) (w : Nat) (h : w < l.length) : ∀ x ∈ touchL l w, x.wf := by
  have hb := mem_bump (a := (wayN l w).age) (k := l.length) hw (wf_i64 (wayN_wf hw h).2.2.2).2
  intro x hx
  unfold touchL at hx
  rcases List.mem_or_eq_of_mem_set hx with h' | rfl
  · exact hb _ h'
  · exact aged_wf (wayN_wf hb (by rw [bump_len]; exact h)) rfl
/-- A way's age, set, among the cells. -/
theorem enc_app (l : List Way) (x : Way) (r : List Way) : (l ++ x :: r).flatMap Way.enc = l.flatMap Way.enc ++ (x.enc ++ r.flatMap Way.enc) := by
  rw [List.flatMap_append, List.flatMap_cons]
theorem set_enc (l : List Way) (hw : ∀ w ∈ l, w.wf) (k : Nat) (h : k < l.length) (y : Way) (o : Nat) (v : T) (ho : o < 19) (hy : y.enc = (wayN l k).enc.set o v) : (l.set k y).flatMap Way.enc = (l.flatMap Way.enc).set (k * 19 + o) v := by
  have hl : l = l.take k ++ wayN l k :: l.drop (k + 1) := by rw [wayN_eq h, List.getElem_cons_drop, List.take_append_drop]
  have hk : (l.take k).length = k := by rw [List.length_take]; omega
  have hf : ((l.take k).flatMap Way.enc).length = k * 19 := by
    rw [flat_lenM (f := Way.enc) (l.take k) (fun w h => way_len (hw w (List.mem_of_mem_take h))), hk]
  have e1 : l.set k y = l.take k ++ y :: l.drop (k + 1) := by rw [List.set_eq_take_append_cons_drop, if_pos h]
  have hwl := way_len (wayN_wf hw h)
  conv => rhs; rw [hl]
  rw [e1, enc_app, enc_app, List.set_append_right _ _ (by omega), hf, Nat.add_sub_cancel_left, List.set_append_left _ _ (by omega), ← hy]
theorem set_age (l : List Way) (hw : ∀ w ∈ l, w.wf) (k : Nat) (h : k < l.length) (a : Int) : (l.set k (aged (wayN l k) a)).flatMap Way.enc = (l.flatMap Way.enc).set (k * 19 + 18) (.int .i64 a) := by
  refine set_enc l hw k h _ 18 _ (by omega) ?_
  have hd := (wayN_wf hw h).2.2.1.1
  generalize wayN l k = x at *
  have e : x.enc = T.int .i64 x.state :: T.int .u32 x.tag :: (x.data.flatMap (fun n => [T.int .u8 n]) ++ [T.int .i64 x.age]) := rfl
  have e' : (aged x a).enc = T.int .i64 x.state :: T.int .u32 x.tag :: (x.data.flatMap (fun n => [T.int .u8 n]) ++ [T.int .i64 a]) := rfl
  have hl : (x.data.flatMap (fun n => [T.int .u8 n])).length = 16 := by rw [flat_len (f := fun n => [T.int .u8 n]) (k := 1) (fun _ => rfl), hd]
  rw [e, e', List.set_cons_succ, List.set_cons_succ, List.set_append_right _ _ (by omega), hl]; rfl
theorem age_at (l : List Way) (hw : ∀ w ∈ l, w.wf) (k : Nat) (h : k < l.length) : (l.flatMap Way.enc)[k * 19 + 18]? = some (.int .i64 (wayN l k).age) := by
  rw [way_get l hw k h 18 (by omega)]; exact way_age (wayN_wf hw h)
/-- Rows of which one is used, by any numbers. -/
def touchR (R : List (List Way)) (a b : Int) : List (List Way) :=
  if 0 ≤ a ∧ a < R.length ∧ 0 ≤ b ∧ b < ((R[a.toNat]?).getD []).length then R.set a.toNat (touchL ((R[a.toNat]?).getD []) b.toNat) else R
theorem tells_set {xs : List T} {R : List (List Way)} (h : Tells xs R) (i : Nat) (f : Bool) (l : List Way) (n : Nat) (hn : n = l.length) : Tells (xs.set i (.imm f n (l.flatMap Way.enc))) (R.set i l) := by
  subst hn
  refine ⟨by rw [List.length_set, List.length_set, h.1], fun j hj => ?_⟩
  rw [List.length_set] at hj
  obtain ⟨f', hf⟩ := h.2 j hj
  rw [Nat.mul_one] at hf ⊢
  rw [List.getElem?_set]
  by_cases hij : i = j
  · subst hij
    rw [if_pos rfl, if_pos (by rw [h.1]; exact hj)]
    exact ⟨f, by rw [List.getElem_set_self]⟩
  · rw [if_neg hij, hf]
    exact ⟨f', by rw [List.getElem_set_ne hij]⟩
end Go.Proofs.Ythanlobfjpjegaa.Abs
