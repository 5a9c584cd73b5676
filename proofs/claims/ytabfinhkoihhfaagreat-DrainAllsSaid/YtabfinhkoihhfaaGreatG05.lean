/- Words of other seats' texts, as they are used here: Btouch3. -/
import Derived.Test.YtabfinhkoihhfaaGreatG04
namespace Go.Proofs.YtabfinhkoihhfaaGreat.Abs
open Go Go.RowKit Fn
set_option linter.unusedVariables false
set_option linter.unusedSimpArgs false
set_option linter.unnecessarySimpa false
set_option maxRecDepth 100000
set_option maxHeartbeats 4000000

def aged (x : Way) (a : Int) : Way := { x with age := a }
def up (a : Int) (x : Way) : Way := if x.age < a then aged x (x.age + 1) else x
def bumpK (a : Int) (k : Nat) (l : List Way) : List Way := (l.take k).map (up a) ++ l.drop k
theorem wayN_eq {l : List Way} {k : Nat} (h : k < l.length) : wayN l k = l[k] := by unfold wayN; rw [List.getElem?_eq_getElem h]; rfl
theorem wayN_wf {l : List Way} (hw : ∀ w ∈ l, w.wf) {k : Nat} (h : k < l.length) : (wayN l k).wf := by rw [wayN_eq h]; exact hw _ (List.getElem_mem h)
theorem bump_len (a : Int) (k : Nat) (l : List Way) : (bumpK a k l).length = l.length := by
  unfold bumpK; rw [List.length_append, List.length_map, List.length_take, List.length_drop]; omega
theorem bump_zero (a : Int) (l : List Way) : bumpK a 0 l = l := by simp [bumpK]
theorem bump_get (a : Int) (k : Nat) (l : List Way) (h : k < l.length) : wayN (bumpK a k l) k = wayN l k := by
  unfold wayN bumpK
  rw [List.getElem?_append_right (by rw [List.length_map, List.length_take]; omega), List.length_map, List.length_take, Nat.min_eq_left (by omega), Nat.sub_self, List.getElem?_drop, Nat.add_zero]
theorem bump_succ (a : Int) (k : Nat) (l : List Way) (h : k < l.length) : bumpK a (k + 1) l = (bumpK a k l).set k (up a (wayN l k)) := by
  apply List.ext_getElem?
  intro j
  rw [List.getElem?_set, bump_len]
  unfold bumpK
  by_cases hj : k = j
  · subst hj
    rw [if_pos rfl, if_pos h, List.getElem?_append_left (by rw [List.length_map, List.length_take]; omega), List.getElem?_map, List.getElem?_take, if_pos (by omega), wayN_eq h, List.getElem?_eq_getElem h]; rfl
  · rw [if_neg hj]
    by_cases hlt : j < k
    · rw [List.getElem?_append_left (by rw [List.length_map, List.length_take]; omega), List.getElem?_append_left (by rw [List.length_map, List.length_take]; omega), List.getElem?_map, List.getElem?_map, List.getElem?_take, List.getElem?_take, if_pos (by omega), if_pos (by omega)]
    · rw [List.getElem?_append_right (by rw [List.length_map, List.length_take]; omega), List.getElem?_append_right (by rw [List.length_map, List.length_take]; omega), List.length_map, List.length_take, List.length_map, List.length_take, List.getElem?_drop, List.getElem?_drop, Nat.min_eq_left (by omega), Nat.min_eq_left (by omega)]
      congr 1; omega
theorem aged_wf {x : Way} (h : x.wf) {a : Int} (ha : (Lit.int .i64 a).wf = true) : (aged x a).wf := ⟨h.1, h.2.1, h.2.2.1, ha⟩
theorem lit_i64 {n : Int} (h : -9223372036854775808 ≤ n ∧ n ≤ 9223372036854775807) : (Lit.int .i64 n).wf = true := by
  have e : (Lit.int .i64 n).wf = (decide (-(2 ^ 63) ≤ n) && decide (n ≤ 2 ^ 63 - 1)) := rfl
  rw [e, decide_eq_true (by omega), decide_eq_true (by omega)]; rfl
theorem up_wf {x : Way} (h : x.wf) {a : Int} (ha : a ≤ 9223372036854775807) : (up a x).wf := by
  unfold up
  split
  · exact aged_wf h (lit_i64 (by have := wf_i64 h.2.2.2; omega))
  · exact h
theorem mem_bump {a : Int} {k : Nat} {l : List Way} (hw : ∀ w ∈ l, w.wf) (ha : a ≤ 9223372036854775807) : ∀ w ∈ bumpK a k l, w.wf := by
  intro w h
  unfold bumpK at h
  rw [List.mem_append, List.mem_map] at h
  rcases h with ⟨x, hx, rfl⟩ | h
  · exact up_wf (hw _ (List.mem_of_mem_take hx)) ha
  · exact hw _ (List.mem_of_mem_drop h)
def touchL (l : List Way) (w : Nat) : List Way := (bumpK (wayN l w).age l.length l).set w (aged (wayN (bumpK (wayN l w).age l.length l) w) 0)
theorem touch_len (l : List Way) (w : Nat) : (touchL l w).length = l.length := by unfold touchL; rw [List.length_set, bump_len]
theorem touch_wf {l : List Way} (hw : ∀ w ∈ l, w.wf) (w : Nat) (h : w < l.length) : ∀ x ∈ touchL l w, x.wf := by
  have hb := mem_bump (a := (wayN l w).age) (k := l.length) hw (wf_i64 (wayN_wf hw h).2.2.2).2
  intro x hx
  unfold touchL at hx
  rcases List.mem_or_eq_of_mem_set hx with h' | rfl
  · exact hb _ h'
  · exact aged_wf (wayN_wf hb (by rw [bump_len]; exact h)) rfl
theorem enc_app (l : List Way) (x : Way) (r : List Way) : (l ++ x :: r).flatMap Way.enc = l.flatMap Way.enc ++ (x.enc ++ r.flatMap Way.enc) := by
  rw [List.flatMap_append, List.flatMap_cons]
theorem set_enc (l : List Way) (hw : ∀ w ∈ l, w.wf) (k : Nat) (h : k < l.length) (y : Way) (o : Nat) (v : T) (ho : o < 19) (hy : y.enc = (wayN l k).enc.set o v) : (l.set k y).flatMap Way.enc = (l.flatMap Way.enc).set (k * 19 + o) v := by
  have hl : l = l.take k ++ wayN l k :: l.drop (k + 1) := by rw [wayN_eq h, List.getElem_cons_drop, List.take_append_drop]
  have hk : (l.take k).length = k := by rw [List.length_take]; omega
  have hf : ((l.take k).flatMap Way.enc).length = k * 19 := by
    rw [flat_lenM (f := Way.enc) (l.take k) (fun w h => way_len (hw w (List.mem_of_mem_take h))), hk]
  have e1 : l.set k y = l.take k ++ y :: l.drop (k + 1) := by rw [List.set_eq_take_append_cons_drop, if_pos h]
  have hwl := way_len (wayN_wf hw h)
  conv => rhs; rw [hl]
  rw [e1, enc_app, enc_app, List.set_append_right _ _ (by omega), hf, Nat.add_sub_cancel_left, List.set_append_left _ _ (by omega), ← hy]
theorem set_age (l : List Way) (hw : ∀ w ∈ l, w.wf) (k : Nat) (h : k < l.length) (a : Int) : (l.set k (aged (wayN l k) a)).flatMap Way.enc = (l.flatMap Way.enc).set (k * 19 + 18) (.int .i64 a) := by
  refine set_enc l hw k h _ 18 _ (by omega) ?_
  have hd := (wayN_wf hw h).2.2.1.1
  generalize wayN l k = x at *
  have e : x.enc = T.int .i64 x.state :: T.int .u32 x.tag :: (x.data.flatMap (fun n => [T.int .u8 n]) ++ [T.int .i64 x.age]) := rfl
  have e' : (aged x a).enc = T.int .i64 x.state :: T.int .u32 x.tag :: (x.data.flatMap (fun n => [T.int .u8 n]) ++ [T.int .i64 a]) := rfl
  have hl : (x.data.flatMap (fun n => [T.int .u8 n])).length = 16 := by rw [flat_len (f := fun n => [T.int .u8 n]) (k := 1) (fun _ => rfl), hd]
  rw [e, e', List.set_cons_succ, List.set_cons_succ, List.set_append_right _ _ (by omega), hl]; rfl
theorem age_at (l : List Way) (hw : ∀ w ∈ l, w.wf) (k : Nat) (h : k < l.length) : (l.flatMap Way.enc)[k * 19 + 18]? = some (.int .i64 (wayN l k).age) := by
  rw [way_get l hw k h 18 (by omega)]; exact way_age (wayN_wf hw h)
def touchR (R : List (List Way)) (a b : Int) : List (List Way) :=
  if 0 ≤ a ∧ a < R.length ∧ 0 ≤ b ∧ b < ((R[a.toNat]?).getD []).length then R.set a.toNat (touchL ((R[a.toNat]?).getD []) b.toNat) else R
theorem frzAll_pt {f : T → Option (T × List Nat)} : ∀ (l l' : List T), l.length = l'.length → (∀ j (h : j < l.length) (h' : j < l'.length), ∃ ids, f l[j] = some (l'[j], ids)) → ∃ ids, frzAll f l = some (l', ids)
  | [], [], _, _ => ⟨[], rfl⟩
  | x :: l, y :: l', hl, h => by
    obtain ⟨is, h1⟩ := h 0 (by simp) (by simp)
    obtain ⟨js, h2⟩ := frzAll_pt l l' (by simpa using hl) (fun j hj hj' => h (j + 1) (by simp; omega) (by simp; omega))
    simp only [List.getElem_cons_zero] at h1
    exact ⟨is ++ js, by simp only [frzAll, h1, h2]⟩
  | [], _ :: _, hl, _ => by simp at hl
  | _ :: _, [], hl, _ => by simp at hl
theorem enc_ints (l : List Way) : ∀ x ∈ l.flatMap Way.enc, ∃ k n, x = .int k n := by
  intro x hx
  rw [List.mem_flatMap] at hx
  obtain ⟨w, _, hw⟩ := hx
  exact way_ints w x hw
theorem enc_leaf (l : List Way) : allLeaf (l.flatMap Way.enc) = true := leaf_ints _ (enc_ints l)
theorem enc_len (l : List Way) (hw : ∀ w ∈ l, w.wf) : (l.flatMap Way.enc).length = l.length * 19 := flat_lenM (f := Way.enc) l (fun w h => way_len (hw w h))
theorem frz_own {h : Hp} {d t n es : Nat} {c c' : List T} (hg : h.get t = some c) (hl : c.length = n * es) (hf : ∃ ids, frzAll (frz h d) c = some (c', ids)) : ∃ ids, frz h (d + 1) (.own t 0 n es) = some (.imm false n c', ids) := by
  obtain ⟨ids, hf⟩ := hf
  have e : ((c.drop 0).take (n * es)) = c := by rw [List.drop_zero, List.take_of_length_le (by omega)]
  exact ⟨t :: ids, by simp only [frz, hg, e, hl, if_true, hf]⟩
theorem frz_agg1 {h : Hp} {d : Nat} {x y : T} (hf : ∃ ids, frz h d x = some (y, ids)) : ∃ ids, frz h (d + 1) (.agg [x]) = some (.agg [y], ids) := by
  obtain ⟨ids, hf⟩ := hf
  exact ⟨ids ++ [], by simp only [frz, frzAll, hf]⟩
theorem frz_rowset {h : Hp} {d : Nat} {xs : List T} {R : List (List Way)} (hx : Tells xs R) (i : Nat) (hi : i < R.length) (B : Nat) (l : List Way) (hw : ∀ w ∈ l, w.wf) (hg : h.get B = some (l.flatMap Way.enc)) : ∃ ids, frzAll (frz h (d + 2)) (xs.set i (.own B 0 l.length 19)) = some (xs.set i (.imm false l.length (l.flatMap Way.enc)), ids) := by
  refine frzAll_pt _ _ (by rw [List.length_set, List.length_set]) (fun j hj hj' => ?_)
  rw [List.length_set] at hj
  by_cases hij : i = j
  · subst hij
    rw [List.getElem_set_self, List.getElem_set_self]
    exact frz_own hg (enc_len l hw) ⟨[], frzAll_int _ (enc_ints l)⟩
  · rw [List.getElem_set_ne hij, List.getElem_set_ne hij]
    obtain ⟨f, hf⟩ := hx.2 j (by rw [← hx.1]; exact hj)
    rw [Nat.mul_one, List.getElem?_eq_getElem hj] at hf
    rw [Option.some.inj hf]
    exact ⟨[], rfl⟩
theorem fin_rowset {F : AFun} {t p A B n i : Nat} {xs : List T} {R : List (List Way)} {l : List Way} (hF : F.res = [.cell t false 1]) (hx : Tells xs R) (hn : n = R.length) (hi : i < R.length) (hw : ∀ w ∈ l, w.wf) {s : List T} {g : Mem} {nx : Nat} (hs : rho s (.tmp t) = .ptr p 0) (hp : g p = some [.own A 0 n 1]) (hA : g A = some (xs.set i (.own B 0 l.length 19))) (hB : g B = some (l.flatMap Way.enc)) : AExit.ret.leaves = true ∧ ∃ u ids, resT s g F.res = some u ∧ frz ⟨g, nx⟩ frzDepth u = some (.agg [.imm false n (xs.set i (.imm false l.length (l.flatMap Way.enc)))], ids) := by
  have hc : cut [T.own A 0 n 1] 0 1 = [T.own A 0 n 1] := rfl
  have hl : (xs.set i (T.own B 0 l.length 19)).length = n * 1 := by rw [List.length_set, hx.1]; omega
  obtain ⟨ids, h1⟩ := frz_agg1 (frz_own (d := 10) (h := ⟨g, nx⟩) hA hl (frz_rowset (d := 8) hx i hi B l hw hB))
  refine ⟨rfl, .agg [.own A 0 n 1], ids, ?_, h1⟩
  rw [hF]
  simp +decide only [resT, resL, resOne, opRes, hs, hp, hc, List.length_cons, List.length_nil, if_true, Bool.false_eq_true, if_false]
def btLoop : ACode := match f70.body with | .seq _ (.seq _ (.seq _ (.seq _ (.seq (.seq _ (.block _ (.loop c))) _)))) => c | _ => .skip
def BtI (n i w wl : Nat) (a : Int) (xs' : List T) (st : St) : Prop := st.s.length = 86 ∧ rho st.s (.tmp 1) = .int .i64 (i : Int) ∧ rho st.s (.tmp 2) = .int .i64 (w : Int) ∧ rho st.s (.tmp 6) = .ptr 1 0 ∧ rho st.s (.tmp 7) = .ptr 28 0 ∧ rho st.s (.tmp 8) = .int .i64 a ∧ rho st.s (.tmp 52) = .int .i64 (wl : Int) ∧ st.g 1 = some [.imm true 0 []] ∧ st.g 28 = some [.own 34 0 n 1] ∧ st.g 34 = some xs'
theorem bt_loop (n i w : Nat) (a : Int) (xs' : List T) (hxl : xs'.length = n) (hi : i < n) (l : List Way) (hw : ∀ x ∈ l, x.wf) (hll : l.length ≤ 1000) (ha : a ≤ 9223372036854775807) (hxi : xs'[i * 1]? = some (.own 46 0 l.length 19)) (Q : AExit → St → Prop)
    (hQe : ∀ st : St, BtI n i w l.length a xs' st → st.g 46 = some ((bumpK a l.length l).flatMap Way.enc) → Q (.exit 0) st) :
    ∀ (m : Nat) (st : St), (∃ k : Nat, BtI n i w l.length a xs' st ∧ st.g 46 = some ((bumpK a k l).flatMap Way.enc) ∧ rho st.s (.tmp 53) = .int .i64 (k : Int) ∧ k ≤ l.length ∧ m = l.length - k) → W ap (.loop btLoop) st Q := by
  refine W_loop _ ?_
  rintro m st ⟨k, ⟨hl, h1, h2, h6, h7, h8, h52, g1, g28, g34⟩, g46, h53, hk, hm⟩
  by_cases hend : k = l.length
  · have hlt : decide ((k : Int) < (l.length : Int)) = false := decide_eq_false (by omega)
    refine W_seqn (W_region (fun k => by simp +decide (disch := first | omega | simp +decide [hl]) only [s8, simprocAttr, h52, h53, hlt]; rfl) ⟨rfl, ?_⟩)
    refine W_seq (W_fls (W_exit (.inr ⟨by simp, .inr ⟨by simp, hQe _ ⟨?_, ?_, ?_, ?_, ?_, ?_, ?_, g1, g28, g34⟩ (by rw [← hend]; exact g46)⟩⟩)))
    all_goals simp +decide (disch := first | omega | simp +decide [hl]) only [s8, simprocAttr, hl, h1, h2, h6, h7, h8, h52]
  · have hlt : decide ((k : Int) < (l.length : Int)) = true := decide_eq_true (by omega)
    have hkl : k < l.length := by omega
    have hw2 : IntKind.i64.wrap ((k : Int) + 1) = ((k + 1 : Nat) : Int) := by rw [wrap_id (by omega)]; omega
    have hbw := mem_bump (k := k) hw ha
    have hbl := bump_len a k l
    have hcl := enc_len _ hbw
    have hag := age_at _ hbw k (by omega)
    rw [bump_get a k l hkl] at hag
    have hset := set_age _ hbw k (by omega)
    have hsucc := bump_succ a k l hkl
    rw [hbl] at hcl
    have hb : i * 1 + 1 ≤ n := by omega
    have hb2 : k * 19 + 18 + 1 ≤ l.length * 19 := by omega
    have hwk := wf_i64 (wayN_wf hw hkl).2.2.2
    rw [bump_get a k l hkl] at hset
    generalize hx : wayN l k = x at *
    generalize hws : (bumpK a k l).flatMap Way.enc = ws at *
    have hi1 : 0 + i * 1 = i * 1 := by omega
    refine W_seqn (W_region (fun k => by simp +decide (disch := first | omega | simp +decide [hl]) only [s8, simprocAttr, h52, h53, hlt]; rfl) ⟨rfl, ?_⟩)
    refine W_seqn (W_tru (W_skip ⟨rfl, ?_⟩))
    refine W_seqn (W_block (W_seqn (W_region (fun k => by simp +decide (disch := first | omega | simp +decide [hl]) only [s8, simprocAttr, h53]; rfl) ⟨rfl, ?_⟩)))
    refine W_seqn (W_region (fun k => by simp +decide (disch := first | omega | simp +decide [hl]) only [s8, simprocAttr, h7, h1, g28, g34, hxl, hi, hb, hxi, hkl]; rfl) ⟨rfl, ?_⟩)
    by_cases hlt2 : x.age < a
    · have hd : decide (x.age < a) = true := decide_eq_true hlt2
      have hw3 : IntKind.i64.wrap (x.age + 1) = x.age + 1 := wrap_id (by omega)
      have hup : up a x = aged x (x.age + 1) := by unfold up; rw [if_pos hlt2]
      refine W_seqn (W_region (fun k => by simp +decide (disch := first | omega | simp +decide [hl]) only [s8, simprocAttr, g46, hcl, hb2, hag, h8, hd]; rfl) ⟨rfl, W_tru ?_⟩)
      refine W_region (fun k => by simp +decide (disch := first | omega | simp +decide [hl]) only [s9, simprocAttr, g46, hcl, hb2, hag, hw3]; rfl) (.inr (.inl ⟨by simp, rfl, ?_⟩))
      refine W_region (fun k => by simp +decide (disch := first | omega | simp +decide [hl]) only [s8, simprocAttr, h53, hw2]; rfl) (.inl ⟨rfl, l.length - (k + 1), by omega, k + 1, ⟨?_, ?_, ?_, ?_, ?_, ?_, ?_, ?_, ?_, ?_⟩, ?_, ?_, by omega, rfl⟩)
      rotate_right 2
      · rw [hsucc, hup, hset]
        simp +decide (disch := first | omega | simp +decide [hl]) only [s9, simprocAttr]
      all_goals simp +decide (disch := first | omega | simp +decide [hl]) only [s8, simprocAttr, hl, h1, h2, h6, h7, h8, h52, h53, g1, g28, g34]
    · have hd : decide (x.age < a) = false := decide_eq_false hlt2
      have hup : up a x = aged x x.age := by unfold up; rw [if_neg hlt2]; rfl
      have hsame : ws.set (k * 19 + 18) (.int .i64 x.age) = ws := by
        apply List.ext_getElem?
        intro j
        rw [List.getElem?_set]
        by_cases hj : k * 19 + 18 = j
        · subst hj; rw [if_pos rfl, if_pos (by omega), hag]
        · rw [if_neg hj]
      refine W_seqn (W_region (fun k => by simp +decide (disch := first | omega | simp +decide [hl]) only [s8, simprocAttr, g46, hcl, hb2, hag, h8, hd]; rfl) ⟨rfl, W_fls (W_skip (.inr (.inl ⟨by simp, rfl, ?_⟩)))⟩)
      refine W_region (fun k => by simp +decide (disch := first | omega | simp +decide [hl]) only [s8, simprocAttr, h53, hw2]; rfl) (.inl ⟨rfl, l.length - (k + 1), by omega, k + 1, ⟨?_, ?_, ?_, ?_, ?_, ?_, ?_, ?_, ?_, ?_⟩, ?_, ?_, by omega, rfl⟩)
      rotate_right 2
      · rw [hsucc, hup, hset, hsame]
        exact g46
      all_goals simp +decide (disch := first | omega | simp +decide [hl]) only [s8, simprocAttr, hl, h1, h2, h6, h7, h8, h52, h53, g1, g28, g34]
theorem touch_some (R : List (List Way)) (i w : Nat) (hi : i < R.length) (hwl : w < R[i].length) : touchR R i w = R.set i (touchL R[i] w) := by
  unfold touchR
  rw [Int.toNat_natCast, Int.toNat_natCast, List.getElem?_eq_getElem hi, Option.getD_some, if_pos (by omega)]
theorem bus_touch_ok (fx : Bool) (R : List (List Way)) (xs : List T) (hx : Tells xs R) (hR : R.length ≤ 1000) (hw : ∀ l ∈ R, l.length ≤ 1000 ∧ ∀ w ∈ l, w.wf) (i w : Nat) (hi : i < R.length) (hwl : w < R[i].length) :
    E ap 70 [.agg [.imm fx R.length xs], .int .i64 (i : Int), .int .i64 (w : Int)] (.agg [.imm false R.length (xs.set i (.imm false (touchL R[i] w).length ((touchL R[i] w).flatMap Way.enc)))]) := by
  refine E_body (F := f70) rfl rfl rfl ?_
  generalize hs0 : (_ : List T) ++ List.replicate _ T.undef = s0
  have e0 : s0.length = 86 ∧ rho s0 (.tmp 0) = .agg [.imm fx R.length xs] ∧ rho s0 (.tmp 1) = .int .i64 (i : Int) ∧ rho s0 (.tmp 2) = .int .i64 (w : Int) := by subst hs0; exact ⟨rfl, rfl, rfl, rfl⟩
  clear hs0
  obtain ⟨hl, h0, h1, h2⟩ := e0
  obtain ⟨hrl, hrw⟩ := hw _ (List.getElem_mem hi)
  obtain ⟨f, hxi⟩ := hx.2 i hi
  have hxl := hx.1
  have hxf := tells_leaf hx
  have hn0 : R.length ≤ 1000 := hR
  have hiR := hi
  generalize hL : R[i] = l at *
  clear hL
  generalize hn : R.length = n at hi hR hn0 hxl h0 ⊢
  have hcl := enc_len l hrw
  have hag := age_at l hrw w hwl
  have htl := touch_len l w
  have htw := touch_wf hrw w hwl
  have hcl2 := enc_len _ (mem_bump (a := (wayN l w).age) (k := l.length) hrw (wf_i64 (wayN_wf hrw hwl).2.2.2).2)
  have hset := set_age (bumpK (wayN l w).age l.length l) (mem_bump hrw (wf_i64 (wayN_wf hrw hwl).2.2.2).2) w (by rw [bump_len]; exact hwl) 0
  rw [bump_len] at hcl2
  have hloop := bt_loop n i w (wayN l w).age (xs.set i (.own 46 0 l.length 19)) (by rw [List.length_set]; exact hxl) hi l hrw hrl (wf_i64 (wayN_wf hrw hwl).2.2.2).2 (by rw [Nat.mul_one, List.getElem?_set, if_pos rfl, if_pos (by omega)])
  have hbz := bump_zero (wayN l w).age l
  have htd : touchL l w = (bumpK (wayN l w).age l.length l).set w (aged (wayN (bumpK (wayN l w).age l.length l) w) 0) := rfl
  rw [← htd] at hset
  obtain ⟨tl, htl'⟩ : ∃ tl, tl = touchL l w := ⟨_, rfl⟩
  rw [← htl'] at htl htw hset ⊢
  clear htd htl'
  have hd1 : decide ((i : Int) < 0) = false := decide_eq_false (by omega)
  have hd2 : decide ((i : Int) ≥ (n : Int)) = false := decide_eq_false (by omega)
  have hd3 : decide ((w : Int) < 0) = false := decide_eq_false (by omega)
  have hd4 : decide ((w : Int) ≥ (l.length : Int)) = false := decide_eq_false (by omega)
  have hb : i * 1 + 1 ≤ n := by omega
  have hb2 : w * 19 + 18 + 1 ≤ l.length * 19 := by omega
  have hleaf : allLeaf [T.imm fx n xs] = true := rfl
  have hi1 : 0 + i * 1 = i := by omega
  have hxs2 : (xs.set i (.own 46 0 l.length 19))[i * 1]? = some (.own 46 0 l.length 19) := by rw [Nat.mul_one, List.getElem?_set, if_pos rfl, if_pos (by omega)]
  have hc1 : cut [T.imm fx n xs] 0 1 = [T.imm fx n xs] := rfl
  have hc2 : cut [T.own 34 0 n 1] 0 1 = [T.own 34 0 n 1] := rfl
  refine W_seqn (W_region (fun k => by simp +decide (disch := first | omega | simp +decide [hl]) only [s9, simprocAttr, h0, hleaf]; rfl) ⟨rfl, ?_⟩)
  generalize hws : l.flatMap Way.enc = ws at *
  refine W_seqn (W_seqn (W_region (fun k => by simp +decide (disch := first | omega | simp +decide [hl]) only [s9, simprocAttr, h1, h2, hd1, hd2, hd3, hd4, hxl, hi, hb, hxi]; rfl) ⟨rfl, W_fls (W_skip ⟨rfl, ?_⟩)⟩))
  refine W_abs (fun st => st.s.length = 86 ∧ rho st.s (.tmp 1) = .int .i64 (i : Int) ∧ rho st.s (.tmp 2) = .int .i64 (w : Int) ∧ rho st.s (.tmp 3) = .ptr 0 0 ∧ rho st.s (.tmp 6) = .ptr 1 0 ∧ st.g 0 = some [.imm fx n xs] ∧ st.g 1 = some [.imm true 0 []] ∧ st.nx = 25) ?_ ?_
  · refine ⟨?_, ?_, ?_, ?_, ?_, ?_, ?_, ?_⟩
    · simp +decide (disch := first | omega | simp +decide [hl]) only [s9, simprocAttr, hl]
    · simp +decide (disch := first | omega | simp +decide [hl]) only [s9, simprocAttr, h1]
    · simp +decide (disch := first | omega | simp +decide [hl]) only [s9, simprocAttr, h2]
    · simp +decide (disch := first | omega | simp +decide [hl]) only [s9, simprocAttr]
    · simp +decide (disch := first | omega | simp +decide [hl]) only [s9, simprocAttr]
    · simp +decide (disch := first | omega | simp +decide [hl]) only [s9, simprocAttr]
    · simp +decide (disch := first | omega | simp +decide [hl]) only [s9, simprocAttr]
    · show (0 + 2 + 23 : Nat) = 25; rfl
  clear hl h0 h1 h2
  rintro ⟨s, g, nx⟩ ⟨hl, h1, h2, h3, h6, g0, g1, hnx⟩
  simp only at hl h1 h2 h3 h6 g0 g1 hnx
  subst hnx
  obtain ⟨N, g', nx', hN, hW⟩ := with_run fx n xs hxl hxf hn0 i hi f l.length ws hxi hcl (by rw [← hws]; exact enc_leaf l) (by omega) hrl g (25 + 5)
  obtain ⟨w1, w2, w3, w4, w5, w6⟩ := hW
  have q40 := hN N (Nat.le_refl _)
  have w0' : g' 0 = some [.imm fx n xs] := by rw [w6 0 (by omega)]; exact g0
  have w1' : g' 1 = some [.imm true 0 []] := by rw [w6 1 (by omega)]; exact g1
  refine W_seqn (W_regionN ⟨N, by simp +decide (disch := first | omega | simp +decide [hl]) only [s9, simprocAttr, evI, h3, h1, g0, hc1, ap66, p66, n66, q40]; rfl⟩ ⟨rfl, ?_⟩)
  refine W_abs (fun st => st.s.length = 86 ∧ rho st.s (.tmp 1) = .int .i64 (i : Int) ∧ rho st.s (.tmp 2) = .int .i64 (w : Int) ∧ rho st.s (.tmp 3) = .ptr 0 0 ∧ rho st.s (.tmp 6) = .ptr 1 0 ∧ rho st.s (.tmp 7) = .ptr 28 0 ∧ st.g 1 = some [.imm true 0 []] ∧ st.g 28 = some [.own 34 0 n 1] ∧ st.g 34 = some (xs.set i (.own 46 0 l.length 19)) ∧ st.g 46 = some ws) ?_ ?_
  · refine ⟨?_, ?_, ?_, ?_, ?_, ?_, ?_, ?_, ?_, ?_⟩
    all_goals first | (simp +decide (disch := first | omega | simp +decide [hl]) only [s9, simprocAttr, hl, h1, h2, h3, h6]; done) | (simp +decide only [s9, simprocAttr, w1', w1, w2]; done) | (simp +decide only [s9, simprocAttr, w1', w1, w2]; rfl)
  clear hl h1 h2 h3 h6 g0 g1 w0' w1' w1 w2 w3 w4 w5 w6
  rintro ⟨s, g, nx⟩ ⟨hl, h1, h2, h3, h6, h7, g1, g28, g34, g46⟩
  simp only at hl h1 h2 h3 h6 h7 g1 g28 g34 g46
  generalize hxs3 : xs.set i (.own 46 0 l.length 19) = xs3 at *
  have hx3l : xs3.length = n := by rw [← hxs3, List.length_set]; exact hxl
  refine W_seqn (W_region (fun k => by simp +decide (disch := first | omega | simp +decide [hl]) only [s9, simprocAttr, h7, h1, h2, g28, g34, g46, hx3l, hi, hb, hxs2, hwl, hcl, hb2, hag]; rfl) ⟨rfl, ?_⟩)
  refine W_seq (W_seqn (W_region (fun k => by simp +decide (disch := first | omega | simp +decide [hl]) only [s9, simprocAttr, h7, h1, h2, g28, g34, g46, hx3l, hi, hb, hxs2]; rfl) ⟨rfl, W_block ?_⟩))
  refine hloop _ (fun st hB hg => ?_) (l.length - 0) _ ⟨0, ⟨?_, ?_, ?_, ?_, ?_, ?_, ?_, g1, g28, g34⟩, (by rw [hbz, hws]; exact g46), ?_, by omega, rfl⟩
  · obtain ⟨hl, h1, h2, h6, h7, h8, h52, g1, g28, g34⟩ := hB
    generalize hbc : (bumpK (wayN l w).age l.length l).flatMap Way.enc = bc at *
    refine .inl ⟨rfl, .inl ⟨rfl, ?_⟩⟩
    refine W_seqn (W_region (fun k => by simp +decide (disch := first | omega | simp +decide [hl]) only [s9, simprocAttr, h7, h1, h2, g28, g34, hg, hx3l, hi, hb, hxs2, hwl, hcl2, hb2]; rfl) ⟨rfl, ?_⟩)
    refine W_seqn (W_region (fun k => by simp +decide (disch := first | omega | simp +decide [hl]) only [s9, simprocAttr, h7, h6, g28, g1, hc2]; rfl) ⟨rfl, W_ret ?_⟩)
    refine fin_rowset (F := f70) (p := 1) (A := 34) (B := 46) rfl hx hn.symm hiR htw ?_ ?_ ?_ ?_
    · simp +decide (disch := first | omega | simp +decide [hl]) only [s8, simprocAttr, h6]
    · simp +decide (disch := first | omega | simp +decide [hl]) only [s9, simprocAttr]
    · simp +decide (disch := first | omega | simp +decide [hl]) only [s9, simprocAttr, g34]
      rw [← hxs3, htl]
    · simp +decide (disch := first | omega | simp +decide [hl]) only [s9, simprocAttr, hset]
  all_goals first | (simp +decide (disch := first | omega | simp +decide [hl]) only [s8, simprocAttr, hl, h1, h2, h6, h7]; done) | (simp +decide (disch := first | omega | simp +decide [hl]) only [s8, simprocAttr, hl, h1, h2, h6, h7]; rfl)
def Bad (R : List (List Way)) (a b : Int) : Prop := ¬ (0 ≤ a ∧ a < R.length ∧ 0 ≤ b ∧ b < ((R[a.toNat]?).getD []).length)
theorem touch_bad {R : List (List Way)} {a b : Int} (h : Bad R a b) : touchR R a b = R := by unfold touchR; exact if_neg h
theorem bad_cases {R : List (List Way)} {a b : Int} (h : Bad R a b) : a < 0 ∨ (0 ≤ a ∧ a ≥ R.length) ∨ (∃ i : Nat, a = i ∧ i < R.length ∧ b < 0) ∨ (∃ (i : Nat) (hi : i < R.length), a = i ∧ 0 ≤ b ∧ b ≥ (R[i].length : Int)) := by
  by_cases h1 : a < 0
  · exact .inl h1
  · by_cases h2 : a ≥ R.length
    · exact .inr (.inl ⟨by omega, h2⟩)
    · obtain ⟨i, rfl⟩ : ∃ i : Nat, a = i := ⟨a.toNat, by omega⟩
      have hi : i < R.length := by omega
      by_cases h3 : b < 0
      · exact .inr (.inr (.inl ⟨i, rfl, hi, h3⟩))
      · refine .inr (.inr (.inr ⟨i, hi, rfl, by omega, ?_⟩))
        unfold Bad at h
        rw [Int.toNat_natCast, List.getElem?_eq_getElem hi, Option.getD_some] at h
        omega
theorem fin_cell_true {F : AFun} {t p : Nat} {x : T} (hF : F.res = [.cell t false 1]) (hv : ∀ h : Hp, frz h frzDepth (.agg [x]) = some (.agg [x], [])) {s : List T} {g : Mem} {nx : Nat} (hs : rho s (.tmp t) = .ptr p 0) (hg : g p = some [x]) : AExit.ret.leaves = true ∧ ∃ u ids, resT s g F.res = some u ∧ frz ⟨g, nx⟩ frzDepth u = some (.agg [x], ids) := fin_cell hF hv hs hg rfl
theorem bus_touch_bad (fx : Bool) (R : List (List Way)) (xs : List T) (hx : Tells xs R) (a b : Int) (h : Bad R a b) :
    E ap 70 [.agg [.imm fx R.length xs], .int .i64 a, .int .i64 b] (.agg [.imm fx R.length xs]) := by
  refine E_body (F := f70) rfl rfl rfl ?_
  generalize hs0 : (_ : List T) ++ List.replicate _ T.undef = s0
  have e0 : s0.length = 86 ∧ rho s0 (.tmp 0) = .agg [.imm fx R.length xs] ∧ rho s0 (.tmp 1) = .int .i64 a ∧ rho s0 (.tmp 2) = .int .i64 b := by subst hs0; exact ⟨rfl, rfl, rfl, rfl⟩
  clear hs0
  obtain ⟨hl, h0, h1, h2⟩ := e0
  have hxl := hx.1
  have hleaf : allLeaf [T.imm fx R.length xs] = true := rfl
  have hc1 : cut [T.imm fx R.length xs] 0 1 = [T.imm fx R.length xs] := rfl
  refine W_seqn (W_region (fun k => by simp +decide (disch := first | omega | simp +decide [hl]) only [s9, simprocAttr, h0, hleaf]; rfl) ⟨rfl, ?_⟩)
  rcases bad_cases h with hb | ⟨ha, hb⟩ | ⟨i, rfl, hi, hb⟩ | ⟨i, hi, rfl, hb0, hb⟩
  · have d1 : decide (a < 0) = true := decide_eq_true hb
    refine W_seq (W_seqn (W_region (fun k => by simp +decide (disch := first | omega | simp +decide [hl]) only [s9, simprocAttr, h1, h2, d1]; rfl) ⟨rfl, W_tru ?_⟩))
    refine W_seqn (W_region (fun k => by simp +decide (disch := first | omega | simp +decide [hl]) only [s9, simprocAttr, hc1]; rfl) ⟨rfl, W_ret ?_⟩)
    simp only [reduceCtorEq, false_and, false_or, or_false, exists_false, exists_const, ne_eq, not_false_eq_true, true_and, implies_true]
    refine fin_cell_true (F := f70) (p := 1) rfl (fun _ => rfl) ?_ ?_ <;> simp +decide (disch := first | omega | simp +decide [hl]) only [s9, simprocAttr]
  · have d1 : decide (a < 0) = false := decide_eq_false (by omega)
    have d2 : decide (a ≥ (R.length : Int)) = true := decide_eq_true hb
    refine W_seq (W_seqn (W_region (fun k => by simp +decide (disch := first | omega | simp +decide [hl]) only [s9, simprocAttr, h1, h2, d1, d2]; rfl) ⟨rfl, W_tru ?_⟩))
    refine W_seqn (W_region (fun k => by simp +decide (disch := first | omega | simp +decide [hl]) only [s9, simprocAttr, hc1]; rfl) ⟨rfl, W_ret ?_⟩)
    simp only [reduceCtorEq, false_and, false_or, or_false, exists_false, exists_const, ne_eq, not_false_eq_true, true_and, implies_true]
    refine fin_cell_true (F := f70) (p := 1) rfl (fun _ => rfl) ?_ ?_ <;> simp +decide (disch := first | omega | simp +decide [hl]) only [s9, simprocAttr]
  · have d1 : decide ((i : Int) < 0) = false := decide_eq_false (by omega)
    have d2 : decide ((i : Int) ≥ (R.length : Int)) = false := decide_eq_false (by omega)
    have d3 : decide (b < 0) = true := decide_eq_true hb
    refine W_seq (W_seqn (W_region (fun k => by simp +decide (disch := first | omega | simp +decide [hl]) only [s9, simprocAttr, h1, h2, d1, d2, d3]; rfl) ⟨rfl, W_tru ?_⟩))
    refine W_seqn (W_region (fun k => by simp +decide (disch := first | omega | simp +decide [hl]) only [s9, simprocAttr, hc1]; rfl) ⟨rfl, W_ret ?_⟩)
    simp only [reduceCtorEq, false_and, false_or, or_false, exists_false, exists_const, ne_eq, not_false_eq_true, true_and, implies_true]
    refine fin_cell_true (F := f70) (p := 1) rfl (fun _ => rfl) ?_ ?_ <;> simp +decide (disch := first | omega | simp +decide [hl]) only [s9, simprocAttr]
  · have d1 : decide ((i : Int) < 0) = false := decide_eq_false (by omega)
    have d2 : decide ((i : Int) ≥ (R.length : Int)) = false := decide_eq_false (by omega)
    have d3 : decide (b < 0) = false := decide_eq_false (by omega)
    have d4 : decide (b ≥ (R[i].length : Int)) = true := decide_eq_true hb
    obtain ⟨f, hxi⟩ := hx.2 i hi
    have hbb : i * 1 + 1 ≤ R.length := by omega
    refine W_seq (W_seqn (W_region (fun k => by simp +decide (disch := first | omega | simp +decide [hl]) only [s9, simprocAttr, h1, h2, d1, d2, d3, d4, hxl, hi, hbb, hxi]; rfl) ⟨rfl, W_tru ?_⟩))
    refine W_seqn (W_region (fun k => by simp +decide (disch := first | omega | simp +decide [hl]) only [s9, simprocAttr, hc1]; rfl) ⟨rfl, W_ret ?_⟩)
    simp only [reduceCtorEq, false_and, false_or, or_false, exists_false, exists_const, ne_eq, not_false_eq_true, true_and, implies_true]
    refine fin_cell_true (F := f70) (p := 1) rfl (fun _ => rfl) ?_ ?_ <;> simp +decide (disch := first | omega | simp +decide [hl]) only [s9, simprocAttr]
theorem not_bad {R : List (List Way)} {a b : Int} (h : ¬ Bad R a b) : ∃ (i w : Nat) (hi : i < R.length), a = i ∧ b = w ∧ w < R[i].length := by
  unfold Bad at h
  have h' : 0 ≤ a ∧ a < R.length ∧ 0 ≤ b ∧ b < ((R[a.toNat]?).getD []).length := Classical.not_not.mp h
  obtain ⟨h1, h2, h3, h4⟩ := h'
  have hi : a.toNat < R.length := by omega
  rw [List.getElem?_eq_getElem hi, Option.getD_some] at h4
  exact ⟨a.toNat, b.toNat, hi, by omega, by omega, by omega⟩
end Go.Proofs.YtabfinhkoihhfaaGreat.Abs
