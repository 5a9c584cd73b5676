/- Words of other seats' texts, as they are used here: Fill2. -/
import Derived.Test.YtabfinhkoihhfaaGreatG06
namespace Go.Proofs.YtabfinhkoihhfaaGreat.Abs
open Go Go.RowKit Fn
set_option linter.unusedVariables false
set_option linter.unusedSimpArgs false
set_option linter.unnecessarySimpa false
set_option maxRecDepth 100000
set_option maxHeartbeats 4000000

theorem ap106 : ap 106 = some f106 := rfl
theorem p106 : f106.pure = true := rfl
theorem n106 : f106.nat = none := rfl
theorem ap104 : ap 104 = some f104 := rfl
theorem p104 : f104.pure = true := rfl
theorem n104 : f104.nat = none := rfl
theorem ap70 : ap 70 = some f70 := rfl
theorem p70 : f70.pure = true := rfl
theorem n70 : f70.nat = none := rfl
theorem ap60 : ap 60 = some f60 := rfl
theorem p60 : f60.pure = true := rfl
theorem n60 : f60.nat = none := rfl
theorem tells_cache (c : Cache) : Tells (c.sets.flatMap (fun l => [rowT l])) c.sets := by
  refine ⟨rows_len c, fun i h => ⟨false, ?_⟩⟩
  rw [rows_get c i h]
  unfold row
  rw [List.getElem?_eq_getElem h]; rfl
def Fit (R : List (List Way)) : Prop := R.length ≤ 20 ∧ ∀ l ∈ R, l.length ≤ 10 ∧ ∀ w ∈ l, w.wf
theorem Fit.big {R : List (List Way)} (h : Fit R) : R.length ≤ 1000 ∧ ∀ l ∈ R, l.length ≤ 1000 ∧ ∀ w ∈ l, w.wf := by
  refine ⟨by have := h.1; omega, fun l hl => ?_⟩
  obtain ⟨h1, h2⟩ := h.2 l hl
  exact ⟨by omega, h2⟩
theorem fit_cache {c : Cache} (hc : c.wf) (h : c.sets.length ≤ 20 ∧ ∀ j, j < c.sets.length → (row c j).length ≤ 10) : Fit c.sets := by
  refine ⟨h.1, fun l hl => ?_⟩
  obtain ⟨j, hj, rfl⟩ := List.getElem_of_mem hl
  have e := h.2 j hj
  unfold row at e
  rw [List.getElem?_eq_getElem hj] at e
  exact ⟨e, (hc.2 _ hl).2⟩
theorem fit_set {R : List (List Way)} (h : Fit R) (i : Nat) (l : List Way) (hl : l.length ≤ 10 ∧ ∀ w ∈ l, w.wf) : Fit (R.set i l) := by
  refine ⟨by rw [List.length_set]; exact h.1, fun x hx => ?_⟩
  rcases List.mem_or_eq_of_mem_set hx with h' | rfl
  · exact h.2 _ h'
  · exact hl
theorem fit_touch {R : List (List Way)} (h : Fit R) (a b : Int) : Fit (touchR R a b) := by
  by_cases hb : Bad R a b
  · rw [touch_bad hb]; exact h
  · obtain ⟨i, w, hi, rfl, rfl, hwl⟩ := not_bad hb
    rw [touch_some R i w hi hwl]
    obtain ⟨h1, h2⟩ := h.2 _ (List.getElem_mem hi)
    exact fit_set h i _ ⟨by rw [touch_len]; exact h1, touch_wf h2 w hwl⟩
theorem same_of {R : List (List Way)} (h : Fit R) {u v : T} (hu : CacheOf R u) (hv : CacheOf R v) : E ap 32 [u, v] (.bool true) := by
  obtain ⟨f, xs, rfl, hx⟩ := hu
  obtain ⟨f', ys, rfl, hy⟩ := hv
  exact same_cache f f' R xs ys hx hy h.big.1 h.big.2
theorem touchG {R : List (List Way)} (h : Fit R) {u : T} (hu : CacheOf R u) (a b : Int) : ∃ v, E ap 60 [u, .int .i64 a, .int .i64 b] v ∧ CacheOf (touchR R a b) v := by
  obtain ⟨f, xs, rfl, hx⟩ := hu
  exact ref_touch f R xs hx h.big.1 h.big.2 a b
theorem cacheOf_sets (c : Cache) : CacheOf c.sets (.agg [setsT c]) := ⟨false, _, rfl, tells_cache c⟩
def CacheEx (R : List (List Way)) (v : T) : Prop := v = .agg [.imm false R.length (rowsT R)]
theorem CacheEx.of {R : List (List Way)} {v : T} (h : CacheEx R v) : CacheOf R v := ⟨false, _, h, tells_rows R⟩
theorem rows_eq (L : List (List Way)) : L.flatMap (fun l => [rowT l]) = rowsT L := by
  unfold rowsT
  induction L with
  | nil => rfl
  | cons a L ih => rw [List.flatMap_cons, List.map_cons, ih]; rfl
theorem rows_set (R : List (List Way)) (i : Nat) (l : List Way) : (rowsT R).set i (.imm false l.length (l.flatMap Way.enc)) = rowsT (R.set i l) := by
  unfold rowsT; rw [List.map_set]
theorem ex_sets (c : Cache) : CacheEx c.sets (.agg [setsT c]) := by
  unfold CacheEx setsT; rw [rows_eq]
theorem ex_set {R : List (List Way)} {xs : List T} (hX : R.flatMap (fun l => [rowT l]) = xs) (i : Nat) (l : List Way) : CacheEx (R.set i l) (.agg [.imm false R.length (xs.set i (.imm false l.length (l.flatMap Way.enc)))]) := by
  unfold CacheEx
  rw [← hX, rows_eq, rows_set, List.length_set]
theorem touchX {R : List (List Way)} (h : Fit R) {u : T} (hu : CacheEx R u) (a b : Int) : ∃ v, E ap 70 [u, .int .i64 a, .int .i64 b] v ∧ CacheEx (touchR R a b) v := by
  subst hu
  by_cases hbad : Bad R a b
  · exact ⟨_, bus_touch_bad false R _ (tells_rows R) a b hbad, by rw [touch_bad hbad]; rfl⟩
  · obtain ⟨i, w, hi, rfl, rfl, hwl⟩ := not_bad hbad
    refine ⟨_, bus_touch_ok false R _ (tells_rows R) h.big.1 h.big.2 i w hi hwl, ?_⟩
    rw [touch_some R i w hi hwl]
    unfold CacheEx
    rw [rows_set, List.length_set]
def FrzP (h : Hp) (d : Nat) (P : Nat → Prop) (x y : T) : Prop := ∃ ids, frz h d x = some (y, ids) ∧ ∀ t ∈ ids, P t
def FrzLP (h : Hp) (d : Nat) (P : Nat → Prop) (x y : List T) : Prop := ∃ ids, frzAll (frz h d) x = some (y, ids) ∧ ∀ t ∈ ids, P t
theorem frzLP_pt {h : Hp} {d : Nat} {P : Nat → Prop} : ∀ (l l' : List T), l.length = l'.length → (∀ j (h1 : j < l.length) (h2 : j < l'.length), FrzP h d P l[j] l'[j]) → FrzLP h d P l l'
  | [], [], _, _ => ⟨[], rfl, fun t ht => by simp at ht⟩
  | x :: l, y :: l', hl, h => by
    obtain ⟨is, h1, p1⟩ := h 0 (by simp) (by simp)
    obtain ⟨js, h2, p2⟩ := frzLP_pt l l' (by simpa using hl) (fun j hj hj' => h (j + 1) (by simp; omega) (by simp; omega))
    simp only [List.getElem_cons_zero] at h1
    refine ⟨is ++ js, by simp only [frzAll, h1, h2], fun t ht => ?_⟩
    rcases List.mem_append.mp ht with h | h
    · exact p1 t h
    · exact p2 t h
  | [], _ :: _, hl, _ => by simp at hl
  | _ :: _, [], hl, _ => by simp at hl
theorem frzP_own {h : Hp} {d t n es : Nat} {P : Nat → Prop} {c c' : List T} (hg : h.get t = some c) (hl : c.length = n * es) (hP : P t) (hf : FrzLP h d P c c') : FrzP h (d + 1) P (.own t 0 n es) (.imm false n c') := by
  obtain ⟨ids, hf, hp⟩ := hf
  have e : ((c.drop 0).take (n * es)) = c := by rw [List.drop_zero, List.take_of_length_le (by omega)]
  refine ⟨t :: ids, by simp only [frz, hg, e, hl, if_true, hf], fun u hu => ?_⟩
  rcases List.mem_cons.mp hu with rfl | h
  · exact hP
  · exact hp u h
theorem frzP_agg1 {h : Hp} {d : Nat} {P : Nat → Prop} {x y : T} (hf : FrzP h d P x y) : FrzP h (d + 1) P (.agg [x]) (.agg [y]) := by
  obtain ⟨ids, hf, hp⟩ := hf
  exact ⟨ids ++ [], by simp only [frz, frzAll, hf], fun t ht => hp t (by simpa using ht)⟩
theorem frzLP_ints {h : Hp} {d : Nat} {P : Nat → Prop} (l : List Way) : FrzLP h (d + 1) P (l.flatMap Way.enc) (l.flatMap Way.enc) := ⟨[], frzAll_int _ (enc_ints l), fun t ht => by simp at ht⟩
theorem frzP_with {h : Hp} {d A B n : Nat} {P : Nat → Prop} {xs : List T} {R : List (List Way)} (hx : Tells xs R) (hn : n = R.length) (i : Nat) (hi : i < R.length) (l : List Way) (hw : ∀ w ∈ l, w.wf) (hA : h.get A = some (xs.set i (.own B 0 l.length 19))) (hB : h.get B = some (l.flatMap Way.enc)) (pA : P A) (pB : P B) : FrzP h (d + 4) P (.agg [.own A 0 n 1]) (.agg [.imm false n (xs.set i (.imm false l.length (l.flatMap Way.enc)))]) := by
  refine frzP_agg1 (frzP_own hA (by rw [List.length_set, hx.1]; omega) pA (frzLP_pt _ _ (by rw [List.length_set, List.length_set]) (fun j hj hj' => ?_)))
  rw [List.length_set] at hj
  by_cases hij : i = j
  · subst hij
    rw [List.getElem_set_self, List.getElem_set_self]
    exact frzP_own hB (enc_len l hw) pB (frzLP_ints l)
  · rw [List.getElem_set_ne hij, List.getElem_set_ne hij]
    obtain ⟨f, hf⟩ := hx.2 j (by rw [← hx.1]; exact hj)
    rw [Nat.mul_one, List.getElem?_eq_getElem hj] at hf
    rw [Option.some.inj hf]
    exact ⟨[], rfl, fun t ht => by simp at ht⟩
def RowsAtP (P : Nat → Prop) (g : Mem) (els : List T) (L : List (List Way)) : Prop := els.length = L.length ∧ ∀ j (h : j < L.length), ∃ b, P b ∧ els[j]? = some (.own b 0 L[j].length 19) ∧ g b = some (L[j].flatMap Way.enc)
theorem frzP_rows {g : Mem} {nx d A n : Nat} {P : Nat → Prop} {els : List T} {L : List (List Way)} (hn : n = L.length) (hL : ∀ l ∈ L, ∀ w ∈ l, w.wf) (hA : g A = some els) (pA : P A) (hr : RowsAtP P g els L) : FrzP ⟨g, nx⟩ (d + 4) P (.agg [.own A 0 n 1]) (.agg [.imm false n (rowsT L)]) := by
  subst hn
  refine frzP_agg1 (frzP_own (h := ⟨g, nx⟩) hA (by rw [hr.1]; omega) pA (frzLP_pt _ _ (by rw [hr.1]; unfold rowsT; rw [List.length_map]) (fun j hj hj' => ?_)))
  have hj2 : j < L.length := by rw [← hr.1]; exact hj
  obtain ⟨b, hb, h1, h2⟩ := hr.2 j hj2
  rw [List.getElem?_eq_getElem hj] at h1
  rw [Option.some.inj h1]
  have e : (rowsT L)[j] = .imm false L[j].length (L[j].flatMap Way.enc) := by simp [rowsT]
  rw [e]
  exact frzP_own h2 (enc_len _ (hL _ (List.getElem_mem hj2))) hb (frzLP_ints _)
theorem frzL_two2 {h : Hp} {P : Nat → Prop} {u u' : T} {k k' : IntKind} {a b : Int} (hu : FrzP h frzDepth P u u') : ∃ ids, frzL h frzDepth [u, .int k a, .int k' b] = some ([u', .int k a, .int k' b], ids) ∧ ∀ t ∈ ids, P t := by
  obtain ⟨ids, h1, h2⟩ := hu
  have e1 : frz h frzDepth (.int k a) = some (.int k a, []) := rfl
  have e2 : frz h frzDepth (.int k' b) = some (.int k' b, []) := rfl
  refine ⟨ids ++ ([] ++ ([] ++ [])), by unfold frzL; simp only [frzAll, h1, e1, e2], fun t ht => h2 t (by simpa using ht)⟩
theorem E.callI {AP : AProg} {f : Nat} {F : AFun} {args' : List T} {v : T} (h : E AP f args' v) (hF : AP f = some F) : ∃ N, ∀ k, N ≤ k → ∀ (g : Mem) (args : List T) (P : Nat → Prop), (∃ ids, frzL ⟨g, 0⟩ frzDepth args = some (args', ids) ∧ ∀ t ∈ ids, P t) → ∃ ids ed, callPure (ev AP k) F args g = some ⟨v, ids, ed⟩ ∧ (∀ t ∈ ids, P t) ∧ (∀ e ∈ ed, P e.1) := by
  obtain ⟨N, hN⟩ := h.run hF
  refine ⟨N, fun k hk g args P ⟨ids, h1, h2⟩ => ?_⟩
  have hr := hN (k - N)
  rw [Nat.sub_add_cancel hk] at hr
  refine ⟨ids, if v.flat then [] else ids.map fun t => (t, none), ?_, h2, fun e he => ?_⟩
  · unfold callPure
    rw [h1]
    simp only [hr]
  · split at he
    · simp at he
    · rw [List.mem_map] at he
      obtain ⟨t, ht, rfl⟩ := he
      exact h2 t ht
theorem putAll_off : ∀ (ed : List (Nat × Option (List T))) (g : Mem) (p : Nat), (∀ e ∈ ed, p ≠ e.1) → putAll g ed p = g p
  | [], _, _, _ => rfl
  | e :: ed, g, p, h => by
    have := putAll_off ed (put1 g e) p (fun e' he => h e' (List.mem_cons_of_mem _ he))
    have h0 := h e (List.mem_cons_self ..)
    show putAll (put1 g e) ed p = g p
    rw [this]
    simp [put1, h0]
theorem disj_off {ed : List (Nat × Option (List T))} {p : Nat} (h : ∀ e ∈ ed, p ≠ e.1) : disj (List.map (fun x => x.1) ed) [p] = true := by
  unfold disj
  rw [List.all_eq_true]
  intro x hx
  rw [List.mem_map] at hx
  obtain ⟨e, he, rfl⟩ := hx
  have := h e he
  simp only [List.contains_cons, List.contains_nil, Bool.or_false, Bool.not_eq_true', beq_eq_false_iff_ne]
  exact fun h => this h.symm
theorem has_off {ids : List Nat} {p : Nat} (h : ∀ t ∈ ids, p ≠ t) : List.contains ids p = false := by
  rw [Bool.eq_false_iff]
  intro hc
  rw [List.contains_iff_mem] at hc
  exact h p hc rfl

/-! One way's cells, set. -/
theorem splice_mid : ∀ (b' a b c : List T), b.length = b'.length → splice (a ++ (b ++ c)) a.length b' = a ++ (b' ++ c)
  | [], a, b, c, h => by
    obtain rfl : b = [] := List.length_eq_zero_iff.mp h
    try rfl
  | y :: b', a, x :: b, c, h => by
    rw [splice, List.cons_append, List.set_append_right _ _ (by omega), Nat.sub_self, List.set_cons_zero]
    have := splice_mid b' (a ++ [y]) b c (by simpa using h)
    rw [List.length_append, List.length_singleton, List.append_assoc, List.append_assoc] at this
    exact this
  | _ :: _, _, [], _, h => by simp at h
theorem set_way (l : List Way) (hw : ∀ w ∈ l, w.wf) (k : Nat) (h : k < l.length) (y : Way) (hy : y.wf) (o : Nat) (v : List T) (pre post old : List T) (hp : pre.length = o) (hov : old.length = v.length) (h1 : (wayN l k).enc = pre ++ (old ++ post)) (h2 : y.enc = pre ++ (v ++ post)) : (l.set k y).flatMap Way.enc = splice (l.flatMap Way.enc) (k * 19 + o) v := by
  have hl : l = l.take k ++ wayN l k :: l.drop (k + 1) := by rw [wayN_eq h, List.getElem_cons_drop, List.take_append_drop]
  have hk : (l.take k).length = k := by rw [List.length_take]; omega
  have hf : ((l.take k).flatMap Way.enc).length = k * 19 := by
    rw [flat_lenM (f := Way.enc) (l.take k) (fun w h => way_len (hw w (List.mem_of_mem_take h))), hk]
  have e1 : l.set k y = l.take k ++ y :: l.drop (k + 1) := by rw [List.set_eq_take_append_cons_drop, if_pos h]
  have e2 : l.flatMap Way.enc = (l.take k).flatMap Way.enc ++ ((wayN l k).enc ++ (l.drop (k + 1)).flatMap Way.enc) := by
    conv => lhs; rw [hl]
    exact enc_app _ _ _
  rw [e1, enc_app, e2, h1, h2]
  generalize (l.take k).flatMap Way.enc = a at *
  generalize (l.drop (k + 1)).flatMap Way.enc = c at *
  have := splice_mid v (a ++ pre) old (post ++ c) hov
  rw [List.length_append, hf, hp] at this
  simp only [List.append_assoc] at this ⊢
  exact this.symm
theorem set_whole (l : List Way) (hw : ∀ w ∈ l, w.wf) (k : Nat) (h : k < l.length) (y : Way) (hy : y.wf) : (l.set k y).flatMap Way.enc = splice (l.flatMap Way.enc) (k * 19) y.enc := by
  have := set_way l hw k h y hy 0 y.enc [] [] (wayN l k).enc rfl (by rw [way_len hy, way_len (wayN_wf hw h)]) (by simp) (by simp)
  rw [Nat.add_zero] at this
  exact this
theorem rv_lt (l : List Way) : ∀ m k best, best < l.length → k + m ≤ l.length → rv l best k m < l.length
  | 0, _, _, hb, _ => hb
  | m + 1, k, best, hb, h => by
    rw [rv]
    split
    · omega
    · exact rv_lt l m (k + 1) _ (by split <;> omega) (by omega)
theorem row_eq (c : Cache) (i : Nat) (h : i < c.sets.length) : row c i = c.sets[i] := by unfold row; rw [List.getElem?_eq_getElem h]; rfl
theorem victim_lt (c : Cache) (ln : Nat) (hs : ¬ c.sets.length = 0) (hr : 0 < (row c (seti c ln)).length) : (victim c ln).1 = seti c ln ∧ seti c ln < c.sets.length ∧ (victim c ln).2 < (row c (seti c ln)).length := by
  have hlt : seti c ln < c.sets.length := Nat.mod_lt _ (by omega)
  unfold victim
  cases hf : find c ln with
  | some k => exact ⟨rfl, hlt, (find_lt hf).2⟩
  | none =>
    simp only [if_neg hs]
    exact ⟨trivial, hlt, rv_lt _ _ _ _ hr (by omega)⟩
theorem victim_none (c : Cache) (ln : Nat) (h : c.sets.length = 0 ∨ (row c (seti c ln)).length = 0) : Bad c.sets ((victim c ln).1 : Int) ((victim c ln).2 : Int) := by
  unfold Bad
  intro ⟨h1, h2, h3, h4⟩
  rcases h with h | h
  · omega
  · by_cases hs : c.sets.length = 0
    · omega
    · have e : (victim c ln).1 = seti c ln := by
        unfold victim
        cases hf : find c ln with
        | some k => rfl
        | none => simp only [if_neg hs]
      rw [e, Int.toNat_natCast] at h4
      unfold row at h
      omega
def fillW (old : Way) (ln : Nat) (st : Int) (data : List Int) : Way := ⟨st, (ln : Int), data, old.age⟩
def goneW (old : Way) (ln : Nat) : Way := if old.state = 0 ∨ old.tag = (ln : Int) then zeroW else old
def fillR (c : Cache) (ln : Nat) (st : Int) (data : List Int) : List (List Way) × Way :=
  if st < 1 ∨ st > 3 ∨ c.sets.length = 0 ∨ (row c (seti c ln)).length = 0 then (c.sets, zeroW)
  else (touchR (c.sets.set (seti c ln) ((row c (seti c ln)).set (victim c ln).2 (fillW (wayN (row c (seti c ln)) (victim c ln).2) ln st data))) (seti c ln : Int) ((victim c ln).2 : Int), goneW (wayN (row c (seti c ln)) (victim c ln).2) ln)
def dataT (data : List Int) : List T := data.flatMap (fun n => [T.int .u8 n])
theorem data_len (data : List Int) : (dataT data).length = data.length := by unfold dataT; rw [flat_len (f := fun n => [T.int .u8 n]) (k := 1) (fun _ => rfl), Nat.mul_one]
theorem data_ints (data : List Int) : ∀ x ∈ dataT data, ∃ k n, x = .int k n := by
  intro x hx
  unfold dataT at hx
  rw [List.mem_flatMap] at hx
  obtain ⟨n, _, hn⟩ := hx
  rw [List.mem_singleton] at hn
  exact ⟨_, _, hn⟩
theorem enc_data (w : Way) : w.enc = T.int .i64 w.state :: T.int .u32 w.tag :: (dataT w.data ++ [T.int .i64 w.age]) := rfl
theorem fin_fill {F : AFun} {t1 t2 p1 p2 : Nat} {x : T} {w : Way} (hF : F.res = [.cell t1 false 1, .cell t2 false 19]) (hw : w.wf) (hx : ∀ h : Hp, frz h frzDepth (.agg [x]) = some (.agg [x], [])) {s : List T} {g : Mem} {nx : Nat} (h1 : rho s (.tmp t1) = .ptr p1 0) (h2 : rho s (.tmp t2) = .ptr p2 0) (g1 : g p1 = some [x]) (g2 : g p2 = some w.enc) (hxi : ∃ f n c, x = .imm f n c) : ∃ u ids, resT s g F.res = some u ∧ frz ⟨g, nx⟩ frzDepth u = some (.tup [.agg [x], .agg w.enc], ids) := by
  have hl := way_len hw
  have hc : cut w.enc 0 19 = w.enc := cut_all hl
  have hb : (19 : Nat) ≤ w.enc.length := by omega
  refine ⟨.tup [.agg [x], .agg w.enc], [], ?_, ?_⟩
  · rw [hF]
    have hc1 : cut [x] 0 1 = [x] := rfl
    simp +decide only [resT, resL, resOne, opRes, h1, h2, g1, g2, hc, hc1, hb, Nat.zero_add, List.length_cons, List.length_nil, if_true, Bool.false_eq_true, if_false]
  · obtain ⟨f, n, c, rfl⟩ := hxi
    have e1 : frz ⟨g, nx⟩ 11 (.agg w.enc) = some (.agg w.enc, []) := by
      show frz ⟨g, nx⟩ (10 + 1) _ = _
      rw [frz]
      simp only [frzAll_int (d := 9) w.enc (way_ints w)]
    have e2 : frz ⟨g, nx⟩ 11 (.agg [.imm f n c]) = some (.agg [.imm f n c], []) := rfl
    show frz ⟨g, nx⟩ (11 + 1) _ = _
    rw [frz]
    simp only [frzAll, e1, e2, List.append_nil]
theorem bus_fill_bad (c : Cache) (hc : c.wf) (ln : Nat) (hln : ln ≤ 4294967295) (st : Int) (data : List Int) (hd : data.length = 16) (hbad : st < 1 ∨ st > 3 ∨ c.sets.length = 0 ∨ (row c (seti c ln)).length = 0) :
    E ap 95 [.agg [setsT c], .int .u32 (ln : Int), .int .i64 st, .agg (dataT data)] (.tup [.agg [setsT c], .agg zeroW.enc]) := by
  refine E_body (F := f95) rfl rfl rfl ?_
  generalize hs0 : (_ : List T) ++ List.replicate _ T.undef = s0
  have e0 : s0.length = 76 ∧ rho s0 (.tmp 0) = .agg [setsT c] ∧ rho s0 (.tmp 1) = .int .u32 (ln : Int) ∧ rho s0 (.tmp 2) = .int .i64 st ∧ rho s0 (.tmp 3) = .agg (dataT data) := by subst hs0; exact ⟨rfl, rfl, rfl, rfl, rfl⟩
  clear hs0
  obtain ⟨hl, h0, h1, h2, h3⟩ := e0
  have hleaf : allLeaf [setsT c] = true := rfl
  have hcut : cut [setsT c] 0 1 = [setsT c] := rfl
  have hdl := leaf_ints _ (data_ints data)
  have hxi : ∃ f n l, setsT c = .imm f n l := ⟨_, _, _, rfl⟩
  have hfz : ∀ h : Hp, frz h frzDepth (.agg [setsT c]) = some (.agg [setsT c], []) := fun _ => rfl
  have hzl : zeroW.enc.length = 19 := rfl
  have hzleaf := zenc_leaf
  have hzs : splice zeroW.enc 0 zeroW.enc = zeroW.enc := splice_all rfl
  obtain ⟨f, l, hwt, hlw, hlm, hl0, hlr⟩ := ways_of2 c hc ln
  obtain ⟨N1, c35⟩ := (bus_ways c hc ln hln).call ap100 (fun g => rfl)
  have q35 := c35 N1 (Nat.le_refl _)
  rw [hwt] at q35
  generalize setsT c = sc at *
  have hbody : f95.body = f95.body := rfl
  conv at hbody => rhs; simp only [f95]
  simp only [← zero_enc] at hbody
  rw [hbody]
  have hfin : ∀ {s : List T} {g : Mem} {nx : Nat}, rho s (.tmp 8) = .ptr 2 0 → rho s (.tmp 9) = .ptr 3 0 → g 2 = some [sc] → g 3 = some zeroW.enc → ∃ u ids, resT s g f95.res = some u ∧ frz ⟨g, nx⟩ frzDepth u = some (.tup [.agg [sc], .agg zeroW.enc], ids) := fun a b c d => fin_fill (F := f95) (t1 := 8) (t2 := 9) rfl zeroW_wf hfz a b c d hxi
  generalize zeroW.enc = zc at *
  generalize dataT data = dc at *
  refine W_seqn (W_region (fun k => by simp +decide (disch := first | omega | simp +decide [hl]) only [s9, simprocAttr, h0, h3, hleaf, hdl, hzleaf]; rfl) ⟨rfl, ?_⟩)
  by_cases hb1 : st < 1
  · have d1 : decide (st < 1) = true := decide_eq_true hb1
    refine W_seq (W_seqn (W_region (fun k => by simp +decide (disch := first | omega | simp +decide [hl]) only [s9, simprocAttr, h1, h2, d1]; rfl) ⟨rfl, W_tru ?_⟩))
    refine W_seqn (W_region (fun k => by simp +decide (disch := first | omega | simp +decide [hl]) only [s9, simprocAttr, hcut, hleaf, hzl, hzleaf, hzs]; rfl) ⟨rfl, W_ret ?_⟩)
    simp only [reduceCtorEq, false_and, false_or, or_false, exists_false, exists_const, ne_eq, not_false_eq_true, true_and, implies_true]
    refine ⟨rfl, hfin ?_ ?_ ?_ ?_⟩ <;> simp +decide (disch := first | omega | simp +decide [hl]) only [s9, simprocAttr]
  · have d1 : decide (st < 1) = false := decide_eq_false hb1
    by_cases hb2 : st > 3
    · have d2 : decide (st > 3) = true := decide_eq_true hb2
      refine W_seq (W_seqn (W_region (fun k => by simp +decide (disch := first | omega | simp +decide [hl]) only [s9, simprocAttr, h1, h2, d1, d2]; rfl) ⟨rfl, W_tru ?_⟩))
      refine W_seqn (W_region (fun k => by simp +decide (disch := first | omega | simp +decide [hl]) only [s9, simprocAttr, hcut, hleaf, hzl, hzleaf, hzs]; rfl) ⟨rfl, W_ret ?_⟩)
      simp only [reduceCtorEq, false_and, false_or, or_false, exists_false, exists_const, ne_eq, not_false_eq_true, true_and, implies_true]
      refine ⟨rfl, hfin ?_ ?_ ?_ ?_⟩ <;> simp +decide (disch := first | omega | simp +decide [hl]) only [s9, simprocAttr]
    · have d2 : decide (st > 3) = false := decide_eq_false hb2
      have hlz : l.length = 0 := by
        rcases hbad with h | h | h | h
        · omega
        · omega
        · rw [hl0 h]; rfl
        · by_cases hs : c.sets.length = 0
          · rw [hl0 hs]; rfl
          · rw [hlr hs]; exact h
      rw [hlz] at q35
      refine W_seq (W_seqn (W_regionN ⟨N1, by simp +decide (disch := first | omega | simp +decide [hl]) only [s9, simprocAttr, h1, h2, d1, d2, hcut, ap100, p100, n100, q35]; rfl⟩ ⟨rfl, W_tru ?_⟩))
      refine W_seqn (W_region (fun k => by simp +decide (disch := first | omega | simp +decide [hl]) only [s9, simprocAttr, hcut, hleaf, hzl, hzleaf, hzs]; rfl) ⟨rfl, W_ret ?_⟩)
      simp only [reduceCtorEq, false_and, false_or, or_false, exists_false, exists_const, ne_eq, not_false_eq_true, true_and, implies_true]
      refine ⟨rfl, hfin ?_ ?_ ?_ ?_⟩ <;> simp +decide (disch := first | omega | simp +decide [hl]) only [s9, simprocAttr]
theorem W_cut {AP : AProg} {a b : ACode} {st : St} {Q : AExit → St → Prop} (P : St → Prop) (ha : W AP a st (fun e s => e = .normal ∧ P s)) (hb : ∀ s, P s → W AP b s Q) : W AP (.seq a b) st Q := W_seqn (ha.mono fun _ s h => ⟨h.1, hb s h.2⟩)
theorem fillW_wf {old : Way} (ho : old.wf) {ln : Nat} (hln : ln ≤ 4294967295) {st : Int} (hs : 1 ≤ st ∧ st ≤ 3) {data : List Int} (hd : data.length = 16 ∧ ∀ y ∈ data, (Lit.int .u8 y).wf = true) : (fillW old ln st data).wf := by
  refine ⟨lit_i64 (by show -9223372036854775808 ≤ st ∧ st ≤ 9223372036854775807; omega), ?_, hd, ho.2.2.2⟩
  show (Lit.int .u32 (ln : Int)).wf = true
  have e : (Lit.int .u32 (ln : Int)).wf = (decide ((0 : Int) ≤ ln) && decide ((ln : Int) ≤ 2 ^ 32 - 1)) := rfl
  rw [e, decide_eq_true (by omega), decide_eq_true (by omega)]; rfl
theorem goneW_wf {old : Way} (ho : old.wf) (ln : Nat) : (goneW old ln).wf := by unfold goneW; split; exact zeroW_wf; exact ho
theorem set_fill (l : List Way) (hw : ∀ w ∈ l, w.wf) (k : Nat) (h : k < l.length) (ln : Nat) (hln : ln ≤ 4294967295) (st : Int) (hs : 1 ≤ st ∧ st ≤ 3) (data : List Int) (hd : data.length = 16 ∧ ∀ y ∈ data, (Lit.int .u8 y).wf = true) : (l.set k (fillW (wayN l k) ln st data)).flatMap Way.enc = splice (((l.flatMap Way.enc).set (k * 19) (.int .i64 st)).set (k * 19 + 1) (.int .u32 (ln : Int))) (k * 19 + 2) (dataT data) := by
  have hwk := wayN_wf hw h
  have e := set_way l hw k h (fillW (wayN l k) ln st data) (fillW_wf hwk hln hs hd) 0 (T.int .i64 st :: T.int .u32 (ln : Int) :: dataT data) [] [T.int .i64 (wayN l k).age] (T.int .i64 (wayN l k).state :: T.int .u32 (wayN l k).tag :: dataT (wayN l k).data) rfl (by simp only [List.length_cons, data_len, hwk.2.2.1.1, hd.1]) rfl rfl
  rw [Nat.add_zero] at e
  exact e
theorem fit_row {c : Cache} (h : Fit c.sets) (i : Nat) (hi : i < c.sets.length) : (row c i).length ≤ 10 ∧ ∀ w ∈ row c i, w.wf := by
  rw [row_eq c i hi]; exact h.2 _ (List.getElem_mem hi)
theorem bus_fill_ok (c : Cache) (hc : c.wf) (hfit : Fit c.sets) (ln : Nat) (hln : ln ≤ 4294967295) (st : Int) (data : List Int) (hd : data.length = 16 ∧ ∀ y ∈ data, (Lit.int .u8 y).wf = true) (hs : 1 ≤ st ∧ st ≤ 3) (hz : ¬ c.sets.length = 0) (hr : ¬ (row c (seti c ln)).length = 0) :
    ∃ v, E ap 95 [.agg [setsT c], .int .u32 (ln : Int), .int .i64 st, .agg (dataT data)] v ∧ ∃ u, v = .tup [u, .agg (fillR c ln st data).2.enc] ∧ CacheEx (fillR c ln st data).1 u := by
  have hfr : fillR c ln st data = (touchR (c.sets.set (seti c ln) ((row c (seti c ln)).set (victim c ln).2 (fillW (wayN (row c (seti c ln)) (victim c ln).2) ln st data))) (seti c ln : Int) ((victim c ln).2 : Int), goneW (wayN (row c (seti c ln)) (victim c ln).2) ln) := if_neg (by omega)
  obtain ⟨hv1, hil, hkl⟩ := victim_lt c ln hz (by omega)
  have hvt : victT c ln = .tup [.int .i64 (seti c ln : Int), .int .i64 ((victim c ln).2 : Int)] := by unfold victT; rw [hv1]
  have hrow := fit_row hfit _ hil
  have hx := tells_cache c
  obtain ⟨f0, hxi⟩ := hx.2 _ hil
  rw [← row_eq c _ hil] at hxi
  have hxl := hx.1
  have hxf := tells_leaf hx
  refine E_bodyV (F := f95) rfl rfl rfl (P := fun v => ∃ u, v = .tup [u, .agg (fillR c ln st data).2.enc] ∧ CacheEx (fillR c ln st data).1 u) ?_
  rw [hfr]
  clear hfr
  generalize hs0 : (_ : List T) ++ List.replicate _ T.undef = s0
  have e0 : s0.length = 76 ∧ rho s0 (.tmp 0) = .agg [setsT c] ∧ rho s0 (.tmp 1) = .int .u32 (ln : Int) ∧ rho s0 (.tmp 2) = .int .i64 st ∧ rho s0 (.tmp 3) = .agg (dataT data) := by subst hs0; exact ⟨rfl, rfl, rfl, rfl, rfl⟩
  clear hs0
  obtain ⟨hl, h0, h1, h2, h3⟩ := e0
  obtain ⟨f, l', hwt, hlw, hlm, hl0, hlr⟩ := ways_of2 c hc ln
  have hl' := hlr hz
  obtain ⟨N1, c35⟩ := (bus_ways c hc ln hln).call ap100 (fun g => rfl)
  obtain ⟨N2, c17⟩ := (bus_victim c hc ln hln).call ap106 (fun g => rfl)
  have q35 := c35 N1 (Nat.le_refl _)
  have q17 := c17 N2 (Nat.le_refl _)
  rw [hwt, hl'] at q35
  rw [hvt] at q17
  clear hwt hlw hlm hl0 hlr hl' hvt hv1 c35 c17
  have hsc : setsT c = .imm false c.sets.length (c.sets.flatMap (fun l => [rowT l])) := rfl
  rw [hsc] at h0 q35 q17
  generalize hk : (victim c ln).2 = k at *
  generalize hi : seti c ln = i at *
  generalize hL : row c i = l at *
  have hRi : c.sets[i] = l := by rw [← hL, row_eq c i hil]
  generalize hX : c.sets.flatMap (fun l => [rowT l]) = xs at *
  have hfitR := fit_set hfit i (l.set k (fillW (wayN l k) ln st data)) ⟨by rw [List.length_set]; exact hrow.1, fun w hw => by
    rcases List.mem_or_eq_of_mem_set hw with h | rfl
    · exact hrow.2 _ h
    · exact fillW_wf (wayN_wf hrow.2 hkl) hln hs hd⟩
  have hwk := wayN_wf hrow.2 hkl
  have hsf := set_fill l hrow.2 k hkl ln hln st hs data hd
  have hcl := enc_len l hrow.2
  have hclf := enc_leaf l
  have hcw : cut (l.flatMap Way.enc) (k * 19) 19 = (wayN l k).enc := by rw [flat_cutM l (fun w h => way_len (hrow.2 w h)) k hkl, wayN_eq hkl]
  have hwl := way_len hwk
  have hwlf := leaf_ints _ (way_ints (wayN l k))
  have hws := way_state (wayN l k)
  have hwt := way_tag (wayN l k)
  have hdlf := leaf_ints _ (data_ints data)
  have hdl : (dataT data).length = 16 := by rw [data_len]; exact hd.1
  have hcd : cut (dataT data) 0 16 = dataT data := cut_all hdl
  have hzl : zeroW.enc.length = 19 := rfl
  have hzleaf := zenc_leaf
  have hleaf : allLeaf [T.imm false c.sets.length xs] = true := rfl
  have hcut : cut [T.imm false c.sets.length xs] 0 1 = [T.imm false c.sets.length xs] := rfl
  have hzs : splice (wayN l k).enc 0 zeroW.enc = zeroW.enc := splice_all (by rw [hwl]; rfl)
  have hzs2 : splice zeroW.enc 0 (wayN l k).enc = (wayN l k).enc := splice_all (by rw [hwl]; rfl)
  have hgl := way_len (goneW_wf hwk ln)
  have hglf := leaf_ints _ (way_ints (goneW (wayN l k) ln))
  have hcg : cut (goneW (wayN l k) ln).enc 0 19 = (goneW (wayN l k) ln).enc := cut_all hgl
  have hzs3 : splice zeroW.enc 0 (goneW (wayN l k) ln).enc = (goneW (wayN l k) ln).enc := splice_all (by rw [hgl]; rfl)
  have hgdef : (goneW (wayN l k) ln).enc = if (wayN l k).state = 0 ∨ (wayN l k).tag = (ln : Int) then zeroW.enc else (wayN l k).enc := by unfold goneW; split <;> rfl
  have hfin : ∀ (x : T) {s : List T} {g : Mem} {nx : Nat}, (∃ f n c, x = .imm f n c) → rho s (.tmp 8) = .ptr 2 0 → rho s (.tmp 9) = .ptr 3 0 → g 2 = some [x] → g 3 = some (goneW (wayN l k) ln).enc → ∃ u ids, resT s g f95.res = some u ∧ frz ⟨g, nx⟩ frzDepth u = some (.tup [.agg [x], .agg (goneW (wayN l k) ln).enc], ids) := fun x _ _ _ hxi a b c d => fin_fill (F := f95) (t1 := 8) (t2 := 9) rfl (goneW_wf hwk ln) (fun h => by obtain ⟨f, n, c, rfl⟩ := hxi; rfl) a b c d hxi
  generalize hgw : (goneW (wayN l k) ln).enc = gw at *
  generalize how : (wayN l k).enc = ow at *
  have hbody : f95.body = f95.body := rfl
  conv at hbody => rhs; simp only [f95]
  simp only [← zero_enc] at hbody
  rw [hbody]
  clear hbody
  generalize zeroW.enc = zc at *
  generalize hdc : dataT data = dc at *
  generalize hwsE : l.flatMap Way.enc = ws at *
  have hd1 : decide (st < 1) = false := decide_eq_false (by omega)
  have hd2 : decide (st > 3) = false := decide_eq_false (by omega)
  have hd3 : ((l.length : Int) == 0) = false := beq_eq_false_iff_ne.mpr (by omega)
  have hb : i * 1 + 1 ≤ c.sets.length := by omega
  have hb2 : k * 19 + 19 ≤ l.length * 19 := by omega
  refine W_seqn (W_region (fun k => by simp +decide (disch := first | omega | simp +decide [hl]) only [s9, simprocAttr, h0, h3, hleaf, hdlf, hzleaf]; rfl) ⟨rfl, ?_⟩)
  refine W_seqn (W_seqn (W_regionN ⟨N1, by simp +decide (disch := first | omega | simp +decide [hl]) only [s9, simprocAttr, h1, h2, hd1, hd2, hd3, hcut, ap100, p100, n100, q35]; rfl⟩ ⟨rfl, W_fls (W_skip ⟨rfl, ?_⟩)⟩))
  refine W_seqn (W_regionN ⟨N2, by simp +decide (disch := first | omega | simp +decide [hl]) only [s9, simprocAttr, h1, hcut, ap106, p106, n106, q17]; rfl⟩ ⟨rfl, ?_⟩)
  refine W_abs (fun s => s.s.length = 76 ∧ rho s.s (.tmp 1) = .int .u32 (ln : Int) ∧ rho s.s (.tmp 2) = .int .i64 st ∧ rho s.s (.tmp 4) = .ptr 0 0 ∧ rho s.s (.tmp 7) = .ptr 1 0 ∧ rho s.s (.tmp 8) = .ptr 2 0 ∧ rho s.s (.tmp 9) = .ptr 3 0 ∧ rho s.s (.tmp 10) = .int .i64 (i : Int) ∧ rho s.s (.tmp 11) = .int .i64 (k : Int) ∧ s.g 0 = some [.imm false c.sets.length xs] ∧ s.g 1 = some dc ∧ s.g 2 = some [.imm true 0 []] ∧ s.g 3 = some zc ∧ s.nx = 25) ⟨by simp +decide (disch := first | omega | simp +decide [hl]) only [s9, simprocAttr, hl], by simp +decide (disch := first | omega | simp +decide [hl]) only [s9, simprocAttr, h1], by simp +decide (disch := first | omega | simp +decide [hl]) only [s9, simprocAttr, h2], by simp +decide (disch := first | omega | simp +decide [hl]) only [s9, simprocAttr], by simp +decide (disch := first | omega | simp +decide [hl]) only [s9, simprocAttr], by simp +decide (disch := first | omega | simp +decide [hl]) only [s9, simprocAttr], by simp +decide (disch := first | omega | simp +decide [hl]) only [s9, simprocAttr], by simp +decide (disch := first | omega | simp +decide [hl]) only [s9, simprocAttr], by simp +decide (disch := first | omega | simp +decide [hl]) only [s9, simprocAttr], by simp +decide (disch := first | omega | simp +decide [hl]) only [s9, simprocAttr], by simp +decide (disch := first | omega | simp +decide [hl]) only [s9, simprocAttr], by simp +decide (disch := first | omega | simp +decide [hl]) only [s9, simprocAttr], by simp +decide (disch := first | omega | simp +decide [hl]) only [s9, simprocAttr], by show (0 + 4 + 13 + 8 : Nat) = 25; rfl⟩ ?_
  clear hl h0 h1 h2 h3
  rintro ⟨s, g, nx⟩ ⟨hl, h1, h2, h4, h7, h8, h9, h10, h11, g0, g1, g2, g3, hnx⟩
  simp only at hl h1 h2 h4 h7 h8 h9 h10 h11 g0 g1 g2 g3 hnx
  subst hnx
  obtain ⟨N, g', nx', hN, w1, w2, w3, w4, w5, w6⟩ := with_run false c.sets.length xs hxl hxf hfit.big.1 i hil f0 l.length ws hxi hcl hclf (by omega) (by have := hrow.1; omega) g (25 + 5)
  have q40 := hN N (Nat.le_refl _)
  have w1' : g' 1 = some dc := by rw [w6 1 (by omega)]; exact g1
  have w2' : g' 2 = some [.imm true 0 []] := by rw [w6 2 (by omega)]; exact g2
  have w3' : g' 3 = some zc := by rw [w6 3 (by omega)]; exact g3
  refine W_seqn (W_regionN ⟨N, by simp +decide (disch := first | omega | simp +decide [hl]) only [s9, simprocAttr, evI, h4, h10, g0, hcut, ap66, p66, n66, q40]; rfl⟩ ⟨rfl, ?_⟩)
  refine W_abs (fun s => s.s.length = 76 ∧ rho s.s (.tmp 1) = .int .u32 (ln : Int) ∧ rho s.s (.tmp 2) = .int .i64 st ∧ rho s.s (.tmp 7) = .ptr 1 0 ∧ rho s.s (.tmp 8) = .ptr 2 0 ∧ rho s.s (.tmp 9) = .ptr 3 0 ∧ rho s.s (.tmp 10) = .int .i64 (i : Int) ∧ rho s.s (.tmp 11) = .int .i64 (k : Int) ∧ rho s.s (.tmp 12) = .ptr 28 0 ∧ s.g 1 = some dc ∧ s.g 2 = some [.imm true 0 []] ∧ s.g 3 = some zc ∧ s.g 28 = some [.own 34 0 c.sets.length 1] ∧ s.g 34 = some (xs.set i (.own 46 0 l.length 19)) ∧ s.g 46 = some ws ∧ 46 < s.nx) ?_ ?_
  · refine ⟨?_, ?_, ?_, ?_, ?_, ?_, ?_, ?_, ?_, ?_, ?_, ?_, ?_, ?_, ?_, ?_⟩
    rotate_right 1
    · show 46 < nx'; omega
    all_goals first | (simp +decide (disch := first | omega | simp +decide [hl]) only [s9, simprocAttr, hl, h1, h2, h7, h8, h9, h10, h11]; done) | (simp +decide only [s9, simprocAttr, w1, w2, w1', w2', w3']; done) | (simp +decide only [s9, simprocAttr, w1, w2, w1', w2', w3']; rfl)
  clear hl h1 h2 h4 h7 h8 h9 h10 h11 g0 g1 g2 g3 w1 w2 w3 w4 w5 w6 w1' w2' w3'
  rintro ⟨s, g, nx⟩ ⟨hl, h1, h2, h7, h8, h9, h10, h11, h12, g1, g2, g3, g28, g34, g46, hnx⟩
  simp only at hl h1 h2 h7 h8 h9 h10 h11 h12 g1 g2 g3 g28 g34 g46 hnx
  have hxs2 : (xs.set i (.own 46 0 l.length 19))[i * 1]? = some (.own 46 0 l.length 19) := by rw [Nat.mul_one, List.getElem?_set, if_pos rfl, if_pos (by omega)]
  have hx3l : (xs.set i (.own 46 0 l.length 19)).length = c.sets.length := by rw [List.length_set]; exact hxl
  generalize hxs3 : xs.set i (.own 46 0 l.length 19) = xs3 at *
  refine W_seqn (W_region (fun k => by simp +decide (disch := first | omega | simp +decide [hl]) only [s9, simprocAttr, h12, h10, h11, g28, g34, hx3l, hil, hb, hxs2, hkl]; rfl) ⟨rfl, ?_⟩)
  refine W_seqn (W_region (fun k => by simp +decide (disch := first | omega | simp +decide [hl]) only [s9, simprocAttr, g46, hcl, hb2, hcw, hwl, hwlf, hzl, hzleaf, hzs2]; rfl) ⟨rfl, ?_⟩)
  refine W_abs (fun s => s.s.length = 76 ∧ rho s.s (.tmp 1) = .int .u32 (ln : Int) ∧ rho s.s (.tmp 2) = .int .i64 st ∧ rho s.s (.tmp 7) = .ptr 1 0 ∧ rho s.s (.tmp 8) = .ptr 2 0 ∧ rho s.s (.tmp 9) = .ptr 3 0 ∧ rho s.s (.tmp 10) = .int .i64 (i : Int) ∧ rho s.s (.tmp 11) = .int .i64 (k : Int) ∧ rho s.s (.tmp 12) = .ptr 28 0 ∧ rho s.s (.tmp 13) = .ptr 46 (k * 19) ∧ (∃ p, 46 < p ∧ rho s.s (.tmp 14) = .ptr p 0 ∧ s.g p = some ow) ∧ s.g 1 = some dc ∧ s.g 2 = some [.imm true 0 []] ∧ s.g 3 = some zc ∧ s.g 28 = some [.own 34 0 c.sets.length 1] ∧ s.g 34 = some xs3 ∧ s.g 46 = some ws) ?_ ?_
  · refine ⟨?_, ?_, ?_, ?_, ?_, ?_, ?_, ?_, ?_, ?_, ⟨nx + 8 + 3, by omega, ?_, ?_⟩, ?_, ?_, ?_, ?_, ?_, ?_⟩
    all_goals first | (simp +decide (disch := first | omega | simp +decide [hl]) only [s9, simprocAttr, hl, h1, h2, h7, h8, h9, h10, h11, h12, g1, g2, g3, g28, g34, g46]; done) | (simp +decide (disch := first | omega | simp +decide [hl]) only [s9, simprocAttr, hl, h1, h2, h7, h8, h9, h10, h11, h12, g1, g2, g3, g28, g34, g46]; rfl)
  clear hl h1 h2 h7 h8 h9 h10 h11 h12 g1 g2 g3 g28 g34 g46 hnx
  rintro ⟨s, g, nx⟩ ⟨hl, h1, h2, h7, h8, h9, h10, h11, h12, h13, ⟨p, hp, h14, gp⟩, g1, g2, g3, g28, g34, g46⟩
  simp only at hl h1 h2 h7 h8 h9 h10 h11 h12 h13 h14 gp g1 g2 g3 g28 g34 g46
  have hb3 : k * 19 + 1 ≤ l.length * 19 := by omega
  have hb4 : k * 19 + 1 + 1 ≤ l.length * 19 := by omega
  have hb5 : k * 19 + 2 + 16 ≤ l.length * 19 := by omega
  refine W_cut (fun s => s.s.length = 76 ∧ rho s.s (.tmp 1) = .int .u32 (ln : Int) ∧ rho s.s (.tmp 2) = .int .i64 st ∧ rho s.s (.tmp 7) = .ptr 1 0 ∧ rho s.s (.tmp 8) = .ptr 2 0 ∧ rho s.s (.tmp 9) = .ptr 3 0 ∧ rho s.s (.tmp 10) = .int .i64 (i : Int) ∧ rho s.s (.tmp 11) = .int .i64 (k : Int) ∧ rho s.s (.tmp 12) = .ptr 28 0 ∧ rho s.s (.tmp 13) = .ptr 46 (k * 19) ∧ rho s.s (.tmp 14) = .ptr p 0 ∧ s.g p = some gw ∧ s.g 1 = some dc ∧ s.g 2 = some [.imm true 0 []] ∧ s.g 3 = some zc ∧ s.g 28 = some [.own 34 0 c.sets.length 1] ∧ s.g 34 = some xs3 ∧ s.g 46 = some ws) ?_ ?_
  · by_cases hz0 : (wayN l k).state = 0
    · have e1 : ((wayN l k).state == 0) = true := by simp [hz0]
      have hgz : gw = zc := by rw [hgdef, if_pos (.inl hz0)]
      refine W_seqn (W_region (fun k => by simp +decide (disch := first | omega | simp +decide [hl]) only [s9, simprocAttr, h14, gp, hws, hwl, e1]; rfl) ⟨rfl, W_tru ?_⟩)
      refine W_region (fun k => by simp +decide (disch := first | omega | simp +decide [hl]) only [s9, simprocAttr, h14, gp, hwl, hzl, hzleaf, hzs]; rfl) ?_
      refine ⟨rfl, ?_, ?_, ?_, ?_, ?_, ?_, ?_, ?_, ?_, ?_, ?_, ?_, ?_, ?_, ?_, ?_, ?_, ?_⟩
      all_goals simp +decide (disch := first | omega | simp +decide [hl]) only [s9, simprocAttr, hl, h1, h2, h7, h8, h9, h10, h11, h12, h13, h14, g1, g2, g3, g28, g34, g46, hgz]
    · have e1 : ((wayN l k).state == 0) = false := beq_eq_false_iff_ne.mpr hz0
      by_cases ht0 : (wayN l k).tag = (ln : Int)
      · have e2 : ((wayN l k).tag == (ln : Int)) = true := by simp [ht0]
        have hgz : gw = zc := by rw [hgdef, if_pos (.inr ht0)]
        have hb6 : 1 + 1 ≤ ow.length := by omega
        refine W_seqn (W_region (fun k => by simp +decide (disch := first | omega | simp +decide [hl]) only [s9, simprocAttr, h1, h14, gp, hws, hwt, hwl, e1, e2]; rfl) ⟨rfl, W_tru ?_⟩)
        refine W_region (fun k => by simp +decide (disch := first | omega | simp +decide [hl]) only [s9, simprocAttr, h14, gp, hwl, hzl, hzleaf, hzs]; rfl) ?_
        refine ⟨rfl, ?_, ?_, ?_, ?_, ?_, ?_, ?_, ?_, ?_, ?_, ?_, ?_, ?_, ?_, ?_, ?_, ?_, ?_⟩
        all_goals simp +decide (disch := first | omega | simp +decide [hl]) only [s9, simprocAttr, hl, h1, h2, h7, h8, h9, h10, h11, h12, h13, h14, g1, g2, g3, g28, g34, g46, hgz]
      · have e2 : ((wayN l k).tag == (ln : Int)) = false := beq_eq_false_iff_ne.mpr ht0
        have hgz : gw = ow := by rw [hgdef, if_neg (fun h => by rcases h with h | h; exact hz0 h; exact ht0 h)]
        refine W_seqn (W_region (fun k => by simp +decide (disch := first | omega | simp +decide [hl]) only [s9, simprocAttr, h1, h14, gp, hws, hwt, hwl, e1, e2]; rfl) ⟨rfl, W_fls (W_skip ?_)⟩)
        refine ⟨rfl, ?_, ?_, ?_, ?_, ?_, ?_, ?_, ?_, ?_, ?_, ?_, ?_, ?_, ?_, ?_, ?_, ?_, ?_⟩
        all_goals simp +decide (disch := first | omega | simp +decide [hl]) only [s9, simprocAttr, hl, h1, h2, h7, h8, h9, h10, h11, h12, h13, h14, gp, g1, g2, g3, g28, g34, g46, hgz]
  clear hl h1 h2 h7 h8 h9 h10 h11 h12 h13 h14 gp g1 g2 g3 g28 g34 g46
  rintro ⟨s, g, nx⟩ ⟨hl, h1, h2, h7, h8, h9, h10, h11, h12, h13, h14, gp, g1, g2, g3, g28, g34, g46⟩
  simp only at hl h1 h2 h7 h8 h9 h10 h11 h12 h13 h14 gp g1 g2 g3 g28 g34 g46
  refine W_seqn (W_region (fun k => by simp +decide (disch := first | omega | simp +decide [hl]) only [s9, simprocAttr, h1, h2, h7, h13, g1, g46, hcl, hcd, hdl, hdlf, hb3, hb4, hb5]; rfl) ⟨rfl, ?_⟩)
  refine W_abs (fun s => s.s.length = 76 ∧ rho s.s (.tmp 8) = .ptr 2 0 ∧ rho s.s (.tmp 9) = .ptr 3 0 ∧ rho s.s (.tmp 10) = .int .i64 (i : Int) ∧ rho s.s (.tmp 11) = .int .i64 (k : Int) ∧ rho s.s (.tmp 12) = .ptr 28 0 ∧ rho s.s (.tmp 14) = .ptr p 0 ∧ s.g p = some gw ∧ s.g 2 = some [.imm true 0 []] ∧ s.g 3 = some zc ∧ s.g 28 = some [.own 34 0 c.sets.length 1] ∧ s.g 34 = some xs3 ∧ s.g 46 = some ((l.set k (fillW (wayN l k) ln st data)).flatMap Way.enc)) ?_ ?_
  · refine ⟨?_, ?_, ?_, ?_, ?_, ?_, ?_, ?_, ?_, ?_, ?_, ?_, ?_⟩
    all_goals simp +decide (disch := first | omega | simp +decide [hl]) only [s9, simprocAttr, hl, h1, h2, h7, h8, h9, h10, h11, h12, h13, h14, gp, g1, g2, g3, g28, g34, g46, hsf]
  clear hl h1 h2 h7 h8 h9 h10 h11 h12 h13 h14 gp g1 g2 g3 g28 g34 g46
  rintro ⟨s, g, nx⟩ ⟨hl, h8, h9, h10, h11, h12, h14, gp, g2, g3, g28, g34, g46⟩
  simp only at hl h8 h9 h10 h11 h12 h14 gp g2 g3 g28 g34 g46
  generalize hfw : l.set k (fillW (wayN l k) ln st data) = fl at *
  have hfll : fl.length = l.length := by rw [← hfw, List.length_set]
  have hflw : ∀ w ∈ fl, w.wf := (hfitR.2 fl (List.mem_set hil _)).2
  rw [← hxs3, ← hfll] at g34
  have hfz := frzP_with (h := ⟨g, 0⟩) (d := 8) (P := fun t => t = 34 ∨ t = 46) hx rfl i hil fl hflw g34 g46 (.inl rfl) (.inr rfl)
  have hof : CacheEx (c.sets.set i fl) (.agg [.imm false c.sets.length (xs.set i (.imm false fl.length (fl.flatMap Way.enc)))]) := ex_set hX i fl
  obtain ⟨v, hv, ov⟩ := touchX hfitR hof (i : Int) (k : Int)
  obtain ⟨N3, c19⟩ := hv.callI ap70
  obtain ⟨ids, ed, q19, hids, hed⟩ := c19 N3 (Nat.le_refl _) g [.agg [.own 34 0 c.sets.length 1], .int .i64 (i : Int), .int .i64 (k : Int)] (fun t => t = 34 ∨ t = 46) (frzL_two2 hfz)
  have ov0 := ov
  unfold CacheEx at ov0
  subst ov0
  have o1 : putAll g ed p = some gw := by rw [putAll_off ed g p (fun e he => by have := hed e he; omega)]; exact gp
  have o2 : putAll g ed 2 = some [.imm true 0 []] := by rw [putAll_off ed g 2 (fun e he => by have := hed e he; omega)]; exact g2
  have o3 : putAll g ed 3 = some zc := by rw [putAll_off ed g 3 (fun e he => by have := hed e he; omega)]; exact g3
  have o4 : disj (List.map (fun x => x.1) ed) [p] = true := disj_off (fun e he => by have := hed e he; omega)
  have hc34 : cut [T.own 34 0 c.sets.length 1] 0 1 = [T.own 34 0 c.sets.length 1] := rfl
  generalize hpg : putAll g ed = pg at *
  refine W_seqn (W_regionN ⟨N3, by simp +decide (disch := first | omega | simp +decide [hl]) only [s9, simprocAttr, h12, h10, h11, h14, h8, h9, g28, hc34, ap70, p70, n70, q19, hpg, o1, o2, o3, o4, hcg, hgl, hglf, hzl, hzs3]; rfl⟩ ⟨rfl, W_ret ?_⟩)
  refine ⟨rfl, _, ⟨_, rfl, ov⟩, hfin _ ⟨_, _, _, rfl⟩ ?_ ?_ ?_ ?_⟩
  · simp +decide (disch := first | omega | simp +decide [hl]) only [s9, simprocAttr, h8]
  · simp +decide (disch := first | omega | simp +decide [hl]) only [s9, simprocAttr, h9]
  · simp +decide (disch := first | omega | simp +decide [hl]) only [s9, simprocAttr]
  · simp +decide (disch := first | omega | simp +decide [hl]) only [s9, simprocAttr]
end Go.Proofs.YtabfinhkoihhfaaGreat.Abs
