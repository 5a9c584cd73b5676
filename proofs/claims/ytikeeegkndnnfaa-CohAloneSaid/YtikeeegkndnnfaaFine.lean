/- May a set be? The program's question. -/
import Derived.Test.YtikeeegkndnnfaaQBtouch3
namespace Go.Proofs.Ytikeeegkndnnfaa.Abs
open Go Go.RowKit Fn
set_option linter.unusedVariables false
set_option linter.unusedSimpArgs false
set_option linter.unnecessarySimpa false
set_option maxRecDepth 100000
set_option maxHeartbeats 4000000

/-- May the k-th way of set s be? -/
theorem findT_some (c : Cache) (ln : Nat) : ∃ p q r, findT c ln = .tup [.int .i64 p, .int .i64 q, .bool r] := by
  unfold findT; split <;> exact ⟨_, _, _, rfl⟩
def FineK (c : Cache) (s : Nat) (l : List Way) (k : Nat) : Prop :=
  0 ≤ (wayN l k).age ∧ (wayN l k).age < l.length ∧ (∀ j, j < k → (wayN l j).age ≠ (wayN l k).age) ∧ 0 ≤ (wayN l k).state ∧ (wayN l k).state ≤ 3 ∧ ((wayN l k).state = 0 → wayN l k = aged zeroW (wayN l k).age) ∧ ((wayN l k).state ≠ 0 → seti c (wayN l k).tag.toNat = s ∧ find c (wayN l k).tag.toNat = some k)
def FineP (c : Cache) (s : Nat) (l : List Way) : Prop := 1 ≤ l.length ∧ l.length ≤ 4 ∧ ∀ k, k < l.length → FineK c s l k
def seenB (l : List Way) (k j : Nat) : Bool := (List.range k).any fun i => (wayN l i).age == (j : Int)
def seenT (l : List Way) (k : Nat) : List T := (List.range l.length).map fun j => T.bool (seenB l k j)
theorem seen_len (l : List Way) (k : Nat) : (seenT l k).length = l.length := by unfold seenT; rw [List.length_map, List.length_range]
theorem seen_get (l : List Way) (k j : Nat) (h : j < l.length) : (seenT l k)[j]? = some (.bool (seenB l k j)) := by
  unfold seenT; rw [List.getElem?_map, List.getElem?_range h]; rfl
theorem seenB_iff (l : List Way) (k j : Nat) : seenB l k j = true ↔ ∃ i, i < k ∧ (wayN l i).age = (j : Int) := by
  unfold seenB
  rw [List.any_eq_true]
  constructor
  · rintro ⟨i, hi, h⟩
    exact ⟨i, List.mem_range.mp hi, by simpa using h⟩
  · rintro ⟨i, hi, h⟩
    exact ⟨i, List.mem_range.mpr hi, by simp [h]⟩
theorem seen_succ (l : List Way) (k j : Nat) (h : j < l.length) (hk : (wayN l k).age = (j : Int)) : (seenT l k).set j (.bool true) = seenT l (k + 1) := by
  apply List.ext_getElem?
  intro q
  rw [List.getElem?_set, seen_len]
  by_cases hq : j = q
  · subst hq
    rw [if_pos rfl, if_pos h, seen_get l (k + 1) j h, (seenB_iff l (k + 1) j).mpr ⟨k, by omega, hk⟩]
  · rw [if_neg hq]
    by_cases hql : q < l.length
    · rw [seen_get l k q hql, seen_get l (k + 1) q hql]
      have : seenB l k q = seenB l (k + 1) q := by
        rw [Bool.eq_iff_iff, seenB_iff, seenB_iff]
        constructor
        · rintro ⟨i, hi, h⟩; exact ⟨i, by omega, h⟩
        · rintro ⟨i, hi, h⟩
          by_cases hik : i = k
          · subst hik; rw [hk] at h; omega
          · exact ⟨i, by omega, h⟩
      rw [this]
    · rw [List.getElem?_eq_none (by rw [seen_len]; omega), List.getElem?_eq_none (by rw [seen_len]; omega)]
theorem seen_zero (l : List Way) : (List.replicate l.length [T.bool false]).flatten = seenT l 0 := by
  have h : ∀ n : Nat, (List.replicate n [T.bool false]).flatten = List.replicate n (T.bool false) := by
    intro n
    induction n with
    | zero => rfl
    | succ m ih => rw [List.replicate_succ, List.flatten_cons, ih, List.replicate_succ]; rfl
  rw [h]
  apply List.ext_getElem?
  intro q
  by_cases hq : q < l.length
  · rw [seen_get l 0 q hq, List.getElem?_replicate, if_pos hq]; rfl
  · rw [List.getElem?_eq_none (by rw [List.length_replicate]; omega), List.getElem?_eq_none (by rw [seen_len]; omega)]
theorem eqL_asInt : ∀ x y : List T, eqL x y = true → x.map T.asInt = y.map T.asInt ∨ (∃ z ∈ x, ∀ k n, z ≠ .int k n)
  | [], [], _ => .inl rfl
  | a :: x, b :: y, h => by
    rw [eqL, Bool.and_eq_true] at h
    rcases eqL_asInt x y h.2 with h2 | ⟨z, hz, h2⟩
    · by_cases ha : ∃ k n, a = .int k n
      · obtain ⟨k, n, rfl⟩ := ha
        cases b <;> first | (have h1 := h.1; simp only [eq1, beq_iff_eq] at h1; subst h1; exact .inl (by simp only [List.map_cons, h2, T.asInt]); done) | (exact absurd h.1 (by simp [eq1]))
      · exact .inr ⟨a, List.mem_cons_self .., fun k n e => ha ⟨k, n, e⟩⟩
    · exact .inr ⟨z, List.mem_cons_of_mem _ hz, h2⟩
  | [], _ :: _, h => by simp [eqL] at h
  | _ :: _, [], h => by simp [eqL] at h
theorem dataT_asInt (l : List Int) : (dataT l).map T.asInt = l.map some := by rw [dataT_map, List.map_map]; rfl
theorem map_some_inj : ∀ {x y : List Int}, x.map some = y.map some → x = y
  | [], [], _ => rfl
  | a :: x, b :: y, h => by simp at h; rw [h.1, map_some_inj (x := x) (y := y) (by simpa using h.2)]
  | [], _ :: _, h => by simp at h
  | _ :: _, [], h => by simp at h
theorem eqL_way {w z : Way} (hw : w.wf) (hz : z.wf) (h : eqL w.enc z.enc = true) : w = z := by
  rcases eqL_asInt _ _ h with h | ⟨x, hx, h⟩
  · rw [enc_data, enc_data] at h
    simp only [List.map_cons, List.map_append, dataT_asInt, T.asInt, List.map_nil, List.cons.injEq, Option.some.injEq] at h
    obtain ⟨h1, h2, h3⟩ := h
    have hl : (w.data.map some).length = (z.data.map some).length := by rw [List.length_map, List.length_map, hw.2.2.1.1, hz.2.2.1.1]
    obtain ⟨h4, h5⟩ := List.append_inj h3 hl
    cases w; cases z
    simp only at h1 h2 h4 h5
    simp only [List.cons.injEq, Option.some.injEq, and_true] at h5
    rw [h1, h2, h5, map_some_inj h4]
  · obtain ⟨k, n, e⟩ := way_ints w x hx
    exact absurd e (h k n)
theorem fnd_first (l : List Way) (ln : Nat) : ∀ m k j, fnd l ln k m = some j → isAt ln (wayN l j) = true ∧ k ≤ j ∧ ∀ i, k ≤ i → i < j → isAt ln (wayN l i) = false
  | 0, _, _, h => by cases h
  | m + 1, k, j, h => by
    rw [fnd] at h
    by_cases hb : isAt ln ((l[k]?).getD default) = true
    · rw [if_pos hb] at h
      obtain rfl := Option.some.inj h
      exact ⟨hb, Nat.le_refl _, fun i h1 h2 => by omega⟩
    · rw [if_neg hb] at h
      obtain ⟨h1, h2, h3⟩ := fnd_first l ln m (k + 1) j h
      refine ⟨h1, by omega, fun i hi1 hi2 => ?_⟩
      by_cases hik : i = k
      · subst hik; exact (Bool.not_eq_true _).mp hb
      · exact h3 i (by omega) hi2
theorem fnd_has (l : List Way) (ln : Nat) : ∀ m k i, k ≤ i → i < k + m → isAt ln (wayN l i) = true → ∃ j, fnd l ln k m = some j
  | 0, _, _, h1, h2, _ => by omega
  | m + 1, k, i, h1, h2, h => by
    rw [fnd]
    by_cases hb : isAt ln ((l[k]?).getD default) = true
    · exact ⟨k, if_pos hb⟩
    · rw [if_neg hb]
      refine fnd_has l ln m (k + 1) i ?_ (by omega) h
      by_cases hik : i = k
      · subst hik; exact absurd h hb
      · omega
/-- What the program asks of a way that holds a line. -/
theorem find_self (c : Cache) (s : Nat) (hs : s < c.sets.length) (k ln : Nat) (hk : k < (row c s).length) (hln : (wayN (row c s) k).tag = (ln : Int)) (hst : (wayN (row c s) k).state ≠ 0) (hse : seti c ln = s) : ∃ j, find c ln = some j := by
  unfold find
  rw [if_neg (by omega), hse]
  refine fnd_has _ _ _ 0 k (by omega) (by omega) ?_
  simp [isAt, hln, hst]
def fineLoop : ACode := match f48.body with | .seq _ (.seq _ (.seq _ (.seq _ (.seq (.seq _ (.block _ (.loop c))) _)))) => c | _ => .skip
def FnI (c : Cache) (f : Bool) (l : List Way) (s k : Nat) (st : St) : Prop := st.s.length = 99 ∧ rho st.s (.tmp 1) = .int .i64 (s : Int) ∧ rho st.s (.tmp 2) = .ptr 0 0 ∧ rho st.s (.tmp 5) = .imm f l.length (l.flatMap Way.enc) ∧ rho st.s (.tmp 6) = .own 18 0 l.length 1 ∧ rho st.s (.tmp 28) = .imm f l.length (l.flatMap Way.enc) ∧ rho st.s (.tmp 29) = .int .i64 (l.length : Int) ∧ st.g 0 = some [setsT c] ∧ 19 ≤ st.nx
theorem fine_loop (c : Cache) (hc : c.wf) (s : Nat) (hs : s < c.sets.length) (f : Bool) (l : List Way) (hl0 : l = row c s) (hlm : l.length ≤ 1000) (Q : AExit → St → Prop)
    (hQr : ∀ st : St, rho st.s (.tmp 4) = .bool false → ¬ (∀ k, k < l.length → FineK c s l k) → Q .ret st) (hQe : ∀ st : St, st.s.length = 99 → (∀ k, k < l.length → FineK c s l k) → Q (.exit 0) st) :
    ∀ (m : Nat) (st : St), (∃ k : Nat, FnI c f l s k st ∧ st.g 18 = some (seenT l k) ∧ rho st.s (.tmp 30) = .int .i64 (k : Int) ∧ k ≤ l.length ∧ m = l.length - k ∧ (∀ j, j < k → FineK c s l j)) → W ap (.loop fineLoop) st Q := by
  refine W_loop _ ?_
  rintro m st ⟨k, ⟨hl, h1, h2, h5, h6, h28, h29, g0, hnx⟩, g18, h30, hk, hm, hall⟩
  by_cases hend : k = l.length
  · have hlt : decide ((k : Int) < (l.length : Int)) = false := decide_eq_false (by omega)
    refine W_seqn (W_region (fun k => by simp (decide := true) (disch := first | omega | simp (decide := true) only [List.length_set, hl]) only [sims, autos, simprocAttr, h29, h30, hlt]; rfl) ⟨rfl, ?_⟩)
    refine W_seq (W_false (by simp (decide := true) (disch := first | omega | simp (decide := true) only [List.length_set, hl]) only [sims, autos, simprocAttr] <;> rfl) (W_exit ?_))
    refine (.inr ⟨by simp, .inr ⟨by simp, hQe _ ?_ (fun j hj => hall j (by omega))⟩⟩)
    simp (decide := true) (disch := first | omega | simp (decide := true) only [List.length_set, hl]) only [sims, autos, simprocAttr, hl]
  have hlt : decide ((k : Int) < (l.length : Int)) = true := decide_eq_true (by omega)
  have hkl : k < l.length := by omega
  have hrow := row_wf hc s hs
  have hlw : ∀ w ∈ l, w.wf := by rw [hl0]; exact hrow.2
  have hwk := wayN_wf hlw hkl
  have hcl := enc_len l hlw
  have hcw : cut (l.flatMap Way.enc) (k * 19) 19 = (wayN l k).enc := by rw [flat_cutM l (fun w h => way_len (hlw w h)) k hkl, wayN_eq hkl]
  have hwl := way_len hwk
  have hwlf := leaf_ints _ (way_ints (wayN l k))
  have hws := way_state (wayN l k)
  have hwt := way_tag (wayN l k)
  have hwa := way_age hwk
  have hcf1 := conf_way _ hwk
  have hagw := wf_i64 hwk.2.2.2
  have hcf2 := conf_way (aged zeroW (wayN l k).age) (aged_wf zeroW_wf hwk.2.2.2)
  have hzb := build_aged (wayN l k).age
  have hw2 : IntKind.i64.wrap ((k : Int) + 1) = ((k + 1 : Nat) : Int) := by rw [wrap_id (by omega)]; omega
  have htw := wf_u32 hwk.2.1
  obtain ⟨ln, hln⟩ : ∃ ln : Nat, (wayN l k).tag = (ln : Int) := ⟨(wayN l k).tag.toNat, by omega⟩
  have hlnb : ln ≤ 4294967295 := by omega
  have htn : (wayN l k).tag.toNat = ln := by omega
  have hFdef : FineK c s l k = (0 ≤ (wayN l k).age ∧ (wayN l k).age < l.length ∧ (∀ j, j < k → (wayN l j).age ≠ (wayN l k).age) ∧ 0 ≤ (wayN l k).state ∧ (wayN l k).state ≤ 3 ∧ ((wayN l k).state = 0 → wayN l k = aged zeroW (wayN l k).age) ∧ ((wayN l k).state ≠ 0 → seti c ln = s ∧ find c ln = some k)) := by unfold FineK; rw [htn]
  have bad : ¬ FineK c s l k → ¬ (∀ k, k < l.length → FineK c s l k) := fun h h' => h (h' k hkl)
  obtain ⟨N1, c15⟩ := (bus_find c hc ln hlnb).call ap58 (fun g => rfl)
  obtain ⟨N2, c37⟩ := (bus_set c hc ln hlnb).call ap63 (fun g => rfl)
  have q15 := c15 N1 (Nat.le_refl _)
  have q37 := c37 N2 (Nat.le_refl _)
  rw [if_neg (show ¬ c.sets.length = 0 by omega)] at q37
  have hself := find_self c s hs k ln (by rw [← hl0]; exact hkl)
  rw [← hl0] at hself
  have heqw : eqL (wayN l k).enc (aged zeroW (wayN l k).age).enc = true → wayN l k = aged zeroW (wayN l k).age := eqL_way hwk (aged_wf zeroW_wf hwk.2.2.2)
  have heqr : wayN l k = aged zeroW (wayN l k).age → eqL (wayN l k).enc (aged zeroW (wayN l k).age).enc = true := fun h => by rw [← h]; exact eq_way _
  have hcut : cut [setsT c] 0 1 = [setsT c] := rfl
  have hsl := seen_len l k
  have hzl : zeroW.enc.length = 19 := rfl
  have hzleaf := zenc_leaf
  have hsp : splice zeroW.enc 0 (wayN l k).enc = (wayN l k).enc := splice_all (by rw [hwl]; rfl)
  have hca : cut (wayN l k).enc 0 19 = (wayN l k).enc := cut_all hwl
  have hb2 : k * 19 + 19 ≤ l.length * 19 := by omega
  rw [hln] at hwt
  have hbody : fineLoop = fineLoop := rfl
  conv at hbody => rhs; simp only [fineLoop, f48]
  simp only [← zero_enc] at hbody
  rw [hbody]
  clear hbody
  generalize (aged zeroW (wayN l k).age).enc = za at *
  generalize how : (wayN l k).enc = ow at *
  generalize zeroW.enc = zc at *
  generalize hwsE : l.flatMap Way.enc = ws at *
  refine W_seqn (W_region (fun k => by simp (decide := true) (disch := first | omega | simp (decide := true) only [List.length_set, hl]) only [sims, autos, simprocAttr, h29, h30, hlt]; rfl) ⟨rfl, ?_⟩)
  refine W_seqn (W_true (by simp (decide := true) (disch := first | omega | simp (decide := true) only [List.length_set, hl]) only [sims, autos, simprocAttr] <;> rfl) (W_skip ⟨rfl, ?_⟩))
  refine W_seq ?_
  refine W_block ?_
  refine W_seqn (W_region (fun k => by simp (decide := true) (disch := first | omega | simp (decide := true) only [List.length_set, hl]) only [sims, autos, simprocAttr, hps, h28, h30, hkl, hcl, hb2, hcw, hwl, hwlf, hzl, hzleaf, hsp]; rfl) ⟨rfl, ?_⟩)
  refine W_abs (fun st => FnI c f l s k st ∧ st.g 18 = some (seenT l k) ∧ rho st.s (.tmp 7) = .int .i64 (k : Int) ∧ rho st.s (.tmp 30) = .int .i64 (k : Int) ∧ ∃ p, 19 ≤ p ∧ rho st.s (.tmp 8) = .ptr p 0 ∧ st.g p = some ow) ?_ ?_
  · refine ⟨⟨?_, ?_, ?_, ?_, ?_, ?_, ?_, ?_, ?_⟩, ?_, ?_, ?_, st.nx + 1 + 3, by omega, ?_, ?_⟩
    rotate_left 8
    · exact Nat.le_add_right_of_le (Nat.le_add_right_of_le hnx)
    all_goals first | (simp (decide := true) (disch := first | omega | simp (decide := true) only [List.length_set, hl]) only [sims, autos, simprocAttr, hps, hl, h1, h2, h5, h6, h28, h29, h30, g0, g18, hwsE]; done) | (simp (decide := true) (disch := first | omega | simp (decide := true) only [List.length_set, hl]) only [sims, autos, simprocAttr, hps, hl, h1, h2, h5, h6, h28, h29, h30, g0, g18, hwsE]; rfl)
  clear hl h1 h2 h5 h6 h28 h29 g0 hnx g18 h30
  rintro ⟨sl, g, nx⟩ ⟨⟨hl, h1, h2, h5, h6, h28, h29, g0, hnx⟩, g18, h7, h30, p, hp, h8, gp⟩
  simp only at hl h1 h2 h5 h6 h28 h29 g0 hnx g18 h7 h30 h8 gp
  rw [hwsE] at h5 h28
  have next : ∀ st' : St, (FnI c f l s k st' ∧ st'.g 18 = some (seenT l (k + 1)) ∧ rho st'.s (.tmp 30) = .int .i64 (k : Int)) → FineK c s l k → W ap (.region [⟨some 98, .bin .add (.tmp 30) (.con (.int .i64 1)), none⟩, ⟨some 30, .mv (.tmp 98), none⟩] []) st' (fun e s' => (e = .normal ∧ ∃ m', m' < m ∧ ∃ k : Nat, FnI c f l s k s' ∧ s'.g 18 = some (seenT l k) ∧ rho s'.s (.tmp 30) = .int .i64 (k : Int) ∧ k ≤ l.length ∧ m' = l.length - k ∧ (∀ j, j < k → FineK c s l j)) ∨ (e ≠ .normal ∧ Q e s')) := by
    rintro ⟨sl, g, nx⟩ ⟨⟨hl, h1, h2, h5, h6, h28, h29, g0, hnx⟩, g18, h30⟩ hF
    simp only at hl h1 h2 h5 h6 h28 h29 g0 hnx g18 h30
    refine W_region (fun k => by simp (decide := true) (disch := first | omega | simp (decide := true) only [List.length_set, hl]) only [sims, autos, simprocAttr, h30, hw2]; rfl) ?_
    refine .inl ⟨rfl, l.length - (k + 1), by omega, k + 1, ⟨?_, ?_, ?_, ?_, ?_, ?_, ?_, g0, by show 19 ≤ nx + 2; omega⟩, g18, ?_, by omega, rfl, fun j hj => ?_⟩
    rotate_right 1
    · by_cases hjk : j = k
      · subst hjk; exact hF
      · exact hall j (by omega)
    all_goals simp (decide := true) (disch := first | omega | simp (decide := true) only [List.length_set, hl]) only [sims, autos, simprocAttr, hl, h1, h2, h5, h6, h28, h29]
  by_cases ha0 : (wayN l k).age < 0
  · have d1 : decide ((wayN l k).age < 0) = true := decide_eq_true ha0
    refine W_seq (W_seqn (W_region (fun k => by simp (decide := true) (disch := first | omega | simp (decide := true) only [List.length_set, hl]) only [sims, autos, simprocAttr, hps, h8, gp, hwl, hwa, d1]; rfl) ⟨rfl, W_true (by simp (decide := true) (disch := first | omega | simp (decide := true) only [List.length_set, hl]) only [sims, autos, simprocAttr] <;> rfl) ?_⟩))
    refine W_seqn (W_region (fun k => by simp (decide := true) (disch := first | omega | simp (decide := true) only [List.length_set, hl]) only [sims, autos, simprocAttr]; rfl) ⟨rfl, W_ret ?_⟩)
    simp only [reduceCtorEq, false_and, false_or, or_false, exists_false, exists_const, ne_eq, not_false_eq_true, true_and, implies_true]
    refine hQr _ ?_ (bad (fun h => by rw [hFdef] at h; omega))
    simp (decide := true) (disch := first | omega | simp (decide := true) only [List.length_set, hl]) only [sims, autos, simprocAttr]
  have d1 : decide ((wayN l k).age < 0) = false := decide_eq_false ha0
  obtain ⟨j, hj⟩ : ∃ j : Nat, (wayN l k).age = (j : Int) := ⟨(wayN l k).age.toNat, by omega⟩
  by_cases ha1 : (wayN l k).age ≥ l.length
  · have d2 : decide ((wayN l k).age ≥ (l.length : Int)) = true := decide_eq_true ha1
    refine W_seq (W_seqn (W_region (fun k => by simp (decide := true) (disch := first | omega | simp (decide := true) only [List.length_set, hl]) only [sims, autos, simprocAttr, hps, h5, h8, gp, hwl, hwa, d1, d2]; rfl) ⟨rfl, W_true (by simp (decide := true) (disch := first | omega | simp (decide := true) only [List.length_set, hl]) only [sims, autos, simprocAttr] <;> rfl) ?_⟩))
    refine W_seqn (W_region (fun k => by simp (decide := true) (disch := first | omega | simp (decide := true) only [List.length_set, hl]) only [sims, autos, simprocAttr]; rfl) ⟨rfl, W_ret ?_⟩)
    simp only [reduceCtorEq, false_and, false_or, or_false, exists_false, exists_const, ne_eq, not_false_eq_true, true_and, implies_true]
    refine hQr _ ?_ (bad (fun h => by rw [hFdef] at h; omega))
    simp (decide := true) (disch := first | omega | simp (decide := true) only [List.length_set, hl]) only [sims, autos, simprocAttr]
  have d2 : decide ((wayN l k).age ≥ (l.length : Int)) = false := decide_eq_false ha1
  have hjl : j < l.length := by omega
  have hsg : (seenT l k)[j * 1]? = some (.bool (seenB l k j)) := by rw [Nat.mul_one]; exact seen_get l k j hjl
  have hsi := seenB_iff l k j
  have hss := seen_succ l k j hjl hj
  have hb3 : j * 1 + 1 ≤ l.length := by omega
  rw [hj] at d1 d2 hwa hagw
  have hfj : ∀ P : Prop, (FineK c s l k → P) → (¬ P → ¬ FineK c s l k) := fun P h1 h2 h3 => h2 (h1 h3)
  cases hsb : seenB l k j with
  | true =>
    rw [hsb] at hsg
    refine W_seq (W_seqn (W_region (fun k => by simp (decide := true) (disch := first | omega | simp (decide := true) only [List.length_set, hl]) only [sims, autos, simprocAttr, hps, h5, h6, h8, gp, g18, hsl, hwl, hwa, d1, d2, hjl, hb3, hsg]; rfl) ⟨rfl, W_true (by simp (decide := true) (disch := first | omega | simp (decide := true) only [List.length_set, hl]) only [sims, autos, simprocAttr] <;> rfl) ?_⟩))
    refine W_seqn (W_region (fun k => by simp (decide := true) (disch := first | omega | simp (decide := true) only [List.length_set, hl]) only [sims, autos, simprocAttr]; rfl) ⟨rfl, W_ret ?_⟩)
    simp only [reduceCtorEq, false_and, false_or, or_false, exists_false, exists_const, ne_eq, not_false_eq_true, true_and, implies_true]
    refine hQr _ ?_ (bad (fun h => by
      rw [hFdef] at h
      obtain ⟨i, hi, he⟩ := hsi.mp hsb
      exact h.2.2.1 i hi (by rw [he, hj])))
    simp (decide := true) (disch := first | omega | simp (decide := true) only [List.length_set, hl]) only [sims, autos, simprocAttr]
  | false =>
    rw [hsb] at hsg
    have hdist : ∀ i, i < k → (wayN l i).age ≠ (wayN l k).age := fun i hi he => by
      have := hsi.mpr ⟨i, hi, by rw [he, hj]⟩
      rw [hsb] at this; cases this
    by_cases hs0 : (wayN l k).state < 0
    · have d3 : decide ((wayN l k).state < 0) = true := decide_eq_true hs0
      refine W_seq (W_seqn (W_region (fun k => by simp (decide := true) (disch := first | omega | simp (decide := true) only [List.length_set, hl]) only [sims, autos, simprocAttr, hps, h5, h6, h8, gp, g18, hsl, hwl, hwa, hws, d1, d2, d3, hjl, hb3, hsg]; rfl) ⟨rfl, W_true (by simp (decide := true) (disch := first | omega | simp (decide := true) only [List.length_set, hl]) only [sims, autos, simprocAttr] <;> rfl) ?_⟩))
      refine W_seqn (W_region (fun k => by simp (decide := true) (disch := first | omega | simp (decide := true) only [List.length_set, hl]) only [sims, autos, simprocAttr]; rfl) ⟨rfl, W_ret ?_⟩)
      simp only [reduceCtorEq, false_and, false_or, or_false, exists_false, exists_const, ne_eq, not_false_eq_true, true_and, implies_true]
      refine hQr _ ?_ (bad (fun h => by rw [hFdef] at h; omega))
      simp (decide := true) (disch := first | omega | simp (decide := true) only [List.length_set, hl]) only [sims, autos, simprocAttr]
    have d3 : decide ((wayN l k).state < 0) = false := decide_eq_false hs0
    by_cases hs3 : (wayN l k).state > 3
    · have d4 : decide ((wayN l k).state > 3) = true := decide_eq_true hs3
      refine W_seq (W_seqn (W_region (fun k => by simp (decide := true) (disch := first | omega | simp (decide := true) only [List.length_set, hl]) only [sims, autos, simprocAttr, hps, h5, h6, h8, gp, g18, hsl, hwl, hwa, hws, d1, d2, d3, d4, hjl, hb3, hsg]; rfl) ⟨rfl, W_true (by simp (decide := true) (disch := first | omega | simp (decide := true) only [List.length_set, hl]) only [sims, autos, simprocAttr] <;> rfl) ?_⟩))
      refine W_seqn (W_region (fun k => by simp (decide := true) (disch := first | omega | simp (decide := true) only [List.length_set, hl]) only [sims, autos, simprocAttr]; rfl) ⟨rfl, W_ret ?_⟩)
      simp only [reduceCtorEq, false_and, false_or, or_false, exists_false, exists_const, ne_eq, not_false_eq_true, true_and, implies_true]
      refine hQr _ ?_ (bad (fun h => by rw [hFdef] at h; omega))
      simp (decide := true) (disch := first | omega | simp (decide := true) only [List.length_set, hl]) only [sims, autos, simprocAttr]
    have d4 : decide ((wayN l k).state > 3) = false := decide_eq_false hs3
    refine W_seqn (W_seqn (W_region (fun k => by simp (decide := true) (disch := first | omega | simp (decide := true) only [List.length_set, hl]) only [sims, autos, simprocAttr, hps, h5, h6, h8, gp, g18, hsl, hwl, hwa, hws, d1, d2, d3, d4, hjl, hb3, hsg]; rfl) ⟨rfl, W_false (by simp (decide := true) (disch := first | omega | simp (decide := true) only [List.length_set, hl]) only [sims, autos, simprocAttr] <;> rfl) (W_skip ⟨rfl, ?_⟩)⟩))
    have hb4 : j + 1 ≤ l.length := by omega
    have hleafb : allLeaf [T.bool true] = true := rfl
    refine W_seqn (W_region (fun k => by simp (decide := true) (disch := first | omega | simp (decide := true) only [List.length_set, hl]) only [sims, autos, simprocAttr, hps, h6, h8, gp, g18, hsl, hwl, hwa, hjl, hb3, hb4, hleafb, Nat.mul_one]; rfl) ⟨rfl, ?_⟩)
    refine W_abs (fun st => FnI c f l s k st ∧ st.g 18 = some (seenT l (k + 1)) ∧ rho st.s (.tmp 7) = .int .i64 (k : Int) ∧ rho st.s (.tmp 30) = .int .i64 (k : Int) ∧ rho st.s (.tmp 8) = .ptr p 0 ∧ st.g p = some ow) ?_ ?_
    · refine ⟨⟨?_, ?_, ?_, ?_, ?_, ?_, ?_, ?_, ?_⟩, ?_, ?_, ?_, ?_, ?_⟩
      rotate_left 8
      · exact Nat.le_add_right_of_le (Nat.le_add_right_of_le hnx)
      all_goals first | (simp (decide := true) (disch := first | omega | simp (decide := true) only [List.length_set, hl]) only [sims, autos, simprocAttr, hps, hl, h1, h2, h5, h6, h7, h8, h28, h29, h30, g0, g18, gp, hss, hwsE]; done) | (simp (decide := true) (disch := first | omega | simp (decide := true) only [List.length_set, hl]) only [sims, autos, simprocAttr, hps, hl, h1, h2, h5, h6, h7, h8, h28, h29, h30, g0, g18, gp, hss, hwsE]; rfl)
    clear hl h1 h2 h5 h6 h7 h8 h28 h29 g0 hnx g18 h30 gp
    rintro ⟨sl, g, nx⟩ ⟨⟨hl, h1, h2, h5, h6, h28, h29, g0, hnx⟩, g18, h7, h30, h8, gp⟩
    simp only at hl h1 h2 h5 h6 h28 h29 g0 hnx g18 h7 h30 h8 gp
    rw [hwsE] at h5 h28
    by_cases hz : (wayN l k).state = 0
    · have e1 : ((wayN l k).state == 0) = true := by simp [hz]
      have hzb' : zc.set 18 (.int .i64 (j : Int)) = za := by rw [← hj]; exact hzb
      cases hq : eqL ow za with
      | false =>
        refine W_seq (W_seqn (W_region (fun k => by simp (decide := true) (disch := first | omega | simp (decide := true) only [List.length_set, hl]) only [sims, autos, simprocAttr, hps, h8, gp, hwl, hws, hwa, hca, e1, hzl, hzb', hcf1, hcf2, hq]; rfl) ⟨rfl, W_true (by simp (decide := true) (disch := first | omega | simp (decide := true) only [List.length_set, hl]) only [sims, autos, simprocAttr] <;> rfl) ?_⟩))
        refine W_seqn (W_region (fun k => by simp (decide := true) (disch := first | omega | simp (decide := true) only [List.length_set, hl]) only [sims, autos, simprocAttr]; rfl) ⟨rfl, W_ret ?_⟩)
        simp only [reduceCtorEq, false_and, false_or, or_false, exists_false, exists_const, ne_eq, not_false_eq_true, true_and, implies_true]
        refine hQr _ ?_ (bad (fun h => by
          rw [hFdef] at h
          have := heqr (h.2.2.2.2.2.1 hz)
          rw [hq] at this; cases this))
        simp (decide := true) (disch := first | omega | simp (decide := true) only [List.length_set, hl]) only [sims, autos, simprocAttr]
      | true =>
        refine W_seqn (W_seqn (W_region (fun k => by simp (decide := true) (disch := first | omega | simp (decide := true) only [List.length_set, hl]) only [sims, autos, simprocAttr, hps, h8, gp, hwl, hws, hwa, hca, e1, hzl, hzb', hcf1, hcf2, hq]; rfl) ⟨rfl, W_false (by simp (decide := true) (disch := first | omega | simp (decide := true) only [List.length_set, hl]) only [sims, autos, simprocAttr] <;> rfl) (W_skip ⟨rfl, ?_⟩)⟩))
        refine W_seq (W_seqn (W_region (fun k => by simp (decide := true) (disch := first | omega | simp (decide := true) only [List.length_set, hl]) only [sims, autos, simprocAttr, hps, h8, gp, hwl, hws, e1]; rfl) ⟨rfl, W_true (by simp (decide := true) (disch := first | omega | simp (decide := true) only [List.length_set, hl]) only [sims, autos, simprocAttr] <;> rfl) (W_exit ?_)⟩))
        refine .inr ⟨by simp, .inl ⟨rfl, .inl ⟨rfl, ?_⟩⟩⟩
        refine next _ ⟨⟨?_, ?_, ?_, ?_, ?_, ?_, ?_, g0, ?_⟩, g18, ?_⟩ ?_
        rotate_right 1
        · rw [hFdef]
          exact ⟨by omega, by omega, hdist, by omega, by omega, fun _ => heqw hq, fun h => absurd hz h⟩
        rotate_left 7
        · exact Nat.le_add_right_of_le (Nat.le_add_right_of_le hnx)
        all_goals first | (simp (decide := true) (disch := first | omega | simp (decide := true) only [List.length_set, hl]) only [sims, autos, simprocAttr, hps, hl, h1, h2, h5, h6, h28, h29, h30, hwsE]; done) | (simp (decide := true) (disch := first | omega | simp (decide := true) only [List.length_set, hl]) only [sims, autos, simprocAttr, hps, hl, h1, h2, h5, h6, h28, h29, h30, hwsE]; rfl)
    · have e1 : ((wayN l k).state == 0) = false := beq_eq_false_iff_ne.mpr hz
      refine W_seqn (W_seqn (W_region (fun k => by simp (decide := true) (disch := first | omega | simp (decide := true) only [List.length_set, hl]) only [sims, autos, simprocAttr, hps, h8, gp, hwl, hws, e1]; rfl) ⟨rfl, W_false (by simp (decide := true) (disch := first | omega | simp (decide := true) only [List.length_set, hl]) only [sims, autos, simprocAttr] <;> rfl) (W_skip ⟨rfl, ?_⟩)⟩))
      refine W_seqn (W_seqn (W_region (fun k => by simp (decide := true) (disch := first | omega | simp (decide := true) only [List.length_set, hl]) only [sims, autos, simprocAttr, hps, h8, gp, hwl, hws, e1]; rfl) ⟨rfl, W_false (by simp (decide := true) (disch := first | omega | simp (decide := true) only [List.length_set, hl]) only [sims, autos, simprocAttr] <;> rfl) (W_skip ⟨rfl, ?_⟩)⟩))
      have hb5 : 1 + 1 ≤ ow.length := by omega
      obtain ⟨x, y, r, hft⟩ := findT_some c ln
      rw [hft] at q15
      refine W_seqn (W_regionN ⟨N1, by simp (decide := true) (disch := first | omega | simp (decide := true) only [List.length_set, hl]) only [sims, autos, simprocAttr, hps, h2, h8, g0, gp, hcut, hwl, hwt, ap58, p58, n58, q15]; rfl⟩ ⟨rfl, ?_⟩)
      by_cases hse : seti c ln = s
      · have e2 : ((seti c ln : Int) != (s : Int)) = false := by simp [hse]
        obtain ⟨j2, hf2⟩ := hself hln hz hse
        have hy : y = (j2 : Int) := by
          rw [findT_is c ln j2 hf2] at hft
          injection hft with hft
          injection hft with _ hft
          injection hft with hft _
          injection hft with _ hft
          exact hft.symm
        by_cases hjk : j2 = k
        · have e3 : (y != (k : Int)) = false := by simp [hy, hjk]
          refine W_seqn (W_regionN ⟨N2, by simp (decide := true) (disch := first | omega | simp (decide := true) only [List.length_set, hl]) only [sims, autos, simprocAttr, hps, h1, h2, h7, h8, g0, gp, hcut, hwl, hwt, ap63, p63, n63, q37, e2, e3]; rfl⟩ ⟨rfl, W_false (by simp (decide := true) (disch := first | omega | simp (decide := true) only [List.length_set, hl]) only [sims, autos, simprocAttr] <;> rfl) (W_skip ?_)⟩)
          refine .inr (.inl ⟨by simp, .inl ⟨rfl, ?_⟩⟩)
          refine next _ ⟨⟨?_, ?_, ?_, ?_, ?_, ?_, ?_, g0, ?_⟩, g18, ?_⟩ ?_
          rotate_right 1
          · rw [hFdef]
            exact ⟨by omega, by omega, hdist, by omega, by omega, fun h => absurd h hz, fun _ => ⟨hse, by rw [hf2, hjk]⟩⟩
          rotate_left 7
          · exact Nat.le_add_right_of_le (Nat.le_add_right_of_le (Nat.le_add_right_of_le (Nat.le_add_right_of_le hnx)))
          all_goals first | (simp (decide := true) (disch := first | omega | simp (decide := true) only [List.length_set, hl]) only [sims, autos, simprocAttr, hps, hl, h1, h2, h5, h6, h28, h29, h30, hwsE]; done) | (simp (decide := true) (disch := first | omega | simp (decide := true) only [List.length_set, hl]) only [sims, autos, simprocAttr, hps, hl, h1, h2, h5, h6, h28, h29, h30, hwsE]; rfl)
        · have e3 : (y != (k : Int)) = true := by simp [hy]; omega
          refine W_seqn (W_regionN ⟨N2, by simp (decide := true) (disch := first | omega | simp (decide := true) only [List.length_set, hl]) only [sims, autos, simprocAttr, hps, h1, h2, h7, h8, g0, gp, hcut, hwl, hwt, ap63, p63, n63, q37, e2, e3]; rfl⟩ ⟨rfl, W_true (by simp (decide := true) (disch := first | omega | simp (decide := true) only [List.length_set, hl]) only [sims, autos, simprocAttr] <;> rfl) ?_⟩)
          refine W_seqn (W_region (fun k => by simp (decide := true) (disch := first | omega | simp (decide := true) only [List.length_set, hl]) only [sims, autos, simprocAttr]; rfl) ⟨rfl, W_ret ?_⟩)
          simp only [reduceCtorEq, false_and, false_or, or_false, exists_false, exists_const, ne_eq, not_false_eq_true, true_and, implies_true]
          refine hQr _ ?_ (bad (fun h => by
            rw [hFdef] at h
            have := (h.2.2.2.2.2.2 hz).2
            rw [hf2] at this
            exact hjk (Option.some.inj this)))
          simp (decide := true) (disch := first | omega | simp (decide := true) only [List.length_set, hl]) only [sims, autos, simprocAttr]
      · have e2 : ((seti c ln : Int) != (s : Int)) = true := by simp; omega
        refine W_seqn (W_regionN ⟨N2, by simp (decide := true) (disch := first | omega | simp (decide := true) only [List.length_set, hl]) only [sims, autos, simprocAttr, hps, h1, h2, h7, h8, g0, gp, hcut, hwl, hwt, ap63, p63, n63, q37, e2]; rfl⟩ ⟨rfl, W_true (by simp (decide := true) (disch := first | omega | simp (decide := true) only [List.length_set, hl]) only [sims, autos, simprocAttr] <;> rfl) ?_⟩)
        refine W_seqn (W_region (fun k => by simp (decide := true) (disch := first | omega | simp (decide := true) only [List.length_set, hl]) only [sims, autos, simprocAttr]; rfl) ⟨rfl, W_ret ?_⟩)
        simp only [reduceCtorEq, false_and, false_or, or_false, exists_false, exists_const, ne_eq, not_false_eq_true, true_and, implies_true]
        refine hQr _ ?_ (bad (fun h => by
          rw [hFdef] at h
          exact hse (h.2.2.2.2.2.2 hz).1))
        simp (decide := true) (disch := first | omega | simp (decide := true) only [List.length_set, hl]) only [sims, autos, simprocAttr]
end Go.Proofs.Ytikeeegkndnnfaa.Abs
