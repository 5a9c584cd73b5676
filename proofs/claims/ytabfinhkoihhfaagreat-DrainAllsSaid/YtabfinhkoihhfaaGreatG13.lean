/- Words of other seats' texts, as they are used here: Set2. -/
import Derived.Test.YtabfinhkoihhfaaGreatG12
namespace Go.Proofs.YtabfinhkoihhfaaGreat.Abs
open Go Go.RowKit Fn
set_option linter.unusedVariables false
set_option linter.unusedSimpArgs false
set_option linter.unnecessarySimpa false
set_option maxRecDepth 100000
set_option maxHeartbeats 4000000

theorem copy_leaf {g : Mem} {v : T} {R : List (List Way)} {lo hi n : Nat} (h : CopyAt g v R lo hi n) : allLeaf [v] = true := by
  rcases h with ⟨_, e⟩ | ⟨_, A, _, _, e, _⟩ <;> (subst e; rfl)
theorem fin_fillC {F : AFun} {t1 t2 p1 p2 : Nat} {x y : T} {w : Way} (hF : F.res = [.cell t1 false 1, .cell t2 false 19]) (hw : w.wf) {s : List T} {g : Mem} {nx : Nat} {ids : List Nat} (hx : frz ⟨g, nx⟩ 11 (.agg [x]) = some (y, ids)) (h1 : rho s (.tmp t1) = .ptr p1 0) (h2 : rho s (.tmp t2) = .ptr p2 0) (g1 : g p1 = some [x]) (g2 : g p2 = some w.enc) : ∃ u ids, resT s g F.res = some u ∧ frz ⟨g, nx⟩ frzDepth u = some (.tup [y, .agg w.enc], ids) := by
  have hl := way_len hw
  have hc : cut w.enc 0 19 = w.enc := cut_all hl
  have hb : (19 : Nat) ≤ w.enc.length := by omega
  refine ⟨.tup [.agg [x], .agg w.enc], ids ++ ([] ++ []), ?_, ?_⟩
  · rw [hF]
    have hc1 : cut [x] 0 1 = [x] := rfl
    simp +decide only [resT, resL, resOne, opRes, h1, h2, g1, g2, hc, hc1, hb, Nat.zero_add, List.length_cons, List.length_nil, if_true, Bool.false_eq_true, if_false]
  · have e1 : frz ⟨g, nx⟩ 11 (.agg w.enc) = some (.agg w.enc, []) := by
      show frz ⟨g, nx⟩ (10 + 1) _ = _
      rw [frz]
      simp only [frzAll_int (d := 9) w.enc (way_ints w)]
    show frz ⟨g, nx⟩ (11 + 1) _ = _
    rw [frz]
    simp only [frzAll, e1, hx, List.append_nil]
theorem ref_fill_bad (c : Cache) (hc : c.wf) (hfit : Fit c.sets) (ln : Nat) (hln : ln ≤ 4294967295) (st : Int) (data : List Int) (hd : data.length = 16) (hbad : st < 1 ∨ st > 3 ∨ Bad c.sets ((victim c ln).1 : Int) ((victim c ln).2 : Int)) :
    ∃ v, E ap 82 [.agg [setsT c], .int .u32 (ln : Int), .int .i64 st, .agg (dataT data)] v ∧ ∃ u, v = .tup [u, .agg zeroW.enc] ∧ CacheOf c.sets u := by
  refine E_bodyV (F := f82) rfl rfl rfl (P := fun v => ∃ u, v = .tup [u, .agg zeroW.enc] ∧ CacheOf c.sets u) ?_
  generalize hs0 : (_ : List T) ++ List.replicate _ T.undef = s0
  have e0 : s0.length = 74 ∧ rho s0 (.tmp 0) = .agg [setsT c] ∧ rho s0 (.tmp 1) = .int .u32 (ln : Int) ∧ rho s0 (.tmp 2) = .int .i64 st ∧ rho s0 (.tmp 3) = .agg (dataT data) := by subst hs0; exact ⟨rfl, rfl, rfl, rfl, rfl⟩
  clear hs0
  obtain ⟨hl, h0, h1, h2, h3⟩ := e0
  have hx := tells_cache c
  have hsc : setsT c = .imm false c.sets.length (c.sets.flatMap (fun l => [rowT l])) := rfl
  obtain ⟨N2, c18⟩ := (ref_victim c hc ln hln).call ap104 (fun g => rfl)
  have q18 := c18 N2 (Nat.le_refl _)
  have hvt : victT c ln = .tup [.int .i64 ((victim c ln).1 : Int), .int .i64 ((victim c ln).2 : Int)] := rfl
  rw [hvt] at q18
  rw [hsc] at h0 q18
  clear hvt c18
  generalize hX : c.sets.flatMap (fun l => [rowT l]) = xs at *
  generalize ((victim c ln).1 : Int) = i at *
  generalize ((victim c ln).2 : Int) = k at *
  have hleaf : allLeaf [T.imm false c.sets.length xs] = true := rfl
  have hcut : cut [T.imm false c.sets.length xs] 0 1 = [T.imm false c.sets.length xs] := rfl
  have hdl := leaf_ints _ (data_ints data)
  have hzl : zeroW.enc.length = 19 := rfl
  have hzleaf := zenc_leaf
  have hzs : splice zeroW.enc 0 zeroW.enc = zeroW.enc := splice_all rfl
  have hbody : f82.body = f82.body := rfl
  conv at hbody => rhs; simp only [f82]
  simp only [← zero_enc] at hbody
  rw [hbody]
  have hfin : ∀ (x y : T) {s : List T} {g : Mem} {nx : Nat} {ids : List Nat}, frz ⟨g, nx⟩ 11 (.agg [x]) = some (y, ids) → rho s (.tmp 8) = .ptr 2 0 → rho s (.tmp 9) = .ptr 3 0 → g 2 = some [x] → g 3 = some zeroW.enc → ∃ u ids, resT s g f82.res = some u ∧ frz ⟨g, nx⟩ frzDepth u = some (.tup [y, .agg zeroW.enc], ids) := fun x y _ _ _ _ hx a b c d => fin_fillC (F := f82) (t1 := 8) (t2 := 9) rfl zeroW_wf hx a b c d
  generalize zeroW.enc = zc at *
  generalize dataT data = dc at *
  refine W_seqn (W_region (fun k => by simp +decide (disch := first | omega | simp +decide [hl]) only [s9, simprocAttr, h0, h3, hleaf, hdl, hzleaf]; rfl) ⟨rfl, ?_⟩)
  refine W_seqn (W_regionN ⟨N2, by simp +decide (disch := first | omega | simp +decide [hl]) only [s9, simprocAttr, h1, hcut, ap104, p104, n104, q18]; rfl⟩ ⟨rfl, ?_⟩)
  have tail : ∀ st' : St, (st'.s.length = 74 ∧ rho st'.s (.tmp 4) = .ptr 0 0 ∧ rho st'.s (.tmp 8) = .ptr 2 0 ∧ rho st'.s (.tmp 9) = .ptr 3 0 ∧ st'.g 0 = some [.imm false c.sets.length xs] ∧ st'.g 2 = some [.imm true 0 []] ∧ st'.g 3 = some zc ∧ st'.nx = 25) → W ap (.seq (.region [⟨some 33, .load false 1 (.tmp 4), none⟩, ⟨some 34, .call 59 [(.tmp 33)], none⟩, ⟨some 35, .build zc [], none⟩, ⟨none, .store 1 (.tmp 8) (.tmp 34), none⟩, ⟨none, .store 19 (.tmp 9) (.tmp 35), none⟩] []) .ret) st' (fun e s => e = .ret ∧ ∃ v, (∃ u, v = .tup [u, .agg zc] ∧ CacheOf c.sets u) ∧ ∃ u ids, resT s.s s.g f82.res = some u ∧ frz ⟨s.g, s.nx⟩ frzDepth u = some (v, ids)) := by
    rintro ⟨s, g, nx⟩ ⟨hl, h4, h8, h9, g0, g2, g3, hnx⟩
    simp only at hl h4 h8 h9 g0 g2 g3 hnx
    subst hnx
    obtain ⟨N, v, g', nx', hN, c', rfl, hC, hg', hnx'⟩ := copied_run false c.sets xs hx hfit.big.1 hfit.big.2 g (25 + 5)
    have q41 := hN N (Nat.le_refl _)
    have w2 : g' 2 = some [.imm true 0 []] := by rw [hg' 2 (by omega)]; exact g2
    have w3 : g' 3 = some zc := by rw [hg' 3 (by omega)]; exact g3
    have hcl := copy_leaf hC
    refine W_seqn (W_regionN ⟨N, by simp +decide (disch := first | omega | simp +decide [hl]) only [s9, simprocAttr, evI, h4, h8, h9, g0, hcut, ap59, p59, n59, q41, w2, w3, hcl, hzl, hzleaf, hzs]; rfl⟩ ⟨rfl, W_ret ?_⟩)
    have hC2 : CopyAt (put1 (put1 g' (2, some [c'])) (3, some zc)) c' c.sets (25 + 5) nx' c.sets.length := hC.mono (Nat.le_refl _) (fun t ht1 ht2 => by rw [put1_ne (by omega), put1_ne (by omega)])
    obtain ⟨f, ys, ids, e1, e2⟩ := frz_copy (nx := nx') (d := 7) (fun l h => (hfit.2 l h).2) hC2
    refine ⟨rfl, _, ⟨_, rfl, f, ys, rfl, e2⟩, hfin _ _ e1 ?_ ?_ ?_ ?_⟩
    · simp +decide (disch := first | omega | simp +decide [hl]) only [s8, simprocAttr, h8]
    · simp +decide (disch := first | omega | simp +decide [hl]) only [s8, simprocAttr, h9]
    · simp +decide (disch := first | omega | simp +decide [hl]) only [s9, simprocAttr]
    · simp +decide (disch := first | omega | simp +decide [hl]) only [s9, simprocAttr]
  rcases hbad with hb | hb | hb
  · have d1 : decide (st < 1) = true := decide_eq_true hb
    refine W_seq (W_seqn (W_region (fun k => by simp +decide (disch := first | omega | simp +decide [hl]) only [s9, simprocAttr, h2, d1]; rfl) ⟨rfl, W_tru ?_⟩))
    refine (tail _ ⟨by simp +decide (disch := first | omega | simp +decide [hl]) only [s9, simprocAttr, hl], by simp +decide (disch := first | omega | simp +decide [hl]) only [s9, simprocAttr], by simp +decide (disch := first | omega | simp +decide [hl]) only [s9, simprocAttr], by simp +decide (disch := first | omega | simp +decide [hl]) only [s9, simprocAttr], by simp +decide (disch := first | omega | simp +decide [hl]) only [s9, simprocAttr], by simp +decide (disch := first | omega | simp +decide [hl]) only [s9, simprocAttr], by simp +decide (disch := first | omega | simp +decide [hl]) only [s9, simprocAttr], by show (0 + 4 + 8 + 13 : Nat) = 25; rfl⟩).mono ?_
    rintro e s ⟨rfl, h⟩
    simp only [reduceCtorEq, false_and, false_or, or_false, exists_false, exists_const, ne_eq, not_false_eq_true, true_and, implies_true]
    exact ⟨rfl, h⟩
  · have d1 : decide (st < 1) = false := decide_eq_false (by omega)
    have d2 : decide (st > 3) = true := decide_eq_true hb
    refine W_seq (W_seqn (W_region (fun k => by simp +decide (disch := first | omega | simp +decide [hl]) only [s9, simprocAttr, h2, d1, d2]; rfl) ⟨rfl, W_tru ?_⟩))
    refine (tail _ ⟨by simp +decide (disch := first | omega | simp +decide [hl]) only [s9, simprocAttr, hl], by simp +decide (disch := first | omega | simp +decide [hl]) only [s9, simprocAttr], by simp +decide (disch := first | omega | simp +decide [hl]) only [s9, simprocAttr], by simp +decide (disch := first | omega | simp +decide [hl]) only [s9, simprocAttr], by simp +decide (disch := first | omega | simp +decide [hl]) only [s9, simprocAttr], by simp +decide (disch := first | omega | simp +decide [hl]) only [s9, simprocAttr], by simp +decide (disch := first | omega | simp +decide [hl]) only [s9, simprocAttr], by show (0 + 4 + 8 + 13 : Nat) = 25; rfl⟩).mono ?_
    rintro e s ⟨rfl, h⟩
    simp only [reduceCtorEq, false_and, false_or, or_false, exists_false, exists_const, ne_eq, not_false_eq_true, true_and, implies_true]
    exact ⟨rfl, h⟩
  · by_cases hst : st < 1
    · have d1 : decide (st < 1) = true := decide_eq_true hst
      refine W_seq (W_seqn (W_region (fun k => by simp +decide (disch := first | omega | simp +decide [hl]) only [s9, simprocAttr, h2, d1]; rfl) ⟨rfl, W_tru ?_⟩))
      refine (tail _ ⟨by simp +decide (disch := first | omega | simp +decide [hl]) only [s9, simprocAttr, hl], by simp +decide (disch := first | omega | simp +decide [hl]) only [s9, simprocAttr], by simp +decide (disch := first | omega | simp +decide [hl]) only [s9, simprocAttr], by simp +decide (disch := first | omega | simp +decide [hl]) only [s9, simprocAttr], by simp +decide (disch := first | omega | simp +decide [hl]) only [s9, simprocAttr], by simp +decide (disch := first | omega | simp +decide [hl]) only [s9, simprocAttr], by simp +decide (disch := first | omega | simp +decide [hl]) only [s9, simprocAttr], by show (0 + 4 + 8 + 13 : Nat) = 25; rfl⟩).mono ?_
      rintro e s ⟨rfl, h⟩
      simp only [reduceCtorEq, false_and, false_or, or_false, exists_false, exists_const, ne_eq, not_false_eq_true, true_and, implies_true]
      exact ⟨rfl, h⟩
    · have d1 : decide (st < 1) = false := decide_eq_false hst
      by_cases hst2 : st > 3
      · have d2 : decide (st > 3) = true := decide_eq_true hst2
        refine W_seq (W_seqn (W_region (fun k => by simp +decide (disch := first | omega | simp +decide [hl]) only [s9, simprocAttr, h2, d1, d2]; rfl) ⟨rfl, W_tru ?_⟩))
        refine (tail _ ⟨by simp +decide (disch := first | omega | simp +decide [hl]) only [s9, simprocAttr, hl], by simp +decide (disch := first | omega | simp +decide [hl]) only [s9, simprocAttr], by simp +decide (disch := first | omega | simp +decide [hl]) only [s9, simprocAttr], by simp +decide (disch := first | omega | simp +decide [hl]) only [s9, simprocAttr], by simp +decide (disch := first | omega | simp +decide [hl]) only [s9, simprocAttr], by simp +decide (disch := first | omega | simp +decide [hl]) only [s9, simprocAttr], by simp +decide (disch := first | omega | simp +decide [hl]) only [s9, simprocAttr], by show (0 + 4 + 8 + 13 : Nat) = 25; rfl⟩).mono ?_
        rintro e s ⟨rfl, h⟩
        simp only [reduceCtorEq, false_and, false_or, or_false, exists_false, exists_const, ne_eq, not_false_eq_true, true_and, implies_true]
        exact ⟨rfl, h⟩
      · have d2 : decide (st > 3) = false := decide_eq_false hst2
        obtain ⟨N3, c42⟩ := (is_bad false c.sets xs hx i k hb).call ap86 (fun g => rfl)
        have q42 := c42 N3 (Nat.le_refl _)
        refine W_seq (W_seqn (W_regionN ⟨N3, by simp +decide (disch := first | omega | simp +decide [hl]) only [s9, simprocAttr, h2, d1, d2, hcut, ap86, p86, n86, q42]; rfl⟩ ⟨rfl, W_tru ?_⟩))
        refine (tail _ ⟨by simp +decide (disch := first | omega | simp +decide [hl]) only [s9, simprocAttr, hl], by simp +decide (disch := first | omega | simp +decide [hl]) only [s9, simprocAttr], by simp +decide (disch := first | omega | simp +decide [hl]) only [s9, simprocAttr], by simp +decide (disch := first | omega | simp +decide [hl]) only [s9, simprocAttr], by simp +decide (disch := first | omega | simp +decide [hl]) only [s9, simprocAttr], by simp +decide (disch := first | omega | simp +decide [hl]) only [s9, simprocAttr], by simp +decide (disch := first | omega | simp +decide [hl]) only [s9, simprocAttr], by show (0 + 4 + 8 + 13 : Nat) = 25; rfl⟩).mono ?_
        rintro e s ⟨rfl, h⟩
        simp only [reduceCtorEq, false_and, false_or, or_false, exists_false, exists_const, ne_eq, not_false_eq_true, true_and, implies_true]
        exact ⟨rfl, h⟩
theorem rows_copyP {g : Mem} {v : T} {R : List (List Way)} {lo hi : Nat} (h : CopyAt g v R lo hi R.length) (h0 : 0 < R.length) : ∃ (A : Nat) (els : List T) (bf : Nat → Nat), v = .own A 0 R.length 1 ∧ g A = some els ∧ lo < A ∧ els.length = R.length ∧ ∀ j (hj : j < R.length), els[j]? = some (.own (bf j) 0 R[j].length 19) ∧ g (bf j) = some (R[j].flatMap Way.enc) ∧ lo ≤ bf j ∧ bf j < A ∧ ∀ k, k < R.length → j ≠ k → bf j ≠ bf k := by
  rcases h with ⟨h, _⟩ | ⟨_, A, els, bf, h1, h2, h3, h4, h5, h6⟩
  · omega
  · refine ⟨A, els, bf, h1, h2, by obtain ⟨_, _, a, b, _⟩ := h6 0 h0; omega, h3, fun j hj => ?_⟩
    obtain ⟨a, b, c, d, e⟩ := h6 j hj
    unfold rowN at a b
    rw [List.getElem?_eq_getElem hj, Option.getD_some] at a b
    refine ⟨a, b, c, d, fun k hk hjk => ?_⟩
    rcases Nat.lt_or_gt_of_ne hjk with h | h
    · have := e k h hk; omega
    · have := (h6 k hk).2.2.2.2 j h hj; omega
theorem rowsAt_set {P : Nat → Prop} {g g' : Mem} {R : List (List Way)} {els : List T} {bf : Nat → Nat} (hel : els.length = R.length) (hr : ∀ j (hj : j < R.length), els[j]? = some (.own (bf j) 0 R[j].length 19) ∧ g (bf j) = some (R[j].flatMap Way.enc) ∧ P (bf j) ∧ ∀ k, k < R.length → j ≠ k → bf j ≠ bf k) (i : Nat) (hi : i < R.length) (l : List Way) (hl : l.length = R[i].length) (hg : g' (bf i) = some (l.flatMap Way.enc)) (hg' : ∀ j, j < R.length → j ≠ i → g' (bf j) = g (bf j)) : RowsAtP P g' els (R.set i l) := by
  refine ⟨by rw [List.length_set]; exact hel, fun j hj => ?_⟩
  rw [List.length_set] at hj
  obtain ⟨a1, a2, a3, a4⟩ := hr j hj
  by_cases hij : i = j
  · subst hij
    exact ⟨bf i, a3, by rw [a1, List.getElem_set_self, hl], by rw [List.getElem_set_self]; exact hg⟩
  · exact ⟨bf j, a3, by rw [List.getElem_set_ne hij]; exact a1, by rw [List.getElem_set_ne hij, hg' j hj (fun e => hij e.symm)]; exact a2⟩
theorem build_fill (old : Way) (ln : Nat) (st : Int) (data : List Int) (hd : data.length = 16) : (splice ((zeroW.enc.set 0 (.int .i64 st)).set 1 (.int .u32 (ln : Int))) 2 (dataT data)).set 18 (.int .i64 old.age) = (fillW old ln st data).enc := by
  have hdl : (dataT data).length = 16 := by rw [data_len]; exact hd
  have e : (zeroW.enc.set 0 (.int .i64 st)).set 1 (.int .u32 (ln : Int)) = [T.int .i64 st, T.int .u32 (ln : Int)] ++ (dataT (List.replicate 16 0) ++ [T.int .i64 0]) := rfl
  rw [e]
  have h := splice_mid (dataT data) [T.int .i64 st, T.int .u32 (ln : Int)] (dataT (List.replicate 16 0)) [T.int .i64 0] (by rw [hdl]; rfl)
  rw [show ([T.int .i64 st, T.int .u32 (ln : Int)]).length = 2 from rfl] at h
  rw [h, List.set_append_right _ _ (by simp), List.set_append_right _ _ (by rw [hdl]; simp), hdl]
  try rfl
theorem ref_fill_ok (c : Cache) (hc : c.wf) (hfit : Fit c.sets) (ln : Nat) (hln : ln ≤ 4294967295) (st : Int) (data : List Int) (hd : data.length = 16 ∧ ∀ y ∈ data, (Lit.int .u8 y).wf = true) (hs : 1 ≤ st ∧ st ≤ 3) (hz : ¬ c.sets.length = 0) (hr : ¬ (row c (seti c ln)).length = 0) :
    ∃ v, E ap 82 [.agg [setsT c], .int .u32 (ln : Int), .int .i64 st, .agg (dataT data)] v ∧ ∃ u, v = .tup [u, .agg (fillR c ln st data).2.enc] ∧ CacheOf (fillR c ln st data).1 u := by
  have hfr : fillR c ln st data = (touchR (c.sets.set (seti c ln) ((row c (seti c ln)).set (victim c ln).2 (fillW (wayN (row c (seti c ln)) (victim c ln).2) ln st data))) (seti c ln : Int) ((victim c ln).2 : Int), goneW (wayN (row c (seti c ln)) (victim c ln).2) ln) := if_neg (by omega)
  obtain ⟨hv1, hil, hkl⟩ := victim_lt c ln hz (by omega)
  have hvt : victT c ln = .tup [.int .i64 (seti c ln : Int), .int .i64 ((victim c ln).2 : Int)] := by unfold victT; rw [hv1]
  have hrow := fit_row hfit _ hil
  have hx := tells_cache c
  obtain ⟨f0, hxi⟩ := hx.2 _ hil
  rw [← row_eq c _ hil] at hxi
  have hxl := hx.1
  refine E_bodyV (F := f82) rfl rfl rfl (P := fun v => ∃ u, v = .tup [u, .agg (fillR c ln st data).2.enc] ∧ CacheOf (fillR c ln st data).1 u) ?_
  rw [hfr]
  clear hfr
  generalize hs0 : (_ : List T) ++ List.replicate _ T.undef = s0
  have e0 : s0.length = 74 ∧ rho s0 (.tmp 0) = .agg [setsT c] ∧ rho s0 (.tmp 1) = .int .u32 (ln : Int) ∧ rho s0 (.tmp 2) = .int .i64 st ∧ rho s0 (.tmp 3) = .agg (dataT data) := by subst hs0; exact ⟨rfl, rfl, rfl, rfl, rfl⟩
  clear hs0
  obtain ⟨hl, h0, h1, h2, h3⟩ := e0
  obtain ⟨N2, c18⟩ := (ref_victim c hc ln hln).call ap104 (fun g => rfl)
  have q18 := c18 N2 (Nat.le_refl _)
  have hsc : setsT c = .imm false c.sets.length (c.sets.flatMap (fun l => [rowT l])) := rfl
  rw [hvt] at q18
  rw [hsc] at h0 q18
  have hkl' : (victim c ln).2 < c.sets[seti c ln].length := by rw [← row_eq c _ hil]; exact hkl
  obtain ⟨N3, c42⟩ := (is_ok false c.sets _ hx (seti c ln) (victim c ln).2 hil hkl').call ap86 (fun g => rfl)
  have q42 := c42 N3 (Nat.le_refl _)
  clear hvt hv1 c18 c42 hkl'
  generalize hk : (victim c ln).2 = k at *
  generalize hi : seti c ln = i at *
  generalize hL : row c i = l at *
  have hRi : c.sets[i] = l := by rw [← hL, row_eq c i hil]
  generalize hX : c.sets.flatMap (fun l => [rowT l]) = xs at *
  have hfitR := fit_set hfit i (l.set k (fillW (wayN l k) ln st data)) ⟨by rw [List.length_set]; exact hrow.1, fun w hw => by
    rcases List.mem_or_eq_of_mem_set hw with h | rfl
    · exact hrow.2 _ h
    · exact fillW_wf (wayN_wf hrow.2 hkl) hln hs hd⟩
  have hwk := wayN_wf hrow.2 hkl
  have hfww := fillW_wf hwk hln hs hd
  have hsf := set_whole l hrow.2 k hkl (fillW (wayN l k) ln st data) hfww
  have hfwl := way_len hfww
  have hfwlf := leaf_ints _ (way_ints (fillW (wayN l k) ln st data))
  have hbld := build_fill (wayN l k) ln st data hd.1
  have hcl := enc_len l hrow.2
  have hcw : cut (l.flatMap Way.enc) (k * 19) 19 = (wayN l k).enc := by rw [flat_cutM l (fun w h => way_len (hrow.2 w h)) k hkl, wayN_eq hkl]
  have hwl := way_len hwk
  have hwlf := leaf_ints _ (way_ints (wayN l k))
  have hws := way_state (wayN l k)
  have hwt := way_tag (wayN l k)
  have hwa := way_age hwk
  have hdlf := leaf_ints _ (data_ints data)
  have hdl : (dataT data).length = 16 := by rw [data_len]; exact hd.1
  have hcd : cut (dataT data) 0 16 = dataT data := cut_all hdl
  have hda : (dataT data).all T.leaf = true := hdlf
  have hzl : zeroW.enc.length = 19 := rfl
  have hzleaf := zenc_leaf
  have hleaf : allLeaf [T.imm false c.sets.length xs] = true := rfl
  have hcut : cut [T.imm false c.sets.length xs] 0 1 = [T.imm false c.sets.length xs] := rfl
  have hzs : splice (wayN l k).enc 0 zeroW.enc = zeroW.enc := splice_all (by rw [hwl]; rfl)
  have hzs2 : splice zeroW.enc 0 (wayN l k).enc = (wayN l k).enc := splice_all (by rw [hwl]; rfl)
  have hgl := way_len (goneW_wf hwk ln)
  have hglf := leaf_ints _ (way_ints (goneW (wayN l k) ln))
  have hcg : cut (goneW (wayN l k) ln).enc 0 19 = (goneW (wayN l k) ln).enc := cut_all hgl
  have hzs3 : splice zeroW.enc 0 (goneW (wayN l k) ln).enc = (goneW (wayN l k) ln).enc := splice_all (by rw [hgl]; rfl)
  have hgdef : (goneW (wayN l k) ln).enc = if (wayN l k).state = 0 ∨ (wayN l k).tag = (ln : Int) then zeroW.enc else (wayN l k).enc := by unfold goneW; split <;> rfl
  have hfin : ∀ (x : T) {s : List T} {g : Mem} {nx : Nat}, (∃ f n c, x = .imm f n c) → rho s (.tmp 8) = .ptr 2 0 → rho s (.tmp 9) = .ptr 3 0 → g 2 = some [x] → g 3 = some (goneW (wayN l k) ln).enc → ∃ u ids, resT s g f82.res = some u ∧ frz ⟨g, nx⟩ frzDepth u = some (.tup [.agg [x], .agg (goneW (wayN l k) ln).enc], ids) := fun x _ _ _ hxi a b c d => fin_fill (F := f82) (t1 := 8) (t2 := 9) rfl (goneW_wf hwk ln) (fun h => by obtain ⟨f, n, c, rfl⟩ := hxi; rfl) a b c d hxi
  generalize hgw : (goneW (wayN l k) ln).enc = gw at *
  generalize how : (wayN l k).enc = ow at *
  generalize hfe : (fillW (wayN l k) ln st data).enc = fe at *
  have hbody : f82.body = f82.body := rfl
  conv at hbody => rhs; simp only [f82]
  simp only [← zero_enc] at hbody
  rw [hbody]
  clear hbody
  generalize zeroW.enc = zc at *
  generalize hdc : dataT data = dc at *
  generalize hwsE : l.flatMap Way.enc = ws at *
  have hd1 : decide (st < 1) = false := decide_eq_false (by omega)
  have hd2 : decide (st > 3) = false := decide_eq_false (by omega)
  have hb : i * 1 + 1 ≤ c.sets.length := by omega
  have hb2 : k * 19 + 19 ≤ l.length * 19 := by omega
  refine W_seqn (W_region (fun k => by simp +decide (disch := first | omega | simp +decide [hl]) only [s9, simprocAttr, h0, h3, hleaf, hdlf, hzleaf]; rfl) ⟨rfl, ?_⟩)
  refine W_seqn (W_regionN ⟨N2, by simp +decide (disch := first | omega | simp +decide [hl]) only [s9, simprocAttr, h1, hcut, ap104, p104, n104, q18]; rfl⟩ ⟨rfl, ?_⟩)
  refine W_seqn (W_seqn (W_regionN ⟨N3, by simp +decide (disch := first | omega | simp +decide [hl]) only [s9, simprocAttr, h1, h2, hd1, hd2, hcut, ap86, p86, n86, q42]; rfl⟩ ⟨rfl, W_fls (W_skip ⟨rfl, ?_⟩)⟩))
  refine W_seqn (W_region (fun k => by simp +decide (disch := first | omega | simp +decide [hl]) only [s9, simprocAttr, hxl, hil, hb, hxi, hcl, hkl, hb2, hcw, hwl, hwlf, hzl, hzleaf, hzs2]; rfl) ⟨rfl, ?_⟩)
  refine W_abs (fun s => s.s.length = 74 ∧ rho s.s (.tmp 1) = .int .u32 (ln : Int) ∧ rho s.s (.tmp 2) = .int .i64 st ∧ rho s.s (.tmp 4) = .ptr 0 0 ∧ rho s.s (.tmp 7) = .ptr 1 0 ∧ rho s.s (.tmp 8) = .ptr 2 0 ∧ rho s.s (.tmp 9) = .ptr 3 0 ∧ rho s.s (.tmp 10) = .int .i64 (i : Int) ∧ rho s.s (.tmp 11) = .int .i64 (k : Int) ∧ rho s.s (.tmp 12) = .ptr 33 0 ∧ s.g 0 = some [.imm false c.sets.length xs] ∧ s.g 1 = some dc ∧ s.g 2 = some [.imm true 0 []] ∧ s.g 3 = some zc ∧ s.g 33 = some ow ∧ s.nx = 35) ⟨by simp +decide (disch := first | omega | simp +decide [hl]) only [s9, simprocAttr, hl], by simp +decide (disch := first | omega | simp +decide [hl]) only [s9, simprocAttr, h1], by simp +decide (disch := first | omega | simp +decide [hl]) only [s9, simprocAttr, h2], by simp +decide (disch := first | omega | simp +decide [hl]) only [s9, simprocAttr], by simp +decide (disch := first | omega | simp +decide [hl]) only [s9, simprocAttr], by simp +decide (disch := first | omega | simp +decide [hl]) only [s9, simprocAttr], by simp +decide (disch := first | omega | simp +decide [hl]) only [s9, simprocAttr], by simp +decide (disch := first | omega | simp +decide [hl]) only [s9, simprocAttr], by simp +decide (disch := first | omega | simp +decide [hl]) only [s9, simprocAttr], by simp +decide (disch := first | omega | simp +decide [hl]) only [s9, simprocAttr] <;> rfl, by simp +decide (disch := first | omega | simp +decide [hl]) only [s9, simprocAttr], by simp +decide (disch := first | omega | simp +decide [hl]) only [s9, simprocAttr], by simp +decide (disch := first | omega | simp +decide [hl]) only [s9, simprocAttr], by simp +decide (disch := first | omega | simp +decide [hl]) only [s9, simprocAttr], by simp +decide (disch := first | omega | simp +decide [hl]) only [s9, simprocAttr], by show (0 + 4 + 8 + 13 + 10 : Nat) = 35; rfl⟩ ?_
  clear hl h0 h1 h2 h3
  rintro ⟨s, g, nx⟩ ⟨hl, h1, h2, h4, h7, h8, h9, h10, h11, h12, g0, g1, g2, g3, g33, hnx⟩
  simp only at hl h1 h2 h4 h7 h8 h9 h10 h11 h12 g0 g1 g2 g3 g33 hnx
  subst hnx
  obtain ⟨N, v, g', nx', hN, c', rfl, hC, hg', hnx'⟩ := copied_run false c.sets xs hx hfit.big.1 hfit.big.2 g (35 + 4)
  have q41 := hN N (Nat.le_refl _)
  obtain ⟨A, els, bf, rfl, gA, hA0, hel, hrows⟩ := rows_copyP hC (by omega)
  have w1 : g' 1 = some dc := by rw [hg' 1 (by omega)]; exact g1
  have w2 : g' 2 = some [.imm true 0 []] := by rw [hg' 2 (by omega)]; exact g2
  have w3 : g' 3 = some zc := by rw [hg' 3 (by omega)]; exact g3
  have w33 : g' 33 = some ow := by rw [hg' 33 (by omega)]; exact g33
  obtain ⟨hei, gB, hB0, hBA, hBne⟩ := hrows i hil
  have hcA : cut [T.own A 0 c.sets.length 1] 0 1 = [T.own A 0 c.sets.length 1] := rfl
  refine W_seqn (W_regionN ⟨N, by simp +decide (disch := first | omega | simp +decide [hl]) only [s9, simprocAttr, evI, h4, g0, hcut, ap59, p59, n59, q41]; rfl⟩ ⟨rfl, ?_⟩)
  refine W_abs (fun s => s.s.length = 74 ∧ rho s.s (.tmp 1) = .int .u32 (ln : Int) ∧ rho s.s (.tmp 2) = .int .i64 st ∧ rho s.s (.tmp 7) = .ptr 1 0 ∧ rho s.s (.tmp 8) = .ptr 2 0 ∧ rho s.s (.tmp 9) = .ptr 3 0 ∧ rho s.s (.tmp 10) = .int .i64 (i : Int) ∧ rho s.s (.tmp 11) = .int .i64 (k : Int) ∧ rho s.s (.tmp 12) = .ptr 33 0 ∧ rho s.s (.tmp 13) = .ptr 37 0 ∧ s.g 1 = some dc ∧ s.g 2 = some [.imm true 0 []] ∧ s.g 3 = some zc ∧ s.g 33 = some ow ∧ s.g 37 = some [.own A 0 c.sets.length 1] ∧ s.g A = some els ∧ ∀ j, j < c.sets.length → s.g (bf j) = g' (bf j)) ?_ ?_
  · refine ⟨?_, ?_, ?_, ?_, ?_, ?_, ?_, ?_, ?_, ?_, ?_, ?_, ?_, ?_, ?_, ?_, fun j hj => ?_⟩
    rotate_right 1
    · have := (hrows j hj).2.2.1
      simp +decide (disch := first | omega | simp +decide [hl]) only [s9, simprocAttr]
    all_goals first | (simp +decide (disch := first | omega | simp +decide [hl]) only [s9, simprocAttr, hl, h1, h2, h7, h8, h9, h10, h11, h12, w1, w2, w3, w33, gA]; done) | (simp +decide (disch := first | omega | simp +decide [hl]) only [s9, simprocAttr, hl, h1, h2, h7, h8, h9, h10, h11, h12, w1, w2, w3, w33, gA]; rfl)
  clear hl h1 h2 h4 h7 h8 h9 h10 h11 h12 g0 g1 g2 g3 g33 w1 w2 w3 w33 hg' hC
  rintro ⟨s, g, nx⟩ ⟨hl, h1, h2, h7, h8, h9, h10, h11, h12, h13, g1, g2, g3, g33, g37, gA', hgb⟩
  simp only at hl h1 h2 h7 h8 h9 h10 h11 h12 h13 g1 g2 g3 g33 g37 gA' hgb
  have gB' : g (bf i) = some ws := by rw [hgb i hil, gB, hRi, hwsE]
  have hei2 : els[i * 1]? = some (.own (bf i) 0 l.length 19) := by rw [Nat.mul_one, hei, hRi]
  have hspl := fun (c : List T) => splice_len dc c 2
  have hlen2 : ∀ (x y : T), ((zc.set 0 x).set 1 y).length = 19 := fun x y => by rw [List.length_set, List.length_set]; exact hzl
  refine W_seqn (W_region (fun k => by simp +decide (disch := first | omega | simp +decide [hl]) only [s9, simprocAttr, h13, h10, h11, h1, h2, h7, h12, g37, gA', g1, g33, gB', hel, hil, hb, hei2, hkl, hcl, hcd, hdl, hda, hwl, hwa, hzl, hspl, hbld, hfwl, hfwlf, hb2]; rfl) ⟨rfl, ?_⟩)
  refine W_abs (fun s => s.s.length = 74 ∧ rho s.s (.tmp 1) = .int .u32 (ln : Int) ∧ rho s.s (.tmp 8) = .ptr 2 0 ∧ rho s.s (.tmp 9) = .ptr 3 0 ∧ rho s.s (.tmp 10) = .int .i64 (i : Int) ∧ rho s.s (.tmp 11) = .int .i64 (k : Int) ∧ rho s.s (.tmp 12) = .ptr 33 0 ∧ rho s.s (.tmp 13) = .ptr 37 0 ∧ s.g 2 = some [.imm true 0 []] ∧ s.g 3 = some zc ∧ s.g 33 = some ow ∧ s.g 37 = some [.own A 0 c.sets.length 1] ∧ s.g A = some els ∧ s.g (bf i) = some ((l.set k (fillW (wayN l k) ln st data)).flatMap Way.enc) ∧ ∀ j, j < c.sets.length → j ≠ i → s.g (bf j) = g' (bf j)) ?_ ?_
  · refine ⟨?_, ?_, ?_, ?_, ?_, ?_, ?_, ?_, ?_, ?_, ?_, ?_, ?_, ?_, fun j hj hji => ?_⟩
    rotate_right 1
    · have := hBne j hj (fun e => hji e.symm)
      rw [← hgb j hj]
      simp +decide (disch := first | omega | simp +decide [hl]) only [s9, simprocAttr]
    all_goals simp +decide (disch := first | omega | simp +decide [hl]) only [s9, simprocAttr, hl, h1, h2, h7, h8, h9, h10, h11, h12, h13, g1, g2, g3, g33, g37, gA', hsf]
  clear hl h1 h2 h7 h8 h9 h10 h11 h12 h13 g1 g2 g3 g33 g37 gA' hgb gB'
  rintro ⟨s, g, nx⟩ ⟨hl, h1, h8, h9, h10, h11, h12, h13, g2, g3, g33, g37, gA', gB', hgb⟩
  simp only at hl h1 h8 h9 h10 h11 h12 h13 g2 g3 g33 g37 gA' gB' hgb
  refine W_cut (fun s => s.s.length = 74 ∧ rho s.s (.tmp 8) = .ptr 2 0 ∧ rho s.s (.tmp 9) = .ptr 3 0 ∧ rho s.s (.tmp 10) = .int .i64 (i : Int) ∧ rho s.s (.tmp 11) = .int .i64 (k : Int) ∧ rho s.s (.tmp 12) = .ptr 33 0 ∧ rho s.s (.tmp 13) = .ptr 37 0 ∧ s.g 33 = some gw ∧ ∀ t, t ≠ 33 → s.g t = g t) ?_ ?_
  · by_cases hz0 : (wayN l k).state = 0
    · have e1 : ((wayN l k).state == 0) = true := by simp [hz0]
      have hgz : gw = zc := by rw [hgdef, if_pos (.inl hz0)]
      refine W_seqn (W_region (fun k => by simp +decide (disch := first | omega | simp +decide [hl]) only [s9, simprocAttr, h12, g33, hws, hwl, e1]; rfl) ⟨rfl, W_tru ?_⟩)
      refine W_region (fun k => by simp +decide (disch := first | omega | simp +decide [hl]) only [s9, simprocAttr, h12, g33, hwl, hzl, hzleaf, hzs]; rfl) ?_
      refine ⟨rfl, ?_, ?_, ?_, ?_, ?_, ?_, ?_, ?_, fun t ht => ?_⟩
      all_goals simp +decide (disch := first | omega | simp +decide [hl]) only [s9, simprocAttr, hl, h8, h9, h10, h11, h12, h13, hgz]
    · have e1 : ((wayN l k).state == 0) = false := beq_eq_false_iff_ne.mpr hz0
      by_cases ht0 : (wayN l k).tag = (ln : Int)
      · have e2 : ((wayN l k).tag == (ln : Int)) = true := by simp [ht0]
        have hgz : gw = zc := by rw [hgdef, if_pos (.inr ht0)]
        refine W_seqn (W_region (fun k => by simp +decide (disch := first | omega | simp +decide [hl]) only [s9, simprocAttr, h1, h12, g33, hws, hwt, hwl, e1, e2]; rfl) ⟨rfl, W_tru ?_⟩)
        refine W_region (fun k => by simp +decide (disch := first | omega | simp +decide [hl]) only [s9, simprocAttr, h12, g33, hwl, hzl, hzleaf, hzs]; rfl) ?_
        refine ⟨rfl, ?_, ?_, ?_, ?_, ?_, ?_, ?_, ?_, fun t ht => ?_⟩
        all_goals simp +decide (disch := first | omega | simp +decide [hl]) only [s9, simprocAttr, hl, h8, h9, h10, h11, h12, h13, hgz]
      · have e2 : ((wayN l k).tag == (ln : Int)) = false := beq_eq_false_iff_ne.mpr ht0
        have hgz : gw = ow := by rw [hgdef, if_neg (fun h => by rcases h with h | h; exact hz0 h; exact ht0 h)]
        refine W_seqn (W_region (fun k => by simp +decide (disch := first | omega | simp +decide [hl]) only [s9, simprocAttr, h1, h12, g33, hws, hwt, hwl, e1, e2]; rfl) ⟨rfl, W_fls (W_skip ?_)⟩)
        refine ⟨rfl, ?_, ?_, ?_, ?_, ?_, ?_, ?_, ?_, fun t ht => rfl⟩
        all_goals simp +decide (disch := first | omega | simp +decide [hl]) only [s9, simprocAttr, hl, h8, h9, h10, h11, h12, h13, g33, hgz]
  clear hl h1 h8 h9 h10 h11 h12 h13 g33
  rintro ⟨s, g4, nx⟩ ⟨hl, h8, h9, h10, h11, h12, h13, g33, hg4⟩
  simp only at hl h8 h9 h10 h11 h12 h13 g33 hg4
  generalize hfw : l.set k (fillW (wayN l k) ln st data) = fl at *
  have hfll : fl.length = l.length := by rw [← hfw, List.length_set]
  have hL2 : ∀ r ∈ c.sets.set i fl, ∀ w ∈ r, w.wf := fun r h => (hfitR.2 r h).2
  have k2 : g4 2 = some [.imm true 0 []] := by rw [hg4 2 (by omega)]; exact g2
  have k3 : g4 3 = some zc := by rw [hg4 3 (by omega)]; exact g3
  have k37 : g4 37 = some [.own A 0 c.sets.length 1] := by rw [hg4 37 (by omega)]; exact g37
  have kA : g4 A = some els := by rw [hg4 A (by omega)]; exact gA'
  have hRA : RowsAtP (fun t => 39 ≤ t) g4 els (c.sets.set i fl) := by
    refine rowsAt_set (g := g') (bf := bf) hel (fun j hj => ?_) i hil fl (by rw [hfll, hRi]) (by rw [hg4 _ (by omega)]; exact gB') (fun j hj hji => ?_)
    · obtain ⟨a1, a2, a3, a4, a5⟩ := hrows j hj
      exact ⟨a1, a2, by omega, a5⟩
    · rw [hg4 _ (by have := (hrows j hj).2.2.1; omega)]; exact hgb j hj hji
  have hfz := frzP_rows (nx := 0) (d := 8) (P := fun t => 39 ≤ t) (show c.sets.length = (c.sets.set i fl).length by rw [List.length_set]) hL2 kA (by omega) hRA
  have hof : CacheOf (c.sets.set i fl) (.agg [.imm false c.sets.length (rowsT (c.sets.set i fl))]) := ⟨false, _, by rw [List.length_set], tells_rows _⟩
  obtain ⟨v, hv, ov⟩ := touchG hfitR hof (i : Int) (k : Int)
  obtain ⟨N4, c20⟩ := hv.callI ap60
  obtain ⟨ids, ed, q20, hids, hed⟩ := c20 N4 (Nat.le_refl _) g4 [.agg [.own A 0 c.sets.length 1], .int .i64 (i : Int), .int .i64 (k : Int)] (fun t => 39 ≤ t) (frzL_two2 hfz)
  obtain ⟨fv, ys, rfl, hys⟩ := id ov
  have o1 : putAll g4 ed 33 = some gw := by rw [putAll_off ed g4 33 (fun e he => by have := hed e he; omega)]; exact g33
  have o2 : putAll g4 ed 2 = some [.imm true 0 []] := by rw [putAll_off ed g4 2 (fun e he => by have := hed e he; omega)]; exact k2
  have o3 : putAll g4 ed 3 = some zc := by rw [putAll_off ed g4 3 (fun e he => by have := hed e he; omega)]; exact k3
  have o4 : disj (List.map (fun x => x.1) ed) [33] = true := disj_off (fun e he => by have := hed e he; omega)
  generalize hpg : putAll g4 ed = pg at *
  refine W_seqn (W_regionN ⟨N4, by simp +decide (disch := first | omega | simp +decide [hl]) only [s9, simprocAttr, h13, h10, h11, h12, h8, h9, k37, hcA, ap60, p60, n60, q20, hpg, o1, o2, o3, o4, hcg, hgl, hglf, hzl, hzs3]; rfl⟩ ⟨rfl, W_ret ?_⟩)
  refine ⟨rfl, _, ⟨_, rfl, ov⟩, hfin _ ⟨_, _, _, rfl⟩ ?_ ?_ ?_ ?_⟩
  · simp +decide (disch := first | omega | simp +decide [hl]) only [s9, simprocAttr, h8]
  · simp +decide (disch := first | omega | simp +decide [hl]) only [s9, simprocAttr, h9]
  · simp +decide (disch := first | omega | simp +decide [hl]) only [s9, simprocAttr]
  · simp +decide (disch := first | omega | simp +decide [hl]) only [s9, simprocAttr]
theorem ref_set_rows (c : Cache) (hc : c.wf) (hfit : Fit c.sets) (ln : Nat) (hln : ln ≤ 4294967295) (st : Int) :
    ∃ v, E ap 79 [.agg [setsT c], .int .u32 (ln : Int), .int .i64 st] v ∧ CacheOf (setR c ln st) v := by
  have hx := tells_cache c
  have hxl := hx.1
  refine E_bodyV (F := f79) rfl rfl rfl (P := CacheOf (setR c ln st)) ?_
  generalize hs0 : (_ : List T) ++ List.replicate _ T.undef = s0
  have e0 : s0.length = 60 ∧ rho s0 (.tmp 0) = .agg [setsT c] ∧ rho s0 (.tmp 1) = .int .u32 (ln : Int) ∧ rho s0 (.tmp 2) = .int .i64 st := by subst hs0; exact ⟨rfl, rfl, rfl, rfl⟩
  clear hs0
  obtain ⟨hl, h0, h1, h2⟩ := e0
  obtain ⟨N1, c16⟩ := (ref_find c hc ln hln).call ap57 (fun g => rfl)
  have q16 := c16 N1 (Nat.le_refl _)
  have hsc : setsT c = .imm false c.sets.length (c.sets.flatMap (fun l => [rowT l])) := rfl
  rw [hsc] at h0 q16
  clear hsc c16
  generalize hX : c.sets.flatMap (fun l => [rowT l]) = xs at *
  have hleaf : allLeaf [T.imm false c.sets.length xs] = true := rfl
  have hcut : cut [T.imm false c.sets.length xs] 0 1 = [T.imm false c.sets.length xs] := rfl
  have hzl : zeroW.enc.length = 19 := rfl
  have hbody : f79.body = f79.body := rfl
  conv at hbody => rhs; simp only [f79]
  simp only [← zero_enc] at hbody
  rw [hbody]
  clear hbody
  have hzb0 : ∀ a, zeroW.enc.set 18 (.int .i64 a) = (aged zeroW a).enc := build_aged
  generalize zeroW.enc = zc at *
  refine W_seqn (W_region (fun k => by simp +decide (disch := first | omega | simp +decide [hl]) only [s9, simprocAttr, h0, hleaf]; rfl) ⟨rfl, ?_⟩)
  refine W_abs (fun s => s.s.length = 60 ∧ rho s.s (.tmp 1) = .int .u32 (ln : Int) ∧ rho s.s (.tmp 2) = .int .i64 st ∧ rho s.s (.tmp 3) = .ptr 0 0 ∧ rho s.s (.tmp 6) = .ptr 1 0 ∧ s.g 0 = some [.imm false c.sets.length xs] ∧ s.g 1 = some [.imm true 0 []] ∧ s.nx = 2) ⟨by simp +decide (disch := first | omega | simp +decide [hl]) only [s9, simprocAttr, hl], by simp +decide (disch := first | omega | simp +decide [hl]) only [s9, simprocAttr, h1], by simp +decide (disch := first | omega | simp +decide [hl]) only [s9, simprocAttr, h2], by simp +decide (disch := first | omega | simp +decide [hl]) only [s9, simprocAttr], by simp +decide (disch := first | omega | simp +decide [hl]) only [s9, simprocAttr], by simp +decide (disch := first | omega | simp +decide [hl]) only [s9, simprocAttr], by simp +decide (disch := first | omega | simp +decide [hl]) only [s9, simprocAttr], by show (0 + 2 : Nat) = 2; rfl⟩ ?_
  clear hl h0 h1 h2
  rintro ⟨s, g, nx⟩ ⟨hl, h1, h2, h3, h6, g0, g1, hnx⟩
  simp only at hl h1 h2 h3 h6 g0 g1 hnx
  subst hnx
  obtain ⟨N, v, g', nx', hN, c', rfl, hC, hg', hnx'⟩ := copied_run false c.sets xs hx hfit.big.1 hfit.big.2 g (2 + 4)
  have q41 := hN N (Nat.le_refl _)
  have w0 : g' 0 = some [.imm false c.sets.length xs] := by rw [hg' 0 (by omega)]; exact g0
  have w1 : g' 1 = some [.imm true 0 []] := by rw [hg' 1 (by omega)]; exact g1
  have hcl' := copy_leaf hC
  have hcc : cut [c'] 0 1 = [c'] := rfl
  refine W_seqn (W_regionN ⟨N, by simp +decide (disch := first | omega | simp +decide [hl]) only [s9, simprocAttr, evI, h3, g0, hcut, ap59, p59, n59, q41, hcl']; rfl⟩ ⟨rfl, ?_⟩)
  refine W_abs (fun s => s.s.length = 60 ∧ rho s.s (.tmp 1) = .int .u32 (ln : Int) ∧ rho s.s (.tmp 2) = .int .i64 st ∧ rho s.s (.tmp 3) = .ptr 0 0 ∧ rho s.s (.tmp 6) = .ptr 1 0 ∧ rho s.s (.tmp 7) = .ptr 4 0 ∧ s.g 0 = some [.imm false c.sets.length xs] ∧ s.g 1 = some [.imm true 0 []] ∧ s.g 4 = some [c'] ∧ CopyAt s.g c' c.sets 6 nx' c.sets.length) ?_ ?_
  · refine ⟨?_, ?_, ?_, ?_, ?_, ?_, ?_, ?_, ?_, hC.mono (Nat.le_refl _) (fun t ht1 ht2 => ?_)⟩
    rotate_right 1
    · simp +decide (disch := first | omega | simp +decide [hl]) only [s9, simprocAttr]
    all_goals first | (simp +decide (disch := first | omega | simp +decide [hl]) only [s9, simprocAttr, hl, h1, h2, h3, h6, w0, w1]; done) | (simp +decide (disch := first | omega | simp +decide [hl]) only [s9, simprocAttr, hl, h1, h2, h3, h6, w0, w1]; rfl)
  clear hl h1 h2 h3 h6 g0 g1 w0 w1 hC hg'
  rintro ⟨s, g, nx⟩ ⟨hl, h1, h2, h3, h6, h7, g0, g1, g4, hC⟩
  simp only at hl h1 h2 h3 h6 h7 g0 g1 g4 hC
  have tail : ∀ st' : St, setR c ln st = c.sets → (st'.s.length = 60 ∧ rho st'.s (.tmp 7) = .ptr 4 0 ∧ rho st'.s (.tmp 6) = .ptr 1 0 ∧ st'.g = g) → W ap (.seq (.region [⟨some 30, .load false 1 (.tmp 7), none⟩, ⟨none, .store 1 (.tmp 6) (.tmp 30), none⟩] []) .ret) st' (fun e s => e = .ret ∧ ∃ v, CacheOf (setR c ln st) v ∧ ∃ u ids, resT s.s s.g f79.res = some u ∧ frz ⟨s.g, s.nx⟩ frzDepth u = some (v, ids)) := by
    rintro ⟨s, g5, nx⟩ hR ⟨hl, h7, h6, hg5⟩
    simp only at hl h7 h6 hg5
    subst hg5
    refine W_seqn (W_region (fun k => by simp +decide (disch := first | omega | simp +decide [hl]) only [s9, simprocAttr, h7, h6, g1, g4, hcc, hcl']; rfl) ⟨rfl, W_ret ?_⟩)
    have hC2 : CopyAt (put1 g5 (1, some [c'])) c' c.sets 6 nx' c.sets.length := hC.mono (Nat.le_refl _) (fun t ht1 ht2 => put1_ne (by omega))
    obtain ⟨f, ys, ids, e1, e2⟩ := frz_copy (nx := nx + 2) (d := 8) (fun l h => (hfit.2 l h).2) hC2
    refine ⟨rfl, .agg [.imm f c.sets.length ys], by rw [hR]; exact ⟨f, ys, rfl, e2⟩, (fin_cellV (F := f79) (t := 6) (p := 1) rfl e1 ?_ ?_).2⟩
    · simp +decide (disch := first | omega | simp +decide [hl]) only [s8, simprocAttr, h6]
    · simp +decide (disch := first | omega | simp +decide [hl]) only [s9, simprocAttr]
  cases hf : find c ln with
  | none =>
    have hR : setR c ln st = c.sets := by unfold setR; rw [hf]
    rw [findT_no c ln hf] at q16
    refine W_seqn (W_regionN ⟨N1, by simp +decide (disch := first | omega | simp +decide [hl]) only [s9, simprocAttr, h3, h1, g0, hcut, ap57, p57, n57, q16]; rfl⟩ ⟨rfl, ?_⟩)
    refine W_seq (W_seqn (W_region (fun k => by simp +decide (disch := first | omega | simp +decide [hl]) only [s9, simprocAttr, h2]; rfl) ⟨rfl, W_tru ?_⟩))
    refine (tail _ hR ⟨by simp +decide (disch := first | omega | simp +decide [hl]) only [s9, simprocAttr, hl], by simp +decide (disch := first | omega | simp +decide [hl]) only [s9, simprocAttr, h7], by simp +decide (disch := first | omega | simp +decide [hl]) only [s9, simprocAttr, h6], rfl⟩).mono ?_
    rintro e s ⟨rfl, h⟩
    simp only [reduceCtorEq, false_and, false_or, or_false, exists_false, exists_const, ne_eq, not_false_eq_true, true_and, implies_true]
    exact ⟨rfl, h⟩
  | some k =>
    rw [findT_is c ln k hf] at q16
    refine W_seqn (W_regionN ⟨N1, by simp +decide (disch := first | omega | simp +decide [hl]) only [s9, simprocAttr, h3, h1, g0, hcut, ap57, p57, n57, q16]; rfl⟩ ⟨rfl, ?_⟩)
    by_cases hb1 : st < 0
    · have d1 : decide (st < 0) = true := decide_eq_true hb1
      have hR : setR c ln st = c.sets := by unfold setR; rw [hf]; exact if_pos (.inl hb1)
      refine W_seq (W_seqn (W_region (fun k => by simp +decide (disch := first | omega | simp +decide [hl]) only [s9, simprocAttr, h2, d1]; rfl) ⟨rfl, W_tru ?_⟩))
      refine (tail _ hR ⟨by simp +decide (disch := first | omega | simp +decide [hl]) only [s9, simprocAttr, hl], by simp +decide (disch := first | omega | simp +decide [hl]) only [s9, simprocAttr, h7], by simp +decide (disch := first | omega | simp +decide [hl]) only [s9, simprocAttr, h6], rfl⟩).mono ?_
      rintro e s ⟨rfl, h⟩
      simp only [reduceCtorEq, false_and, false_or, or_false, exists_false, exists_const, ne_eq, not_false_eq_true, true_and, implies_true]
      exact ⟨rfl, h⟩
    have d1 : decide (st < 0) = false := decide_eq_false hb1
    by_cases hb2 : st > 3
    · have d2 : decide (st > 3) = true := decide_eq_true hb2
      have hR : setR c ln st = c.sets := by unfold setR; rw [hf]; exact if_pos (.inr hb2)
      refine W_seq (W_seqn (W_region (fun k => by simp +decide (disch := first | omega | simp +decide [hl]) only [s9, simprocAttr, h2, d1, d2]; rfl) ⟨rfl, W_tru ?_⟩))
      refine (tail _ hR ⟨by simp +decide (disch := first | omega | simp +decide [hl]) only [s9, simprocAttr, hl], by simp +decide (disch := first | omega | simp +decide [hl]) only [s9, simprocAttr, h7], by simp +decide (disch := first | omega | simp +decide [hl]) only [s9, simprocAttr, h6], rfl⟩).mono ?_
      rintro e s ⟨rfl, h⟩
      simp only [reduceCtorEq, false_and, false_or, or_false, exists_false, exists_const, ne_eq, not_false_eq_true, true_and, implies_true]
      exact ⟨rfl, h⟩
    have d2 : decide (st > 3) = false := decide_eq_false hb2
    have hs : 0 ≤ st ∧ st ≤ 3 := by omega
    have hR : setR c ln st = c.sets.set (seti c ln) ((row c (seti c ln)).set k (setW (wayN (row c (seti c ln)) k) st)) := by unfold setR; rw [hf]; exact if_neg (by omega)
    rw [hR]
    obtain ⟨hil, hkl⟩ := find_lt hf
    have hrow := fit_row hfit _ hil
    obtain ⟨f0, hxi⟩ := hx.2 _ hil
    rw [← row_eq c _ hil] at hxi
    clear tail hR
    generalize hi : seti c ln = i at *
    generalize hL : row c i = l at *
    have hRi : c.sets[i] = l := by rw [← hL, row_eq c i hil]
    have hwk := wayN_wf hrow.2 hkl
    have hst1 := set_st l hrow.2 k hkl st hs
    have hl1w := mem_setw hrow.2 k (stW_wf hwk hs)
    have hwh := set_whole (l.set k (stW (wayN l k) st)) hl1w k (by rw [List.length_set]; exact hkl) (aged zeroW (wayN l k).age) (aged_wf zeroW_wf hwk.2.2.2)
    rw [List.set_set, hst1] at hwh
    have hag := age_at l hrow.2 k hkl
    have hzb := hzb0 (wayN l k).age
    have hzal : (aged zeroW (wayN l k).age).enc.length = 19 := rfl
    have hzalf : allLeaf (aged zeroW (wayN l k).age).enc = true := leaf_ints _ (way_ints _)
    have hcl := enc_len l hrow.2
    have hb : i * 1 + 1 ≤ c.sets.length := by omega
    have hb2 : k * 19 + 1 ≤ l.length * 19 := by omega
    have hb3 : k * 19 + 18 + 1 ≤ l.length * 19 := by omega
    have hb4 : k * 19 + 19 ≤ l.length * 19 := by omega
    obtain ⟨A, els, bf, rfl, gA, hA0, hel, hrows⟩ := rows_copyP hC (by omega)
    obtain ⟨hei, gB, hB0, hBA, hBne⟩ := hrows i hil
    have gB' : g (bf i) = some (l.flatMap Way.enc) := by rw [gB, hRi]
    have hei2 : els[i * 1]? = some (.own (bf i) 0 l.length 19) := by rw [Nat.mul_one, hei, hRi]
    generalize hza : (aged zeroW (wayN l k).age).enc = za at *
    generalize hwsE : l.flatMap Way.enc = ws at *
    refine W_seqn (W_seqn (W_region (fun k => by simp +decide (disch := first | omega | simp +decide [hl]) only [s9, simprocAttr, h2, d1, d2]; rfl) ⟨rfl, W_fls (W_skip ⟨rfl, ?_⟩)⟩))
    have last : ∀ fl : List Way, (∀ w ∈ fl, w.wf) → fl.length = l.length → ∀ st' : St, (st'.s.length = 60 ∧ rho st'.s (.tmp 6) = .ptr 1 0 ∧ rho st'.s (.tmp 7) = .ptr 4 0 ∧ (∀ t, t ≠ bf i → st'.g t = g t) ∧ st'.g (bf i) = some (fl.flatMap Way.enc)) → W ap (.seq (.region [⟨some 59, .load false 1 (.tmp 7), none⟩, ⟨none, .store 1 (.tmp 6) (.tmp 59), none⟩] []) .ret) st' (fun e s => e.leaves = true ∧ ∃ v, CacheOf (c.sets.set i fl) v ∧ ∃ u ids, resT s.s s.g f79.res = some u ∧ frz ⟨s.g, s.nx⟩ frzDepth u = some (v, ids)) := by
      rintro fl hflw hfll ⟨s, g5, nx⟩ ⟨hl, h6, h7, hg5, gb⟩
      simp only at hl h6 h7 hg5 gb
      have k1 := hg5 1 (by omega)
      have k4 := hg5 4 (by omega)
      have kA := hg5 A (by omega)
      rw [g1] at k1
      rw [g4] at k4
      rw [gA] at kA
      refine W_seqn (W_region (fun k => by simp +decide (disch := first | omega | simp +decide [hl]) only [s9, simprocAttr, h6, h7, k1, k4, hcc]; rfl) ⟨rfl, W_ret ?_⟩)
      have hRA : RowsAtP (fun _ => True) (put1 g5 (1, some [.own A 0 c.sets.length 1])) els (c.sets.set i fl) := by
        refine rowsAt_set (g := g) (bf := bf) hel (fun j hj => ?_) i hil fl (by rw [hfll, hRi]) (by rw [put1_ne (by omega)]; exact gb) (fun j hj hji => ?_)
        · obtain ⟨a1, a2, a3, a4, a5⟩ := hrows j hj
          exact ⟨a1, a2, trivial, a5⟩
        · have h1 := (hrows j hj).2.2.1
          rw [put1_ne (by omega)]
          exact hg5 _ (fun e => hBne j hj (fun e => hji e.symm) e.symm)
      have hL2 : ∀ r ∈ c.sets.set i fl, ∀ w ∈ r, w.wf := fun r hr => by
        rcases List.mem_or_eq_of_mem_set hr with h | rfl
        · exact (hfit.2 r h).2
        · exact hflw
      obtain ⟨ids, e1, _⟩ := frzP_rows (nx := nx + 2) (d := 8) (show c.sets.length = (c.sets.set i fl).length by rw [List.length_set]) hL2 (show put1 g5 (1, some [.own A 0 c.sets.length 1]) A = some els by rw [put1_ne (by omega)]; exact kA) trivial hRA
      refine ⟨rfl, .agg [.imm false c.sets.length (rowsT (c.sets.set i fl))], ⟨false, _, by rw [List.length_set], tells_rows _⟩, (fin_cellV (F := f79) (t := 6) (p := 1) rfl e1 ?_ ?_).2⟩
      · simp +decide (disch := first | omega | simp +decide [hl]) only [s8, simprocAttr, h6]
      · simp +decide (disch := first | omega | simp +decide [hl]) only [s9, simprocAttr]
    refine W_seqn (W_region (fun k => by simp +decide (disch := first | omega | simp +decide [hl]) only [s9, simprocAttr, h7, h2, g4, gA, gB', hel, hil, hb, hei2, hkl, hcl, hb2]; rfl) ⟨rfl, ?_⟩)
    by_cases hz : st = 0
    · have e1 : (st == 0) = true := by simp [hz]
      refine W_seqn (W_seqn (W_region (fun k => by simp +decide (disch := first | omega | simp +decide [hl]) only [s9, simprocAttr, h2, e1]; rfl) ⟨rfl, W_tru ?_⟩))
      refine W_region (fun k => by simp +decide (disch := first | omega | simp +decide [hl]) only [s9, simprocAttr, h7, h3, g0, g4, gA, gB', hel, hxl, hxi, hil, hb, hei2, hkl, hcl, hb3, hb4, hag, hzl, hzb, hzal, hzalf]; rfl) ⟨rfl, ?_⟩
      have hfw : setW (wayN l k) st = aged zeroW (wayN l k).age := by unfold setW; rw [if_pos hz]
      rw [hfw]
      refine last (l.set k (aged zeroW (wayN l k).age)) (mem_setw hrow.2 k (aged_wf zeroW_wf hwk.2.2.2)) (by rw [List.length_set]) _ ⟨?_, ?_, ?_, fun t ht => ?_, ?_⟩
      all_goals simp +decide (disch := first | omega | simp +decide [hl]) only [s9, simprocAttr, hl, h6, h7, hwh]
    · have e1 : (st == 0) = false := beq_eq_false_iff_ne.mpr hz
      refine W_seqn (W_seqn (W_region (fun k => by simp +decide (disch := first | omega | simp +decide [hl]) only [s9, simprocAttr, h2, e1]; rfl) ⟨rfl, W_fls (W_skip ⟨rfl, ?_⟩)⟩))
      have hfw : setW (wayN l k) st = stW (wayN l k) st := by unfold setW; rw [if_neg hz]
      rw [hfw]
      refine last (l.set k (stW (wayN l k) st)) hl1w (by rw [List.length_set]) _ ⟨?_, ?_, ?_, fun t ht => ?_, ?_⟩
      all_goals simp +decide (disch := first | omega | simp +decide [hl]) only [s9, simprocAttr, hl, h6, h7, hst1]
end Go.Proofs.YtabfinhkoihhfaaGreat.Abs
