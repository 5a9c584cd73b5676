/- Words of other seats' texts, as they are used here: Bus. -/
import Derived.Test.YtabfinhkoihhfaaGreatG09
namespace Go.Proofs.YtabfinhkoihhfaaGreat.Abs
open Go Go.RowKit Fn
set_option linter.unusedVariables false
set_option linter.unusedSimpArgs false
set_option linter.unnecessarySimpa false
set_option maxRecDepth 100000
set_option maxHeartbeats 4000000

def stW (old : Way) (st : Int) : Way := { old with state := st }
def setW (old : Way) (st : Int) : Way := if st = 0 then aged zeroW old.age else stW old st
def setR (c : Cache) (ln : Nat) (st : Int) : List (List Way) := match find c ln with
  | some k => if st < 0 ∨ st > 3 then c.sets else c.sets.set (seti c ln) ((row c (seti c ln)).set k (setW (wayN (row c (seti c ln)) k) st))
  | none => c.sets
theorem stW_wf {old : Way} (ho : old.wf) {st : Int} (hs : 0 ≤ st ∧ st ≤ 3) : (stW old st).wf := ⟨lit_i64 (by show -9223372036854775808 ≤ st ∧ st ≤ 9223372036854775807; omega), ho.2⟩
theorem setW_wf {old : Way} (ho : old.wf) {st : Int} (hs : 0 ≤ st ∧ st ≤ 3) : (setW old st).wf := by
  unfold setW; split
  · exact aged_wf zeroW_wf ho.2.2.2
  · exact stW_wf ho hs
theorem set_st (l : List Way) (hw : ∀ w ∈ l, w.wf) (k : Nat) (h : k < l.length) (st : Int) (hs : 0 ≤ st ∧ st ≤ 3) : (l.set k (stW (wayN l k) st)).flatMap Way.enc = (l.flatMap Way.enc).set (k * 19) (.int .i64 st) := by
  have hwk := wayN_wf hw h
  have e := set_way l hw k h (stW (wayN l k) st) (stW_wf hwk hs) 0 [.int .i64 st] [] (T.int .u32 (wayN l k).tag :: (dataT (wayN l k).data ++ [T.int .i64 (wayN l k).age])) [T.int .i64 (wayN l k).state] rfl rfl rfl rfl
  rw [Nat.add_zero] at e
  exact e
theorem build_aged (a : Int) : zeroW.enc.set 18 (.int .i64 a) = (aged zeroW a).enc := rfl
theorem wayN_set (l : List Way) (k : Nat) (h : k < l.length) (y : Way) : wayN (l.set k y) k = y := by
  rw [wayN_eq (by rw [List.length_set]; exact h), List.getElem_set_self]
theorem mem_setw {l : List Way} (hw : ∀ w ∈ l, w.wf) (k : Nat) {y : Way} (hy : y.wf) : ∀ w ∈ l.set k y, w.wf := by
  intro w h
  rcases List.mem_or_eq_of_mem_set h with h | rfl
  · exact hw _ h
  · exact hy
theorem findT_is (c : Cache) (ln k : Nat) (h : find c ln = some k) : findT c ln = .tup [.int .i64 (seti c ln : Int), .int .i64 (k : Int), .bool true] := by unfold findT; rw [h]
theorem findT_no (c : Cache) (ln : Nat) (h : find c ln = none) : findT c ln = .tup [.int .i64 0, .int .i64 0, .bool false] := by unfold findT; rw [h]
theorem bus_set_bad (c : Cache) (hc : c.wf) (ln : Nat) (hln : ln ≤ 4294967295) (st : Int) (hbad : find c ln = none ∨ st < 0 ∨ st > 3) :
    E ap 92 [.agg [setsT c], .int .u32 (ln : Int), .int .i64 st] (.agg [setsT c]) := by
  refine E_body (F := f92) rfl rfl rfl ?_
  generalize hs0 : (_ : List T) ++ List.replicate _ T.undef = s0
  have e0 : s0.length = 54 ∧ rho s0 (.tmp 0) = .agg [setsT c] ∧ rho s0 (.tmp 1) = .int .u32 (ln : Int) ∧ rho s0 (.tmp 2) = .int .i64 st := by subst hs0; exact ⟨rfl, rfl, rfl, rfl⟩
  clear hs0
  obtain ⟨hl, h0, h1, h2⟩ := e0
  have hleaf : allLeaf [setsT c] = true := rfl
  have hcut : cut [setsT c] 0 1 = [setsT c] := rfl
  obtain ⟨N1, c15⟩ := (bus_find c hc ln hln).call ap69 (fun g => rfl)
  have q15 := c15 N1 (Nat.le_refl _)
  have tail : ∀ st' : St, (st'.s.length = 54 ∧ rho st'.s (.tmp 3) = .ptr 0 0 ∧ rho st'.s (.tmp 6) = .ptr 1 0 ∧ st'.g 0 = some [setsT c] ∧ st'.g 1 = some [.imm true 0 []]) → W ap (.seq (.region [⟨some 29, .load false 1 (.tmp 3), none⟩, ⟨none, .store 1 (.tmp 6) (.tmp 29), none⟩] []) .ret) st' (fun e s => e = .ret ∧ ∃ u ids, resT s.s s.g f92.res = some u ∧ frz ⟨s.g, s.nx⟩ frzDepth u = some (.agg [setsT c], ids)) := by
    rintro ⟨s, g, nx⟩ ⟨hl, h3, h6, g0, g1⟩
    simp only at hl h3 h6 g0 g1
    refine W_seqn (W_region (fun k => by simp +decide (disch := first | omega | simp +decide [hl]) only [s9, simprocAttr, h3, h6, g0, g1, hcut, hleaf]; rfl) ⟨rfl, W_ret ?_⟩)
    refine ⟨rfl, (fin_cell_true (F := f92) (t := 6) (p := 1) rfl (fun _ => rfl) ?_ ?_).2⟩
    · simp +decide (disch := first | omega | simp +decide [hl]) only [s8, simprocAttr, h6]
    · simp +decide (disch := first | omega | simp +decide [hl]) only [s9, simprocAttr]
  refine W_seqn (W_region (fun k => by simp +decide (disch := first | omega | simp +decide [hl]) only [s9, simprocAttr, h0, hleaf]; rfl) ⟨rfl, ?_⟩)
  cases hf : find c ln with
  | none =>
    rw [findT_no c ln hf] at q15
    refine W_seqn (W_regionN ⟨N1, by simp +decide (disch := first | omega | simp +decide [hl]) only [s9, simprocAttr, h1, hcut, ap69, p69, n69, q15]; rfl⟩ ⟨rfl, ?_⟩)
    refine W_seq (W_seqn (W_region (fun k => by simp +decide (disch := first | omega | simp +decide [hl]) only [s9, simprocAttr, h2]; rfl) ⟨rfl, W_tru ?_⟩))
    refine (tail _ ⟨by simp +decide (disch := first | omega | simp +decide [hl]) only [s9, simprocAttr, hl], by simp +decide (disch := first | omega | simp +decide [hl]) only [s9, simprocAttr], by simp +decide (disch := first | omega | simp +decide [hl]) only [s9, simprocAttr], by simp +decide (disch := first | omega | simp +decide [hl]) only [s9, simprocAttr], by simp +decide (disch := first | omega | simp +decide [hl]) only [s9, simprocAttr]⟩).mono ?_
    rintro e s ⟨rfl, h⟩
    simp only [reduceCtorEq, false_and, false_or, or_false, exists_false, exists_const, ne_eq, not_false_eq_true, true_and, implies_true]
    exact ⟨rfl, h⟩
  | some k =>
    rw [findT_is c ln k hf] at q15
    rw [hf] at hbad
    refine W_seqn (W_regionN ⟨N1, by simp +decide (disch := first | omega | simp +decide [hl]) only [s9, simprocAttr, h1, hcut, ap69, p69, n69, q15]; rfl⟩ ⟨rfl, ?_⟩)
    by_cases hb1 : st < 0
    · have d1 : decide (st < 0) = true := decide_eq_true hb1
      refine W_seq (W_seqn (W_region (fun k => by simp +decide (disch := first | omega | simp +decide [hl]) only [s9, simprocAttr, h2, d1]; rfl) ⟨rfl, W_tru ?_⟩))
      refine (tail _ ⟨by simp +decide (disch := first | omega | simp +decide [hl]) only [s9, simprocAttr, hl], by simp +decide (disch := first | omega | simp +decide [hl]) only [s9, simprocAttr], by simp +decide (disch := first | omega | simp +decide [hl]) only [s9, simprocAttr], by simp +decide (disch := first | omega | simp +decide [hl]) only [s9, simprocAttr], by simp +decide (disch := first | omega | simp +decide [hl]) only [s9, simprocAttr]⟩).mono ?_
      rintro e s ⟨rfl, h⟩
      simp only [reduceCtorEq, false_and, false_or, or_false, exists_false, exists_const, ne_eq, not_false_eq_true, true_and, implies_true]
      exact ⟨rfl, h⟩
    · have d1 : decide (st < 0) = false := decide_eq_false hb1
      have d2 : decide (st > 3) = true := decide_eq_true (by rcases hbad with h | h | h; cases h; omega; exact h)
      refine W_seq (W_seqn (W_region (fun k => by simp +decide (disch := first | omega | simp +decide [hl]) only [s9, simprocAttr, h2, d1, d2]; rfl) ⟨rfl, W_tru ?_⟩))
      refine (tail _ ⟨by simp +decide (disch := first | omega | simp +decide [hl]) only [s9, simprocAttr, hl], by simp +decide (disch := first | omega | simp +decide [hl]) only [s9, simprocAttr], by simp +decide (disch := first | omega | simp +decide [hl]) only [s9, simprocAttr], by simp +decide (disch := first | omega | simp +decide [hl]) only [s9, simprocAttr], by simp +decide (disch := first | omega | simp +decide [hl]) only [s9, simprocAttr]⟩).mono ?_
      rintro e s ⟨rfl, h⟩
      simp only [reduceCtorEq, false_and, false_or, or_false, exists_false, exists_const, ne_eq, not_false_eq_true, true_and, implies_true]
      exact ⟨rfl, h⟩
theorem bus_set_ok (c : Cache) (hc : c.wf) (hfit : Fit c.sets) (ln : Nat) (hln : ln ≤ 4294967295) (st : Int) (k : Nat) (hf : find c ln = some k) (hs : 0 ≤ st ∧ st ≤ 3) :
    ∃ v, E ap 92 [.agg [setsT c], .int .u32 (ln : Int), .int .i64 st] v ∧ CacheEx (c.sets.set (seti c ln) ((row c (seti c ln)).set k (setW (wayN (row c (seti c ln)) k) st))) v := by
  obtain ⟨hil, hkl⟩ := find_lt hf
  have hrow := fit_row hfit _ hil
  have hx := tells_cache c
  obtain ⟨f0, hxi⟩ := hx.2 _ hil
  rw [← row_eq c _ hil] at hxi
  have hxl := hx.1
  have hxf := tells_leaf hx
  refine E_bodyV (F := f92) rfl rfl rfl (P := CacheEx (c.sets.set (seti c ln) ((row c (seti c ln)).set k (setW (wayN (row c (seti c ln)) k) st)))) ?_
  generalize hs0 : (_ : List T) ++ List.replicate _ T.undef = s0
  have e0 : s0.length = 54 ∧ rho s0 (.tmp 0) = .agg [setsT c] ∧ rho s0 (.tmp 1) = .int .u32 (ln : Int) ∧ rho s0 (.tmp 2) = .int .i64 st := by subst hs0; exact ⟨rfl, rfl, rfl, rfl⟩
  clear hs0
  obtain ⟨hl, h0, h1, h2⟩ := e0
  obtain ⟨N1, c15⟩ := (bus_find c hc ln hln).call ap69 (fun g => rfl)
  have q15 := c15 N1 (Nat.le_refl _)
  have hsc : setsT c = .imm false c.sets.length (c.sets.flatMap (fun l => [rowT l])) := rfl
  rw [findT_is c ln k hf, hsc] at q15
  rw [hsc] at h0
  clear hsc c15
  generalize hi : seti c ln = i at *
  generalize hL : row c i = l at *
  generalize hX : c.sets.flatMap (fun l => [rowT l]) = xs at *
  have hleaf : allLeaf [T.imm false c.sets.length xs] = true := rfl
  have hcut : cut [T.imm false c.sets.length xs] 0 1 = [T.imm false c.sets.length xs] := rfl
  have hwk := wayN_wf hrow.2 hkl
  have hst1 := set_st l hrow.2 k hkl st hs
  have hl1w := mem_setw hrow.2 k (stW_wf hwk hs)
  have hwh := set_whole (l.set k (stW (wayN l k) st)) hl1w k (by rw [List.length_set]; exact hkl) (aged zeroW (wayN l k).age) (aged_wf zeroW_wf hwk.2.2.2)
  rw [List.set_set] at hwh
  have hag1 := age_at (l.set k (stW (wayN l k) st)) hl1w k (by rw [List.length_set]; exact hkl)
  rw [wayN_set l k hkl] at hag1
  have hag1' : ((l.flatMap Way.enc).set (k * 19) (.int .i64 st))[k * 19 + 18]? = some (.int .i64 (wayN l k).age) := by rw [← hst1]; exact hag1
  rw [hst1] at hwh
  have hzb := build_aged (wayN l k).age
  have hzal : (aged zeroW (wayN l k).age).enc.length = 19 := rfl
  have hzalf : allLeaf (aged zeroW (wayN l k).age).enc = true := leaf_ints _ (way_ints _)
  have hcl := enc_len l hrow.2
  have hclf := enc_leaf l
  have hzl : zeroW.enc.length = 19 := rfl
  have hd0 : ¬ find c ln = none := by rw [hf]; simp
  have d1 : decide (st < 0) = false := decide_eq_false (by omega)
  have d2 : decide (st > 3) = false := decide_eq_false (by omega)
  have hb : i * 1 + 1 ≤ c.sets.length := by omega
  have hb2 : k * 19 + 1 ≤ l.length * 19 := by omega
  have hb3 : k * 19 + 18 + 1 ≤ l.length * 19 := by omega
  have hb4 : k * 19 + 19 ≤ l.length * 19 := by omega
  have hbody : f92.body = f92.body := rfl
  conv at hbody => rhs; simp only [f92]
  simp only [← zero_enc] at hbody
  rw [hbody]
  clear hbody
  generalize hza : (aged zeroW (wayN l k).age).enc = za at *
  generalize zeroW.enc = zc at *
  generalize hwsE : l.flatMap Way.enc = ws at *
  refine W_seqn (W_region (fun k => by simp +decide (disch := first | omega | simp +decide [hl]) only [s9, simprocAttr, h0, hleaf]; rfl) ⟨rfl, ?_⟩)
  refine W_seqn (W_regionN ⟨N1, by simp +decide (disch := first | omega | simp +decide [hl]) only [s9, simprocAttr, h1, hcut, ap69, p69, n69, q15]; rfl⟩ ⟨rfl, ?_⟩)
  refine W_seqn (W_seqn (W_region (fun k => by simp +decide (disch := first | omega | simp +decide [hl]) only [s9, simprocAttr, h2, d1, d2]; rfl) ⟨rfl, W_fls (W_skip ⟨rfl, ?_⟩)⟩))
  refine W_abs (fun s => s.s.length = 54 ∧ rho s.s (.tmp 2) = .int .i64 st ∧ rho s.s (.tmp 3) = .ptr 0 0 ∧ rho s.s (.tmp 6) = .ptr 1 0 ∧ rho s.s (.tmp 7) = .int .i64 (i : Int) ∧ rho s.s (.tmp 8) = .int .i64 (k : Int) ∧ s.g 0 = some [.imm false c.sets.length xs] ∧ s.g 1 = some [.imm true 0 []] ∧ s.nx = 22) ⟨by simp +decide (disch := first | omega | simp +decide [hl]) only [s9, simprocAttr, hl], by simp +decide (disch := first | omega | simp +decide [hl]) only [s9, simprocAttr, h2], by simp +decide (disch := first | omega | simp +decide [hl]) only [s9, simprocAttr], by simp +decide (disch := first | omega | simp +decide [hl]) only [s9, simprocAttr], by simp +decide (disch := first | omega | simp +decide [hl]) only [s9, simprocAttr], by simp +decide (disch := first | omega | simp +decide [hl]) only [s9, simprocAttr], by simp +decide (disch := first | omega | simp +decide [hl]) only [s9, simprocAttr], by simp +decide (disch := first | omega | simp +decide [hl]) only [s9, simprocAttr], by show (0 + 2 + 10 + 10 : Nat) = 22; rfl⟩ ?_
  clear hl h0 h1 h2
  rintro ⟨s, g, nx⟩ ⟨hl, h2, h3, h6, h7, h8, g0, g1, hnx⟩
  simp only at hl h2 h3 h6 h7 h8 g0 g1 hnx
  subst hnx
  obtain ⟨N, g', nx', hN, w1, w2, w3, w4, w5, w6⟩ := with_run false c.sets.length xs hxl hxf hfit.big.1 i hil f0 l.length ws hxi hcl hclf (by omega) (by have := hrow.1; omega) g (22 + 5)
  have q40 := hN N (Nat.le_refl _)
  have w1' : g' 1 = some [.imm true 0 []] := by rw [w6 1 (by omega)]; exact g1
  refine W_seqn (W_regionN ⟨N, by simp +decide (disch := first | omega | simp +decide [hl]) only [s9, simprocAttr, evI, h3, h7, g0, hcut, ap66, p66, n66, q40]; rfl⟩ ⟨rfl, ?_⟩)
  refine W_abs (fun s => s.s.length = 54 ∧ rho s.s (.tmp 2) = .int .i64 st ∧ rho s.s (.tmp 6) = .ptr 1 0 ∧ rho s.s (.tmp 7) = .int .i64 (i : Int) ∧ rho s.s (.tmp 8) = .int .i64 (k : Int) ∧ rho s.s (.tmp 10) = .ptr 25 0 ∧ s.g 1 = some [.imm true 0 []] ∧ s.g 25 = some [.own 31 0 c.sets.length 1] ∧ s.g 31 = some (xs.set i (.own 43 0 l.length 19)) ∧ s.g 43 = some ws) ?_ ?_
  · refine ⟨?_, ?_, ?_, ?_, ?_, ?_, ?_, ?_, ?_, ?_⟩
    all_goals first | (simp +decide (disch := first | omega | simp +decide [hl]) only [s9, simprocAttr, hl, h2, h3, h6, h7, h8]; done) | (simp +decide only [s9, simprocAttr, w1, w2, w1']; done) | (simp +decide only [s9, simprocAttr, w1, w2, w1']; rfl)
  clear hl h2 h3 h6 h7 h8 g0 g1 w1 w2 w3 w4 w5 w6 w1'
  rintro ⟨s, g, nx⟩ ⟨hl, h2, h6, h7, h8, h10, g1, g25, g31, g43⟩
  simp only at hl h2 h6 h7 h8 h10 g1 g25 g31 g43
  have hxs2 : (xs.set i (.own 43 0 l.length 19))[i * 1]? = some (.own 43 0 l.length 19) := by rw [Nat.mul_one, List.getElem?_set, if_pos rfl, if_pos (by omega)]
  have hx3l : (xs.set i (.own 43 0 l.length 19)).length = c.sets.length := by rw [List.length_set]; exact hxl
  generalize hxs3 : xs.set i (.own 43 0 l.length 19) = xs3 at *
  have hcA : cut [T.own 31 0 c.sets.length 1] 0 1 = [T.own 31 0 c.sets.length 1] := rfl
  have last : ∀ fl : List Way, (∀ w ∈ fl, w.wf) → fl.length = l.length → ∀ st' : St, (st'.s.length = 54 ∧ rho st'.s (.tmp 6) = .ptr 1 0 ∧ rho st'.s (.tmp 10) = .ptr 25 0 ∧ st'.g 1 = some [.imm true 0 []] ∧ st'.g 25 = some [.own 31 0 c.sets.length 1] ∧ st'.g 31 = some xs3 ∧ st'.g 43 = some (fl.flatMap Way.enc)) → W ap (.seq (.region [⟨some 53, .load false 1 (.tmp 10), none⟩, ⟨none, .store 1 (.tmp 6) (.tmp 53), none⟩] []) .ret) st' (fun e s => e.leaves = true ∧ ∃ v, CacheEx (c.sets.set i fl) v ∧ ∃ u ids, resT s.s s.g f92.res = some u ∧ frz ⟨s.g, s.nx⟩ frzDepth u = some (v, ids)) := by
    rintro fl hflw hfll ⟨s, g, nx⟩ ⟨hl, h6, h10, g1, g25, g31, g43⟩
    simp only at hl h6 h10 g1 g25 g31 g43
    refine W_seqn (W_region (fun k => by simp +decide (disch := first | omega | simp +decide [hl]) only [s9, simprocAttr, h6, h10, g1, g25, hcA]; rfl) ⟨rfl, W_ret ?_⟩)
    refine ⟨rfl, .agg [.imm false c.sets.length (xs.set i (.imm false fl.length (fl.flatMap Way.enc)))], ex_set hX i fl, (fin_rowset (F := f92) (p := 1) (A := 31) (B := 43) (l := fl) rfl hx rfl hil hflw ?_ ?_ ?_ ?_).2⟩
    · simp +decide (disch := first | omega | simp +decide [hl]) only [s8, simprocAttr, h6]
    · simp +decide (disch := first | omega | simp +decide [hl]) only [s9, simprocAttr]
    · simp +decide (disch := first | omega | simp +decide [hl]) only [s9, simprocAttr, g31]
      rw [← hxs3, hfll]
    · simp +decide (disch := first | omega | simp +decide [hl]) only [s9, simprocAttr, g43]
  refine W_seqn (W_region (fun k => by simp +decide (disch := first | omega | simp +decide [hl]) only [s9, simprocAttr, h10, h7, h8, g25, g31, hx3l, hil, hb, hxs2, hkl]; rfl) ⟨rfl, ?_⟩)
  refine W_seqn (W_region (fun k => by simp +decide (disch := first | omega | simp +decide [hl]) only [s9, simprocAttr, h2, g43, hcl, hb2]; rfl) ⟨rfl, ?_⟩)
  by_cases hz : st = 0
  · have e1 : (st == 0) = true := by simp [hz]
    refine W_seqn (W_seqn (W_region (fun k => by simp +decide (disch := first | omega | simp +decide [hl]) only [s9, simprocAttr, h2, e1]; rfl) ⟨rfl, W_tru ?_⟩))
    refine W_region (fun k => by simp +decide (disch := first | omega | simp +decide [hl]) only [s9, simprocAttr, hcl, hb3, hb4, hag1', hzl, hzb, hzal, hzalf]; rfl) ⟨rfl, ?_⟩
    have hfw : setW (wayN l k) st = aged zeroW (wayN l k).age := by unfold setW; rw [if_pos hz]
    rw [hfw]
    refine last (l.set k (aged zeroW (wayN l k).age)) (mem_setw hrow.2 k (aged_wf zeroW_wf hwk.2.2.2)) (by rw [List.length_set]) _ ⟨?_, ?_, ?_, ?_, ?_, ?_, ?_⟩
    all_goals simp +decide (disch := first | omega | simp +decide [hl]) only [s9, simprocAttr, hl, h6, h10, g1, g25, g31, hwh]
  · have e1 : (st == 0) = false := beq_eq_false_iff_ne.mpr hz
    refine W_seqn (W_seqn (W_region (fun k => by simp +decide (disch := first | omega | simp +decide [hl]) only [s9, simprocAttr, h2, e1]; rfl) ⟨rfl, W_fls (W_skip ⟨rfl, ?_⟩)⟩))
    have hfw : setW (wayN l k) st = stW (wayN l k) st := by unfold setW; rw [if_neg hz]
    rw [hfw]
    refine last (l.set k (stW (wayN l k) st)) hl1w (by rw [List.length_set]) _ ⟨?_, ?_, ?_, ?_, ?_, ?_, ?_⟩
    all_goals simp +decide (disch := first | omega | simp +decide [hl]) only [s9, simprocAttr, hl, h6, h10, g1, g25, g31, hst1]
theorem bus_fill (c : Cache) (hc : c.wf) (hfit : Fit c.sets) (ln : Nat) (hln : ln ≤ 4294967295) (st : Int) (data : List Int) (hd : data.length = 16 ∧ ∀ y ∈ data, (Lit.int .u8 y).wf = true) :
    ∃ u, E ap 95 [.agg [setsT c], .int .u32 (ln : Int), .int .i64 st, .agg (dataT data)] (.tup [u, .agg (fillR c ln st data).2.enc]) ∧ CacheEx (fillR c ln st data).1 u := by
  by_cases hb : st < 1 ∨ st > 3 ∨ c.sets.length = 0 ∨ (row c (seti c ln)).length = 0
  · have e : fillR c ln st data = (c.sets, zeroW) := if_pos hb
    rw [e]
    exact ⟨_, bus_fill_bad c hc ln hln st data hd.1 hb, ex_sets c⟩
  · obtain ⟨v, h, u, rfl, o⟩ := bus_fill_ok c hc hfit ln hln st data hd (by omega) (by omega) (by omega)
    exact ⟨u, h, o⟩
theorem bus_set_rows (c : Cache) (hc : c.wf) (hfit : Fit c.sets) (ln : Nat) (hln : ln ≤ 4294967295) (st : Int) :
    ∃ v, E ap 92 [.agg [setsT c], .int .u32 (ln : Int), .int .i64 st] v ∧ CacheEx (setR c ln st) v := by
  unfold setR
  cases hf : find c ln with
  | none => exact ⟨_, bus_set_bad c hc ln hln st (.inl hf), ex_sets c⟩
  | some k =>
    by_cases hb : st < 0 ∨ st > 3
    · simp only [if_pos hb]
      exact ⟨_, bus_set_bad c hc ln hln st (.inr hb), ex_sets c⟩
    · simp only [if_neg hb]
      exact bus_set_ok c hc hfit ln hln st k hf (by omega)
theorem fit_setR {c : Cache} (hfit : Fit c.sets) (ln : Nat) (st : Int) : Fit (setR c ln st) := by
  unfold setR
  cases hf : find c ln with
  | none => exact hfit
  | some k =>
    by_cases hb : st < 0 ∨ st > 3
    · simp only [if_pos hb]; exact hfit
    · simp only [if_neg hb]
      obtain ⟨hil, hkl⟩ := find_lt hf
      have hrow := fit_row hfit _ hil
      exact fit_set hfit _ _ ⟨by rw [List.length_set]; exact hrow.1, mem_setw hrow.2 k (setW_wf (wayN_wf hrow.2 hkl) (by omega))⟩
theorem fit_fillR {c : Cache} (hfit : Fit c.sets) (ln : Nat) (hln : ln ≤ 4294967295) (st : Int) (data : List Int) (hd : data.length = 16 ∧ ∀ y ∈ data, (Lit.int .u8 y).wf = true) : Fit (fillR c ln st data).1 ∧ (fillR c ln st data).2.wf := by
  by_cases hb : st < 1 ∨ st > 3 ∨ c.sets.length = 0 ∨ (row c (seti c ln)).length = 0
  · rw [show fillR c ln st data = (c.sets, zeroW) from if_pos hb]
    exact ⟨hfit, zeroW_wf⟩
  · rw [show fillR c ln st data = _ from if_neg hb]
    obtain ⟨hv1, hil, hkl⟩ := victim_lt c ln (by omega) (by omega)
    have hrow := fit_row hfit _ hil
    exact ⟨fit_touch (fit_set hfit _ _ ⟨by rw [List.length_set]; exact hrow.1, mem_setw hrow.2 _ (fillW_wf (wayN_wf hrow.2 hkl) hln (by omega) hd)⟩) _ _, goneW_wf (wayN_wf hrow.2 hkl) ln⟩
end Go.Proofs.YtabfinhkoihhfaaGreat.Abs
