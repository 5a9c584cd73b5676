/- Words of other seats' texts, as they are used here: Bvict2. -/
import Derived.Test.YtabfinhkoihhfaaGreatG02
namespace Go.Proofs.YtabfinhkoihhfaaGreat.Abs
open Go Go.RowKit Fn
set_option linter.unusedVariables false
set_option linter.unusedSimpArgs false
set_option linter.unnecessarySimpa false
set_option maxRecDepth 100000
set_option maxHeartbeats 4000000

def wayN (l : List Way) (k : Nat) : Way := (l[k]?).getD default
theorem way_age {w : Way} (h : w.wf) : w.enc[18]? = some (.int .i64 w.age) := by
  have hd := h.2.2.1.1
  have hl : (w.data.flatMap fun n => [T.int .u8 n]).length = 16 := by rw [flat_len (f := fun n => [T.int .u8 n]) (k := 1) (fun _ => rfl), hd]
  unfold Way.enc
  rw [List.getElem?_append_right (by simp), List.getElem?_append_right (by simp), List.getElem?_append_right (by simp [hl])]
  simp [hl]
def rv (l : List Way) (best : Nat) : Nat → Nat → Nat
  | _, 0 => best
  | k, m + 1 => if (wayN l k).state = 0 then k else rv l (if (wayN l k).age > (wayN l best).age then k else best) (k + 1) m
def victim (c : Cache) (ln : Nat) : Nat × Nat := match find c ln with
  | some k => (seti c ln, k)
  | none => if c.sets.length = 0 then (0, 0) else (seti c ln, rv (row c (seti c ln)) 0 0 (row c (seti c ln)).length)
theorem fin_of2 {F : AFun} {t1 t2 : Nat} {a b : T} (hF : F.res = [.tmp t1, .tmp t2]) (hv : ∀ h : Hp, frz h frzDepth (.tup [a, b]) = some (.tup [a, b], [])) {s : List T} {g : Mem} {nx : Nat} (h1 : rho s (.tmp t1) = a) (h2 : rho s (.tmp t2) = b) : AExit.ret.leaves = true ∧ ∃ u ids, resT s g F.res = some u ∧ frz ⟨g, nx⟩ frzDepth u = some (.tup [a, b], ids) :=
  ⟨rfl, .tup [a, b], [], by rw [hF]; simp only [resT, resL, resOne, h1, h2], hv _⟩
def rvLoop : ACode := match f104.body with | .seq _ (.seq _ (.seq _ (.seq _ (.seq _ (.seq _ (.seq (.seq _ (.block _ (.loop c))) _)))))) => c | _ => .skip
theorem rv_loop (c : Cache) (hc : c.wf) (s : Nat) (hs : s < c.sets.length) (r : Nat) (Q : AExit → St → Prop)
    (hQr : ∀ (st : St), rho st.s (.tmp 4) = .int .i64 (s : Int) → rho st.s (.tmp 5) = .int .i64 (r : Int) → Q .ret st) (hQe : ∀ st : St, st.s.length = 70 → rho st.s (.tmp 6) = .int .i64 (s : Int) → rho st.s (.tmp 9) = .int .i64 (r : Int) → Q (.exit 0) st) :
    ∀ (m : Nat) (st : St), (∃ k best : Nat, st.s.length = 70 ∧ rho st.s (.tmp 2) = .ptr 0 0 ∧ st.g 0 = some [setsT c] ∧ rho st.s (.tmp 6) = .int .i64 (s : Int) ∧ rho st.s (.tmp 9) = .int .i64 (best : Int) ∧ rho st.s (.tmp 10) = .int .i64 (k : Int) ∧ k ≤ (row c s).length ∧ best ≤ k ∧ m = (row c s).length - k ∧ rv (row c s) best k m = r) → W ap (.loop rvLoop) st Q := by
  refine W_loop _ ?_
  rintro n st ⟨k, best, hl, h2, hg, h6, h9, h10, hk, hbk, hn, hr⟩
  have hx : ([setsT c] : List T)[0]? = some (.imm false c.sets.length (c.sets.flatMap (fun l => [rowT l]))) := rfl
  have hrow := rows_get c s hs
  have hrl := rows_len c
  have hwf := row_wf hc s hs
  have hmx := max_small
  have hb1 : s * 1 + 1 ≤ c.sets.length := by omega
  rw [show rowT (row c s) = .imm false (row c s).length ((row c s).flatMap Way.enc) from rfl] at hrow
  have hfl := flat_lenM (f := Way.enc) (row c s) (fun w h => way_len (hwf.2 w h))
  generalize hcs : c.sets.flatMap (fun l => [rowT l]) = cs at *
  by_cases hend : k = (row c s).length
  · have hlt : decide ((k : Int) < ((row c s).length : Int)) = false := decide_eq_false (by omega)
    refine W_seq (W_seqn (W_region (fun k => by simp +decide only [s8, simprocAttr, hl, h2, h6, h10, hg, hx, hrow, hrl, hs, hb1, hlt]; rfl) ⟨rfl, W_fls (W_exit (.inr ⟨by simp, .inr ⟨by simp, hQe _ ?_ ?_ ?_⟩⟩))⟩))
    · simp +decide only [s8, simprocAttr, hl]
    · simp +decide only [s8, simprocAttr, hl, h6]
    · simp +decide only [s8, simprocAttr, hl, h9]
      rw [← hr, hn, hend, Nat.sub_self]; rfl
  · have hlt : decide ((k : Int) < ((row c s).length : Int)) = true := decide_eq_true (by omega)
    have hkl : k < (row c s).length := by omega
    have hbl : best < (row c s).length := by omega
    have hw2 : IntKind.i64.wrap ((k : Int) + 1) = ((k + 1 : Nat) : Int) := by rw [wrap_id (by omega)]; omega
    have hst := way_get (row c s) hwf.2 k hkl 0 (by omega)
    have hag := way_get (row c s) hwf.2 k hkl 18 (by omega)
    have hag2 := way_get (row c s) hwf.2 best hbl 18 (by omega)
    have wfk : (((row c s)[k]?).getD default).wf := by rw [List.getElem?_eq_getElem hkl]; exact hwf.2 _ (List.getElem_mem hkl)
    have wfb : (((row c s)[best]?).getD default).wf := by rw [List.getElem?_eq_getElem hbl]; exact hwf.2 _ (List.getElem_mem hbl)
    rw [way_state, Nat.add_zero] at hst
    rw [way_age wfk] at hag
    rw [way_age wfb] at hag2
    obtain ⟨m, hm⟩ : ∃ m, n = m + 1 := ⟨n - 1, by omega⟩
    rw [hm, rv] at hr
    change _ = some (T.int .i64 (wayN (row c s) k).state) at hst
    change _ = some (T.int .i64 (wayN (row c s) k).age) at hag
    change _ = some (T.int .i64 (wayN (row c s) best).age) at hag2
    clear wfk wfb
    have hb2 : k * 19 + 19 ≤ ((row c s).flatMap Way.enc).length := by omega
    have hb3 : k * 19 + 18 + 1 ≤ ((row c s).flatMap Way.enc).length := by omega
    have hb4 : k * 19 + 1 ≤ ((row c s).flatMap Way.enc).length := by omega
    have hb5 : best * 19 + 19 ≤ ((row c s).flatMap Way.enc).length := by omega
    have hb6 : best * 19 + 18 + 1 ≤ ((row c s).flatMap Way.enc).length := by omega
    refine W_seqn (W_seqn (W_region (fun k => by simp +decide only [s8, simprocAttr, hl, h2, h6, h10, hg, hx, hrow, hrl, hs, hb1, hlt]; rfl) ⟨rfl, W_tru (W_skip ⟨rfl, ?_⟩)⟩))
    generalize wayN (row c s) k = w at *
    generalize wayN (row c s) best = wb at *
    generalize (row c s).flatMap Way.enc = ws at *
    by_cases hz : w.state = 0
    · have hz0 : (w.state == 0) = true := beq_iff_eq.mpr hz
      rw [if_pos hz] at hr
      refine W_seq (W_block (W_seq (W_seqn (W_region (fun k => by simp +decide only [s8, simprocAttr, hl, h2, h6, h10, hg, hx, hrow, hrl, hs, hb1, hb2, hb4, hkl, hst, hz0]; rfl) ⟨rfl, W_tru ?_⟩))))
      refine W_seqn (W_region (fun k => by simp +decide only [s8, simprocAttr, hl, h6, h10]; rfl) ⟨rfl, W_ret ?_⟩)
      simp only [reduceCtorEq, false_and, false_or, or_false, exists_false, exists_const, ne_eq, not_false_eq_true, true_and, implies_true]
      refine hQr _ ?_ ?_
      · simp +decide only [s8, simprocAttr, hl]
      · simp +decide only [s8, simprocAttr, hl, hr]
    · have hz0 : (w.state == 0) = false := beq_eq_false_iff_ne.mpr hz
      rw [if_neg hz] at hr
      refine W_seqn (W_block (W_seqn (W_seqn (W_region (fun k => by simp +decide only [s8, simprocAttr, hl, h2, h6, h10, hg, hx, hrow, hrl, hs, hb1, hb2, hb4, hkl, hst, hz0]; rfl) ⟨rfl, W_fls (W_skip ⟨rfl, ?_⟩)⟩))))
      by_cases hgt : w.age > wb.age
      · have hgd : decide (w.age > wb.age) = true := decide_eq_true hgt
        rw [if_pos hgt] at hr
        refine W_seqn (W_region (fun k => by simp +decide only [s8, simprocAttr, hl, h2, h6, h9, h10, hg, hx, hrow, hrl, hs, hb1, hb2, hb3, hb5, hb6, hkl, hbl, hag, hag2, hgd]; rfl) ⟨rfl, W_tru ?_⟩)
        refine W_region (fun k => by simp +decide only [s8, simprocAttr, hl, h10]; rfl) (.inr (.inl ⟨by simp, rfl, ?_⟩))
        refine W_region (fun k => by simp +decide only [s8, simprocAttr, hl, h10, hw2]; rfl) (.inl ⟨rfl, m, by omega, k + 1, k, ?_, ?_, ?_, ?_, ?_, ?_, by omega, by omega, by omega, hr⟩) <;> simp +decide only [s8, simprocAttr, hl, h2, h6, hg]
      · have hgd : decide (w.age > wb.age) = false := decide_eq_false hgt
        rw [if_neg hgt] at hr
        refine W_seqn (W_region (fun k => by simp +decide only [s8, simprocAttr, hl, h2, h6, h9, h10, hg, hx, hrow, hrl, hs, hb1, hb2, hb3, hb5, hb6, hkl, hbl, hag, hag2, hgd]; rfl) ⟨rfl, W_fls (W_skip (.inr (.inl ⟨by simp, rfl, ?_⟩)))⟩)
        refine W_region (fun k => by simp +decide only [s8, simprocAttr, hl, h10, hw2]; rfl) (.inl ⟨rfl, m, by omega, k + 1, best, ?_, ?_, ?_, ?_, ?_, ?_, by omega, by omega, by omega, hr⟩) <;> simp +decide only [s8, simprocAttr, hl, h2, h6, h9, hg]
def victT (c : Cache) (ln : Nat) : T := .tup [.int .i64 ((victim c ln).1 : Int), .int .i64 ((victim c ln).2 : Int)]
theorem ref_victim (c : Cache) (hc : c.wf) (ln : Nat) (hln : ln ≤ 4294967295) : E ap 104 [.agg [setsT c], .int .u32 (ln : Int)] (victT c ln) := by
  refine E_body (F := f104) rfl rfl rfl ?_
  generalize hs0 : (_ : List T) ++ List.replicate _ T.undef = s0
  have e0 : s0.length = 70 ∧ rho s0 (.tmp 0) = .agg [setsT c] ∧ rho s0 (.tmp 1) = .int .u32 (ln : Int) := by subst hs0; exact ⟨rfl, rfl, rfl⟩
  clear hs0
  obtain ⟨hl, h0, h1⟩ := e0
  have hleaf : allLeaf [setsT c] = true := rfl
  have hcut : cut [setsT c] 0 1 = [setsT c] := rfl
  obtain ⟨N1, c16⟩ := (ref_find c hc ln hln).call ap57 (fun g => rfl)
  obtain ⟨N2, c38⟩ := (ref_set c ln hln).call ap85 (fun g => rfl)
  have q16 := c16 N1 (Nat.le_refl _)
  have q38 := c38 N2 (Nat.le_refl _)
  refine W_seqn (W_region (fun k => by simp +decide only [s8, simprocAttr, hl, h0, hleaf]; rfl) ⟨rfl, ?_⟩)
  cases hf : find c ln with
  | some k =>
    have e1 : findT c ln = .tup [.int .i64 (seti c ln : Int), .int .i64 (k : Int), .bool true] := by unfold findT; rw [hf]
    have e2 : victT c ln = .tup [.int .i64 (seti c ln : Int), .int .i64 (k : Int)] := by unfold victT victim; rw [hf]
    rw [e1] at q16
    rw [e2]
    refine W_seqn (W_regionN ⟨N1, by simp +decide only [s8, simprocAttr, hl, h1, hcut, ap57, p57, n57, q16]; rfl⟩ ⟨rfl, ?_⟩)
    refine W_seq (W_seqn (W_region (fun k => by simp +decide only [s8, simprocAttr, hl]; rfl) ⟨rfl, W_tru ?_⟩))
    refine W_seqn (W_region (fun k => by simp +decide only [s8, simprocAttr, hl]; rfl) ⟨rfl, W_ret ?_⟩)
    simp only [reduceCtorEq, false_and, false_or, or_false, exists_false, exists_const, ne_eq, not_false_eq_true, true_and, implies_true]
    refine fin_of2 (F := f104) rfl (fun _ => rfl) ?_ ?_ <;> simp +decide only [s8, simprocAttr, hl]
  | none =>
    have e1 : findT c ln = .tup [.int .i64 0, .int .i64 0, .bool false] := by unfold findT; rw [hf]
    rw [e1] at q16
    refine W_seqn (W_regionN ⟨N1, by simp +decide only [s8, simprocAttr, hl, h1, hcut, ap57, p57, n57, q16]; rfl⟩ ⟨rfl, ?_⟩)
    refine W_seqn (W_seqn (W_region (fun k => by simp +decide only [s8, simprocAttr, hl]; rfl) ⟨rfl, W_fls (W_skip ⟨rfl, ?_⟩)⟩))
    refine W_seqn (W_regionN ⟨N2, by simp +decide only [s8, simprocAttr, hl, h1, hcut, ap85, p85, n85, q38]; rfl⟩ ⟨rfl, ?_⟩)
    by_cases hz : c.sets.length = 0
    · have e2 : victT c ln = .tup [.int .i64 0, .int .i64 0] := by unfold victT victim; rw [hf]; simp only [if_pos hz]; rfl
      rw [e2]
      refine W_seq (W_seqn (W_region (fun k => by simp +decide only [s8, simprocAttr, hl, hz]; rfl) ⟨rfl, W_tru ?_⟩))
      refine W_seqn (W_region (fun k => by simp +decide only [s8, simprocAttr]; rfl) ⟨rfl, W_ret ?_⟩)
      simp only [reduceCtorEq, false_and, false_or, or_false, exists_false, exists_const, ne_eq, not_false_eq_true, true_and, implies_true]
      refine fin_of2 (F := f104) rfl (fun _ => rfl) ?_ ?_ <;> simp +decide only [s8, simprocAttr, hl]
    · have hd : decide ((seti c ln : Int) < 0) = false := decide_eq_false (by omega)
      have hs : seti c ln < c.sets.length := Nat.mod_lt _ (by omega)
      generalize hr : rv (row c (seti c ln)) 0 0 (row c (seti c ln)).length = r
      have e2 : victT c ln = .tup [.int .i64 (seti c ln : Int), .int .i64 (r : Int)] := by unfold victT victim; rw [hf]; simp only [if_neg hz, hr]
      rw [e2]
      refine W_seqn (W_seqn (W_region (fun k => by simp +decide only [s8, simprocAttr, hl, hz, hd]; rfl) ⟨rfl, W_fls (W_skip ⟨rfl, ?_⟩)⟩))
      refine W_seqn (W_region (fun k => by simp +decide only [s8, simprocAttr]; rfl) ⟨rfl, ?_⟩)
      refine W_seq (W_seqn (W_region (fun k => by simp +decide only [s8, simprocAttr]; rfl) ⟨rfl, W_block ?_⟩))
      refine rv_loop c hc (seti c ln) hs r _ (fun st h4 h5 => ?_) (fun st hst h6 h9 => ?_) (row c (seti c ln)).length _ ⟨0, 0, ?_, ?_, ?_, ?_, ?_, ?_, by omega, by omega, rfl, hr⟩
      · simp only [reduceCtorEq, false_and, false_or, or_false, exists_false, exists_const, ne_eq, not_false_eq_true, true_and, implies_true]
        exact fin_of2 (F := f104) rfl (fun _ => rfl) h4 h5
      · refine .inl ⟨rfl, .inl ⟨rfl, W_seqn (W_region (fun k => by simp +decide only [s8, simprocAttr, hst, h6, h9]; rfl) ⟨rfl, W_ret ?_⟩)⟩⟩
        refine fin_of2 (F := f104) rfl (fun _ => rfl) ?_ ?_ <;> simp +decide only [s8, simprocAttr, hst, h6, h9]
      · simp +decide only [s8, simprocAttr, hl]
      · simp +decide only [s8, simprocAttr, hl]
      · simp +decide only [s8, simprocAttr]
      · simp +decide only [s8, simprocAttr, hl, hz]
      · simp +decide only [s8, simprocAttr, hl]; try rfl
      · simp +decide only [s8, simprocAttr, hl]; try rfl
theorem ap108 : ap 108 = some f108 := rfl
theorem p108 : f108.pure = false := rfl
theorem n108 : f108.nat = none := rfl
def isZ (w : Way) : Bool := w.state == 0
def fz (l : List Way) : Nat → Nat → Option Nat
  | _, 0 => none
  | k, m + 1 => if isZ ((l[k]?).getD default) then some k else fz l (k + 1) m
theorem bus_emp (w : Way) (hw : w.wf) (nx : Nat) (g : Mem) :
    ∃ N g' nx', (∀ k, N ≤ k → runBody (ev ap k) f108 [.agg w.enc] g nx = some (.bool (isZ w), g', nx')) ∧ ((∀ t, t < nx → g' t = g t) ∧ nx ≤ nx') := by
  refine EI_body (P := fun g' nx' => (∀ t, t < nx → g' t = g t) ∧ nx ≤ nx') ?_
  generalize hs0 : (_ : List T) ++ List.replicate _ T.undef = s0
  have e0 : s0.length = 6 ∧ rho s0 (.tmp 0) = .agg w.enc := by subst hs0; exact ⟨rfl, rfl⟩
  clear hs0
  obtain ⟨hl, h0⟩ := e0
  have hleaf := leaf_ints _ (way_ints w)
  have hwl := way_len hw
  have hst := way_state w
  have hz : isZ w = (w.state == 0) := rfl
  have hgt : ∀ t, t < nx → put1 g (nx, some w.enc) t = g t := fun t ht => put1_ne (by omega)
  generalize w.enc = we at *
  refine W_seqn (W_region (fun k => by simp +decide only [s8, simprocAttr, hl, h0, hleaf]; rfl) ⟨rfl, ?_⟩)
  refine W_seqn (W_region (fun k => by simp +decide only [s8, simprocAttr, hl, hwl, hst]; rfl) ⟨rfl, W_ret ⟨rfl, res_one (F := f108) rfl ?_, hgt, by show nx ≤ nx + 2 + 4; omega⟩⟩)
  simp +decide only [s8, simprocAttr, hl, hz]
theorem idz_loop (f : Bool) (l : List Way) (hw : ∀ w ∈ l, w.wf) (hmx : l.length ≤ maxLen) (g0 : Mem) (nx0 : Nat) (r : Option Nat) (Q : AExit → St → Prop)
    (hQr : ∀ (st : St), (∃ k, r = some k) → rho st.s (.tmp 4) = idxT r → (∀ t, t < nx0 → st.g t = g0 t) → nx0 ≤ st.nx → Q .ret st) (hQe : ∀ st : St, r = none → st.s.length = 19 → (∀ t, t < nx0 → st.g t = g0 t) → nx0 ≤ st.nx → Q (.exit 0) st) :
    ∀ (n : Nat) (st : St), (∃ k : Nat, st.s.length = 19 ∧ rho st.s (.tmp 0) = .imm f l.length (l.flatMap Way.enc) ∧ rho st.s (.tmp 1) = .fn 108 [] [] ∧ rho st.s (.tmp 7) = .int .i64 (l.length : Int) ∧ rho st.s (.tmp 8) = .int .i64 (k : Int) ∧ (∀ t, t < nx0 → st.g t = g0 t) ∧ nx0 ≤ st.nx ∧ k ≤ l.length ∧ n = l.length - k ∧ fz l k n = r) → W ap (.loop idxLoop) st Q := by
  refine W_loop _ ?_
  rintro n st ⟨k, hl, h0, h1, h7, h8, hg, hnx, hk, hn, hr⟩
  have hmx' := max_small
  by_cases hend : k = l.length
  · have hlt : decide ((k : Int) < (l.length : Int)) = false := decide_eq_false (by omega)
    refine W_seqn (W_region (fun k => by simp +decide only [s8, simprocAttr, hl, h7, h8, hlt]; rfl) ⟨rfl, ?_⟩)
    refine W_seq (W_fls (W_exit (.inr ⟨by simp, .inr ⟨by simp, hQe _ ?_ ?_ hg ?_⟩⟩)))
    · rw [← hr, hn, hend, Nat.sub_self]; rfl
    · simp +decide only [s8, simprocAttr, hl]
    · show nx0 ≤ st.nx + 1; omega
  · have hlt : decide ((k : Int) < (l.length : Int)) = true := decide_eq_true (by omega)
    have hkl : k < l.length := by omega
    have hw2 : IntKind.i64.wrap ((k : Int) + 1) = ((k + 1 : Nat) : Int) := by rw [wrap_id (by omega)]; omega
    obtain ⟨n', hn'⟩ : ∃ n', n = n' + 1 := ⟨n - 1, by omega⟩
    rw [hn', fz] at hr
    have hfl := flat_lenM (f := Way.enc) l (fun w h => way_len (hw w h))
    have hb2 : k * 19 + 19 ≤ (l.flatMap Way.enc).length := by omega
    have hcw : cut (l.flatMap Way.enc) (k * 19) 19 = ((l[k]?).getD default).enc := by
      rw [flat_cutM l (fun w h => way_len (hw w h)) k hkl, List.getElem?_eq_getElem hkl]; rfl
    have hwf : ((l[k]?).getD default).wf := by rw [List.getElem?_eq_getElem hkl]; exact hw _ (List.getElem_mem hkl)
    generalize ((l[k]?).getD default) = w at *
    refine W_seqn (W_region (fun k => by simp +decide only [s8, simprocAttr, hl, h7, h8, hlt]; rfl) ⟨rfl, ?_⟩)
    refine W_seqn (W_tru (W_skip ⟨rfl, ?_⟩))
    obtain ⟨N, g', nx', hN, hg', hnx'⟩ := bus_emp w hwf (st.nx + 1 + 2 + 6) st.g
    have q39 := hN N (Nat.le_refl _)
    have hg2 : ∀ t, t < nx0 → g' t = g0 t := fun t ht => by rw [hg' t (by omega), hg t ht]
    generalize l.flatMap Way.enc = cs at *
    cases hb : isZ w with
    | true =>
      rw [hb] at hr q39
      simp only [if_true] at hr
      refine W_seq (W_block ?_)
      refine W_seqn (W_region (fun k => by simp +decide only [s8, simprocAttr, hl, h8]; rfl) ⟨rfl, ?_⟩)
      refine W_seqn (W_regionN ⟨N, by simp +decide only [s8, simprocAttr, evI, hl, h0, h1, hkl, hb2, hcw, ap108, p108, n108, q39]; rfl⟩ ⟨rfl, W_tru ?_⟩)
      refine W_seqn (W_region (fun k => by simp +decide only [s8, simprocAttr, hl]; rfl) ⟨rfl, W_ret ?_⟩)
      simp only [reduceCtorEq, false_and, false_or, or_false, exists_false, exists_const, ne_eq, not_false_eq_true, true_and, implies_true]
      refine hQr _ ⟨k, hr.symm⟩ ?_ hg2 ?_
      · rw [← hr]; simp +decide only [s8, simprocAttr, hl, idxT]
      · show nx0 ≤ nx' + 2; omega
    | false =>
      rw [hb] at hr q39
      simp only [Bool.false_eq_true, if_false] at hr
      refine W_seqn (W_block ?_)
      refine W_seqn (W_region (fun k => by simp +decide only [s8, simprocAttr, hl, h8]; rfl) ⟨rfl, ?_⟩)
      refine W_seqn (W_regionN ⟨N, by simp +decide only [s8, simprocAttr, evI, hl, h0, h1, hkl, hb2, hcw, ap108, p108, n108, q39]; rfl⟩ ⟨rfl, W_fls (W_skip (.inr (.inl ⟨by simp, rfl, ?_⟩)))⟩)
      refine W_region (fun k => by simp +decide only [s8, simprocAttr, hl, h8, hw2]; rfl) (.inl ⟨rfl, n', by omega, k + 1, ?_, ?_, ?_, ?_, ?_, hg2, ?_, by omega, by omega, hr⟩)
      · simp +decide only [s8, simprocAttr, hl]
      · simp +decide only [s8, simprocAttr, hl, h0]
      · simp +decide only [s8, simprocAttr, hl, h1]
      · simp +decide only [s8, simprocAttr, hl, h7]
      · simp +decide only [s8, simprocAttr, hl]
      · show nx0 ≤ nx' + 2; omega
theorem bus_idz (f : Bool) (l : List Way) (hw : ∀ w ∈ l, w.wf) (hmx : l.length ≤ maxLen) (g : Mem) (nx : Nat) :
    ∃ N g' nx', (∀ k, N ≤ k → runBody (ev ap k) f99 [.imm f l.length (l.flatMap Way.enc), .fn 108 [] []] g nx = some (idxT (fz l 0 l.length), g', nx')) ∧ ((∀ t, t < nx → g' t = g t) ∧ nx ≤ nx') := by
  refine EI_body (P := fun g' nx' => (∀ t, t < nx → g' t = g t) ∧ nx ≤ nx') ?_
  generalize hs0 : (_ : List T) ++ List.replicate _ T.undef = s0
  have e0 : s0.length = 19 ∧ rho s0 (.tmp 0) = .imm f l.length (l.flatMap Way.enc) ∧ rho s0 (.tmp 1) = .fn 108 [] [] := by subst hs0; exact ⟨rfl, rfl, rfl⟩
  clear hs0
  obtain ⟨hl, h0, h1⟩ := e0
  refine W_seqn (W_region (fun k => by simp +decide only [s8, simprocAttr]; rfl) ⟨rfl, ?_⟩)
  refine W_seq (W_seqn (W_region (fun k => by simp +decide only [s8, simprocAttr, hl, h0]; rfl) ⟨rfl, W_block ?_⟩))
  generalize hr : fz l 0 l.length = r
  refine idz_loop f l hw hmx g nx r _ (fun st hk h4 hg' hn => ?_) (fun st hr hst hg' hn => ?_) l.length _ ⟨0, ?_, ?_, ?_, ?_, ?_, fun t ht => rfl, ?_, by omega, rfl, hr⟩
  · simp only [reduceCtorEq, false_and, false_or, or_false, exists_false, exists_const, ne_eq, not_false_eq_true, true_and, implies_true]
    exact ⟨rfl, res_one (F := f99) rfl h4, hg', hn⟩
  · subst hr
    refine .inl ⟨rfl, .inl ⟨rfl, W_seqn (W_region (fun k => by simp +decide only [s8, simprocAttr]; rfl) ⟨rfl, W_ret ⟨rfl, res_one (F := f99) rfl ?_, ?_, ?_⟩⟩)⟩⟩
    · simp +decide only [s8, simprocAttr, hst, idxT]
    · exact hg'
    · show nx ≤ st.nx + 1; omega
  · simp +decide only [s8, simprocAttr, hl]
  · simp +decide only [s8, simprocAttr, hl, h0]
  · simp +decide only [s8, simprocAttr, hl, h1]
  · simp +decide only [s8, simprocAttr, hl]
  · simp +decide only [s8, simprocAttr, hl]; try rfl
  · show nx ≤ nx + 1 + 3; omega
def bv (l : List Way) (best : Nat) : Nat → Nat → Nat
  | _, 0 => best
  | k, m + 1 => bv l (if (wayN l k).age > (wayN l best).age then k else best) (k + 1) m
theorem rv_some (l : List Way) : ∀ m k best j, fz l k m = some j → rv l best k m = j
  | 0, _, _, _, h => by cases h
  | m + 1, k, best, j, h => by
    simp only [fz, isZ] at h
    rw [rv]
    by_cases hz : (wayN l k).state = 0
    · rw [if_pos hz]
      have : ((l[k]?).getD default).state = 0 := hz
      simp only [this, beq_self_eq_true, if_true, Option.some.injEq] at h
      exact h
    · rw [if_neg hz]
      have : (((l[k]?).getD default).state == 0) = false := beq_eq_false_iff_ne.mpr hz
      simp only [this, Bool.false_eq_true, if_false] at h
      exact rv_some l m _ _ j h
theorem rv_none (l : List Way) : ∀ m k best, fz l k m = none → rv l best k m = bv l best k m
  | 0, _, _, _ => rfl
  | m + 1, k, best, h => by
    simp only [fz, isZ] at h
    rw [rv, bv]
    by_cases hz : (wayN l k).state = 0
    · have : ((l[k]?).getD default).state = 0 := hz
      simp only [this, beq_self_eq_true, if_true] at h
      cases h
    · rw [if_neg hz]
      have : (((l[k]?).getD default).state == 0) = false := beq_eq_false_iff_ne.mpr hz
      simp only [this, Bool.false_eq_true, if_false] at h
      exact rv_none l m _ _ h
theorem ways_of2 (c : Cache) (hc : c.wf) (ln : Nat) : ∃ f l, waysT c ln = .imm f l.length (l.flatMap Way.enc) ∧ (∀ w ∈ l, w.wf) ∧ l.length ≤ maxLen ∧ (c.sets.length = 0 → l = []) ∧ (¬ c.sets.length = 0 → l = row c (seti c ln)) := by
  by_cases hz : c.sets.length = 0
  · exact ⟨true, [], by unfold waysT; rw [if_pos hz]; rfl, by simp, by simp, fun _ => rfl, fun h => absurd hz h⟩
  · have hs : seti c ln < c.sets.length := Nat.mod_lt _ (by omega)
    have hr := row_wf hc _ hs
    exact ⟨false, row c (seti c ln), by unfold waysT; rw [if_neg hz]; rfl, hr.2, hr.1, fun h => absurd h hz, fun _ => rfl⟩
theorem zenc_leaf : allLeaf zeroW.enc = true := rfl
def bvLoop : ACode := match f106.body with | .seq _ (.seq _ (.seq _ (.seq _ (.seq _ (.seq (.seq _ (.block _ (.loop c))) _))))) => c | _ => .skip
theorem bv_loop (c : Cache) (f : Bool) (l : List Way) (hw : ∀ w ∈ l, w.wf) (hmx : l.length ≤ maxLen) (v1 : T) (r : Nat) (Q : AExit → St → Prop)
    (hQe : ∀ st : St, st.s.length = 56 → rho st.s (.tmp 1) = v1 → rho st.s (.tmp 2) = .ptr 0 0 → st.g 0 = some [setsT c] → rho st.s (.tmp 11) = .int .i64 (r : Int) → Q (.exit 0) st) :
    ∀ (m : Nat) (st : St), (∃ k best : Nat, st.s.length = 56 ∧ rho st.s (.tmp 1) = v1 ∧ rho st.s (.tmp 2) = .ptr 0 0 ∧ st.g 0 = some [setsT c] ∧ 0 < st.nx ∧ rho st.s (.tmp 6) = .imm f l.length (l.flatMap Way.enc) ∧ rho st.s (.tmp 35) = .imm f l.length (l.flatMap Way.enc) ∧ rho st.s (.tmp 36) = .int .i64 (l.length : Int) ∧ rho st.s (.tmp 11) = .int .i64 (best : Int) ∧ rho st.s (.tmp 37) = .int .i64 (k : Int) ∧ k ≤ l.length ∧ best ≤ k ∧ m = l.length - k ∧ bv l best k m = r) → W ap (.loop bvLoop) st Q := by
  refine W_loop _ ?_
  rintro n st ⟨k, best, hl, h1, h2, hg, hnx, h6, h35, h36, h11, h37, hk, hbk, hn, hr⟩
  have hmx' := max_small
  by_cases hend : k = l.length
  · have hlt : decide ((k : Int) < (l.length : Int)) = false := decide_eq_false (by omega)
    refine W_seqn (W_region (fun k => by simp +decide only [s8, simprocAttr, hl, h36, h37, hlt]; rfl) ⟨rfl, ?_⟩)
    refine W_seq (W_fls (W_exit (.inr ⟨by simp, .inr ⟨by simp, hQe _ ?_ ?_ ?_ hg ?_⟩⟩)))
    · simp +decide only [s8, simprocAttr, hl]
    · simp +decide only [s8, simprocAttr, hl, h1]
    · simp +decide only [s8, simprocAttr, hl, h2]
    · simp +decide only [s8, simprocAttr, hl, h11]
      rw [← hr, hn, hend, Nat.sub_self]; rfl
  · have hlt : decide ((k : Int) < (l.length : Int)) = true := decide_eq_true (by omega)
    have hkl : k < l.length := by omega
    have hbl : best < l.length := by omega
    have hw2 : IntKind.i64.wrap ((k : Int) + 1) = ((k + 1 : Nat) : Int) := by rw [wrap_id (by omega)]; omega
    obtain ⟨m, hm⟩ : ∃ m, n = m + 1 := ⟨n - 1, by omega⟩
    rw [hm, bv] at hr
    have hfl := flat_lenM (f := Way.enc) l (fun w h => way_len (hw w h))
    have hb2 : k * 19 + 19 ≤ (l.flatMap Way.enc).length := by omega
    have hb5 : best * 19 + 19 ≤ (l.flatMap Way.enc).length := by omega
    have hb6 : best * 19 + 18 + 1 ≤ (l.flatMap Way.enc).length := by omega
    have wfk : (wayN l k).wf := by unfold wayN; rw [List.getElem?_eq_getElem hkl]; exact hw _ (List.getElem_mem hkl)
    have wfb : (wayN l best).wf := by unfold wayN; rw [List.getElem?_eq_getElem hbl]; exact hw _ (List.getElem_mem hbl)
    have hcw : cut (l.flatMap Way.enc) (k * 19) 19 = (wayN l k).enc := by
      rw [flat_cutM l (fun w h => way_len (hw w h)) k hkl]; unfold wayN; rw [List.getElem?_eq_getElem hkl]; rfl
    have hag := way_age wfk
    have hag2 := way_get l hw best hbl 18 (by omega)
    have hag3 : (l.flatMap Way.enc)[best * 19 + 18]? = some (.int .i64 (wayN l best).age) := by rw [hag2]; exact way_age wfb
    clear hag2
    have hwl := way_len wfk
    have hwleaf := leaf_ints _ (way_ints (wayN l k))
    have hzl : zeroW.enc.length = 19 := rfl
    have hzleaf := zenc_leaf
    have hsp : splice zeroW.enc 0 (wayN l k).enc = (wayN l k).enc := splice_all (by rw [hwl]; rfl)
    have hb7 : 18 + 1 ≤ (wayN l k).enc.length := by omega
    have hbody : bvLoop = bvLoop := rfl
    conv at hbody => rhs; simp only [bvLoop, f106]
    simp only [← zero_enc] at hbody
    rw [hbody]
    generalize hW : wayN l k = w at *
    generalize hWb : wayN l best = wb at *
    generalize l.flatMap Way.enc = ws at *
    refine W_seqn (W_region (fun k => by simp +decide only [s8, simprocAttr, hl, h36, h37, hlt]; rfl) ⟨rfl, ?_⟩)
    refine W_seqn (W_tru (W_skip ⟨rfl, ?_⟩))
    refine W_seqn (W_block (W_seqn (W_region (fun k => by simp +decide only [s8, simprocAttr, hl, h35, h37, hkl, hb2, hcw, hzl, hzleaf, hwl, hwleaf, hsp]; rfl) ⟨rfl, ?_⟩)))
    by_cases hgt : w.age > wb.age
    · have hgd : decide (w.age > wb.age) = true := decide_eq_true hgt
      rw [if_pos hgt] at hr
      refine W_seqn (W_region (fun k => by simp +decide only [s8, simprocAttr, hl, h6, h11, hbl, hb5, hb6, hwl, hag, hag3, hgd]; rfl) ⟨rfl, W_tru ?_⟩)
      refine W_region (fun k => by simp +decide only [s8, simprocAttr, hl]; rfl) (.inr (.inl ⟨by simp, rfl, ?_⟩))
      refine W_region (fun k => by simp +decide only [s8, simprocAttr, hl, h37, hw2]; rfl) (.inl ⟨rfl, m, by omega, k + 1, k, ?_, ?_, ?_, ?_, ?_, ?_, ?_, ?_, ?_, ?_, by omega, by omega, by omega, hr⟩)
      · simp +decide only [s8, simprocAttr, hl]
      · simp +decide only [s8, simprocAttr, hl, h1]
      · simp +decide only [s8, simprocAttr, hl, h2]
      · rw [← hg]; simp only [putAll, List.foldl]; rw [put1_ne (by omega), put1_ne (by omega)]
      · show 0 < st.nx + 1 + 6 + 8 + 2 + 2; omega
      · simp +decide only [s8, simprocAttr, hl, h6]
      · simp +decide only [s8, simprocAttr, hl, h35]
      · simp +decide only [s8, simprocAttr, hl, h36]
      · simp +decide only [s8, simprocAttr, hl]
      · simp +decide only [s8, simprocAttr, hl]
    · have hgd : decide (w.age > wb.age) = false := decide_eq_false hgt
      rw [if_neg hgt] at hr
      refine W_seqn (W_region (fun k => by simp +decide only [s8, simprocAttr, hl, h6, h11, hbl, hb5, hb6, hwl, hag, hag3, hgd]; rfl) ⟨rfl, W_fls (W_skip (.inr (.inl ⟨by simp, rfl, ?_⟩)))⟩)
      refine W_region (fun k => by simp +decide only [s8, simprocAttr, hl, h37, hw2]; rfl) (.inl ⟨rfl, m, by omega, k + 1, best, ?_, ?_, ?_, ?_, ?_, ?_, ?_, ?_, ?_, ?_, by omega, by omega, by omega, hr⟩)
      · simp +decide only [s8, simprocAttr, hl]
      · simp +decide only [s8, simprocAttr, hl, h1]
      · simp +decide only [s8, simprocAttr, hl, h2]
      · rw [← hg]; simp only [putAll, List.foldl]; rw [put1_ne (by omega), put1_ne (by omega)]
      · show 0 < st.nx + 1 + 6 + 8 + 2; omega
      · simp +decide only [s8, simprocAttr, hl, h6]
      · simp +decide only [s8, simprocAttr, hl, h35]
      · simp +decide only [s8, simprocAttr, hl, h36]
      · simp +decide only [s8, simprocAttr, hl, h11]
      · simp +decide only [s8, simprocAttr, hl]
theorem bus_victim (c : Cache) (hc : c.wf) (ln : Nat) (hln : ln ≤ 4294967295) : E ap 106 [.agg [setsT c], .int .u32 (ln : Int)] (victT c ln) := by
  refine E_body (F := f106) rfl rfl rfl ?_
  generalize hs0 : (_ : List T) ++ List.replicate _ T.undef = s0
  have e0 : s0.length = 56 ∧ rho s0 (.tmp 0) = .agg [setsT c] ∧ rho s0 (.tmp 1) = .int .u32 (ln : Int) := by subst hs0; exact ⟨rfl, rfl, rfl⟩
  clear hs0
  obtain ⟨hl, h0, h1⟩ := e0
  have hleaf : allLeaf [setsT c] = true := rfl
  have hcut : cut [setsT c] 0 1 = [setsT c] := rfl
  obtain ⟨f, l, hwt, hlw, hlm, hl0, hlr⟩ := ways_of2 c hc ln
  obtain ⟨N1, c35⟩ := (bus_ways c hc ln hln).call ap100 (fun g => rfl)
  obtain ⟨N2, c15⟩ := (bus_find c hc ln hln).call ap69 (fun g => rfl)
  obtain ⟨N3, c37⟩ := (bus_set c hc ln hln).call ap102 (fun g => rfl)
  have q35 := c35 N1 (Nat.le_refl _)
  have q15 := c15 N2 (Nat.le_refl _)
  have q37 := c37 N3 (Nat.le_refl _)
  rw [hwt] at q35
  have hloop := bv_loop c f l hlw hlm (.int .u32 (ln : Int))
  refine W_seqn (W_region (fun k => by simp +decide only [s8, simprocAttr, hl, h0, hleaf]; rfl) ⟨rfl, ?_⟩)
  generalize hg1 : put1 (fun _ => none) (0, some [setsT c]) = g1
  have hga : g1 0 = some [setsT c] := by subst hg1; rfl
  obtain ⟨N4, g', nx', hN, hg', hnx'⟩ := bus_idz f l hlw hlm g1 21
  have q34 := hN N4 (Nat.le_refl _)
  have hga' : g' 0 = some [setsT c] := by rw [hg' 0 (by omega), hga]
  generalize l.flatMap Way.enc = cs at *
  refine W_seqn (W_regionN ⟨N1, by simp +decide only [s8, simprocAttr, hl, h1, hga, hcut, ap100, p100, n100, q35]; rfl⟩ ⟨rfl, ?_⟩)
  cases hf : find c ln with
  | some k =>
    have e1 : findT c ln = .tup [.int .i64 (seti c ln : Int), .int .i64 (k : Int), .bool true] := by unfold findT; rw [hf]
    have e2 : victT c ln = .tup [.int .i64 (seti c ln : Int), .int .i64 (k : Int)] := by unfold victT victim; rw [hf]
    rw [e1] at q15
    rw [e2]
    refine W_seq (W_seqn (W_regionN ⟨N2, by simp +decide only [s8, simprocAttr, hl, h1, hga, hcut, ap69, p69, n69, q15]; rfl⟩ ⟨rfl, ?_⟩))
    refine W_seqn (W_region (fun k => by simp +decide only [s8, simprocAttr, hl]; rfl) ⟨rfl, W_tru ?_⟩)
    refine W_seqn (W_region (fun k => by simp +decide only [s8, simprocAttr, hl]; rfl) ⟨rfl, W_ret ?_⟩)
    simp only [reduceCtorEq, false_and, false_or, or_false, exists_false, exists_const, ne_eq, not_false_eq_true, true_and, implies_true]
    refine fin_of2 (F := f106) rfl (fun _ => rfl) ?_ ?_ <;> simp +decide only [s8, simprocAttr, hl]
  | none =>
    have e1 : findT c ln = .tup [.int .i64 0, .int .i64 0, .bool false] := by unfold findT; rw [hf]
    rw [e1] at q15
    refine W_seqn (W_seqn (W_regionN ⟨N2, by simp +decide only [s8, simprocAttr, hl, h1, hga, hcut, ap69, p69, n69, q15]; rfl⟩ ⟨rfl, ?_⟩))
    refine W_seqn (W_region (fun k => by simp +decide only [s8, simprocAttr, hl]; rfl) ⟨rfl, W_fls (W_skip ⟨rfl, ?_⟩)⟩)
    cases hz : fz l 0 l.length with
    | some k =>
      have hnz : ¬ c.sets.length = 0 := fun h => by rw [hl0 h] at hz; cases hz
      have hd : decide ((k : Int) ≥ 0) = true := decide_eq_true (by omega)
      have e2 : victT c ln = .tup [.int .i64 (seti c ln : Int), .int .i64 (k : Int)] := by
        unfold victT victim; rw [hf]; simp only [if_neg hnz, ← hlr hnz, rv_some l _ _ 0 _ hz]
      rw [e2]
      rw [hz] at q34
      rw [if_neg hnz] at q37
      refine W_seq (W_seqn (W_regionN ⟨N4, by simp +decide only [s8, simprocAttr, evI, hl, ap99, p99, n99, q34]; rfl⟩ ⟨rfl, ?_⟩))
      refine W_seqn (W_region (fun k => by simp +decide only [s8, simprocAttr, hl, idxT, hd]; rfl) ⟨rfl, W_tru ?_⟩)
      refine W_seqn (W_regionN ⟨N3, by simp +decide only [s8, simprocAttr, hl, h1, hga', hcut, ap102, p102, n102, q37]; rfl⟩ ⟨rfl, W_ret ?_⟩)
      simp only [reduceCtorEq, false_and, false_or, or_false, exists_false, exists_const, ne_eq, not_false_eq_true, true_and, implies_true]
      refine fin_of2 (F := f106) rfl (fun _ => rfl) ?_ ?_ <;> simp +decide only [s8, simprocAttr, hl]
    | none =>
      have hd : decide ((-1 : Int) ≥ 0) = false := rfl
      rw [hz] at q34
      generalize hr : bv l 0 0 l.length = r at *
      have e2 : victT c ln = .tup [.int .i64 (if c.sets.length = 0 then 0 else (seti c ln : Int)), .int .i64 (r : Int)] := by
        unfold victT victim; rw [hf]
        by_cases hs : c.sets.length = 0
        · simp only [if_pos hs]; rw [← hr, hl0 hs]; try rfl
        · simp only [if_neg hs, ← hlr hs, rv_none l _ _ 0 hz, hr]
      rw [e2]
      generalize (if c.sets.length = 0 then 0 else (seti c ln : Int)) = sv at *
      refine W_seqn (W_seqn (W_regionN ⟨N4, by simp +decide only [s8, simprocAttr, evI, hl, ap99, p99, n99, q34]; rfl⟩ ⟨rfl, ?_⟩))
      refine W_seqn (W_region (fun k => by simp +decide only [s8, simprocAttr, hl, idxT, hd]; rfl) ⟨rfl, W_fls (W_skip ⟨rfl, ?_⟩)⟩)
      refine W_seqn (W_region (fun k => by simp +decide only [s8, simprocAttr]; rfl) ⟨rfl, ?_⟩)
      refine W_seq (W_seqn (W_region (fun k => by simp +decide only [s8, simprocAttr, hl]; rfl) ⟨rfl, W_block ?_⟩))
      refine hloop r _ (fun st hst h1 h2 hg h11 => ?_) l.length _ ⟨0, 0, ?_, ?_, ?_, ?_, ?_, ?_, ?_, ?_, ?_, ?_, by omega, by omega, rfl, hr⟩
      · refine .inl ⟨rfl, .inl ⟨rfl, W_seqn (W_regionN ⟨N3, by simp +decide only [s8, simprocAttr, hst, h1, h2, hg, h11, hcut, ap102, p102, n102, q37]; rfl⟩ ⟨rfl, W_ret ?_⟩)⟩⟩
        refine fin_of2 (F := f106) rfl (fun _ => rfl) ?_ ?_ <;> simp +decide only [s8, simprocAttr, hst]
      · simp +decide only [s8, simprocAttr, hl]
      · simp +decide only [s8, simprocAttr, hl, h1]
      · simp +decide only [s8, simprocAttr, hl]
      · exact hga'
      · show 0 < nx' + 2 + 1 + 3; omega
      all_goals first | (simp +decide only [s8, simprocAttr, hl]; done) | (simp +decide only [s8, simprocAttr, hl]; rfl)
end Go.Proofs.YtabfinhkoihhfaaGreat.Abs
