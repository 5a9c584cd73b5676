/- Words of other seats' texts, as they are used here: Bvict2 With. -/
import Derived.Test.YtabfinhkoihhfaaG02
namespace Go.Proofs.Ytabfinhkoihhfaa.Abs
open Go Go.RowKit Fn
set_option linter.unusedVariables false
set_option linter.unusedSimpArgs false
set_option linter.unnecessarySimpa false
set_option maxRecDepth 100000
set_option maxHeartbeats 4000000

def wayN (l : List Way) (k : Nat) : Way := (l[k]?).getD default
theorem way_age {w : Way} (h : w.wf) : w.enc[18]? = some (.int .i64 w.age) := by
  have hd := h.2.2.1.1
  have hl : (w.data.flatMap fun n => [T.int .u8 n]).length = 16 := by rw [flat_len (f := fun n => [T.int .u8 n]) (k := 1) (fun _ => rfl), hd]
  unfold Way.enc
  rw [List.getElem?_append_right (by simp), List.getElem?_append_right (by simp), List.getElem?_append_right (by simp [hl])]
  simp [hl]
def rv (l : List Way) (best : Nat) : Nat → Nat → Nat
  | _, 0 => best
  | k, m + 1 => if (wayN l k).state = 0 then k else rv l (if (wayN l k).age > (wayN l best).age then k else best) (k + 1) m
def victim (c : Cache) (ln : Nat) : Nat × Nat := match find c ln with
  | some k => (seti c ln, k)
  | none => if c.sets.length = 0 then (0, 0) else (seti c ln, rv (row c (seti c ln)) 0 0 (row c (seti c ln)).length)
theorem fin_of2 {F : AFun} {t1 t2 : Nat} {a b : T} (hF : F.res = [.tmp t1, .tmp t2]) (hv : ∀ h : Hp, frz h frzDepth (.tup [a, b]) = some (.tup [a, b], [])) {s : List T} {g : Mem} {nx : Nat} (h1 : rho s (.tmp t1) = a) (h2 : rho s (.tmp t2) = b) : AExit.ret.leaves = true ∧ ∃ u ids, resT s g F.res = some u ∧ frz ⟨g, nx⟩ frzDepth u = some (.tup [a, b], ids) :=
  ⟨rfl, .tup [a, b], [], by rw [hF]; simp only [resT, resL, resOne, h1, h2], hv _⟩
def victT (c : Cache) (ln : Nat) : T := .tup [.int .i64 ((victim c ln).1 : Int), .int .i64 ((victim c ln).2 : Int)]
theorem ap77 : ap 77 = some f77 := rfl
theorem p77 : f77.pure = false := rfl
theorem n77 : f77.nat = none := rfl
def isZ (w : Way) : Bool := w.state == 0
def fz (l : List Way) : Nat → Nat → Option Nat
  | _, 0 => none
  | k, m + 1 => if isZ ((l[k]?).getD default) then some k else fz l (k + 1) m
theorem bus_emp (w : Way) (hw : w.wf) (nx : Nat) (g : Mem) :
    ∃ N g' nx', (∀ k, N ≤ k → runBody (ev ap k) f77 [.agg w.enc] g nx = some (.bool (isZ w), g', nx')) ∧ ((∀ t, t < nx → g' t = g t) ∧ nx ≤ nx') := by
  refine EI_body (P := fun g' nx' => (∀ t, t < nx → g' t = g t) ∧ nx ≤ nx') ?_
  generalize hs0 : (_ : List T) ++ List.replicate _ T.undef = s0
  have e0 : s0.length = 6 ∧ rho s0 (.tmp 0) = .agg w.enc := by subst hs0; exact ⟨rfl, rfl⟩
  clear hs0
  obtain ⟨hl, h0⟩ := e0
  have hleaf := leaf_ints _ (way_ints w)
  have hwl := way_len hw
  have hst := way_state w
  have hz : isZ w = (w.state == 0) := rfl
  have hgt : ∀ t, t < nx → put1 g (nx, some w.enc) t = g t := fun t ht => put1_ne (by omega)
  generalize w.enc = we at *
  refine W_seqn (W_region (fun k => by simp +decide only [sa, simprocAttr, hl, h0, hleaf]; rfl) ⟨rfl, ?_⟩)
  refine W_seqn (W_region (fun k => by simp +decide only [sa, simprocAttr, hl, hwl, hst]; rfl) ⟨rfl, W_ret ⟨rfl, res_one (F := f77) rfl ?_, hgt, by show nx ≤ nx + 2 + 4; omega⟩⟩)
  simp +decide only [sa, simprocAttr, hl, hz]
theorem idz_loop (f : Bool) (l : List Way) (hw : ∀ w ∈ l, w.wf) (hmx : l.length ≤ maxLen) (g0 : Mem) (nx0 : Nat) (r : Option Nat) (Q : AExit → St → Prop)
    (hQr : ∀ (st : St), (∃ k, r = some k) → rho st.s (.tmp 4) = idxT r → (∀ t, t < nx0 → st.g t = g0 t) → nx0 ≤ st.nx → Q .ret st) (hQe : ∀ st : St, r = none → st.s.length = 19 → (∀ t, t < nx0 → st.g t = g0 t) → nx0 ≤ st.nx → Q (.exit 0) st) :
    ∀ (n : Nat) (st : St), (∃ k : Nat, st.s.length = 19 ∧ rho st.s (.tmp 0) = .imm f l.length (l.flatMap Way.enc) ∧ rho st.s (.tmp 1) = .fn 77 [] [] ∧ rho st.s (.tmp 7) = .int .i64 (l.length : Int) ∧ rho st.s (.tmp 8) = .int .i64 (k : Int) ∧ (∀ t, t < nx0 → st.g t = g0 t) ∧ nx0 ≤ st.nx ∧ k ≤ l.length ∧ n = l.length - k ∧ fz l k n = r) → W ap (.loop idxLoop) st Q := by
  refine W_loop _ ?_
  rintro n st ⟨k, hl, h0, h1, h7, h8, hg, hnx, hk, hn, hr⟩
  have hmx' := max_small
  by_cases hend : k = l.length
  · have hlt : decide ((k : Int) < (l.length : Int)) = false := decide_eq_false (by omega)
    refine W_seqn (W_region (fun k => by simp +decide only [sa, simprocAttr, hl, h7, h8, hlt]; rfl) ⟨rfl, ?_⟩)
    refine W_seq (W_fls (W_exit (.inr ⟨by simp, .inr ⟨by simp, hQe _ ?_ ?_ hg ?_⟩⟩)))
    · rw [← hr, hn, hend, Nat.sub_self]; rfl
    · simp +decide only [sa, simprocAttr, hl]
    · show nx0 ≤ st.nx + 1; omega
  · have hlt : decide ((k : Int) < (l.length : Int)) = true := decide_eq_true (by omega)
    have hkl : k < l.length := by omega
    have hw2 : IntKind.i64.wrap ((k : Int) + 1) = ((k + 1 : Nat) : Int) := by rw [wrap_id (by omega)]; omega
    obtain ⟨n', hn'⟩ : ∃ n', n = n' + 1 := ⟨n - 1, by omega⟩
    rw [hn', fz] at hr
    have hfl := flat_lenM (f := Way.enc) l (fun w h => way_len (hw w h))
    have hb2 : k * 19 + 19 ≤ (l.flatMap Way.enc).length := by omega
    have hcw : cut (l.flatMap Way.enc) (k * 19) 19 = ((l[k]?).getD default).enc := by
      rw [flat_cutM l (fun w h => way_len (hw w h)) k hkl, List.getElem?_eq_getElem hkl]; rfl
    have hwf : ((l[k]?).getD default).wf := by rw [List.getElem?_eq_getElem hkl]; exact hw _ (List.getElem_mem hkl)
    generalize ((l[k]?).getD default) = w at *
    refine W_seqn (W_region (fun k => by simp +decide only [sa, simprocAttr, hl, h7, h8, hlt]; rfl) ⟨rfl, ?_⟩)
    refine W_seqn (W_tru (W_skip ⟨rfl, ?_⟩))
    obtain ⟨N, g', nx', hN, hg', hnx'⟩ := bus_emp w hwf (st.nx + 1 + 2 + 6) st.g
    have q39 := hN N (Nat.le_refl _)
    have hg2 : ∀ t, t < nx0 → g' t = g0 t := fun t ht => by rw [hg' t (by omega), hg t ht]
    generalize l.flatMap Way.enc = cs at *
    cases hb : isZ w with
    | true =>
      rw [hb] at hr q39
      simp only [if_true] at hr
      refine W_seq (W_block ?_)
      refine W_seqn (W_region (fun k => by simp +decide only [sa, simprocAttr, hl, h8]; rfl) ⟨rfl, ?_⟩)
      refine W_seqn (W_regionN ⟨N, by simp +decide only [sa, simprocAttr, evI, hl, h0, h1, hkl, hb2, hcw, ap77, p77, n77, q39]; rfl⟩ ⟨rfl, W_tru ?_⟩)
      refine W_seqn (W_region (fun k => by simp +decide only [sa, simprocAttr, hl]; rfl) ⟨rfl, W_ret ?_⟩)
      simp only [reduceCtorEq, false_and, false_or, or_false, exists_false, exists_const, ne_eq, not_false_eq_true, true_and, implies_true]
      refine hQr _ ⟨k, hr.symm⟩ ?_ hg2 ?_
      · rw [← hr]; simp +decide only [sa, simprocAttr, hl, idxT]
      · show nx0 ≤ nx' + 2; omega
    | false =>
      rw [hb] at hr q39
      simp only [Bool.false_eq_true, if_false] at hr
      refine W_seqn (W_block ?_)
      refine W_seqn (W_region (fun k => by simp +decide only [sa, simprocAttr, hl, h8]; rfl) ⟨rfl, ?_⟩)
      refine W_seqn (W_regionN ⟨N, by simp +decide only [sa, simprocAttr, evI, hl, h0, h1, hkl, hb2, hcw, ap77, p77, n77, q39]; rfl⟩ ⟨rfl, W_fls (W_skip (.inr (.inl ⟨by simp, rfl, ?_⟩)))⟩)
      refine W_region (fun k => by simp +decide only [sa, simprocAttr, hl, h8, hw2]; rfl) (.inl ⟨rfl, n', by omega, k + 1, ?_, ?_, ?_, ?_, ?_, hg2, ?_, by omega, by omega, hr⟩)
      · simp +decide only [sa, simprocAttr, hl]
      · simp +decide only [sa, simprocAttr, hl, h0]
      · simp +decide only [sa, simprocAttr, hl, h1]
      · simp +decide only [sa, simprocAttr, hl, h7]
      · simp +decide only [sa, simprocAttr, hl]
      · show nx0 ≤ nx' + 2; omega
theorem bus_idz (f : Bool) (l : List Way) (hw : ∀ w ∈ l, w.wf) (hmx : l.length ≤ maxLen) (g : Mem) (nx : Nat) :
    ∃ N g' nx', (∀ k, N ≤ k → runBody (ev ap k) f70 [.imm f l.length (l.flatMap Way.enc), .fn 77 [] []] g nx = some (idxT (fz l 0 l.length), g', nx')) ∧ ((∀ t, t < nx → g' t = g t) ∧ nx ≤ nx') := by
  refine EI_body (P := fun g' nx' => (∀ t, t < nx → g' t = g t) ∧ nx ≤ nx') ?_
  generalize hs0 : (_ : List T) ++ List.replicate _ T.undef = s0
  have e0 : s0.length = 19 ∧ rho s0 (.tmp 0) = .imm f l.length (l.flatMap Way.enc) ∧ rho s0 (.tmp 1) = .fn 77 [] [] := by subst hs0; exact ⟨rfl, rfl, rfl⟩
  clear hs0
  obtain ⟨hl, h0, h1⟩ := e0
  refine W_seqn (W_region (fun k => by simp +decide only [sa, simprocAttr]; rfl) ⟨rfl, ?_⟩)
  refine W_seq (W_seqn (W_region (fun k => by simp +decide only [sa, simprocAttr, hl, h0]; rfl) ⟨rfl, W_block ?_⟩))
  generalize hr : fz l 0 l.length = r
  refine idz_loop f l hw hmx g nx r _ (fun st hk h4 hg' hn => ?_) (fun st hr hst hg' hn => ?_) l.length _ ⟨0, ?_, ?_, ?_, ?_, ?_, fun t ht => rfl, ?_, by omega, rfl, hr⟩
  · simp only [reduceCtorEq, false_and, false_or, or_false, exists_false, exists_const, ne_eq, not_false_eq_true, true_and, implies_true]
    exact ⟨rfl, res_one (F := f70) rfl h4, hg', hn⟩
  · subst hr
    refine .inl ⟨rfl, .inl ⟨rfl, W_seqn (W_region (fun k => by simp +decide only [sa, simprocAttr]; rfl) ⟨rfl, W_ret ⟨rfl, res_one (F := f70) rfl ?_, ?_, ?_⟩⟩)⟩⟩
    · simp +decide only [sa, simprocAttr, hst, idxT]
    · exact hg'
    · show nx ≤ st.nx + 1; omega
  · simp +decide only [sa, simprocAttr, hl]
  · simp +decide only [sa, simprocAttr, hl, h0]
  · simp +decide only [sa, simprocAttr, hl, h1]
  · simp +decide only [sa, simprocAttr, hl]
  · simp +decide only [sa, simprocAttr, hl]; try rfl
  · show nx ≤ nx + 1 + 3; omega

def bv (l : List Way) (best : Nat) : Nat → Nat → Nat
  | _, 0 => best
  | k, m + 1 => bv l (if (wayN l k).age > (wayN l best).age then k else best) (k + 1) m
theorem rv_some (l : List Way) : ∀ m k best j, fz l k m = some j → rv l best k m = j
  | 0, _, _, _, h => by cases h
  | m + 1, k, best, j, h => by
    simp only [fz, isZ] at h
    rw [rv]
    by_cases hz : (wayN l k).state = 0
    · rw [if_pos hz]
      have : ((l[k]?).getD default).state = 0 := hz
      simp only [this, beq_self_eq_true, if_true, Option.some.injEq] at h
      exact h
    · rw [if_neg hz]
      have : (((l[k]?).getD default).state == 0) = false := beq_eq_false_iff_ne.mpr hz
      simp only [this, Bool.false_eq_true, if_false] at h
      exact rv_some l m _ _ j h
theorem rv_none (l : List Way) : ∀ m k best, fz l k m = none → rv l best k m = bv l best k m
  | 0, _, _, _ => rfl
  | m + 1, k, best, h => by
    simp only [fz, isZ] at h
    rw [rv, bv]
    by_cases hz : (wayN l k).state = 0
    · have : ((l[k]?).getD default).state = 0 := hz
      simp only [this, beq_self_eq_true, if_true] at h
      cases h
    · rw [if_neg hz]
      have : (((l[k]?).getD default).state == 0) = false := beq_eq_false_iff_ne.mpr hz
      simp only [this, Bool.false_eq_true, if_false] at h
      exact rv_none l m _ _ h
theorem ways_of2 (c : Cache) (hc : c.wf) (ln : Nat) : ∃ f l, waysT c ln = .imm f l.length (l.flatMap Way.enc) ∧ (∀ w ∈ l, w.wf) ∧ l.length ≤ maxLen ∧ (c.sets.length = 0 → l = []) ∧ (¬ c.sets.length = 0 → l = row c (seti c ln)) := by
  by_cases hz : c.sets.length = 0
  · exact ⟨true, [], by unfold waysT; rw [if_pos hz]; rfl, by simp, by simp, fun _ => rfl, fun h => absurd hz h⟩
  · have hs : seti c ln < c.sets.length := Nat.mod_lt _ (by omega)
    have hr := row_wf hc _ hs
    exact ⟨false, row c (seti c ln), by unfold waysT; rw [if_neg hz]; rfl, hr.2, hr.1, fun h => absurd h hz, fun _ => rfl⟩
theorem zenc_leaf : allLeaf zeroW.enc = true := rfl
def bvLoop : ACode := match f75.body with | .seq _ (.seq _ (.seq _ (.seq _ (.seq _ (.seq (.seq _ (.block _ (.loop c))) _))))) => c | _ => .skip
theorem bv_loop (c : Cache) (f : Bool) (l : List Way) (hw : ∀ w ∈ l, w.wf) (hmx : l.length ≤ maxLen) (v1 : T) (r : Nat) (Q : AExit → St → Prop)
    (hQe : ∀ st : St, st.s.length = 56 → rho st.s (.tmp 1) = v1 → rho st.s (.tmp 2) = .ptr 0 0 → st.g 0 = some [setsT c] → rho st.s (.tmp 11) = .int .i64 (r : Int) → Q (.exit 0) st) :
    ∀ (m : Nat) (st : St), (∃ k best : Nat, st.s.length = 56 ∧ rho st.s (.tmp 1) = v1 ∧ rho st.s (.tmp 2) = .ptr 0 0 ∧ st.g 0 = some [setsT c] ∧ 0 < st.nx ∧ rho st.s (.tmp 6) = .imm f l.length (l.flatMap Way.enc) ∧ rho st.s (.tmp 35) = .imm f l.length (l.flatMap Way.enc) ∧ rho st.s (.tmp 36) = .int .i64 (l.length : Int) ∧ rho st.s (.tmp 11) = .int .i64 (best : Int) ∧ rho st.s (.tmp 37) = .int .i64 (k : Int) ∧ k ≤ l.length ∧ best ≤ k ∧ m = l.length - k ∧ bv l best k m = r) → W ap (.loop bvLoop) st Q := by
  refine W_loop _ ?_
  rintro n st ⟨k, best, hl, h1, h2, hg, hnx, h6, h35, h36, h11, h37, hk, hbk, hn, hr⟩
  have hmx' := max_small
  by_cases hend : k = l.length
  · have hlt : decide ((k : Int) < (l.length : Int)) = false := decide_eq_false (by omega)
    refine W_seqn (W_region (fun k => by simp +decide only [sa, simprocAttr, hl, h36, h37, hlt]; rfl) ⟨rfl, ?_⟩)
    refine W_seq (W_fls (W_exit (.inr ⟨by simp, .inr ⟨by simp, hQe _ ?_ ?_ ?_ hg ?_⟩⟩)))
    · simp +decide only [sa, simprocAttr, hl]
    · simp +decide only [sa, simprocAttr, hl, h1]
    · simp +decide only [sa, simprocAttr, hl, h2]
    · simp +decide only [sa, simprocAttr, hl, h11]
      rw [← hr, hn, hend, Nat.sub_self]; rfl
  · have hlt : decide ((k : Int) < (l.length : Int)) = true := decide_eq_true (by omega)
    have hkl : k < l.length := by omega
    have hbl : best < l.length := by omega
    have hw2 : IntKind.i64.wrap ((k : Int) + 1) = ((k + 1 : Nat) : Int) := by rw [wrap_id (by omega)]; omega
    obtain ⟨m, hm⟩ : ∃ m, n = m + 1 := ⟨n - 1, by omega⟩
    rw [hm, bv] at hr
    have hfl := flat_lenM (f := Way.enc) l (fun w h => way_len (hw w h))
    have hb2 : k * 19 + 19 ≤ (l.flatMap Way.enc).length := by omega
    have hb5 : best * 19 + 19 ≤ (l.flatMap Way.enc).length := by omega
    have hb6 : best * 19 + 18 + 1 ≤ (l.flatMap Way.enc).length := by omega
    have wfk : (wayN l k).wf := by unfold wayN; rw [List.getElem?_eq_getElem hkl]; exact hw _ (List.getElem_mem hkl)
    have wfb : (wayN l best).wf := by unfold wayN; rw [List.getElem?_eq_getElem hbl]; exact hw _ (List.getElem_mem hbl)
    have hcw : cut (l.flatMap Way.enc) (k * 19) 19 = (wayN l k).enc := by
      rw [flat_cutM l (fun w h => way_len (hw w h)) k hkl]; unfold wayN; rw [List.getElem?_eq_getElem hkl]; rfl
    have hag := way_age wfk
    have hag2 := way_get l hw best hbl 18 (by omega)
    have hag3 : (l.flatMap Way.enc)[best * 19 + 18]? = some (.int .i64 (wayN l best).age) := by rw [hag2]; exact way_age wfb
    clear hag2
    have hwl := way_len wfk
    have hwleaf := leaf_ints _ (way_ints (wayN l k))
    have hzl : zeroW.enc.length = 19 := rfl
    have hzleaf := zenc_leaf
    have hsp : splice zeroW.enc 0 (wayN l k).enc = (wayN l k).enc := splice_all (by rw [hwl]; rfl)
    have hb7 : 18 + 1 ≤ (wayN l k).enc.length := by omega
    have hbody : bvLoop = bvLoop := rfl
    conv at hbody => rhs; simp only [bvLoop, f75]
    simp only [← zero_enc] at hbody
    rw [hbody]
    generalize hW : wayN l k = w at *
    generalize hWb : wayN l best = wb at *
    generalize l.flatMap Way.enc = ws at *
    refine W_seqn (W_region (fun k => by simp +decide only [sa, simprocAttr, hl, h36, h37, hlt]; rfl) ⟨rfl, ?_⟩)
    refine W_seqn (W_tru (W_skip ⟨rfl, ?_⟩))
    refine W_seqn (W_block (W_seqn (W_region (fun k => by simp +decide only [sa, simprocAttr, hl, h35, h37, hkl, hb2, hcw, hzl, hzleaf, hwl, hwleaf, hsp]; rfl) ⟨rfl, ?_⟩)))
    by_cases hgt : w.age > wb.age
    · have hgd : decide (w.age > wb.age) = true := decide_eq_true hgt
      rw [if_pos hgt] at hr
      refine W_seqn (W_region (fun k => by simp +decide only [sa, simprocAttr, hl, h6, h11, hbl, hb5, hb6, hwl, hag, hag3, hgd]; rfl) ⟨rfl, W_tru ?_⟩)
      refine W_region (fun k => by simp +decide only [sa, simprocAttr, hl]; rfl) (.inr (.inl ⟨by simp, rfl, ?_⟩))
      refine W_region (fun k => by simp +decide only [sa, simprocAttr, hl, h37, hw2]; rfl) (.inl ⟨rfl, m, by omega, k + 1, k, ?_, ?_, ?_, ?_, ?_, ?_, ?_, ?_, ?_, ?_, by omega, by omega, by omega, hr⟩)
      · simp +decide only [sa, simprocAttr, hl]
      · simp +decide only [sa, simprocAttr, hl, h1]
      · simp +decide only [sa, simprocAttr, hl, h2]
      · rw [← hg]; simp only [putAll, List.foldl]; rw [put1_ne (by omega), put1_ne (by omega)]
      · show 0 < st.nx + 1 + 6 + 8 + 2 + 2; omega
      · simp +decide only [sa, simprocAttr, hl, h6]
      · simp +decide only [sa, simprocAttr, hl, h35]
      · simp +decide only [sa, simprocAttr, hl, h36]
      · simp +decide only [sa, simprocAttr, hl]
      · simp +decide only [sa, simprocAttr, hl]
    · have hgd : decide (w.age > wb.age) = false := decide_eq_false hgt
      rw [if_neg hgt] at hr
      refine W_seqn (W_region (fun k => by simp +decide only [sa, simprocAttr, hl, h6, h11, hbl, hb5, hb6, hwl, hag, hag3, hgd]; rfl) ⟨rfl, W_fls (W_skip (.inr (.inl ⟨by simp, rfl, ?_⟩)))⟩)
      refine W_region (fun k => by simp +decide only [sa, simprocAttr, hl, h37, hw2]; rfl) (.inl ⟨rfl, m, by omega, k + 1, best, ?_, ?_, ?_, ?_, ?_, ?_, ?_, ?_, ?_, ?_, by omega, by omega, by omega, hr⟩)
      · simp +decide only [sa, simprocAttr, hl]
      · simp +decide only [sa, simprocAttr, hl, h1]
      · simp +decide only [sa, simprocAttr, hl, h2]
      · rw [← hg]; simp only [putAll, List.foldl]; rw [put1_ne (by omega), put1_ne (by omega)]
      · show 0 < st.nx + 1 + 6 + 8 + 2; omega
      · simp +decide only [sa, simprocAttr, hl, h6]
      · simp +decide only [sa, simprocAttr, hl, h35]
      · simp +decide only [sa, simprocAttr, hl, h36]
      · simp +decide only [sa, simprocAttr, hl, h11]
      · simp +decide only [sa, simprocAttr, hl]

theorem bus_victim (c : Cache) (hc : c.wf) (ln : Nat) (hln : ln ≤ 4294967295) : E ap 75 [.agg [setsT c], .int .u32 (ln : Int)] (victT c ln) := by
  refine E_body (F := f75) rfl rfl rfl ?_
  generalize hs0 : (_ : List T) ++ List.replicate _ T.undef = s0
  have e0 : s0.length = 56 ∧ rho s0 (.tmp 0) = .agg [setsT c] ∧ rho s0 (.tmp 1) = .int .u32 (ln : Int) := by subst hs0; exact ⟨rfl, rfl, rfl⟩
  clear hs0
  obtain ⟨hl, h0, h1⟩ := e0
  have hleaf : allLeaf [setsT c] = true := rfl
  have hcut : cut [setsT c] 0 1 = [setsT c] := rfl
  obtain ⟨f, l, hwt, hlw, hlm, hl0, hlr⟩ := ways_of2 c hc ln
  obtain ⟨N1, c35⟩ := (bus_ways c hc ln hln).call ap71 (fun g => rfl)
  obtain ⟨N2, c15⟩ := (bus_find c hc ln hln).call ap56 (fun g => rfl)
  obtain ⟨N3, c37⟩ := (bus_set c hc ln hln).call ap73 (fun g => rfl)
  have q35 := c35 N1 (Nat.le_refl _)
  have q15 := c15 N2 (Nat.le_refl _)
  have q37 := c37 N3 (Nat.le_refl _)
  rw [hwt] at q35
  have hloop := bv_loop c f l hlw hlm (.int .u32 (ln : Int))
  refine W_seqn (W_region (fun k => by simp +decide only [sa, simprocAttr, hl, h0, hleaf]; rfl) ⟨rfl, ?_⟩)
  generalize hg1 : put1 (fun _ => none) (0, some [setsT c]) = g1
  have hga : g1 0 = some [setsT c] := by subst hg1; rfl
  obtain ⟨N4, g', nx', hN, hg', hnx'⟩ := bus_idz f l hlw hlm g1 21
  have q34 := hN N4 (Nat.le_refl _)
  have hga' : g' 0 = some [setsT c] := by rw [hg' 0 (by omega), hga]
  generalize l.flatMap Way.enc = cs at *
  refine W_seqn (W_regionN ⟨N1, by simp +decide only [sa, simprocAttr, hl, h1, hga, hcut, ap71, p71, n71, q35]; rfl⟩ ⟨rfl, ?_⟩)
  cases hf : find c ln with
  | some k =>
    have e1 : findT c ln = .tup [.int .i64 (seti c ln : Int), .int .i64 (k : Int), .bool true] := by unfold findT; rw [hf]
    have e2 : victT c ln = .tup [.int .i64 (seti c ln : Int), .int .i64 (k : Int)] := by unfold victT victim; rw [hf]
    rw [e1] at q15
    rw [e2]
    refine W_seq (W_seqn (W_regionN ⟨N2, by simp +decide only [sa, simprocAttr, hl, h1, hga, hcut, ap56, p56, n56, q15]; rfl⟩ ⟨rfl, ?_⟩))
    refine W_seqn (W_region (fun k => by simp +decide only [sa, simprocAttr, hl]; rfl) ⟨rfl, W_tru ?_⟩)
    refine W_seqn (W_region (fun k => by simp +decide only [sa, simprocAttr, hl]; rfl) ⟨rfl, W_ret ?_⟩)
    simp only [reduceCtorEq, false_and, false_or, or_false, exists_false, exists_const, ne_eq, not_false_eq_true, true_and, implies_true]
    refine fin_of2 (F := f75) rfl (fun _ => rfl) ?_ ?_ <;> simp +decide only [sa, simprocAttr, hl]
  | none =>
    have e1 : findT c ln = .tup [.int .i64 0, .int .i64 0, .bool false] := by unfold findT; rw [hf]
    rw [e1] at q15
    refine W_seqn (W_seqn (W_regionN ⟨N2, by simp +decide only [sa, simprocAttr, hl, h1, hga, hcut, ap56, p56, n56, q15]; rfl⟩ ⟨rfl, ?_⟩))
    refine W_seqn (W_region (fun k => by simp +decide only [sa, simprocAttr, hl]; rfl) ⟨rfl, W_fls (W_skip ⟨rfl, ?_⟩)⟩)
    cases hz : fz l 0 l.length with
    | some k =>
      have hnz : ¬ c.sets.length = 0 := fun h => by rw [hl0 h] at hz; cases hz
      have hd : decide ((k : Int) ≥ 0) = true := decide_eq_true (by omega)
      have e2 : victT c ln = .tup [.int .i64 (seti c ln : Int), .int .i64 (k : Int)] := by
        unfold victT victim; rw [hf]; simp only [if_neg hnz, ← hlr hnz, rv_some l _ _ 0 _ hz]
      rw [e2]
      rw [hz] at q34
      rw [if_neg hnz] at q37
      refine W_seq (W_seqn (W_regionN ⟨N4, by simp +decide only [sa, simprocAttr, evI, hl, ap70, p70, n70, q34]; rfl⟩ ⟨rfl, ?_⟩))
      refine W_seqn (W_region (fun k => by simp +decide only [sa, simprocAttr, hl, idxT, hd]; rfl) ⟨rfl, W_tru ?_⟩)
      refine W_seqn (W_regionN ⟨N3, by simp +decide only [sa, simprocAttr, hl, h1, hga', hcut, ap73, p73, n73, q37]; rfl⟩ ⟨rfl, W_ret ?_⟩)
      simp only [reduceCtorEq, false_and, false_or, or_false, exists_false, exists_const, ne_eq, not_false_eq_true, true_and, implies_true]
      refine fin_of2 (F := f75) rfl (fun _ => rfl) ?_ ?_ <;> simp +decide only [sa, simprocAttr, hl]
    | none =>
      have hd : decide ((-1 : Int) ≥ 0) = false := rfl
      rw [hz] at q34
      generalize hr : bv l 0 0 l.length = r at *
      have e2 : victT c ln = .tup [.int .i64 (if c.sets.length = 0 then 0 else (seti c ln : Int)), .int .i64 (r : Int)] := by
        unfold victT victim; rw [hf]
        by_cases hs : c.sets.length = 0
        · simp only [if_pos hs]; rw [← hr, hl0 hs]; try rfl
        · simp only [if_neg hs, ← hlr hs, rv_none l _ _ 0 hz, hr]
      rw [e2]
      generalize (if c.sets.length = 0 then 0 else (seti c ln : Int)) = sv at *
      refine W_seqn (W_seqn (W_regionN ⟨N4, by simp +decide only [sa, simprocAttr, evI, hl, ap70, p70, n70, q34]; rfl⟩ ⟨rfl, ?_⟩))
      refine W_seqn (W_region (fun k => by simp +decide only [sa, simprocAttr, hl, idxT, hd]; rfl) ⟨rfl, W_fls (W_skip ⟨rfl, ?_⟩)⟩)
      refine W_seqn (W_region (fun k => by simp +decide only [sa, simprocAttr]; rfl) ⟨rfl, ?_⟩)
      refine W_seq (W_seqn (W_region (fun k => by simp +decide only [sa, simprocAttr, hl]; rfl) ⟨rfl, W_block ?_⟩))
      refine hloop r _ (fun st hst h1 h2 hg h11 => ?_) l.length _ ⟨0, 0, ?_, ?_, ?_, ?_, ?_, ?_, ?_, ?_, ?_, ?_, by omega, by omega, rfl, hr⟩
      · refine .inl ⟨rfl, .inl ⟨rfl, W_seqn (W_regionN ⟨N3, by simp +decide only [sa, simprocAttr, hst, h1, h2, hg, h11, hcut, ap73, p73, n73, q37]; rfl⟩ ⟨rfl, W_ret ?_⟩)⟩⟩
        refine fin_of2 (F := f75) rfl (fun _ => rfl) ?_ ?_ <;> simp +decide only [sa, simprocAttr, hst]
      · simp +decide only [sa, simprocAttr, hl]
      · simp +decide only [sa, simprocAttr, hl, h1]
      · simp +decide only [sa, simprocAttr, hl]
      · exact hga'
      · show 0 < nx' + 2 + 1 + 3; omega
      all_goals first | (simp +decide only [sa, simprocAttr, hl]; done) | (simp +decide only [sa, simprocAttr, hl]; rfl)
theorem conf_u8 : ∀ (d : List Int) (ks : List (Option IntKind)) (xs : List T), (∀ y ∈ d, (Lit.int .u8 y).wf = true) → conf (List.replicate d.length (some .u8) ++ ks) (d.flatMap (fun n => [T.int .u8 n]) ++ xs) = conf ks xs
  | [], ks, xs, _ => by simp
  | y :: d, ks, xs, h => by
    have hy := wf_u8 (h y (List.mem_cons_self ..))
    have e : conf1 (some .u8) (.int .u8 y) = (true && (decide ((0 : Int) ≤ y) && decide (y ≤ 2 ^ 8 - 1))) := rfl
    rw [List.length_cons, List.replicate_succ, List.flatMap_cons, List.cons_append, List.append_assoc, List.singleton_append, conf, conf_u8 d ks xs (fun z hz => h z (List.mem_cons_of_mem _ hz)), e, decide_eq_true (by omega), decide_eq_true (by omega)]
    try rfl
theorem eqL_ints : ∀ l : List T, (∀ x ∈ l, ∃ k n, x = .int k n) → eqL l l = true
  | [], _ => rfl
  | x :: l, h => by
    obtain ⟨k, n, rfl⟩ := h x (List.mem_cons_self ..)
    have e : eq1 (.int k n) (.int k n) = true := by simp [eq1]
    rw [eqL, e, eqL_ints l (fun y hy => h y (List.mem_cons_of_mem _ hy))]; rfl
def Tells (xs : List T) (R : List (List Way)) : Prop := xs.length = R.length ∧ ∀ i (h : i < R.length), ∃ f, xs[i * 1]? = some (.imm f R[i].length (R[i].flatMap Way.enc))
theorem ap67 : ap 67 = some f67 := rfl
theorem n67 : f67.nat = some (1, 24) := rfl
theorem ap68 : ap 68 = some f68 := rfl
theorem n68 : f68.nat = some (19, 40) := rfl
theorem ap53 : ap 53 = some f53 := rfl
theorem p53 : f53.pure = false := rfl
theorem n53 : f53.nat = none := rfl
theorem tells_leaf {xs : List T} {R : List (List Way)} (h : Tells xs R) : allLeaf xs = true := by
  unfold allLeaf
  rw [List.all_eq_true]
  intro x hx
  obtain ⟨i, hi, rfl⟩ := List.getElem_of_mem hx
  obtain ⟨f, hf⟩ := h.2 i (by rw [← h.1]; exact hi)
  rw [Nat.mul_one, List.getElem?_eq_getElem hi] at hf
  rw [Option.some.inj hf]; rfl
def Withed (g : Mem) (nx : Nat) (n i wl : Nat) (xs ws : List T) (A B : Nat) (g' : Mem) (nx' : Nat) : Prop :=
  g' A = some (xs.set i (.own B 0 wl 19)) ∧ g' B = some ws ∧ nx ≤ A ∧ A < B ∧ B < nx' ∧ (∀ t, t < nx → g' t = g t)
theorem with_run (fx : Bool) (n : Nat) (xs : List T) (hxl : xs.length = n) (hxf : allLeaf xs = true) (hn : n ≤ 1000) (i : Nat) (hi : i < n) (f : Bool) (wl : Nat) (ws : List T) (hxi : xs[i * 1]? = some (.imm f wl ws)) (hwl : ws.length = wl * 19) (hwf : allLeaf ws = true) (hw0 : 0 < wl) (hw1 : wl ≤ 1000) (g : Mem) (nx : Nat) :
    ∃ N g' nx', (∀ k, N ≤ k → runBody (ev ap k) f53 [.agg [.imm fx n xs], .int .i64 (i : Int)] g nx = some (.agg [.own (nx + 2 + 2) 0 n 1], g', nx')) ∧ Withed g nx n i wl xs ws (nx + 2 + 2) (nx + 2 + 6 + 8) g' nx' := by
  refine EI_body (P := Withed g nx n i wl xs ws (nx + 2 + 2) (nx + 2 + 6 + 8)) ?_
  generalize hs0 : (_ : List T) ++ List.replicate _ T.undef = s0
  have e0 : s0.length = 21 ∧ rho s0 (.tmp 0) = .agg [.imm fx n xs] ∧ rho s0 (.tmp 1) = .int .i64 (i : Int) := by subst hs0; exact ⟨rfl, rfl, rfl⟩
  clear hs0
  obtain ⟨hl, h0, h1⟩ := e0
  have hleaf : allLeaf [T.imm fx n xs] = true := rfl
  have hn0 : (n = 0) = False := by simp; omega
  have hw00 : (wl = 0) = False := by simp; omega
  have hxl1 : (n = n * 1) = True := by simp
  have hr1 : n * 24 ≤ 549755813888 := by omega
  have hr2 : n ≤ 549755813888 := by omega
  have hr3 : wl * 40 ≤ 549755813888 := by omega
  have hr4 : wl ≤ 549755813888 := by omega
  have hb : i * 1 + 1 ≤ n := by omega
  have hi1 : 0 + i * 1 = i := by omega
  have hb2 : i + 1 ≤ n := by omega
  refine W_seqn (W_region (fun k => by simp +decide (disch := first | omega | simp +decide only [List.length_set, hl]) only [sa, simprocAttr, hps, h0, hleaf]; rfl) ⟨rfl, ?_⟩)
  refine W_seqn (W_region (fun k => by simp +decide (disch := first | omega | simp +decide only [List.length_set, hl]) only [sa, simprocAttr, hps, h0, ap67, n67, cloneRes, cellsOf, hxl, hxl1, hxf, hn0, hr1, hr2]; rfl) ⟨rfl, ?_⟩)
  refine W_seqn (W_region (fun k => by simp +decide (disch := first | omega | simp +decide only [List.length_set, hl]) only [sa, simprocAttr, hps, h1, ap68, n68, cloneRes, cellsOf, hxl, hwl, hwf, hw00, hr3, hr4, hi, hb, hxi, hi1, hb2]; rfl) ⟨rfl, ?_⟩)
  refine W_seqn (W_region (fun k => by simp +decide (disch := first | omega | simp +decide only [List.length_set, hl]) only [sa, simprocAttr, hps]; rfl) ⟨rfl, ?_⟩)
  refine W_ret ⟨rfl, ?_, ?_⟩
  · simp only [resT, resL, resOne, show f53.res = [.cell 4 false 1] from rfl]
    simp +decide (disch := first | omega | simp +decide only [List.length_set, hl]) only [sa, simprocAttr, hps]
    try rfl
  · refine ⟨?_, ?_, ?_, ?_, ?_, ?_⟩
    · simp +decide (disch := first | omega | simp +decide only [List.length_set, hl]) only [sa, simprocAttr, hps]
    · simp +decide (disch := first | omega | simp +decide only [List.length_set, hl]) only [sa, simprocAttr, hps]
    · omega
    · omega
    · show nx + 2 + 6 + 8 < nx + 2 + 6 + 11 + 2; omega
    · intro t ht
      simp +decide (disch := first | omega | simp +decide only [List.length_set, hl]) only [sa, simprocAttr, hps]
end Go.Proofs.Ytabfinhkoihhfaa.Abs
