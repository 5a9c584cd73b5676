/- Words of other seats' texts, as they are used here: Bshared. -/
import Derived.Test.YtabfinhkoihhfaaGreatG01
namespace Go.Proofs.YtabfinhkoihhfaaGreat.Abs
open Go Go.RowKit Fn
set_option linter.unusedVariables false
set_option linter.unusedSimpArgs false
set_option linter.unnecessarySimpa false
set_option maxRecDepth 100000
set_option maxHeartbeats 4000000

theorem bus_set (c : Cache) (hc : c.wf) (ln : Nat) (hln : ln ≤ 4294967295) : E ap 102 [.agg [setsT c], .int .u32 (ln : Int)] (.int .i64 (if c.sets.length = 0 then 0 else (seti c ln : Int))) := by
  refine E_body (F := f102) rfl rfl rfl ?_
  generalize hs0 : (_ : List T) ++ List.replicate _ T.undef = s0
  have e0 : s0.length = 17 ∧ rho s0 (.tmp 0) = .agg [setsT c] ∧ rho s0 (.tmp 1) = .int .u32 (ln : Int) := by subst hs0; exact ⟨rfl, rfl, rfl⟩
  clear hs0
  obtain ⟨hl, h0, h1⟩ := e0
  have hleaf : allLeaf [setsT c] = true := rfl
  have hsc : setsT c = .imm false c.sets.length (c.sets.flatMap (fun l => [rowT l])) := rfl
  refine W_seqn (W_region (fun k => by simp +decide only [s8, simprocAttr, hl, h0, hleaf]; rfl) ⟨rfl, ?_⟩)
  by_cases hz : c.sets.length = 0
  · have hz0 : ((c.sets.length : Int) == 0) = true := by simp [hz]
    rw [if_pos hz]
    refine W_seq (W_seqn (W_region (fun k => by simp +decide only [s8, simprocAttr, hl, hsc, hz0]; rfl) ⟨rfl, W_tru ?_⟩))
    refine W_seqn (W_region (fun k => by simp +decide only [s8, simprocAttr]; rfl) ⟨rfl, W_ret ?_⟩)
    simp only [reduceCtorEq, false_and, false_or, or_false, exists_false, exists_const, ne_eq, not_false_eq_true, true_and, implies_true]
    refine fin_of (F := f102) rfl (fun _ => rfl) ?_
    simp +decide only [s8, simprocAttr, hl]
  · have hz0 : ((c.sets.length : Int) == 0) = false := beq_eq_false_iff_ne.mpr (by omega)
    have hnz : (c.sets.length : Int) ≠ 0 := by omega
    have hmx := max_small
    have hcl := hc.1
    have hw : IntKind.u64.wrap (ln : Int) = (ln : Int) := by rw [wrap_u64]; omega
    have hw2 : IntKind.u64.wrap (c.sets.length : Int) = (c.sets.length : Int) := by rw [wrap_u64]; omega
    have hm : (ln : Int).tmod (c.sets.length : Int) = (seti c ln : Int) := by rw [Int.tmod_eq_emod_of_nonneg (by omega)]; rfl
    have hs : seti c ln < c.sets.length := Nat.mod_lt _ (by omega)
    have hw3 : IntKind.i64.wrap (seti c ln : Int) = (seti c ln : Int) := wrap_id (by omega)
    rw [if_neg hz]
    refine W_seqn (W_seqn (W_region (fun k => by simp +decide only [s8, simprocAttr, hl, hsc, hz0]; rfl) ⟨rfl, W_fls (W_skip ⟨rfl, ?_⟩)⟩))
    refine W_seqn (W_region (fun k => by simp +decide only [s8, simprocAttr, hl, h1, hsc, hw, hw2, hnz, hm, hw3]; rfl) ⟨rfl, W_ret ?_⟩)
    refine fin_of (F := f102) rfl (fun _ => rfl) ?_
    simp +decide only [s8, simprocAttr, hl]
theorem ap102 : ap 102 = some f102 := rfl
theorem p102 : f102.pure = true := rfl
theorem n102 : f102.nat = none := rfl
def waysT (c : Cache) (ln : Nat) : T := if c.sets.length = 0 then .imm true 0 [] else rowT (row c (seti c ln))
theorem bus_ways (c : Cache) (hc : c.wf) (ln : Nat) (hln : ln ≤ 4294967295) : E ap 100 [.agg [setsT c], .int .u32 (ln : Int)] (waysT c ln) := by
  refine E_body (F := f100) rfl rfl rfl ?_
  generalize hs0 : (_ : List T) ++ List.replicate _ T.undef = s0
  have e0 : s0.length = 16 ∧ rho s0 (.tmp 0) = .agg [setsT c] ∧ rho s0 (.tmp 1) = .int .u32 (ln : Int) := by subst hs0; exact ⟨rfl, rfl, rfl⟩
  clear hs0
  obtain ⟨hl, h0, h1⟩ := e0
  have hleaf : allLeaf [setsT c] = true := rfl
  have hcut : cut [setsT c] 0 1 = [setsT c] := rfl
  have hsc : setsT c = .imm false c.sets.length (c.sets.flatMap (fun l => [rowT l])) := rfl
  refine W_seqn (W_region (fun k => by simp +decide only [s8, simprocAttr, hl, h0, hleaf]; rfl) ⟨rfl, ?_⟩)
  by_cases hz : c.sets.length = 0
  · have hz0 : ((c.sets.length : Int) == 0) = true := by simp [hz]
    rw [show waysT c ln = .imm true 0 [] from if_pos hz]
    refine W_seq (W_seqn (W_region (fun k => by simp +decide only [s8, simprocAttr, hl, hsc, hz0]; rfl) ⟨rfl, W_tru ?_⟩))
    refine W_seqn (W_region (fun k => by simp +decide only [s8, simprocAttr]; rfl) ⟨rfl, W_ret ?_⟩)
    simp only [reduceCtorEq, false_and, false_or, or_false, exists_false, exists_const, ne_eq, not_false_eq_true, true_and, implies_true]
    refine fin_of (F := f100) rfl (fun _ => rfl) ?_
    simp +decide only [s8, simprocAttr, hl]
  · have hz0 : ((c.sets.length : Int) == 0) = false := beq_eq_false_iff_ne.mpr (by omega)
    obtain ⟨N, q⟩ := (bus_set c hc ln hln).call ap102 (fun g => rfl)
    have q62 := q N (Nat.le_refl _)
    rw [if_neg hz] at q62
    have hs : seti c ln < c.sets.length := Nat.mod_lt _ (by omega)
    have hrow := rows_get c (seti c ln) hs
    have hrl := rows_len c
    have hb1 : seti c ln * 1 + 1 ≤ c.sets.length := by omega
    rw [show waysT c ln = rowT (row c (seti c ln)) from if_neg hz]
    generalize hrt : rowT (row c (seti c ln)) = rt at *
    have hfz : ∀ h : Hp, frz h frzDepth rt = some (rt, []) := by subst hrt; exact fun _ => rfl
    clear hrt
    refine W_seqn (W_seqn (W_region (fun k => by simp +decide only [s8, simprocAttr, hl, hsc, hz0]; rfl) ⟨rfl, W_fls (W_skip ⟨rfl, ?_⟩)⟩))
    rw [hsc] at q62 hcut
    generalize hcs : c.sets.flatMap (fun l => [rowT l]) = cs at *
    refine W_seqn (W_regionN ⟨N, by simp +decide only [s8, simprocAttr, hl, h1, hcut, ap102, p102, n102, q62, hs, hb1, hrl, hrow]; rfl⟩ ⟨rfl, W_ret ?_⟩)
    refine fin_of (F := f100) rfl hfz ?_
    simp +decide only [s8, simprocAttr, hl]
theorem ap101 : ap 101 = some f101 := rfl
theorem p101 : f101.pure = false := rfl
theorem n101 : f101.nat = none := rfl
theorem bus_at (w : Way) (hw : w.wf) (ln p nx : Nat) (g : Mem) (hp : p < nx) (hg : g p = some [.int .u32 (ln : Int)]) :
    ∃ N g' nx', (∀ k, N ≤ k → runBody (ev ap k) f101 [.agg w.enc, .ptr p 0] g nx = some (.bool (isAt ln w), g', nx')) ∧ ((∀ t, t < nx → g' t = g t) ∧ nx ≤ nx') := by
  refine EI_body (P := fun g' nx' => (∀ t, t < nx → g' t = g t) ∧ nx ≤ nx') ?_
  generalize hs0 : (_ : List T) ++ List.replicate _ T.undef = s0
  have e0 : s0.length = 13 ∧ rho s0 (.tmp 0) = .agg w.enc ∧ rho s0 (.tmp 1) = .ptr p 0 := by subst hs0; exact ⟨rfl, rfl, rfl⟩
  clear hs0
  obtain ⟨hl, h0, h1⟩ := e0
  have hleaf := leaf_ints _ (way_ints w)
  have hwl := way_len hw
  have hne : (p = nx) = False := by simp; omega
  have hst := way_state w
  have htg := way_tag w
  have hisat : isAt ln w = (w.tag == (ln : Int) && w.state != 0) := rfl
  have hgt : ∀ t, t < nx → put1 g (nx, some w.enc) t = g t := fun t ht => put1_ne (by omega)
  generalize w.enc = we at *
  refine W_seqn (W_region (fun k => by simp +decide only [s8, simprocAttr, hl, h0, hleaf]; rfl) ⟨rfl, ?_⟩)
  cases hb : (w.tag == (ln : Int)) with
  | true =>
    rw [hb, Bool.true_and] at hisat
    refine W_seqn (W_region (fun k => by simp +decide only [s8, simprocAttr, hl, h1, hg, hne, hwl, hst, htg, hb]; rfl) ⟨rfl, W_ret ⟨rfl, res_one (F := f101) rfl ?_, hgt, by show nx ≤ nx + 2 + 10; omega⟩⟩)
    simp +decide only [s8, simprocAttr, hl, hisat]
  | false =>
    rw [hb, Bool.false_and] at hisat
    refine W_seqn (W_region (fun k => by simp +decide only [s8, simprocAttr, hl, h1, hg, hne, hwl, hst, htg, hb]; rfl) ⟨rfl, W_ret ⟨rfl, res_one (F := f101) rfl ?_, hgt, by show nx ≤ nx + 2 + 10; omega⟩⟩)
    simp +decide only [s8, simprocAttr, hl, hisat]
def idxLoop : ACode := match f99.body with | .seq _ (.seq (.seq _ (.block _ (.loop c))) _) => c | _ => .skip
def idxT : Option Nat → T
  | some k => .int .i64 (k : Int)
  | none => .int .i64 (-1)
theorem idx_loop (f : Bool) (l : List Way) (hw : ∀ w ∈ l, w.wf) (hmx : l.length ≤ maxLen) (ln p : Nat) (g0 : Mem) (nx0 : Nat) (hp : p < nx0) (hg0 : g0 p = some [.int .u32 (ln : Int)]) (r : Option Nat) (Q : AExit → St → Prop)
    (hQr : ∀ (st : St), (∃ k, r = some k) → rho st.s (.tmp 4) = idxT r → (∀ t, t < nx0 → st.g t = g0 t) → nx0 ≤ st.nx → Q .ret st) (hQe : ∀ st : St, r = none → st.s.length = 19 → (∀ t, t < nx0 → st.g t = g0 t) → nx0 ≤ st.nx → Q (.exit 0) st) :
    ∀ (n : Nat) (st : St), (∃ k : Nat, st.s.length = 19 ∧ rho st.s (.tmp 0) = .imm f l.length (l.flatMap Way.enc) ∧ rho st.s (.tmp 1) = .fn 101 [] [.ptr p 0] ∧ rho st.s (.tmp 7) = .int .i64 (l.length : Int) ∧ rho st.s (.tmp 8) = .int .i64 (k : Int) ∧ (∀ t, t < nx0 → st.g t = g0 t) ∧ nx0 ≤ st.nx ∧ k ≤ l.length ∧ n = l.length - k ∧ fnd l ln k n = r) → W ap (.loop idxLoop) st Q := by
  refine W_loop _ ?_
  rintro n st ⟨k, hl, h0, h1, h7, h8, hg, hnx, hk, hn, hr⟩
  have hmx' := max_small
  by_cases hend : k = l.length
  · have hlt : decide ((k : Int) < (l.length : Int)) = false := decide_eq_false (by omega)
    refine W_seqn (W_region (fun k => by simp +decide only [s8, simprocAttr, hl, h7, h8, hlt]; rfl) ⟨rfl, ?_⟩)
    refine W_seq (W_fls (W_exit (.inr ⟨by simp, .inr ⟨by simp, hQe _ ?_ ?_ hg ?_⟩⟩)))
    · rw [← hr, hn, hend, Nat.sub_self]; rfl
    · simp +decide only [s8, simprocAttr, hl]
    · show nx0 ≤ st.nx + 1; omega
  · have hlt : decide ((k : Int) < (l.length : Int)) = true := decide_eq_true (by omega)
    have hkl : k < l.length := by omega
    have hw2 : IntKind.i64.wrap ((k : Int) + 1) = ((k + 1 : Nat) : Int) := by rw [wrap_id (by omega)]; omega
    obtain ⟨n', hn'⟩ : ∃ n', n = n' + 1 := ⟨n - 1, by omega⟩
    rw [hn', fnd] at hr
    have hfl := flat_lenM (f := Way.enc) l (fun w h => way_len (hw w h))
    have hb2 : k * 19 + 19 ≤ (l.flatMap Way.enc).length := by omega
    have hcw : cut (l.flatMap Way.enc) (k * 19) 19 = ((l[k]?).getD default).enc := by
      rw [flat_cutM l (fun w h => way_len (hw w h)) k hkl, List.getElem?_eq_getElem hkl]; rfl
    have hwf : ((l[k]?).getD default).wf := by rw [List.getElem?_eq_getElem hkl]; exact hw _ (List.getElem_mem hkl)
    generalize ((l[k]?).getD default) = w at *
    refine W_seqn (W_region (fun k => by simp +decide only [s8, simprocAttr, hl, h7, h8, hlt]; rfl) ⟨rfl, ?_⟩)
    refine W_seqn (W_tru (W_skip ⟨rfl, ?_⟩))
    obtain ⟨N, g', nx', hN, hg', hnx'⟩ := bus_at w hwf ln p (st.nx + 1 + 2 + 6) st.g (by omega) (by rw [hg p hp]; exact hg0)
    have q68 := hN N (Nat.le_refl _)
    have hg2 : ∀ t, t < nx0 → g' t = g0 t := fun t ht => by rw [hg' t (by omega), hg t ht]
    generalize l.flatMap Way.enc = cs at *
    cases hb : isAt ln w with
    | true =>
      rw [hb] at hr q68
      simp only [if_true] at hr
      refine W_seq (W_block ?_)
      refine W_seqn (W_region (fun k => by simp +decide only [s8, simprocAttr, hl, h8]; rfl) ⟨rfl, ?_⟩)
      refine W_seqn (W_regionN ⟨N, by simp +decide only [s8, simprocAttr, evI, hl, h0, h1, hkl, hb2, hcw, ap101, p101, n101, q68]; rfl⟩ ⟨rfl, W_tru ?_⟩)
      refine W_seqn (W_region (fun k => by simp +decide only [s8, simprocAttr, hl]; rfl) ⟨rfl, W_ret ?_⟩)
      simp only [reduceCtorEq, false_and, false_or, or_false, exists_false, exists_const, ne_eq, not_false_eq_true, true_and, implies_true]
      refine hQr _ ⟨k, hr.symm⟩ ?_ hg2 ?_
      · rw [← hr]; simp +decide only [s8, simprocAttr, hl, idxT]
      · show nx0 ≤ nx' + 2; omega
    | false =>
      rw [hb] at hr q68
      simp only [Bool.false_eq_true, if_false] at hr
      refine W_seqn (W_block ?_)
      refine W_seqn (W_region (fun k => by simp +decide only [s8, simprocAttr, hl, h8]; rfl) ⟨rfl, ?_⟩)
      refine W_seqn (W_regionN ⟨N, by simp +decide only [s8, simprocAttr, evI, hl, h0, h1, hkl, hb2, hcw, ap101, p101, n101, q68]; rfl⟩ ⟨rfl, W_fls (W_skip (.inr (.inl ⟨by simp, rfl, ?_⟩)))⟩)
      refine W_region (fun k => by simp +decide only [s8, simprocAttr, hl, h8, hw2]; rfl) (.inl ⟨rfl, n', by omega, k + 1, ?_, ?_, ?_, ?_, ?_, hg2, ?_, by omega, by omega, hr⟩)
      · simp +decide only [s8, simprocAttr, hl]
      · simp +decide only [s8, simprocAttr, hl, h0]
      · simp +decide only [s8, simprocAttr, hl, h1]
      · simp +decide only [s8, simprocAttr, hl, h7]
      · simp +decide only [s8, simprocAttr, hl]
      · show nx0 ≤ nx' + 2; omega
theorem bus_idx (f : Bool) (l : List Way) (hw : ∀ w ∈ l, w.wf) (hmx : l.length ≤ maxLen) (ln p : Nat) (g : Mem) (nx : Nat) (hp : p < nx) (hg : g p = some [.int .u32 (ln : Int)]) :
    ∃ N g' nx', (∀ k, N ≤ k → runBody (ev ap k) f99 [.imm f l.length (l.flatMap Way.enc), .fn 101 [] [.ptr p 0]] g nx = some (idxT (fnd l ln 0 l.length), g', nx')) ∧ ((∀ t, t < nx → g' t = g t) ∧ nx ≤ nx') := by
  refine EI_body (P := fun g' nx' => (∀ t, t < nx → g' t = g t) ∧ nx ≤ nx') ?_
  generalize hs0 : (_ : List T) ++ List.replicate _ T.undef = s0
  have e0 : s0.length = 19 ∧ rho s0 (.tmp 0) = .imm f l.length (l.flatMap Way.enc) ∧ rho s0 (.tmp 1) = .fn 101 [] [.ptr p 0] := by subst hs0; exact ⟨rfl, rfl, rfl⟩
  clear hs0
  obtain ⟨hl, h0, h1⟩ := e0
  refine W_seqn (W_region (fun k => by simp +decide only [s8, simprocAttr]; rfl) ⟨rfl, ?_⟩)
  refine W_seq (W_seqn (W_region (fun k => by simp +decide only [s8, simprocAttr, hl, h0]; rfl) ⟨rfl, W_block ?_⟩))
  generalize hr : fnd l ln 0 l.length = r
  refine idx_loop f l hw hmx ln p g nx hp hg r _ (fun st hk h4 hg' hn => ?_) (fun st hr hst hg' hn => ?_) l.length _ ⟨0, ?_, ?_, ?_, ?_, ?_, fun t ht => rfl, ?_, by omega, rfl, hr⟩
  · simp only [reduceCtorEq, false_and, false_or, or_false, exists_false, exists_const, ne_eq, not_false_eq_true, true_and, implies_true]
    exact ⟨rfl, res_one (F := f99) rfl h4, hg', hn⟩
  · subst hr
    refine .inl ⟨rfl, .inl ⟨rfl, W_seqn (W_region (fun k => by simp +decide only [s8, simprocAttr]; rfl) ⟨rfl, W_ret ⟨rfl, res_one (F := f99) rfl ?_, ?_, ?_⟩⟩)⟩⟩
    · simp +decide only [s8, simprocAttr, hst, idxT]
    · exact hg'
    · show nx ≤ st.nx + 1; omega
  · simp +decide only [s8, simprocAttr, hl]
  · simp +decide only [s8, simprocAttr, hl, h0]
  · simp +decide only [s8, simprocAttr, hl, h1]
  · simp +decide only [s8, simprocAttr, hl]
  · simp +decide only [s8, simprocAttr, hl]; try rfl
  · show nx ≤ nx + 1 + 3; omega
theorem ap100 : ap 100 = some f100 := rfl
theorem p100 : f100.pure = true := rfl
theorem n100 : f100.nat = none := rfl
theorem ap99 : ap 99 = some f99 := rfl
theorem p99 : f99.pure = false := rfl
theorem n99 : f99.nat = none := rfl
theorem ways_of (c : Cache) (hc : c.wf) (ln : Nat) : ∃ f l, waysT c ln = .imm f l.length (l.flatMap Way.enc) ∧ (∀ w ∈ l, w.wf) ∧ l.length ≤ maxLen ∧ find c ln = fnd l ln 0 l.length ∧ (c.sets.length = 0 → l = []) := by
  by_cases hz : c.sets.length = 0
  · refine ⟨true, [], by unfold waysT; rw [if_pos hz]; rfl, by simp, by simp, ?_, fun _ => rfl⟩
    unfold find; rw [if_pos hz]; rfl
  · have hs : seti c ln < c.sets.length := Nat.mod_lt _ (by omega)
    have hr := row_wf hc _ hs
    refine ⟨false, row c (seti c ln), by unfold waysT; rw [if_neg hz]; rfl, hr.2, hr.1, ?_, fun h => absurd h hz⟩
    unfold find; rw [if_neg hz]
theorem bus_find (c : Cache) (hc : c.wf) (ln : Nat) (hln : ln ≤ 4294967295) : E ap 69 [.agg [setsT c], .int .u32 (ln : Int)] (findT c ln) := by
  refine E_body (F := f69) rfl rfl rfl ?_
  generalize hs0 : (_ : List T) ++ List.replicate _ T.undef = s0
  have e0 : s0.length = 19 ∧ rho s0 (.tmp 0) = .agg [setsT c] ∧ rho s0 (.tmp 1) = .int .u32 (ln : Int) := by subst hs0; exact ⟨rfl, rfl, rfl⟩
  clear hs0
  obtain ⟨hl, h0, h1⟩ := e0
  have hleaf : allLeaf [setsT c] = true := rfl
  have hleaf2 : allLeaf [T.int .u32 (ln : Int)] = true := rfl
  have hcut : cut [setsT c] 0 1 = [setsT c] := rfl
  obtain ⟨f, l, hwt, hlw, hlm, hfd, hl0⟩ := ways_of c hc ln
  obtain ⟨N1, q1⟩ := (bus_ways c hc ln hln).call ap100 (fun g => rfl)
  obtain ⟨N2, q2⟩ := (bus_set c hc ln hln).call ap102 (fun g => rfl)
  have q62 := q2 N2 (Nat.le_refl _)
  rw [hwt] at q1
  generalize hst : setsT c = st at *
  refine W_seqn (W_region (fun k => by simp +decide only [s8, simprocAttr, hl, h0, h1, hleaf, hleaf2]; rfl) ⟨rfl, ?_⟩)
  generalize hg1 : put1 (put1 (fun _ => none) (0, some [st])) (1, some [T.int .u32 (ln : Int)]) = g1
  have hga : g1 0 = some [st] := by subst hg1; rfl
  have hgb : g1 1 = some [T.int .u32 (ln : Int)] := by subst hg1; rfl
  obtain ⟨N3, g', nx', hN, hg', hnx'⟩ := bus_idx f l hlw hlm ln 1 g1 11 (by omega) hgb
  have q47 := q1 (N1 + N3) (by omega)
  have q63 := hN (N1 + N3) (by omega)
  have hga' : g' 0 = some [st] := by rw [hg' 0 (by omega), hga]
  have hgb' : g' 1 = some [T.int .u32 (ln : Int)] := by rw [hg' 1 (by omega), hgb]
  generalize l.flatMap Way.enc = cs at *
  refine W_seqn (W_regionN ⟨N1 + N3, by simp +decide only [s8, simprocAttr, evI, hl, hga, hgb, hcut, ap100, p100, n100, q47, ap99, p99, n99, q63]; rfl⟩ ⟨rfl, ?_⟩)
  unfold findT
  rw [hfd]
  cases hfi : fnd l ln 0 l.length with
  | none =>
    have hd : decide ((-1 : Int) < 0) = true := rfl
    refine W_seq (W_seqn (W_region (fun k => by simp +decide only [s8, simprocAttr, hl, idxT, hd]; rfl) ⟨rfl, W_tru ?_⟩))
    refine W_seqn (W_region (fun k => by simp +decide only [s8, simprocAttr]; rfl) ⟨rfl, W_ret ?_⟩)
    simp only [reduceCtorEq, false_and, false_or, or_false, exists_false, exists_const, ne_eq, not_false_eq_true, true_and, implies_true]
    refine fin_of3 (F := f69) rfl (fun _ => rfl) ?_ ?_ ?_ <;> simp +decide only [s8, simprocAttr, hl]
  | some k =>
    have hd : decide ((k : Int) < 0) = false := decide_eq_false (by omega)
    have hz : ¬ c.sets.length = 0 := fun hz => by rw [hl0 hz] at hfi; cases hfi
    rw [if_neg hz] at q62
    refine W_seqn (W_seqn (W_region (fun k => by simp +decide only [s8, simprocAttr, hl, idxT, hd]; rfl) ⟨rfl, W_fls (W_skip ⟨rfl, ?_⟩)⟩))
    refine W_seqn (W_regionN ⟨N2, by simp +decide only [s8, simprocAttr, hl, hga', hgb', hcut, ap102, p102, n102, q62]; rfl⟩ ⟨rfl, W_ret ?_⟩)
    refine fin_of3 (F := f69) rfl (fun _ => rfl) ?_ ?_ ?_ <;> simp +decide only [s8, simprocAttr, hl]
theorem ap69 : ap 69 = some f69 := rfl
theorem p69 : f69.pure = true := rfl
theorem n69 : f69.nat = none := rfl
def wayAt (m : Coh) (who : Int) (ln : Nat) : Way := if has m who then wayOf (cacheAt m who.toNat) ln else zeroW
theorem wayAt_wf {m : Coh} (hm : m.wf) (who : Int) (ln : Nat) : (wayAt m who ln).wf := by
  unfold wayAt
  split
  · rename_i h
    exact wayOf_wf (cacheAt_wf hm _ (by have := h.1; have := h.2; omega)) ln
  · exact zeroW_wf
theorem wayAt_state (m : Coh) (who : Int) (ln : Nat) : (wayAt m who ln).state = stateOf m who ln := by
  unfold wayAt stateOf; split <;> rfl
theorem bus_way (m : Coh) (hm : m.wf) (who : Int) (ln : Nat) (hln : ln ≤ 4294967295) : E ap 88 [.agg [memT m, cachT m, .int .u32 (ln : Int)], .int .i64 who] (.agg (wayAt m who ln).enc) := by
  refine E_body (F := f88) rfl rfl rfl ?_
  generalize hs0 : (_ : List T) ++ List.replicate _ T.undef = s0
  have e0 : s0.length = 48 ∧ rho s0 (.tmp 0) = .agg [memT m, cachT m, .int .u32 (ln : Int)] ∧ rho s0 (.tmp 1) = .int .i64 who := by subst hs0; exact ⟨rfl, rfl, rfl⟩
  clear hs0
  obtain ⟨hl, h0, h1⟩ := e0
  have hleaf : allLeaf [memT m, cachT m, T.int .u32 (ln : Int)] = true := rfl
  have hzl : zeroW.enc.length = 19 := rfl
  have hzleaf : allLeaf zeroW.enc = true := rfl
  have hcc : cachT m = .imm false m.caches.length (m.caches.flatMap Cache.enc) := rfl
  have hspz : splice zeroW.enc 0 zeroW.enc = zeroW.enc := splice_all rfl
  have hbody : f88.body = f88.body := rfl
  conv at hbody => rhs; rw [f88]
  simp only [← zero_enc] at hbody
  rw [hbody]
  generalize hmt : memT m = mt at *
  refine W_seqn (W_region (fun k => by simp +decide only [s8, simprocAttr, hl, h0, hleaf, hzleaf]; rfl) ⟨rfl, ?_⟩)
  by_cases hn : who < 0
  · have hd : decide (who < 0) = true := decide_eq_true hn
    rw [show wayAt m who ln = zeroW from if_neg (fun h => by have := h.1; omega)]
    refine W_seq (W_seqn (W_region (fun k => by simp +decide only [s8, simprocAttr, hl, h1, hd]; rfl) ⟨rfl, W_tru ?_⟩))
    refine W_seqn (W_region (fun k => by simp +decide only [s8, simprocAttr, hl, hzl, hzleaf, hspz]; rfl) ⟨rfl, W_ret ?_⟩)
    simp only [reduceCtorEq, false_and, false_or, or_false, exists_false, exists_const, ne_eq, not_false_eq_true, true_and, implies_true]
    refine fin_cell (F := f88) (p := 1) rfl (way_frz _) ?_ ?_ rfl <;> simp +decide only [s8, simprocAttr, hl]
  · have hd : decide (who < 0) = false := decide_eq_false hn
    by_cases hm2 : who ≥ (m.caches.length : Int)
    · have hd2 : decide (who ≥ (m.caches.length : Int)) = true := decide_eq_true hm2
      rw [show wayAt m who ln = zeroW from if_neg (fun h => by have := h.2; omega)]
      refine W_seq (W_seqn (W_region (fun k => by simp +decide only [s8, simprocAttr, hl, h1, hd, hcc, hd2]; rfl) ⟨rfl, W_tru ?_⟩))
      refine W_seqn (W_region (fun k => by simp +decide only [s8, simprocAttr, hl, hzl, hzleaf, hspz]; rfl) ⟨rfl, W_ret ?_⟩)
      simp only [reduceCtorEq, false_and, false_or, or_false, exists_false, exists_const, ne_eq, not_false_eq_true, true_and, implies_true]
      refine fin_cell (F := f88) (p := 1) rfl (way_frz _) ?_ ?_ rfl <;> simp +decide only [s8, simprocAttr, hl]
    · have hd2 : decide (who ≥ (m.caches.length : Int)) = false := decide_eq_false hm2
      obtain ⟨w, rfl⟩ : ∃ w : Nat, who = (w : Int) := ⟨who.toNat, by omega⟩
      have hw : w < m.caches.length := by omega
      have hv : wayAt m (w : Int) ln = wayOf (cacheAt m w) ln := by unfold wayAt; rw [if_pos ⟨by omega, by omega⟩, Int.toNat_natCast]
      rw [hv]
      have hcl := caches_len m
      have hb : w * 1 + 1 ≤ m.caches.length := by omega
      have hcg := caches_cut m w hw
      have hcg2 := caches_get m w hw
      have hcw := cacheAt_wf hm w hw
      generalize cacheAt m w = c at *
      obtain ⟨N, q⟩ := (bus_find c hcw ln hln).call ap69 (fun g => rfl)
      have q53 := q N (Nat.le_refl _)
      generalize m.caches.flatMap Cache.enc = ccs at *
      refine W_seqn (W_seqn (W_region (fun k => by simp +decide only [s8, simprocAttr, hl, h1, hd, hcc, hd2]; rfl) ⟨rfl, W_fls (W_skip ⟨rfl, ?_⟩)⟩))
      cases hf : find c ln with
      | none =>
        have e1 : findT c ln = .tup [.int .i64 0, .int .i64 0, .bool false] := by unfold findT; rw [hf]
        rw [show wayOf c ln = zeroW by unfold wayOf; rw [hf]]
        rw [e1] at q53
        refine W_seqn (W_regionN ⟨N, by simp +decide only [s8, simprocAttr, hl, h1, hcc, hw, hb, hcl, hcg, ap69, p69, n69, q53]; rfl⟩ ⟨rfl, ?_⟩)
        refine W_seq (W_seqn (W_region (fun k => by simp +decide only [s8, simprocAttr, hl]; rfl) ⟨rfl, W_tru ?_⟩))
        refine W_seqn (W_region (fun k => by simp +decide only [s8, simprocAttr, hl, hzl, hzleaf, hspz]; rfl) ⟨rfl, W_ret ?_⟩)
        simp only [reduceCtorEq, false_and, false_or, or_false, exists_false, exists_const, ne_eq, not_false_eq_true, true_and, implies_true]
        refine fin_cell (F := f88) (p := 1) rfl (way_frz _) ?_ ?_ rfl <;> simp +decide only [s8, simprocAttr, hl]
      | some k =>
        obtain ⟨hs, hk⟩ := find_lt hf
        have e1 : findT c ln = .tup [.int .i64 (seti c ln : Int), .int .i64 (k : Int), .bool true] := by unfold findT; rw [hf]
        have e2 : wayOf c ln = ((row c (seti c ln))[k]?).getD default := by unfold wayOf; rw [hf]
        have hwf := wayOf_wf hcw ln
        have hwl := way_len hwf
        have hwleaf := leaf_ints _ (way_ints (wayOf c ln))
        have hsp : splice zeroW.enc 0 (wayOf c ln).enc = (wayOf c ln).enc := splice_all (by rw [hwl]; rfl)
        have hrow := rows_get c (seti c ln) hs
        have hrl := rows_len c
        have hrw := row_wf hcw (seti c ln) hs
        have hb1 : seti c ln * 1 + 1 ≤ c.sets.length := by omega
        have hrt : rowT (row c (seti c ln)) = .imm false (row c (seti c ln)).length ((row c (seti c ln)).flatMap Way.enc) := rfl
        rw [hrt] at hrow
        have hfl := flat_lenM (f := Way.enc) (row c (seti c ln)) (fun w h => way_len (hrw.2 w h))
        have hb2 : k * 19 + 19 ≤ ((row c (seti c ln)).flatMap Way.enc).length := by omega
        have hcw2 : cut ((row c (seti c ln)).flatMap Way.enc) (k * 19) 19 = (wayOf c ln).enc := by
          rw [flat_cutM (row c (seti c ln)) (fun w h => way_len (hrw.2 w h)) k hk, e2, List.getElem?_eq_getElem hk]; rfl
        have hsc : setsT c = .imm false c.sets.length (c.sets.flatMap (fun l => [rowT l])) := rfl
        rw [e1] at q53
        rw [hsc] at q53 hcg hcg2
        have hfzz := way_frz (wayOf c ln)
        generalize wayOf c ln = ww at *
        generalize c.sets.flatMap (fun l => [rowT l]) = cs at *
        generalize (row c (seti c ln)).flatMap Way.enc = ws at *
        refine W_seqn (W_regionN ⟨N, by simp +decide only [s8, simprocAttr, hl, h1, hcc, hw, hb, hcl, hcg, ap69, p69, n69, q53]; rfl⟩ ⟨rfl, ?_⟩)
        refine W_seqn (W_seqn (W_region (fun k => by simp +decide only [s8, simprocAttr, hl]; rfl) ⟨rfl, W_fls (W_skip ⟨rfl, ?_⟩)⟩))
        refine W_seqn (W_region (fun k => by simp +decide only [s8, simprocAttr, hl, h1, hcc, hw, hb, hcl, hcg2, hrow, hrl, hs, hk, hb1, hb2, hcw2, hzl, hwl, hwleaf, hsp]; rfl) ⟨rfl, W_ret ?_⟩)
        refine fin_cell (F := f88) (p := 1) rfl hfzz ?_ ?_ hwl <;> simp +decide only [s8, simprocAttr, hl]
theorem ap88 : ap 88 = some f88 := rfl
theorem p88 : f88.pure = true := rfl
theorem n88 : f88.nat = none := rfl
theorem ap87 : ap 87 = some f87 := rfl
theorem p87 : f87.pure = true := rfl
theorem n87 : f87.nat = none := rfl
theorem bus_want (m : Coh) (hm : m.wf) (who : Int) (ln : Nat) (a : Int) (hln : ln ≤ 4294967295) : E ap 63 [.agg [memT m, cachT m], .int .i64 who, .int .u32 (ln : Int), .int .i64 a] (wantT m who ln a) := by
  refine E_body (F := f63) rfl rfl rfl ?_
  generalize hs0 : (_ : List T) ++ List.replicate _ T.undef = s0
  have e0 : s0.length = 29 ∧ rho s0 (.tmp 0) = .agg [memT m, cachT m] ∧ rho s0 (.tmp 1) = .int .i64 who ∧ rho s0 (.tmp 2) = .int .u32 (ln : Int) ∧ rho s0 (.tmp 3) = .int .i64 a := by subst hs0; exact ⟨rfl, rfl, rfl, rfl, rfl⟩
  clear hs0
  obtain ⟨hl, h0, h1, h2, h3⟩ := e0
  have hleaf : allLeaf [memT m, cachT m] = true := rfl
  have hleaf2 : allLeaf [T.int .i64 0, T.int .u32 0] = true := rfl
  have hcut : cut [memT m, cachT m] 0 2 = [memT m, cachT m] := rfl
  have hcc : cachT m = .imm false m.caches.length (m.caches.flatMap Cache.enc) := rfl
  have hm1 : (memT m).leaf = true := rfl
  have hm2 : (cachT m).leaf = true := rfl
  obtain ⟨N2, q2⟩ := (bus_way m hm who ln hln).call ap88 (fun g => rfl)
  obtain ⟨N3, q3⟩ := (bus_ask (stateOf m who ln) a).call ap87 (fun g => rfl)
  have q30 := q2 (N2 + N3) (by omega)
  have q29 := q3 (N2 + N3) (by omega)
  have hws := way_state (wayAt m who ln)
  rw [wayAt_state] at hws
  have hwl := way_len (wayAt_wf hm who ln)
  refine W_seqn (W_region (fun k => by simp +decide only [s8, simprocAttr, hl, h0, hleaf, hleaf2]; rfl) ⟨rfl, ?_⟩)
  have bad : ∀ (hh : ¬ has m who) (P : Prop), (wantT m who ln a = .agg [.int .i64 0, .int .u32 0] → P) → P := fun hh P h => h (by unfold wantT; rw [if_neg hh])
  by_cases hn : who < 0
  · have hd : decide (who < 0) = true := decide_eq_true hn
    refine bad (fun h => by have := h.1; omega) _ (fun hv => ?_)
    rw [hv]
    refine W_seq (W_seqn (W_region (fun k => by simp +decide only [s8, simprocAttr, hl, h1, hd]; rfl) ⟨rfl, W_tru ?_⟩))
    refine W_seqn (W_region (fun k => by simp +decide only [s8, simprocAttr, hl, hleaf2]; rfl) ⟨rfl, W_ret ?_⟩)
    simp only [reduceCtorEq, false_and, false_or, or_false, exists_false, exists_const, ne_eq, not_false_eq_true, true_and, implies_true]
    refine fin_cell (F := f63) (p := 1) rfl (fun _ => rfl) ?_ ?_ rfl <;> simp +decide only [s8, simprocAttr, hl]
  · have hd : decide (who < 0) = false := decide_eq_false hn
    by_cases hm2 : who ≥ (m.caches.length : Int)
    · have hd2 : decide (who ≥ (m.caches.length : Int)) = true := decide_eq_true hm2
      refine bad (fun h => by have := h.2; omega) _ (fun hv => ?_)
      rw [hv]
      refine W_seq (W_seqn (W_region (fun k => by simp +decide only [s8, simprocAttr, hl, h1, hd, hcc, hd2]; rfl) ⟨rfl, W_tru ?_⟩))
      refine W_seqn (W_region (fun k => by simp +decide only [s8, simprocAttr, hl, hleaf2]; rfl) ⟨rfl, W_ret ?_⟩)
      simp only [reduceCtorEq, false_and, false_or, or_false, exists_false, exists_const, ne_eq, not_false_eq_true, true_and, implies_true]
      refine fin_cell (F := f63) (p := 1) rfl (fun _ => rfl) ?_ ?_ rfl <;> simp +decide only [s8, simprocAttr, hl]
    · have hd2 : decide (who ≥ (m.caches.length : Int)) = false := decide_eq_false hm2
      have hv : wantT m who ln a = .agg [.int .i64 (askv (stateOf m who ln) a), .int .u32 (ln : Int)] := by unfold wantT; rw [if_pos ⟨by omega, by omega⟩]
      have hleaf3 : allLeaf [T.int .i64 (askv (stateOf m who ln) a), T.int .u32 (ln : Int)] = true := rfl
      rw [hv]
      generalize wayAt m who ln = ww at *
      obtain ⟨ml, mc, hmt⟩ : ∃ ml mc, memT m = .imm false ml mc := ⟨_, _, rfl⟩
      rw [hcc, hmt] at q30 hcut
      refine W_seqn (W_seqn (W_region (fun k => by simp +decide only [s8, simprocAttr, hl, h1, hd, hcc, hd2]; rfl) ⟨rfl, W_fls (W_skip ⟨rfl, ?_⟩)⟩))
      refine W_seqn (W_regionN ⟨N2 + N3, by simp +decide only [s8, simprocAttr, hl, h1, h2, h3, hcut, hmt, ap88, p88, n88, q30, hwl, hws, ap87, p87, n87, q29, hleaf3]; rfl⟩ ⟨rfl, W_ret ?_⟩)
      refine fin_cell (F := f63) (p := 1) rfl (fun _ => rfl) ?_ ?_ rfl <;> simp +decide only [s8, simprocAttr, hl]
def bshLoop : ACode := match f94.body with | .seq _ (.seq _ (.seq (.seq _ (.block _ (.loop c))) _)) => c | _ => .skip
theorem bsh_loop (m : Coh) (hm : m.wf) (who : Int) (ln : Nat) (hln : ln ≤ 4294967295) (r : Bool) (Q : AExit → St → Prop)
    (hQr : ∀ st : St, r = true → rho st.s (.tmp 6) = .bool true → Q .ret st) (hQe : ∀ st : St, r = false → st.s.length = 30 → Q (.exit 0) st) :
    ∀ (n : Nat) (st : St), (∃ k : Nat, st.s.length = 30 ∧ rho st.s (.tmp 1) = .int .i64 who ∧ rho st.s (.tmp 7) = .fn 88 [.agg [memT m, cachT m, .int .u32 (ln : Int)]] [] ∧ rho st.s (.tmp 15) = .int .i64 (m.caches.length : Int) ∧ rho st.s (.tmp 16) = .int .i64 (k : Int) ∧ k ≤ m.caches.length ∧ n = m.caches.length - k ∧ sharedN m who ln k n = r) → W ap (.loop bshLoop) st Q := by
  refine W_loop _ ?_
  rintro n st ⟨k, hl, h1, h7, h15, h16, hk, hn, hr⟩
  have hmx := max_small
  have hml := hm.2.1
  by_cases hend : k = m.caches.length
  · have hlt : decide ((k : Int) < (m.caches.length : Int)) = false := decide_eq_false (by omega)
    refine W_seqn (W_region (fun k => by simp +decide only [s8, simprocAttr, hl, h15, h16, hlt]; rfl) ⟨rfl, ?_⟩)
    refine W_seq (W_fls (W_exit (.inr ⟨by simp, .inr ⟨by simp, hQe _ ?_ ?_⟩⟩)))
    · rw [← hr, hn, hend, Nat.sub_self]; rfl
    · simp +decide only [s8, simprocAttr, hl]
  · have hlt : decide ((k : Int) < (m.caches.length : Int)) = true := decide_eq_true (by omega)
    have hw2 : IntKind.i64.wrap ((k : Int) + 1) = ((k + 1 : Nat) : Int) := by rw [wrap_id (by omega)]; omega
    obtain ⟨n', hn'⟩ : ∃ n', n = n' + 1 := ⟨n - 1, by omega⟩
    rw [hn', sharedN] at hr
    obtain ⟨N, q⟩ := (bus_way m hm (k : Int) ln hln).call ap88 (fun g => rfl)
    have q30 := q N (Nat.le_refl _)
    have hws := way_state (wayAt m (k : Int) ln)
    rw [wayAt_state] at hws
    have hwl := way_len (wayAt_wf hm (k : Int) ln)
    generalize wayAt m (k : Int) ln = ww at *
    refine W_seqn (W_region (fun k => by simp +decide only [s8, simprocAttr, hl, h15, h16, hlt]; rfl) ⟨rfl, ?_⟩)
    refine W_seqn (W_tru (W_skip ⟨rfl, ?_⟩))
    cases hb1 : ((k : Int) != who) with
    | false =>
      rw [hb1] at hr
      simp only [Bool.false_and, Bool.false_eq_true, if_false] at hr
      refine W_seqn (W_block (W_seqn (W_region (fun k => by simp +decide only [s8, simprocAttr, hl, h16]; rfl) ⟨rfl, ?_⟩)))
      refine W_seqn (W_regionN ⟨N, by simp +decide only [s8, simprocAttr, hl, h1, h7, hb1, ap88, p88, n88, q30]; rfl⟩ ⟨rfl, W_fls (W_skip (.inr (.inl ⟨by simp, rfl, ?_⟩)))⟩)
      refine W_region (fun k => by simp +decide only [s8, simprocAttr, hl, h16, hw2]; rfl) (.inl ⟨rfl, n', by omega, k + 1, ?_, ?_, ?_, ?_, ?_, by omega, by omega, hr⟩) <;> simp +decide only [s8, simprocAttr, hl, h1, h7, h15]
    | true =>
      rw [hb1] at hr
      cases hb2 : (stateOf m (k : Int) ln != 0) with
      | false =>
        rw [hb2] at hr
        simp only [Bool.and_false, Bool.false_eq_true, if_false] at hr
        refine W_seqn (W_block (W_seqn (W_region (fun k => by simp +decide only [s8, simprocAttr, hl, h16]; rfl) ⟨rfl, ?_⟩)))
        refine W_seqn (W_regionN ⟨N, by simp +decide only [s8, simprocAttr, hl, h1, h7, hb1, hb2, ap88, p88, n88, q30, hwl, hws]; rfl⟩ ⟨rfl, W_fls (W_skip (.inr (.inl ⟨by simp, rfl, ?_⟩)))⟩)
        refine W_region (fun k => by simp +decide only [s8, simprocAttr, hl, h16, hw2]; rfl) (.inl ⟨rfl, n', by omega, k + 1, ?_, ?_, ?_, ?_, ?_, by omega, by omega, hr⟩) <;> simp +decide only [s8, simprocAttr, hl, h1, h7, h15]
      | true =>
        rw [hb2] at hr
        simp only [Bool.and_self, if_true] at hr
        refine W_seq (W_block (W_seqn (W_region (fun k => by simp +decide only [s8, simprocAttr, hl, h16]; rfl) ⟨rfl, ?_⟩)))
        refine W_seqn (W_regionN ⟨N, by simp +decide only [s8, simprocAttr, hl, h1, h7, hb1, hb2, ap88, p88, n88, q30, hwl, hws]; rfl⟩ ⟨rfl, W_tru ?_⟩)
        refine W_seqn (W_region (fun k => by simp +decide only [s8, simprocAttr]; rfl) ⟨rfl, W_ret ?_⟩)
        simp only [reduceCtorEq, false_and, false_or, or_false, exists_false, exists_const, ne_eq, not_false_eq_true, true_and, implies_true]
        refine hQr _ hr.symm ?_
        simp +decide only [s8, simprocAttr, hl]
theorem bus_shared (m : Coh) (hm : m.wf) (who : Int) (ln : Nat) (hln : ln ≤ 4294967295) : E ap 94 [.agg [memT m, cachT m], .int .i64 who, .int .u32 (ln : Int)] (.bool (sharedN m who ln 0 m.caches.length)) := by
  refine E_body (F := f94) rfl rfl rfl ?_
  generalize hs0 : (_ : List T) ++ List.replicate _ T.undef = s0
  have e0 : s0.length = 30 ∧ rho s0 (.tmp 0) = .agg [memT m, cachT m] ∧ rho s0 (.tmp 1) = .int .i64 who ∧ rho s0 (.tmp 2) = .int .u32 (ln : Int) := by subst hs0; exact ⟨rfl, rfl, rfl, rfl⟩
  clear hs0
  obtain ⟨hl, h0, h1, h2⟩ := e0
  obtain ⟨ml, mc, hmt⟩ : ∃ ml mc, memT m = .imm false ml mc := ⟨_, _, rfl⟩
  have hcc : cachT m = .imm false m.caches.length (m.caches.flatMap Cache.enc) := rfl
  have hleaf : allLeaf [memT m, cachT m] = true := rfl
  have hcut : cut [memT m, cachT m] 0 2 = [memT m, cachT m] := rfl
  generalize hr : sharedN m who ln 0 m.caches.length = r
  have hloop := bsh_loop m hm who ln hln r
  rw [hmt, hcc] at hloop hcut hleaf h0
  generalize m.caches.flatMap Cache.enc = ccs at *
  refine W_seqn (W_region (fun k => by simp +decide only [s8, simprocAttr, hl, h0, hleaf]; rfl) ⟨rfl, ?_⟩)
  refine W_seqn (W_region (fun k => by simp +decide only [s8, simprocAttr, hl, h2, hcut]; rfl) ⟨rfl, ?_⟩)
  refine W_seq (W_seqn (W_region (fun k => by simp +decide only [s8, simprocAttr, hl]; rfl) ⟨rfl, W_block ?_⟩))
  refine hloop _ (fun st hr h6 => ?_) (fun st hr hst => ?_) m.caches.length _ ⟨0, ?_, ?_, ?_, ?_, ?_, by omega, rfl, hr⟩
  · simp only [reduceCtorEq, false_and, false_or, or_false, exists_false, exists_const, ne_eq, not_false_eq_true, true_and, implies_true]
    rw [hr]
    exact fin_of (F := f94) rfl (fun _ => rfl) h6
  · rw [hr]
    refine .inl ⟨rfl, .inl ⟨rfl, W_seqn (W_region (fun k => by simp +decide only [s8, simprocAttr]; rfl) ⟨rfl, W_ret ?_⟩)⟩⟩
    refine fin_of (F := f94) rfl (fun _ => rfl) ?_
    simp +decide only [s8, simprocAttr, hst]
  all_goals simp +decide only [s8, simprocAttr, hl, h1]
  try rfl
end Go.Proofs.YtabfinhkoihhfaaGreat.Abs
