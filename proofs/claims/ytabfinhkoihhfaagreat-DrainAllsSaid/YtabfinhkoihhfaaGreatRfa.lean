/- Draining whole, as the document says: the walk. -/
import Derived.Test.YtabfinhkoihhfaaGreatRfs
namespace Go.Proofs.YtabfinhkoihhfaaGreat.Abs
open Go Go.RowKit Fn
set_option linter.unusedVariables false
set_option linter.unusedSimpArgs false
set_option linter.unnecessarySimpa false
set_option maxRecDepth 100000
set_option maxHeartbeats 4000000

theorem alM_app (who : Int) (s : Sb) : ∀ (l : List Sb) (m : Coh), alM who m (l ++ [s]) = (wrS (alM who m l) who s).1
  | [], _ => rfl
  | a :: l, m => alM_app who s l (wrS m who a).1
def raLoop : ACode := match f12.body with | .seq _ (.seq (.seq _ (.block _ (.loop c))) _) => c | _ => .skip
def RaI (who : Int) (cs : List T) (m : Coh) (l : List Sb) (i : Nat) (st : St) : Prop := st.s.length = 44 ∧ rho st.s (.tmp 2) = .int .i64 who ∧ rho st.s (.tmp 3) = .ptr 0 0 ∧ rho st.s (.tmp 4) = .ptr 1 0 ∧ rho st.s (.tmp 6) = .ptr 2 0 ∧ rho st.s (.tmp 7) = .ptr 3 0 ∧ rho st.s (.tmp 8) = .int .i64 (i : Int) ∧ st.g 0 = some cs ∧ st.g 2 = some zK0 ∧ st.g 3 = some [.imm true 0 [], .imm true 0 []] ∧ ∃ x y, Lax (alM who m (l.take i)) x y ∧ Ok (alM who m (l.take i)) ∧ st.g 1 = some [x, y]
theorem ra_loop (who : Int) (cs : List T) (m : Coh) (f : Bool) (l : List Sb) (wt ml : Int) (hcw : CorX cs f l wt ml) (hl20 : l.length ≤ 1000) (hs : ∀ s ∈ l, s.wf) (Q : AExit → St → Prop)
    (hQe : ∀ st : St, RaI who cs m l l.length st → Q (.exit 0) st) :
    ∀ (nn : Nat) (st : St), (∃ i : Nat, RaI who cs m l i st ∧ i ≤ l.length ∧ nn = l.length - i) → W ap (.loop raLoop) st Q := by
  refine W_loop _ ?_
  rintro nn st ⟨i, ⟨hl, h2, h3, h4, h6, h7, h8, g0, g2, g3, x, y, hlx, hok, g1⟩, hi, hnn⟩
  have hcw' := hcw
  obtain ⟨hlen, hst, c107, _⟩ := hcw'
  by_cases hend : i = l.length
  · have d0 : decide ((i : Int) < (l.length : Int)) = false := decide_eq_false (by omega)
    refine W_seq (W_seqn (W_region (fun k => by simp +decide (disch := first | omega | simp +decide [hl]) only [s9, simprocAttr, h3, h8, g0, hlen, c107, d0]; rfl) ⟨rfl, W_fls (W_exit (.inr ⟨by simp, .inr ⟨by simp, hQe _ ⟨?_, ?_, ?_, ?_, ?_, ?_, ?_, ?_, ?_, ?_, x, y, by rw [← hend]; exact hlx, by rw [← hend]; exact hok, ?_⟩⟩⟩))⟩))
    all_goals simp +decide (disch := first | omega | simp +decide [hl]) only [s9, simprocAttr, hl, h2, h3, h4, h6, h7, h8, g0, g1, g2, g3, hend]
  have hil : i < l.length := by omega
  have d0 : decide ((i : Int) < (l.length : Int)) = true := decide_eq_true (by omega)
  have hsm := List.getElem_mem hil
  have hsw := hs _ hsm
  obtain ⟨N, x', y', hlx', q⟩ := rwrite_lax hok hlx who hsw
  have q := q N (Nat.le_refl _)
  have hok' := ok_wrS hok who hsw
  have htk : l.take (i + 1) = l.take i ++ [l[i]] := List.take_succ_eq_append_getElem hil
  have hal : alM who m (l.take (i + 1)) = (wrS (alM who m (l.take i)) who l[i]).1 := by rw [htk, alM_app]
  rw [← hal] at hlx' hok'
  have hcu := flat_cutM (f := Sb.enc) l (fun a _ => sb_len a) i hil
  have hcl := sb_cells l
  have hb3 : i * 3 + 3 ≤ l.length * 3 := by omega
  have hse : l[i].enc = [.int .u32 l[i].addr, .int .u32 l[i].data, .int .i64 l[i].size] := rfl
  have hw2 : IntKind.i64.wrap ((i : Int) + 1) = ((i + 1 : Nat) : Int) := by rw [wrap_id (by omega)]; omega
  have hlf' := lax_leaf hlx'
  have hsp2 : ∀ x y x' y' : T, splice [x, y] 0 [x', y'] = [x', y'] := fun _ _ _ _ => rfl
  have hcut : ∀ x y : T, cut [x, y] 0 2 = [x, y] := fun _ _ => rfl
  rw [hse] at hcu
  have k0 : (l.flatMap Sb.enc)[i * 3 + 0]? = some (.int .u32 l[i].addr) := by
    have := congrArg (fun c => c[0]?) hcu
    rw [cut_get] at this; simpa using this
  have k1 : (l.flatMap Sb.enc)[i * 3 + 1]? = some (.int .u32 l[i].data) := by
    have := congrArg (fun c => c[1]?) hcu
    rw [cut_get] at this; simpa using this
  have k2 : (l.flatMap Sb.enc)[i * 3 + 2]? = some (.int .i64 l[i].size) := by
    have := congrArg (fun c => c[2]?) hcu
    rw [cut_get] at this; simpa using this
  rw [Nat.add_zero] at k0
  generalize l[i].addr = sa at *
  generalize l[i].data = sd at *
  generalize l[i].size = sz at *
  generalize (wrS (alM who m (l.take i)) who l[i]).2 = had at *
  have hb30 : i * 3 + 1 ≤ l.length * 3 := by omega
  have hb31 : i * 3 + 1 + 1 ≤ l.length * 3 := by omega
  have hb32 : i * 3 + 2 + 1 ≤ l.length * 3 := by omega
  refine W_seqn (W_seqn (W_region (fun k => by simp +decide (disch := first | omega | simp +decide [hl]) only [s9, simprocAttr, h3, h8, g0, hlen, c107, d0]; rfl) ⟨rfl, W_tru (W_skip ⟨rfl, ?_⟩)⟩))
  refine W_seqn (W_block (W_regionN ⟨N, by simp +decide (disch := first | omega | simp +decide [hl]) only [s9, simprocAttr, h2, h3, h4, h8, g0, g1, hlen, c107, hil, hcl, hb3, hb30, hb31, hb32, k0, k1, k2, hcut, hsp2, hlf', q17, r17, s17, q]; rfl⟩ (.inr (.inl ⟨by simp, rfl, ?_⟩))))
  refine W_region (fun k => by simp +decide (disch := first | omega | simp +decide [hl]) only [s9, simprocAttr, h8, hw2]; rfl) (.inl ⟨rfl, l.length - (i + 1), by omega, i + 1, ⟨?_, ?_, ?_, ?_, ?_, ?_, ?_, ?_, ?_, ?_, x', y', hlx', hok', ?_⟩, by omega, rfl⟩)
  all_goals simp +decide (disch := first | omega | simp +decide [hl]) only [s9, simprocAttr, hl, h2, h3, h4, h6, h7, g0, g1, g2, g3, hsp2]
theorem ref_all {m : Coh} (hok : Ok m) (who : Int) (cs : List T) (f : Bool) (l : List Sb) (wt ml : Int) (hc : CorX cs f l wt ml) (hl20 : l.length ≤ 1000) (hs : ∀ s ∈ l, s.wf) :
    ∃ v, E ap 12 [.agg cs, .agg [memT m, cachT m], .int .i64 who] v ∧ AlR cs who m l v := by
  refine E_bodyV (F := f12) rfl rfl rfl (P := AlR cs who m l) ?_
  have hbody : f12.body = f12.body := rfl
  conv at hbody => rhs; rw [f12]
  have hlp : raLoop = raLoop := rfl
  rw [hbody]
  clear hbody
  have hlx := lax_strict m
  generalize memT m = x at *
  generalize cachT m = y at *
  generalize hs0 : (_ : List T) ++ List.replicate _ T.undef = s0
  have e0 : s0.length = 44 ∧ rho s0 (.tmp 0) = .agg cs ∧ rho s0 (.tmp 1) = .agg [x, y] ∧ rho s0 (.tmp 2) = .int .i64 who := by subst hs0; exact ⟨rfl, rfl, rfl, rfl⟩
  clear hs0
  obtain ⟨hl, h0, h1, h2⟩ := e0
  have hcw := hc
  obtain ⟨hlen, hst, _⟩ := hc
  have hleaf := still_leaf hst
  have hlf := lax_leaf hlx
  have hzf := zCore_leaf
  have hzl := zCore_len
  have hspz : ∀ c : List T, c.length = 112 → splice zK0 0 c = c := fun c h => splice_all (by rw [h]; rfl)
  refine W_cut (fun t => (t.s.length = 44 ∧ rho t.s (.tmp 2) = .int .i64 who ∧ rho t.s (.tmp 3) = .ptr 0 0 ∧ rho t.s (.tmp 4) = .ptr 1 0 ∧ rho t.s (.tmp 6) = .ptr 2 0 ∧ rho t.s (.tmp 7) = .ptr 3 0) ∧ t.g 0 = some cs ∧ t.g 1 = some [x, y] ∧ t.g 2 = some zK0 ∧ t.g 3 = some [.imm true 0 [], .imm true 0 []]) (W_region (fun k => by simp +decide (disch := first | omega | simp +decide [hl]) only [s9, simprocAttr, h0, h1, hleaf, hlf, hzf]; rfl) ⟨rfl, ⟨?_, ?_, ?_, ?_, ?_, ?_⟩, ?_, ?_, ?_, ?_⟩) ?_
  case refine_11 =>
    clear hl h0 h1 h2
    rintro st ⟨⟨hl, h2, h3, h4, h6, h7⟩, g0, g1, g2, g3⟩
    refine W_seqn (W_seqn (W_region (fun k => by simp +decide (disch := first | omega | simp +decide [hl]) only [s9, simprocAttr]; rfl) ⟨rfl, W_block ?_⟩))
    refine ra_loop who cs m f l wt ml hcw hl20 hs _ (fun st hI => ?_) l.length _ ⟨0, ⟨?_, ?_, ?_, ?_, ?_, ?_, ?_, ?_, ?_, ?_, x, y, hlx, hok, ?_⟩, by omega, rfl⟩
    · obtain ⟨hl, h2, h3, h4, h6, h7, h8, g0, g2, g3, x', y', hlx', hok', g1⟩ := hI
      rw [List.take_length] at hlx' hok'
      refine .inl ⟨rfl, rfl, ?_⟩
      have hcd1 := cor_sb (l' := []) true hcw
      have hcd2 := cor_wait hcd1 (w := 0) (by omega)
      have hp2 : putC cs true [] 0 = (cs.set 107 (.imm true 0 [])).set 110 (.int .i64 0) := rfl
      have hcd1' : (cs.set 107 (.imm true 0 [])).length = 112 := hcd1.1
      have hlen2 : ((cs.set 107 (.imm true 0 [])).set 110 (.int .i64 0)).length = 112 := hcd2.1
      have hst2 : ((cs.set 107 (.imm true 0 [])).set 110 (.int .i64 0)).all still1 = true := hcd2.2.1
      have hleaf2 := still_leaf hst2
      generalize hcs1 : cs.set 107 (.imm true 0 []) = cs1 at *
      generalize hcs2 : cs1.set 110 (.int .i64 0) = cs2 at *
      have hcc2 : cut cs2 0 112 = cs2 := cut_all hlen2
      have hspz2 := hspz _ hlen2
      have hcut : ∀ x y : T, cut [x, y] 0 2 = [x, y] := fun _ _ => rfl
      have hsp2 : ∀ x y x' y' : T, splice [x, y] 0 [x', y'] = [x', y'] := fun _ _ _ _ => rfl
      have hlf' := lax_leaf hlx'
      have hxy' := lax_still hlx'
      generalize zK0 = zc at *
      refine W_cut (fun t => t.s.length = 44 ∧ rho t.s (.tmp 3) = .ptr 0 0 ∧ rho t.s (.tmp 4) = .ptr 1 0 ∧ rho t.s (.tmp 6) = .ptr 2 0 ∧ rho t.s (.tmp 7) = .ptr 3 0 ∧ t.g 0 = some cs1 ∧ t.g 1 = some [x', y'] ∧ t.g 2 = some zc ∧ t.g 3 = some [.imm true 0 [], .imm true 0 []]) (W_region (fun k => by simp +decide (disch := first | omega | simp +decide [hl]) only [s9, simprocAttr, h3, g0, hlen, hcs1]; rfl) ⟨rfl, ?_⟩) ?_
      · refine ⟨?_, ?_, ?_, ?_, ?_, ?_, ?_, ?_, ?_⟩ <;> simp +decide (disch := first | omega | simp +decide [hl]) only [s9, simprocAttr, hl, h3, h4, h6, h7, g0, g1, g2, g3, hcs1]
      clear hl h2 h3 h4 h6 h7 h8 g0 g1 g2 g3
      rintro st ⟨hl, h3, h4, h6, h7, g0, g1, g2, g3⟩
      refine W_cut (fun t => t.s.length = 44 ∧ rho t.s (.tmp 3) = .ptr 0 0 ∧ rho t.s (.tmp 4) = .ptr 1 0 ∧ rho t.s (.tmp 6) = .ptr 2 0 ∧ rho t.s (.tmp 7) = .ptr 3 0 ∧ t.g 0 = some cs2 ∧ t.g 1 = some [x', y'] ∧ t.g 2 = some zc ∧ t.g 3 = some [.imm true 0 [], .imm true 0 []]) (W_region (fun k => by simp +decide (disch := first | omega | simp +decide [hl]) only [s9, simprocAttr, h3, g0, hcd1', hcs2]; rfl) ⟨rfl, ?_⟩) ?_
      · refine ⟨?_, ?_, ?_, ?_, ?_, ?_, ?_, ?_, ?_⟩ <;> simp +decide (disch := first | omega | simp +decide [hl]) only [s9, simprocAttr, hl, h3, h4, h6, h7, g0, g1, g2, g3, hcs2]
      clear hl h3 h4 h6 h7 g0 g1 g2 g3
      rintro st ⟨hl, h3, h4, h6, h7, g0, g1, g2, g3⟩
      refine W_seqn (W_region (fun k => by simp +decide (disch := first | omega | simp +decide [hl]) only [s9, simprocAttr, h3, h4, h6, h7, g0, g1, g2, g3, hlen2, hcut, hsp2, hcc2, hspz2, hzl, hleaf2, hlf']; rfl) ⟨rfl, W_ret ?_⟩)
      refine ⟨rfl, .tup [.agg cs2, .agg [x', y']], ⟨true, x', y', by rw [hp2], hlx'⟩, .tup [.agg cs2, .agg [x', y']], [], ?_, ?_⟩
      · simp only [resT, resL, resOne, show f12.res = [.cell 6 false 112, .cell 7 false 2] from rfl]
        simp +decide (disch := first | omega | simp +decide [hl]) only [s9, simprocAttr, h6, h7, hcc2, hlen2, hcut, hspz2, hsp2]
        try rfl
      · refine frz_tup ?_
        simp only [frzAll, frzA11 hst2, frzA11 hxy', List.append_nil]
    all_goals simp +decide (disch := first | omega | simp +decide [hl]) only [s9, simprocAttr, hl, h2, h3, h4, h6, h7, g0, g1, g2, g3]
    all_goals rfl
  all_goals simp +decide (disch := first | omega | simp +decide [hl]) only [s9, simprocAttr, hl, h2]
end Go.Proofs.YtabfinhkoihhfaaGreat.Abs
