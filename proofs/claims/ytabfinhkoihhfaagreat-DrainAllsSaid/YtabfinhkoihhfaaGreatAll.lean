/- Draining whole: the program's walk. -/
import Derived.Test.YtabfinhkoihhfaaGreatStg
namespace Go.Proofs.YtabfinhkoihhfaaGreat.Abs
open Go Go.RowKit Fn
set_option linter.unusedVariables false
set_option linter.unusedSimpArgs false
set_option linter.unnecessarySimpa false
set_option maxRecDepth 100000
set_option maxHeartbeats 4000000

theorem qALL : ap 11 = some f11 := rfl
theorem rALL : f11.pure = true := rfl
theorem sALL : f11.nat = none := rfl
def alLoop : ACode := match f11.body with | .seq _ (.seq (.block _ (.loop c)) _) => c | _ => .skip
theorem putC_set (cs : List T) (f f' : Bool) (l l' : List Sb) (w : Int) : (putC cs f l w).set 107 (.imm f' l'.length (l'.flatMap Sb.enc)) = putC cs f' l' w := by
  unfold putC
  rw [List.set_comm _ _ (by omega), List.set_set]
theorem putC_set0 (cs : List T) (f : Bool) (l : List Sb) (w w' : Int) : (putC cs f l w).set 110 (.int .i64 w') = putC cs f l w' := by
  unfold putC
  rw [List.set_set]
def alM (who : Int) : Coh → List Sb → Coh
  | m, [] => m
  | m, s :: l => alM who (wrS m who s).1 l
theorem ok_wrS {m : Coh} (h : Ok m) (who : Int) {s : Sb} (hs : s.wf) : Ok (wrS m who s).1 := by
  have ha := wf_u32 hs.1
  exact ok_writeM h who s.addr.toNat (by omega) s.size s.data
def AlI (who : Int) (want : Coh) (cs0 : List T) (wt ml : Int) (l : List Sb) (st : St) : Prop := st.s.length = 24 ∧ rho st.s (.tmp 2) = .int .i64 who ∧ rho st.s (.tmp 3) = .ptr 0 0 ∧ rho st.s (.tmp 4) = .ptr 1 0 ∧ rho st.s (.tmp 6) = .ptr 2 0 ∧ rho st.s (.tmp 7) = .ptr 3 0 ∧ st.g 2 = some zK0 ∧ st.g 3 = some [.imm true 0 [], .imm true 0 []] ∧ ∃ cs f m x y, CorX cs f l wt ml ∧ cs = putC cs0 f l wt ∧ Ok m ∧ Lax m x y ∧ alM who m l = want ∧ st.g 0 = some cs ∧ st.g 1 = some [x, y]
theorem al_loop (who : Int) (want : Coh) (cs0 : List T) (wt ml : Int) (Q : AExit → St → Prop)
    (hQe : ∀ st : St, AlI who want cs0 wt ml [] st → Q (.exit 0) st) :
    ∀ (nn : Nat) (st : St), (∃ l : List Sb, AlI who want cs0 wt ml l st ∧ l.length ≤ 1000 ∧ (∀ s ∈ l, s.wf) ∧ nn = l.length) → W ap (.loop alLoop) st Q := by
  refine W_loop _ ?_
  rintro nn st ⟨l, ⟨hl, h2, h3, h4, h6, h7, g2, g3, cs, f, m, x, y, hcd, hA, hgd, hlx, hwant, g0, g1⟩, hl20, hs, hnn⟩
  have hcd' := hcd
  obtain ⟨hlen, hst, c107, _⟩ := hcd'
  cases l with
  | nil =>
    have d0 : decide ((([] : List Sb).length : Int) > 0) = false := rfl
    generalize hle : ([] : List Sb).length = ln at *
    generalize hlc : ([] : List Sb).flatMap Sb.enc = lc at *
    refine W_seq (W_seqn (W_region (fun k => by simp +decide (disch := first | omega | simp +decide [hl]) only [s9, simprocAttr, h3, g0, hlen, c107, d0]; rfl) ⟨rfl, W_fls (W_exit (.inr ⟨by simp, .inr ⟨by simp, hQe _ ⟨?_, ?_, ?_, ?_, ?_, ?_, ?_, ?_, cs, f, m, x, y, hcd, hA, hgd, hlx, hwant, ?_, ?_⟩⟩⟩))⟩))
    all_goals simp +decide (disch := first | omega | simp +decide [hl]) only [s9, simprocAttr, hl, h2, h3, h4, h6, h7, g0, g1, g2, g3]
  | cons s l =>
    have d0 : decide (((s :: l).length : Int) > 0) = true := decide_eq_true (by simp)
    obtain ⟨x', y', hE, hlx'⟩ := drain_write hgd hlx who cs s (hs s (List.mem_cons_self ..)) l f wt ml hcd hl20
    have hg' := ok_wrS hgd who (hs s (List.mem_cons_self ..))
    have hcd1 := cor_sb (l' := l) true hcd
    have hcu1 : cs.set 107 (.imm true l.length (l.flatMap Sb.enc)) = putC cs0 true l wt := by rw [hA, putC_set]
    have hwant' : alM who (wrS m who s).1 l = want := hwant
    generalize (wrS m who s).2 = had at *
    generalize (wrS m who s).1 = m' at *
    generalize ((s.addr.toNat / 16 : Nat) : Int) = line at *
    generalize hcs1 : cs.set 107 (.imm true l.length (l.flatMap Sb.enc)) = cs1 at *
    have hxy := lax_still hlx
    obtain ⟨hxx, hxx2⟩ : still1 x = true ∧ still1 y = true := by simpa only [List.all_cons, List.all_nil, Bool.and_true, Bool.and_eq_true] using hxy
    obtain ⟨N, q⟩ := hE.call (fun g => by
      unfold frzL
      rw [show frzDepth = 12 from rfl]
      simp only [frzAll, frzA12 hst, frzA12 hxy, frzI12, List.append_nil])
    have q := q N (Nat.le_refl _)
    have hlf' := lax_leaf hlx'
    have hlen1 := hcd1.1
    have hleaf1 := still_leaf hcd1.2.1
    have hccs : cut cs 0 112 = cs := cut_all hlen
    have hcut : ∀ x y : T, cut [x, y] 0 2 = [x, y] := fun _ _ => rfl
    have hsp1 : splice cs 0 cs1 = cs1 := splice_all (by omega)
    have hsp2 : ∀ x y x' y' : T, splice [x, y] 0 [x', y'] = [x', y'] := fun _ _ _ _ => rfl
    have hll : l.length ≤ 1000 := by simp at hl20; omega
    have hlt : l.length < nn := by rw [hnn]; simp
    generalize (s :: l).length = ln at *
    generalize hlc : (s :: l).flatMap Sb.enc = lc at *
    refine W_seqn (W_seqn (W_region (fun k => by simp +decide (disch := first | omega | simp +decide [hl]) only [s9, simprocAttr, h3, g0, hlen, c107, d0]; rfl) ⟨rfl, W_tru (W_skip ⟨rfl, ?_⟩)⟩))
    refine W_block (W_regionN ⟨N, by simp +decide (disch := first | omega | simp +decide [hl]) only [s9, simprocAttr, h2, h3, h4, g0, g1, hlen, hlen1, hcut, hccs, hsp1, hsp2, hleaf1, hlf', qDWR, rDWR, sDWR, T.still, stI, stB, List.all_cons, List.all_nil, hst, hxx, hxx2, q]; rfl⟩ (.inr (.inl ⟨by simp, .inl ⟨rfl, l.length, hlt, l, ⟨?_, ?_, ?_, ?_, ?_, ?_, ?_, ?_, cs1, true, m', x', y', hcd1, hcu1, hg', hlx', hwant', ?_, ?_⟩, hll, fun s' hs' => hs s' (List.mem_cons_of_mem _ hs'), rfl⟩⟩)))
    all_goals simp +decide (disch := first | omega | simp +decide [hl]) only [s9, simprocAttr, hl, h2, h3, h4, h6, h7, g0, g1, g2, g3, hsp1, hsp2]
def AlR (cs : List T) (who : Int) (m : Coh) (l : List Sb) (v : T) : Prop := ∃ f x y, v = .tup [.agg (putC cs f [] 0), .agg [x, y]] ∧ Lax (alM who m l) x y
theorem drain_all {m : Coh} (hok : Ok m) {x y : T} (hlx : Lax m x y) (who : Int) (cs : List T) (f : Bool) (l : List Sb) (wt ml : Int) (hc : CorX cs f l wt ml) (hl20 : l.length ≤ 1000) (hs : ∀ s ∈ l, s.wf) :
    ∃ v, E ap 11 [.agg cs, .agg [x, y], .int .i64 who] v ∧ AlR cs who m l v := by
  refine E_bodyV (F := f11) rfl rfl rfl (P := AlR cs who m l) ?_
  have hbody : f11.body = f11.body := rfl
  conv at hbody => rhs; rw [f11]
  have hlp : alLoop = alLoop := rfl
  rw [hbody]
  clear hbody
  generalize hs0 : (_ : List T) ++ List.replicate _ T.undef = s0
  have e0 : s0.length = 24 ∧ rho s0 (.tmp 0) = .agg cs ∧ rho s0 (.tmp 1) = .agg [x, y] ∧ rho s0 (.tmp 2) = .int .i64 who := by subst hs0; exact ⟨rfl, rfl, rfl, rfl⟩
  clear hs0
  obtain ⟨hl, h0, h1, h2⟩ := e0
  have hcw := hc
  obtain ⟨hlen, hst, _⟩ := hc
  have hleaf := still_leaf hst
  have hlf := lax_leaf hlx
  have hzf := zCore_leaf
  have hzl := zCore_len
  have hspz : ∀ c : List T, c.length = 112 → splice zK0 0 c = c := fun c h => splice_all (by rw [h]; rfl)
  refine W_cut (fun t => AlI who (alM who m l) cs wt ml l t) (W_region (fun k => by simp +decide (disch := first | omega | simp +decide [hl]) only [s9, simprocAttr, h0, h1, hleaf, hlf, hzf]; rfl) ⟨rfl, ?_, ?_, ?_, ?_, ?_, ?_, ?_, ?_, cs, f, m, x, y, hcw, (putC_same hcw).symm, hok, hlx, rfl, ?_, ?_⟩) ?_
  case refine_11 =>
    intro st hI
    refine W_seqn (W_block ?_)
    refine al_loop who (alM who m l) cs wt ml _ (fun st hI => ?_) l.length _ ⟨l, hI, hl20, hs, rfl⟩
    obtain ⟨hl, h2, h3, h4, h6, h7, g2, g3, cs', f', m', x', y', hcd, hA, hgd', hlx', hwant, g0, g1⟩ := hI
    refine .inl ⟨rfl, rfl, ?_⟩
    have hlen0 := hcd.1
    have hcd2 := cor_wait hcd (w := 0) (by omega)
    have hcu2 : cs'.set 110 (.int .i64 0) = putC cs f' [] 0 := by rw [hA, putC_set0]
    have hwant : m' = alM who m l := hwant
    subst hwant
    generalize hcs2 : cs'.set 110 (.int .i64 0) = cs2 at *
    have hlen2 := hcd2.1
    have hst2 := hcd2.2.1
    have hleaf2 := still_leaf hst2
    have hcc2 : cut cs2 0 112 = cs2 := cut_all hlen2
    have hspz2 := hspz _ hlen2
    have hcut : ∀ x y : T, cut [x, y] 0 2 = [x, y] := fun _ _ => rfl
    have hsp2 : ∀ x y x' y' : T, splice [x, y] 0 [x', y'] = [x', y'] := fun _ _ _ _ => rfl
    have hlf' := lax_leaf hlx'
    have hxy' := lax_still hlx'
    generalize zK0 = zc at *
    refine W_cut (fun t => t.s.length = 24 ∧ rho t.s (.tmp 3) = .ptr 0 0 ∧ rho t.s (.tmp 4) = .ptr 1 0 ∧ rho t.s (.tmp 6) = .ptr 2 0 ∧ rho t.s (.tmp 7) = .ptr 3 0 ∧ t.g 0 = some cs2 ∧ t.g 1 = some [x', y'] ∧ t.g 2 = some zc ∧ t.g 3 = some [.imm true 0 [], .imm true 0 []]) (W_region (fun k => by simp +decide (disch := first | omega | simp +decide [hl]) only [s9, simprocAttr, h3, g0, hlen0, hcs2]; rfl) ⟨rfl, ?_⟩) ?_
    · refine ⟨?_, ?_, ?_, ?_, ?_, ?_, ?_, ?_, ?_⟩ <;> simp +decide (disch := first | omega | simp +decide [hl]) only [s9, simprocAttr, hl, h3, h4, h6, h7, g0, g1, g2, g3, hcs2]
    clear hl h2 h3 h4 h6 h7 g0 g1 g2 g3
    rintro st ⟨hl, h3, h4, h6, h7, g0, g1, g2, g3⟩
    refine W_seqn (W_region (fun k => by simp +decide (disch := first | omega | simp +decide [hl]) only [s9, simprocAttr, h3, h4, h6, h7, g0, g1, g2, g3, hlen2, hcut, hsp2, hcc2, hspz2, hzl, hleaf2, hlf']; rfl) ⟨rfl, W_ret ?_⟩)
    refine ⟨rfl, .tup [.agg cs2, .agg [x', y']], ⟨f', x', y', by rw [hcu2], hlx'⟩, .tup [.agg cs2, .agg [x', y']], [], ?_, ?_⟩
    · simp only [resT, resL, resOne, show f11.res = [.cell 6 false 112, .cell 7 false 2] from rfl]
      simp +decide (disch := first | omega | simp +decide [hl]) only [s9, simprocAttr, h6, h7, hcc2, hlen2, hcut, hspz2, hsp2]
      try rfl
    · refine frz_tup ?_
      simp only [frzAll, frzA11 hst2, frzA11 hxy', List.append_nil]
  all_goals simp +decide (disch := first | omega | simp +decide [hl]) only [s9, simprocAttr, hl, h2]
end Go.Proofs.YtabfinhkoihhfaaGreat.Abs
