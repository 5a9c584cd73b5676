/- A stage of draining, and draining whole: the program's walks. -/
import Derived.Test.YtabfinhkoihhfaaGreatDrn
namespace Go.Proofs.YtabfinhkoihhfaaGreat.Abs
open Go Go.RowKit Fn
set_option linter.unusedVariables false
set_option linter.unusedSimpArgs false
set_option linter.unnecessarySimpa false
set_option maxRecDepth 100000
set_option maxHeartbeats 4000000

theorem qSTG : ap 7 = some f7 := rfl
theorem rSTG : f7.pure = false := rfl
theorem sSTG : f7.nat = none := rfl
theorem lax_still {m : Coh} {x y : T} (h : Lax m x y) : ([x, y] : List T).all still1 = true := by
  obtain ⟨f1, n1, c1, f2, n2, c2, rfl, rfl⟩ := lax_frz h; rfl
theorem set_same {l : List T} {i : Nat} {x : T} (h : l[i]? = some x) : l.set i x = l := by
  refine List.ext_getElem? fun j => ?_
  rw [List.getElem?_set]
  split
  · rename_i e
    subst e
    have hl : i < l.length := (List.getElem?_eq_some_iff.1 h).1
    rw [if_pos hl, h]
  · rfl
def putC (cs : List T) (f : Bool) (l : List Sb) (w : Int) : List T := (cs.set 107 (.imm f l.length (l.flatMap Sb.enc))).set 110 (.int .i64 w)
theorem putC_same {cs : List T} {f : Bool} {l : List Sb} {w ml : Int} (h : CorX cs f l w ml) : putC cs f l w = cs := by
  obtain ⟨_, _, h1, h2, _⟩ := h
  unfold putC
  rw [set_same h1, set_same h2]
theorem putC_wait {cs : List T} {f : Bool} {l : List Sb} {w ml : Int} (h : CorX cs f l w ml) (w' : Int) : putC cs f l w' = cs.set 110 (.int .i64 w') := by
  obtain ⟨_, _, h1, _⟩ := h
  unfold putC
  rw [set_same h1]
theorem putC_sb {cs : List T} {f : Bool} {l : List Sb} {w ml : Int} (h : CorX cs f l w ml) (f' : Bool) (l' : List Sb) : putC cs f' l' w = cs.set 107 (.imm f' l'.length (l'.flatMap Sb.enc)) := by
  unfold putC
  refine set_same ?_
  rw [List.getElem?_set_ne (by omega)]
  exact h.2.2.2.1
def stM (m : Coh) (who : Int) (dr : Bool) (l : List Sb) (wt ml : Int) : List Sb × Int × Coh × Int × Bool :=
  if wt > 0 then (l, wt - 1, m, 0, false) else
  match dr, l with
  | true, s :: l' => (l', if (wrS m who s).2 then wt else ml, (wrS m who s).1, ((s.addr.toNat / 16 : Nat) : Int), true)
  | _, _ => (l, wt, m, 0, false)
def StR (cs : List T) (r : List Sb × Int × Coh × Int × Bool) (v : T) : Prop := ∃ f' x' y', v = .tup [.agg (putC cs f' r.1 r.2.1), .agg [x', y'], .int .u32 r.2.2.2.1, .bool r.2.2.2.2] ∧ Lax r.2.2.1 x' y'
theorem fin_stage {s : List T} {g : Mem} {nx : Nat} {cs2 : List T} {x2 y2 : T} {line : Int} {ok : Bool} (hl : cs2.length = 112) (hst : cs2.all still1 = true) (hxy : ([x2, y2] : List T).all still1 = true) (h8 : rho s (.tmp 8) = .ptr 3 0) (h9 : rho s (.tmp 9) = .ptr 4 0) (h10 : rho s (.tmp 10) = .int .u32 line) (h11 : rho s (.tmp 11) = .bool ok) (g3 : g 3 = some cs2) (g4 : g 4 = some [x2, y2]) : ∃ u ids, resT s g f7.res = some u ∧ frz ⟨g, nx⟩ frzDepth u = some (.tup [.agg cs2, .agg [x2, y2], .int .u32 line, .bool ok], ids) := by
  have hcc := cut_all hl
  have hcut : cut [x2, y2] 0 2 = [x2, y2] := rfl
  refine ⟨.tup [.agg cs2, .agg [x2, y2], .int .u32 line, .bool ok], [], ?_, ?_⟩
  · simp only [resT, resL, resOne, show f7.res = [.cell 8 false 112, .cell 9 false 2, .tmp 10, .tmp 11] from rfl]
    simp +decide (disch := first | omega | simp +decide [hl]) only [s9, simprocAttr, h8, h9, h10, h11, g3, g4, hcc, hl, hcut]
    try rfl
  · refine frz_tup ?_
    simp only [frzAll, frzA11 hst, frzA11 hxy, frzI11, frzB11, List.append_nil]
theorem drain_stage {m : Coh} (hok : Ok m) {x y : T} (hlx : Lax m x y) (who : Int) (cs : List T) (f : Bool) (l : List Sb) (wt ml : Int) (hc : CorX cs f l wt ml) (hl20 : l.length ≤ 1000) (hs : ∀ s ∈ l, s.wf) (t0 t1 t2 t4 : T) (dr : Bool) (htk : ([t0, t1, t2, t4] : List T).all still1 = true) :
    ∃ v, EA f7 [.agg cs, .agg [x, y], .int .i64 who, .agg [t0, t1, t2, .bool dr, t4]] v ∧ StR cs (stM m who dr l wt ml) v := by
  refine EA_bodyV (F := f7) (P := StR cs (stM m who dr l wt ml)) ?_
  have hbody : f7.body = f7.body := rfl
  conv at hbody => rhs; rw [f7]
  rw [hbody]
  clear hbody
  generalize hs0 : (_ : List T) ++ List.replicate _ T.undef = s0
  have e0 : s0.length = 54 ∧ rho s0 (.tmp 0) = .agg cs ∧ rho s0 (.tmp 1) = .agg [x, y] ∧ rho s0 (.tmp 2) = .int .i64 who ∧ rho s0 (.tmp 3) = .agg [t0, t1, t2, .bool dr, t4] := by subst hs0; exact ⟨rfl, rfl, rfl, rfl, rfl⟩
  clear hs0
  obtain ⟨hl, h0, h1, h2, h3⟩ := e0
  have hcw := hc
  obtain ⟨hlen, hst, c107, c110, hwt, c18, hml⟩ := hc
  have hleaf := still_leaf hst
  have hlf := lax_leaf hlx
  have hxy := lax_still hlx
  obtain ⟨hxx, hxx2⟩ : still1 x = true ∧ still1 y = true := by simpa only [List.all_cons, List.all_nil, Bool.and_true, Bool.and_eq_true] using hxy
  have htl : allLeaf [t0, t1, t2, .bool dr, t4] = true := by
    simp only [List.all_cons, List.all_nil, Bool.and_true, Bool.and_eq_true] at htk
    obtain ⟨a, b, c, d⟩ := htk
    refine still_leaf ?_
    simp only [List.all_cons, List.all_nil, a, b, c, d]; rfl
  have hzl := zCore_len
  have hzf := zCore_leaf
  have hcut : ∀ x y : T, cut [x, y] 0 2 = [x, y] := fun _ _ => rfl
  have hsp2 : ∀ x y x' y' : T, splice [x, y] 0 [x', y'] = [x', y'] := fun _ _ _ _ => rfl
  have hcc : ∀ c : List T, c.length = 112 → cut c 0 112 = c := fun c h => cut_all h
  have hspz : ∀ c : List T, c.length = 112 → splice zK0 0 c = c := fun c h => splice_all (by rw [h]; rfl)
  generalize zK0 = zc at *
  refine W_cut (fun t => t.s.length = 54 ∧ rho t.s (.tmp 2) = .int .i64 who ∧ rho t.s (.tmp 4) = .ptr 0 0 ∧ rho t.s (.tmp 5) = .ptr 1 0 ∧ rho t.s (.tmp 7) = .ptr 2 0 ∧ rho t.s (.tmp 8) = .ptr 3 0 ∧ rho t.s (.tmp 9) = .ptr 4 0 ∧ t.g 0 = some cs ∧ t.g 1 = some [x, y] ∧ t.g 2 = some [t0, t1, t2, .bool dr, t4] ∧ t.g 3 = some zc ∧ t.g 4 = some [.imm true 0 [], .imm true 0 []]) (W_region (fun k => by simp +decide (disch := first | omega | simp +decide [hl]) only [s9, simprocAttr, h0, h1, h3, hleaf, hlf, htl, hzf]; rfl) ⟨rfl, ?_⟩) ?_
  · refine ⟨?_, ?_, ?_, ?_, ?_, ?_, ?_, ?_, ?_, ?_, ?_, ?_⟩ <;> simp +decide (disch := first | omega | simp +decide [hl]) only [s9, simprocAttr, hl, h2]
  clear hl h0 h1 h2 h3
  rintro st ⟨hl, h2, h4, h5, h7, h8, h9, g0, g1, g2, g3, g4⟩
  by_cases hw0 : wt > 0
  · have d0 : decide (wt > 0) = true := decide_eq_true hw0
    have w1 : IntKind.i64.wrap (wt - 1) = wt - 1 := wrap_id (by omega)
    have hcw' := cor_wait hcw (w := wt - 1) (by omega)
    have hstM : stM m who dr l wt ml = (l, wt - 1, m, 0, false) := by unfold stM; rw [if_pos hw0]
    rw [hstM]
    have hres : StR cs (l, wt - 1, m, 0, false) (.tup [.agg (cs.set 110 (.int .i64 (wt - 1))), .agg [x, y], .int .u32 0, .bool false]) := ⟨f, x, y, by rw [putC_wait hcw], hlx⟩
    have hlen' := hcw'.1
    have hst' := hcw'.2.1
    have hleaf' := still_leaf hst'
    generalize hcs' : cs.set 110 (.int .i64 (wt - 1)) = cs' at *
    have hcc2 := hcc _ hlen'
    have hspz2 := hspz _ hlen'
    refine W_seq (W_block ?_)
    refine W_seqn (W_region (fun k => by simp +decide (disch := first | omega | simp +decide [hl]) only [s9, simprocAttr, h4, g0, hlen, c110, d0]; rfl) ⟨rfl, W_tru ?_⟩)
    refine W_cut (fun t => t.s.length = 54 ∧ rho t.s (.tmp 4) = .ptr 0 0 ∧ rho t.s (.tmp 5) = .ptr 1 0 ∧ rho t.s (.tmp 8) = .ptr 3 0 ∧ rho t.s (.tmp 9) = .ptr 4 0 ∧ t.g 0 = some cs' ∧ t.g 1 = some [x, y] ∧ t.g 3 = some zc ∧ t.g 4 = some [.imm true 0 [], .imm true 0 []]) (W_region (fun k => by simp +decide (disch := first | omega | simp +decide [hl]) only [s9, simprocAttr, h4, g0, hlen, c110, w1, hcs']; rfl) ⟨rfl, ?_⟩) ?_
    · refine ⟨?_, ?_, ?_, ?_, ?_, ?_, ?_, ?_, ?_⟩ <;> simp +decide (disch := first | omega | simp +decide [hl]) only [s9, simprocAttr, hl, h4, h5, h8, h9, g0, g1, g3, g4, hcs']
    clear hl h2 h4 h5 h7 h8 h9 g0 g1 g2 g3 g4
    rintro st ⟨hl, h4, h5, h8, h9, g0, g1, g3, g4⟩
    refine W_seqn (W_region (fun k => by simp +decide (disch := first | omega | simp +decide [hl]) only [s9, simprocAttr, h4, h5, h8, h9, g0, g1, g3, g4, hlen', hcut, hsp2, hcc2, hspz2, hzl, hleaf', hlf]; rfl) ⟨rfl, W_ret ?_⟩)
    simp only [reduceCtorEq, false_and, false_or, or_false, exists_false, exists_const, ne_eq, not_false_eq_true, true_and, implies_true]
    refine ⟨rfl, _, hres, fin_stage hlen' hst' hxy ?_ ?_ ?_ ?_ ?_ ?_⟩ <;> simp +decide (disch := first | omega | simp +decide [hl]) only [s9, simprocAttr, h8, h9, g3, g4, hsp2, hspz2]
  have d0 : decide (wt > 0) = false := decide_eq_false hw0
  by_cases hnd : dr = false ∨ l = []
  · have hstM : stM m who dr l wt ml = (l, wt, m, 0, false) := by
      unfold stM; rw [if_neg hw0]
      rcases hnd with rfl | rfl
      · rfl
      · cases dr <;> rfl
    rw [hstM]
    have hres : StR cs (l, wt, m, 0, false) (.tup [.agg cs, .agg [x, y], .int .u32 0, .bool false]) := ⟨f, x, y, by rw [putC_same hcw], hlx⟩
    have hcc2 := hcc _ hlen
    have hspz2 := hspz _ hlen
    refine W_seq (W_block ?_)
    refine W_seqn (W_region (fun k => by simp +decide (disch := first | omega | simp +decide [hl]) only [s9, simprocAttr, h4, g0, hlen, c110, d0]; rfl) ⟨rfl, W_fls ?_⟩)
    refine W_cut (fun t => t.s.length = 54 ∧ rho t.s (.tmp 4) = .ptr 0 0 ∧ rho t.s (.tmp 5) = .ptr 1 0 ∧ rho t.s (.tmp 8) = .ptr 3 0 ∧ rho t.s (.tmp 9) = .ptr 4 0 ∧ rho t.s (.tmp 24) = .bool true ∧ t.g 0 = some cs ∧ t.g 1 = some [x, y] ∧ t.g 3 = some zc ∧ t.g 4 = some [.imm true 0 [], .imm true 0 []]) ?_ ?_
    · cases dr with
      | false =>
        refine W_region (fun k => by simp +decide (disch := first | omega | simp +decide [hl]) only [s9, simprocAttr, h4, h7, g0, g2, hlen, c107]; rfl) ⟨rfl, ?_, ?_, ?_, ?_, ?_, ?_, ?_, ?_, ?_, ?_⟩ <;> simp +decide (disch := first | omega | simp +decide [hl]) only [s9, simprocAttr, hl, h4, h5, h8, h9, g0, g1, g3, g4]
      | true =>
        obtain rfl : l = [] := hnd.resolve_left (by simp)
        have e1 : (((([] : List Sb).length : Nat) : Int) == 0) = true := rfl
        generalize ([] : List Sb).length = ln at *
        generalize ([] : List Sb).flatMap Sb.enc = lc at *
        refine W_region (fun k => by simp +decide (disch := first | omega | simp +decide [hl]) only [s9, simprocAttr, h4, h7, g0, g2, hlen, c107, e1]; rfl) ⟨rfl, ?_, ?_, ?_, ?_, ?_, ?_, ?_, ?_, ?_, ?_⟩ <;> simp +decide (disch := first | omega | simp +decide [hl]) only [s9, simprocAttr, hl, h4, h5, h8, h9, g0, g1, g3, g4]
    clear hl h2 h4 h5 h7 h8 h9 g0 g1 g2 g3 g4
    rintro st ⟨hl, h4, h5, h8, h9, h24, g0, g1, g3, g4⟩
    refine W_true h24 ?_
    refine W_seqn (W_region (fun k => by simp +decide (disch := first | omega | simp +decide [hl]) only [s9, simprocAttr, h4, h5, h8, h9, g0, g1, g3, g4, hlen, hcut, hsp2, hcc2, hspz2, hzl, hleaf, hlf]; rfl) ⟨rfl, W_ret ?_⟩)
    simp only [reduceCtorEq, false_and, false_or, or_false, exists_false, exists_const, ne_eq, not_false_eq_true, true_and, implies_true]
    refine ⟨rfl, _, hres, fin_stage hlen hst hxy ?_ ?_ ?_ ?_ ?_ ?_⟩ <;> simp +decide (disch := first | omega | simp +decide [hl]) only [s9, simprocAttr, h8, h9, g3, g4, hsp2, hspz2]
  have hdr : dr = true := by cases dr; exact absurd (.inl rfl) hnd; rfl
  subst hdr
  cases l with
  | nil => exact absurd (.inr rfl) hnd
  | cons s l =>
    obtain ⟨x', y', hE, hlx'⟩ := drain_write hok hlx who cs s (hs s (List.mem_cons_self ..)) l f wt ml hcw hl20
    have hcd1 := cor_sb (l' := l) true hcw
    have hstM : stM m who true (s :: l) wt ml = (l, if (wrS m who s).2 then wt else ml, (wrS m who s).1, ((s.addr.toNat / 16 : Nat) : Int), true) := by unfold stM; rw [if_neg hw0]
    rw [hstM]
    have hpt : putC cs true l wt = cs.set 107 (.imm true l.length (l.flatMap Sb.enc)) := putC_sb hcw true l
    have hpf : putC cs true l ml = (cs.set 107 (.imm true l.length (l.flatMap Sb.enc))).set 110 (.int .i64 ml) := rfl
    generalize (wrS m who s).2 = had at *
    generalize (wrS m who s).1 = m' at *
    generalize ((s.addr.toNat / 16 : Nat) : Int) = line at *
    generalize hcs1 : cs.set 107 (.imm true l.length (l.flatMap Sb.enc)) = cs1 at *
    obtain ⟨N, q⟩ := hE.call (fun g => by
      unfold frzL
      rw [show frzDepth = 12 from rfl]
      simp only [frzAll, frzA12 hst, frzA12 hxy, frzI12, List.append_nil])
    have q := q N (Nat.le_refl _)
    have hlf' := lax_leaf hlx'
    have hxy' := lax_still hlx'
    have hcd1' := hcd1
    obtain ⟨hlen1, hst1, _, _, _, c18', hml1⟩ := hcd1'
    have hleaf1 := still_leaf hst1
    have hccs := hcc _ hlen
    have hsp1 : splice cs 0 cs1 = cs1 := splice_all (by omega)
    have e1 : ((((s :: l).length : Nat) : Int) == 0) = false := by simp; omega
    generalize (s :: l).length = ln at *
    generalize (s :: l).flatMap Sb.enc = lc at *
    refine W_seqn (W_block ?_)
    refine W_seqn (W_region (fun k => by simp +decide (disch := first | omega | simp +decide [hl]) only [s9, simprocAttr, h4, g0, hlen, c110, d0]; rfl) ⟨rfl, W_fls ?_⟩)
    refine W_cut (fun t => t.s.length = 54 ∧ rho t.s (.tmp 2) = .int .i64 who ∧ rho t.s (.tmp 4) = .ptr 0 0 ∧ rho t.s (.tmp 5) = .ptr 1 0 ∧ rho t.s (.tmp 8) = .ptr 3 0 ∧ rho t.s (.tmp 9) = .ptr 4 0 ∧ rho t.s (.tmp 24) = .bool false ∧ t.g 0 = some cs ∧ t.g 1 = some [x, y] ∧ t.g 3 = some zc ∧ t.g 4 = some [.imm true 0 [], .imm true 0 []]) (W_region (fun k => by simp +decide (disch := first | omega | simp +decide [hl]) only [s9, simprocAttr, h4, h7, g0, g2, hlen, c107, e1]; rfl) ⟨rfl, ?_, ?_, ?_, ?_, ?_, ?_, ?_, ?_, ?_, ?_, ?_⟩) ?_
    case refine_12 =>
      clear hl h2 h4 h5 h7 h8 h9 g0 g1 g2 g3 g4
      rintro st ⟨hl, h2, h4, h5, h8, h9, h24, g0, g1, g3, g4⟩
      refine W_false h24 (W_skip (.inr (.inl ⟨by simp, rfl, ?_⟩)))
      refine W_cut (fun t => t.s.length = 54 ∧ rho t.s (.tmp 4) = .ptr 0 0 ∧ rho t.s (.tmp 5) = .ptr 1 0 ∧ rho t.s (.tmp 8) = .ptr 3 0 ∧ rho t.s (.tmp 9) = .ptr 4 0 ∧ rho t.s (.tmp 12) = .int .u32 line ∧ rho t.s (.tmp 13) = .bool had ∧ t.g 0 = some cs1 ∧ t.g 1 = some [x', y'] ∧ t.g 3 = some zc ∧ t.g 4 = some [.imm true 0 [], .imm true 0 []]) (W_regionN ⟨N, by simp +decide (disch := first | omega | simp +decide [hl]) only [s9, simprocAttr, h2, h4, h5, g0, g1, hlen, hlen1, hcut, hccs, hsp1, hsp2, hleaf1, hlf', qDWR, rDWR, sDWR, T.still, stI, stB, List.all_cons, List.all_nil, hst, hxx, hxx2, q]; rfl⟩ ⟨rfl, ?_, ?_, ?_, ?_, ?_, ?_, ?_, ?_, ?_, ?_, ?_⟩) ?_
      case refine_12 =>
        clear hl h2 h4 h5 h8 h9 h24 g0 g1 g3 g4
        rintro st ⟨hl, h4, h5, h8, h9, h12, h13, g0, g1, g3, g4⟩
        have endS : ∀ (cs2 : List T) (t : St), cs2.length = 112 → cs2.all still1 = true → cs2 = putC cs true l (if had then wt else ml) → t.s.length = 54 → rho t.s (.tmp 4) = .ptr 0 0 → rho t.s (.tmp 5) = .ptr 1 0 → rho t.s (.tmp 8) = .ptr 3 0 → rho t.s (.tmp 9) = .ptr 4 0 → rho t.s (.tmp 12) = .int .u32 line → t.g 0 = some cs2 → t.g 1 = some [x', y'] → t.g 3 = some zc → t.g 4 = some [.imm true 0 [], .imm true 0 []] → W ap (.seq (.region [⟨some 51, .load false 112 (.tmp 4), none⟩, ⟨some 52, .load false 2 (.tmp 5), none⟩, ⟨some 53, .mv (.tmp 12), none⟩, ⟨none, .store 112 (.tmp 8) (.tmp 51), none⟩, ⟨none, .store 2 (.tmp 9) (.tmp 52), none⟩, ⟨some 10, .mv (.tmp 53), none⟩, ⟨some 11, .mv (.con (.bool true)), none⟩] [(1, 3)]) .ret) t (fun e st => e.leaves = true ∧ ∃ v, StR cs (l, if had then wt else ml, m', line, true) v ∧ ∃ u ids, resT st.s st.g f7.res = some u ∧ frz ⟨st.g, st.nx⟩ frzDepth u = some (v, ids)) := by
          intro cs2 t hlen2 hst2 hcd2 hl h4 h5 h8 h9 h12 g0 g1 g3 g4
          have hleaf2 := still_leaf hst2
          have hcc2 := hcc _ hlen2
          have hspz2 := hspz _ hlen2
          refine W_seqn (W_region (fun k => by simp +decide (disch := first | omega | simp +decide [hl]) only [s9, simprocAttr, h4, h5, h8, h9, h12, g0, g1, g3, g4, hlen2, hcut, hsp2, hcc2, hspz2, hzl, hleaf2, hlf']; rfl) ⟨rfl, W_ret ?_⟩)
          refine ⟨rfl, _, ⟨true, x', y', by rw [hcd2], hlx'⟩, fin_stage hlen2 hst2 hxy' ?_ ?_ ?_ ?_ ?_ ?_⟩ <;> simp +decide (disch := first | omega | simp +decide [hl]) only [s9, simprocAttr, h8, h9, g3, g4, hsp2, hspz2]
        cases had with
        | true =>
          refine W_seqn (W_seqn (W_region (fun k => by simp +decide (disch := first | omega | simp +decide [hl]) only [s9, simprocAttr, h13]; rfl) ⟨rfl, W_fls (W_skip ⟨rfl, ?_⟩)⟩))
          refine endS cs1 _ hlen1 hst1 hpt.symm ?_ ?_ ?_ ?_ ?_ ?_ g0 g1 g3 g4 <;> simp +decide (disch := first | omega | simp +decide [hl]) only [s9, simprocAttr, hl, h4, h5, h8, h9, h12]
        | false =>
          have hcd2 := cor_wait hcd1 (w := ml) hml1
          generalize hcs2 : cs1.set 110 (.int .i64 ml) = cs2 at *
          refine W_seqn (W_seqn (W_region (fun k => by simp +decide (disch := first | omega | simp +decide [hl]) only [s9, simprocAttr, h13]; rfl) ⟨rfl, W_tru (W_region (fun k => by simp +decide (disch := first | omega | simp +decide [hl]) only [s9, simprocAttr, h4, g0, hlen1, c18', hcs2]; rfl) ⟨rfl, ?_⟩)⟩))
          refine endS cs2 _ hcd2.1 hcd2.2.1 hpf.symm ?_ ?_ ?_ ?_ ?_ ?_ ?_ ?_ ?_ ?_ <;> simp +decide (disch := first | omega | simp +decide [hl]) only [s9, simprocAttr, hl, h4, h5, h8, h9, h12, g0, g1, g3, g4, hcs2]
      all_goals simp +decide (disch := first | omega | simp +decide [hl]) only [s9, simprocAttr, hl, h4, h5, h8, h9, g0, g1, g3, g4, hsp1, hsp2]
    all_goals simp +decide (disch := first | omega | simp +decide [hl]) only [s9, simprocAttr, hl, h2, h4, h5, h8, h9, g0, g1, g3, g4]
end Go.Proofs.YtabfinhkoihhfaaGreat.Abs
