/- A stage of draining, and draining whole: the program's walks. -/
import Derived.Test.YtabfinhkoihhfaaDrn
namespace Go.Proofs.Ytabfinhkoihhfaa.Abs
open Go Go.RowKit Fn
set_option linter.unusedVariables false
set_option linter.unusedSimpArgs false
set_option linter.unnecessarySimpa false
set_option maxRecDepth 100000
set_option maxHeartbeats 4000000

theorem qSTG : ap 10 = some f10 := rfl
theorem rSTG : f10.pure = false := rfl
theorem sSTG : f10.nat = none := rfl
def StR (cs : List T) (l : List Sb) (m : Coh) (v : T) : Prop := ∃ cs2 l2 m2 x2 y2 line ok, v = .tup [.agg cs2, .agg [x2, y2], .int .u32 line, .bool ok] ∧ CorD cs2 l2 ∧ Good m2 ∧ Lax m2 x2 y2 ∧ m2.mem.length = m.mem.length ∧ m2.caches.length = m.caches.length ∧ cut cs2 22 30 = cut cs 22 30 ∧ (ok = false → l2 = l ∧ viewM m2 = viewM m) ∧ (ok = true → ∃ s, l = s :: l2 ∧ viewM m2 = dr1 (viewM m) s)
theorem lax_still {m : Coh} {x y : T} (h : Lax m x y) : ([x, y] : List T).all still1 = true := by
  obtain ⟨f1, n1, c1, f2, n2, c2, rfl, rfl⟩ := lax_frz h; rfl
theorem fin_stage {s : List T} {g : Mem} {nx : Nat} {cs2 : List T} {x2 y2 : T} {line : Int} {ok : Bool} (hl : cs2.length = 112) (hst : cs2.all still1 = true) (hxy : ([x2, y2] : List T).all still1 = true) (h8 : rho s (.tmp 8) = .ptr 3 0) (h9 : rho s (.tmp 9) = .ptr 4 0) (h10 : rho s (.tmp 10) = .int .u32 line) (h11 : rho s (.tmp 11) = .bool ok) (g3 : g 3 = some cs2) (g4 : g 4 = some [x2, y2]) : ∃ u ids, resT s g f10.res = some u ∧ frz ⟨g, nx⟩ frzDepth u = some (.tup [.agg cs2, .agg [x2, y2], .int .u32 line, .bool ok], ids) := by
  have hcc := cut_all hl
  have hcut : cut [x2, y2] 0 2 = [x2, y2] := rfl
  refine ⟨.tup [.agg cs2, .agg [x2, y2], .int .u32 line, .bool ok], [], ?_, ?_⟩
  · simp only [resT, resL, resOne, show f10.res = [.cell 8 false 112, .cell 9 false 2, .tmp 10, .tmp 11] from rfl]
    simp +decide (disch := first | omega | simp +decide only [List.length_set, hl]) only [sa, simprocAttr, hps, h8, h9, h10, h11, g3, g4, hcc, hl, hcut]
    try rfl
  · refine frz_tup ?_
    simp only [frzAll, frzA11 hst, frzA11 hxy, frzI11, frzB11, List.append_nil]
theorem drain_stage {m : Coh} (hgd : Good m) (h1c : 0 < m.caches.length) {x y : T} (hlx : Lax m x y) (cs : List T) (l : List Sb) (hc : CorD cs l) (hl20 : l.length ≤ 1000) (hs : ∀ s ∈ l, sbOk m.mem.length s) (t0 t1 t2 t4 : T) (dr : Bool) (htk : ([t0, t1, t2, t4] : List T).all still1 = true) :
    ∃ v, EA f10 [.agg cs, .agg [x, y], .int .i64 0, .agg [t0, t1, t2, .bool dr, t4]] v ∧ StR cs l m v := by
  refine EA_bodyV (F := f10) (P := StR cs l m) ?_
  have hbody : f10.body = f10.body := rfl
  conv at hbody => rhs; rw [f10]
  simp only [← zCore_is] at hbody
  rw [hbody]
  clear hbody
  generalize hs0 : (_ : List T) ++ List.replicate _ T.undef = s0
  have e0 : s0.length = 54 ∧ rho s0 (.tmp 0) = .agg cs ∧ rho s0 (.tmp 1) = .agg [x, y] ∧ rho s0 (.tmp 2) = .int .i64 0 ∧ rho s0 (.tmp 3) = .agg [t0, t1, t2, .bool dr, t4] := by subst hs0; exact ⟨rfl, rfl, rfl, rfl, rfl⟩
  clear hs0
  obtain ⟨hl, h0, h1, h2, h3⟩ := e0
  have hcw := hc
  obtain ⟨hlen, hst, ⟨f, c107⟩, ⟨wt, c110, hwt⟩, ml, c18, hml⟩ := hc
  have hleaf := still_leaf hst
  have hlf := lax_leaf hlx
  have hxy := lax_still hlx
  obtain ⟨hxx, hxx2⟩ : still1 x = true ∧ still1 y = true := by simpa only [List.all_cons, List.all_nil, Bool.and_true, Bool.and_eq_true] using hxy
  have htl : allLeaf [t0, t1, t2, .bool dr, t4] = true := by
    simp only [List.all_cons, List.all_nil, Bool.and_true, Bool.and_eq_true] at htk
    obtain ⟨a, b, c, d⟩ := htk
    refine still_leaf ?_
    simp only [List.all_cons, List.all_nil, a, b, c, d]; rfl
  have hzl := zCore_len
  have hzf := zCore_leaf
  have hcut : ∀ x y : T, cut [x, y] 0 2 = [x, y] := fun _ _ => rfl
  have hsp2 : ∀ x y x' y' : T, splice [x, y] 0 [x', y'] = [x', y'] := fun _ _ _ _ => rfl
  have hcc : ∀ c : List T, c.length = 112 → cut c 0 112 = c := fun c h => cut_all h
  have hspz : ∀ c : List T, c.length = 112 → splice zCore 0 c = c := fun c h => splice_all (by rw [h]; rfl)
  generalize zCore = zc at *
  refine W_cut (fun t => t.s.length = 54 ∧ rho t.s (.tmp 2) = .int .i64 0 ∧ rho t.s (.tmp 4) = .ptr 0 0 ∧ rho t.s (.tmp 5) = .ptr 1 0 ∧ rho t.s (.tmp 7) = .ptr 2 0 ∧ rho t.s (.tmp 8) = .ptr 3 0 ∧ rho t.s (.tmp 9) = .ptr 4 0 ∧ t.g 0 = some cs ∧ t.g 1 = some [x, y] ∧ t.g 2 = some [t0, t1, t2, .bool dr, t4] ∧ t.g 3 = some zc ∧ t.g 4 = some [.imm true 0 [], .imm true 0 []]) (W_region (fun k => by simp +decide (disch := first | omega | simp +decide only [List.length_set, hl]) only [sa, simprocAttr, hps, h0, h1, h3, hleaf, hlf, htl, hzf]; rfl) ⟨rfl, ?_⟩) ?_
  · refine ⟨?_, ?_, ?_, ?_, ?_, ?_, ?_, ?_, ?_, ?_, ?_, ?_⟩ <;> simp +decide (disch := first | omega | simp +decide only [List.length_set, hl]) only [sa, simprocAttr, hps, hl, h2]
  clear hl h0 h1 h2 h3
  rintro st ⟨hl, h2, h4, h5, h7, h8, h9, g0, g1, g2, g3, g4⟩
  by_cases hw0 : wt > 0
  · have d0 : decide (wt > 0) = true := decide_eq_true hw0
    have w1 : IntKind.i64.wrap (wt - 1) = wt - 1 := wrap_id (by omega)
    have hcw' := cor_wait hcw (w := wt - 1) (by omega)
    have hcu := cut_set_out cs 110 22 30 (.int .i64 (wt - 1)) (by omega)
    have hres : StR cs l m (.tup [.agg (cs.set 110 (.int .i64 (wt - 1))), .agg [x, y], .int .u32 0, .bool false]) := ⟨_, l, m, x, y, 0, false, rfl, hcw', hgd, hlx, rfl, rfl, hcu, fun _ => ⟨rfl, rfl⟩, fun h => by cases h⟩
    have hlen' := hcw'.1
    have hst' := hcw'.2.1
    have hleaf' := still_leaf hst'
    generalize hcs' : cs.set 110 (.int .i64 (wt - 1)) = cs' at *
    have hcc2 := hcc _ hlen'
    have hspz2 := hspz _ hlen'
    refine W_seq (W_block ?_)
    refine W_seqn (W_region (fun k => by simp +decide (disch := first | omega | simp +decide only [List.length_set, hl]) only [sa, simprocAttr, hps, h4, g0, hlen, c110, d0]; rfl) ⟨rfl, W_tru ?_⟩)
    refine W_cut (fun t => t.s.length = 54 ∧ rho t.s (.tmp 4) = .ptr 0 0 ∧ rho t.s (.tmp 5) = .ptr 1 0 ∧ rho t.s (.tmp 8) = .ptr 3 0 ∧ rho t.s (.tmp 9) = .ptr 4 0 ∧ t.g 0 = some cs' ∧ t.g 1 = some [x, y] ∧ t.g 3 = some zc ∧ t.g 4 = some [.imm true 0 [], .imm true 0 []]) (W_region (fun k => by simp +decide (disch := first | omega | simp +decide only [List.length_set, hl]) only [sa, simprocAttr, hps, h4, g0, hlen, c110, w1, hcs']; rfl) ⟨rfl, ?_⟩) ?_
    · refine ⟨?_, ?_, ?_, ?_, ?_, ?_, ?_, ?_, ?_⟩ <;> simp +decide (disch := first | omega | simp +decide only [List.length_set, hl]) only [sa, simprocAttr, hps, hl, h4, h5, h8, h9, g0, g1, g3, g4, hcs']
    clear hl h2 h4 h5 h7 h8 h9 g0 g1 g2 g3 g4
    rintro st ⟨hl, h4, h5, h8, h9, g0, g1, g3, g4⟩
    refine W_seqn (W_region (fun k => by simp +decide (disch := first | omega | simp +decide only [List.length_set, hl]) only [sa, simprocAttr, hps, h4, h5, h8, h9, g0, g1, g3, g4, hlen', hcut, hsp2, hcc2, hspz2, hzl, hleaf', hlf]; rfl) ⟨rfl, W_ret ?_⟩)
    simp only [reduceCtorEq, false_and, false_or, or_false, exists_false, exists_const, ne_eq, not_false_eq_true, true_and, implies_true]
    refine ⟨rfl, _, hres, fin_stage hlen' hst' hxy ?_ ?_ ?_ ?_ ?_ ?_⟩ <;> simp +decide (disch := first | omega | simp +decide only [List.length_set, hl]) only [sa, simprocAttr, hps, h8, h9, g3, g4, hsp2, hspz2]
  have d0 : decide (wt > 0) = false := decide_eq_false hw0
  by_cases hnd : dr = false ∨ l = []
  · have hres : StR cs l m (.tup [.agg cs, .agg [x, y], .int .u32 0, .bool false]) := ⟨_, l, m, x, y, 0, false, rfl, hcw, hgd, hlx, rfl, rfl, rfl, fun _ => ⟨rfl, rfl⟩, fun h => by cases h⟩
    have hcc2 := hcc _ hlen
    have hspz2 := hspz _ hlen
    refine W_seq (W_block ?_)
    refine W_seqn (W_region (fun k => by simp +decide (disch := first | omega | simp +decide only [List.length_set, hl]) only [sa, simprocAttr, hps, h4, g0, hlen, c110, d0]; rfl) ⟨rfl, W_fls ?_⟩)
    refine W_cut (fun t => t.s.length = 54 ∧ rho t.s (.tmp 4) = .ptr 0 0 ∧ rho t.s (.tmp 5) = .ptr 1 0 ∧ rho t.s (.tmp 8) = .ptr 3 0 ∧ rho t.s (.tmp 9) = .ptr 4 0 ∧ rho t.s (.tmp 24) = .bool true ∧ t.g 0 = some cs ∧ t.g 1 = some [x, y] ∧ t.g 3 = some zc ∧ t.g 4 = some [.imm true 0 [], .imm true 0 []]) ?_ ?_
    · cases dr with
      | false =>
        refine W_region (fun k => by simp +decide (disch := first | omega | simp +decide only [List.length_set, hl]) only [sa, simprocAttr, hps, h4, h7, g0, g2, hlen, c107]; rfl) ⟨rfl, ?_, ?_, ?_, ?_, ?_, ?_, ?_, ?_, ?_, ?_⟩ <;> simp +decide (disch := first | omega | simp +decide only [List.length_set, hl]) only [sa, simprocAttr, hps, hl, h4, h5, h8, h9, g0, g1, g3, g4]
      | true =>
        obtain rfl : l = [] := hnd.resolve_left (by simp)
        have e1 : (((([] : List Sb).length : Nat) : Int) == 0) = true := rfl
        generalize ([] : List Sb).length = ln at *
        generalize ([] : List Sb).flatMap Sb.enc = lc at *
        refine W_region (fun k => by simp +decide (disch := first | omega | simp +decide only [List.length_set, hl]) only [sa, simprocAttr, hps, h4, h7, g0, g2, hlen, c107, e1]; rfl) ⟨rfl, ?_, ?_, ?_, ?_, ?_, ?_, ?_, ?_, ?_, ?_⟩ <;> simp +decide (disch := first | omega | simp +decide only [List.length_set, hl]) only [sa, simprocAttr, hps, hl, h4, h5, h8, h9, g0, g1, g3, g4]
    clear hl h2 h4 h5 h7 h8 h9 g0 g1 g2 g3 g4
    rintro st ⟨hl, h4, h5, h8, h9, h24, g0, g1, g3, g4⟩
    refine W_true h24 ?_
    refine W_seqn (W_region (fun k => by simp +decide (disch := first | omega | simp +decide only [List.length_set, hl]) only [sa, simprocAttr, hps, h4, h5, h8, h9, g0, g1, g3, g4, hlen, hcut, hsp2, hcc2, hspz2, hzl, hleaf, hlf]; rfl) ⟨rfl, W_ret ?_⟩)
    simp only [reduceCtorEq, false_and, false_or, or_false, exists_false, exists_const, ne_eq, not_false_eq_true, true_and, implies_true]
    refine ⟨rfl, _, hres, fin_stage hlen hst hxy ?_ ?_ ?_ ?_ ?_ ?_⟩ <;> simp +decide (disch := first | omega | simp +decide only [List.length_set, hl]) only [sa, simprocAttr, hps, h8, h9, g3, g4, hsp2, hspz2]
  have hdr : dr = true := by cases dr; exact absurd (.inl rfl) hnd; rfl
  subst hdr
  cases l with
  | nil => exact absurd (.inr rfl) hnd
  | cons s l =>
    obtain ⟨x', y', m', line, had, hE, hg', hlx', hv', hm1, hm2⟩ := drain_write hgd h1c hlx cs s l hcw hl20 (hs s (List.mem_cons_self ..))
    have hcd1 := cor_sb (l' := l) hcw
    have hcu1 := cut_set_out cs 107 22 30 (.imm true l.length (l.flatMap Sb.enc)) (by omega)
    generalize hcs1 : cs.set 107 (.imm true l.length (l.flatMap Sb.enc)) = cs1 at *
    obtain ⟨N, q⟩ := hE.call (fun g => by
      unfold frzL
      rw [show frzDepth = 12 from rfl]
      simp only [frzAll, frzA12 hst, frzA12 hxy, frzI12, List.append_nil])
    have q := q N (Nat.le_refl _)
    have hlf' := lax_leaf hlx'
    have hxy' := lax_still hlx'
    have hcd1' := hcd1
    obtain ⟨hlen1, hst1, _, _, ml1, c18', hml1⟩ := hcd1'
    have hleaf1 := still_leaf hst1
    have hccs := hcc _ hlen
    have hsp1 : splice cs 0 cs1 = cs1 := splice_all (by omega)
    have e1 : ((((s :: l).length : Nat) : Int) == 0) = false := by simp; omega
    generalize (s :: l).length = ln at *
    generalize (s :: l).flatMap Sb.enc = lc at *
    refine W_seqn (W_block ?_)
    refine W_seqn (W_region (fun k => by simp +decide (disch := first | omega | simp +decide only [List.length_set, hl]) only [sa, simprocAttr, hps, h4, g0, hlen, c110, d0]; rfl) ⟨rfl, W_fls ?_⟩)
    refine W_cut (fun t => t.s.length = 54 ∧ rho t.s (.tmp 2) = .int .i64 0 ∧ rho t.s (.tmp 4) = .ptr 0 0 ∧ rho t.s (.tmp 5) = .ptr 1 0 ∧ rho t.s (.tmp 8) = .ptr 3 0 ∧ rho t.s (.tmp 9) = .ptr 4 0 ∧ rho t.s (.tmp 24) = .bool false ∧ t.g 0 = some cs ∧ t.g 1 = some [x, y] ∧ t.g 3 = some zc ∧ t.g 4 = some [.imm true 0 [], .imm true 0 []]) (W_region (fun k => by simp +decide (disch := first | omega | simp +decide only [List.length_set, hl]) only [sa, simprocAttr, hps, h4, h7, g0, g2, hlen, c107, e1]; rfl) ⟨rfl, ?_, ?_, ?_, ?_, ?_, ?_, ?_, ?_, ?_, ?_, ?_⟩) ?_
    case refine_12 =>
      clear hl h2 h4 h5 h7 h8 h9 g0 g1 g2 g3 g4
      rintro st ⟨hl, h2, h4, h5, h8, h9, h24, g0, g1, g3, g4⟩
      refine W_false h24 (W_skip (.inr (.inl ⟨by simp, rfl, ?_⟩)))
      refine W_cut (fun t => t.s.length = 54 ∧ rho t.s (.tmp 4) = .ptr 0 0 ∧ rho t.s (.tmp 5) = .ptr 1 0 ∧ rho t.s (.tmp 8) = .ptr 3 0 ∧ rho t.s (.tmp 9) = .ptr 4 0 ∧ rho t.s (.tmp 12) = .int .u32 line ∧ rho t.s (.tmp 13) = .bool had ∧ t.g 0 = some cs1 ∧ t.g 1 = some [x', y'] ∧ t.g 3 = some zc ∧ t.g 4 = some [.imm true 0 [], .imm true 0 []]) (W_regionN ⟨N, by simp +decide (disch := first | omega | simp +decide only [List.length_set, hl]) only [sa, simprocAttr, hps, h2, h4, h5, g0, g1, hlen, hlen1, hcut, hccs, hsp1, hsp2, hleaf1, hlf', qDWR, rDWR, sDWR, T.still, stI, stB, List.all_cons, List.all_nil, hst, hxx, hxx2, q]; rfl⟩ ⟨rfl, ?_, ?_, ?_, ?_, ?_, ?_, ?_, ?_, ?_, ?_, ?_⟩) ?_
      case refine_12 =>
        clear hl h2 h4 h5 h8 h9 h24 g0 g1 g3 g4
        rintro st ⟨hl, h4, h5, h8, h9, h12, h13, g0, g1, g3, g4⟩
        have endS : ∀ (cs2 : List T) (t : St), CorD cs2 l → cut cs2 22 30 = cut cs 22 30 → t.s.length = 54 → rho t.s (.tmp 4) = .ptr 0 0 → rho t.s (.tmp 5) = .ptr 1 0 → rho t.s (.tmp 8) = .ptr 3 0 → rho t.s (.tmp 9) = .ptr 4 0 → rho t.s (.tmp 12) = .int .u32 line → t.g 0 = some cs2 → t.g 1 = some [x', y'] → t.g 3 = some zc → t.g 4 = some [.imm true 0 [], .imm true 0 []] → W ap (.seq (.region [⟨some 51, .load false 112 (.tmp 4), none⟩, ⟨some 52, .load false 2 (.tmp 5), none⟩, ⟨some 53, .mv (.tmp 12), none⟩, ⟨none, .store 112 (.tmp 8) (.tmp 51), none⟩, ⟨none, .store 2 (.tmp 9) (.tmp 52), none⟩, ⟨some 10, .mv (.tmp 53), none⟩, ⟨some 11, .mv (.con (.bool true)), none⟩] [(1, 3)]) .ret) t (fun e st => e.leaves = true ∧ ∃ v, StR cs (s :: l) m v ∧ ∃ u ids, resT st.s st.g f10.res = some u ∧ frz ⟨st.g, st.nx⟩ frzDepth u = some (v, ids)) := by
          intro cs2 t hcd2 hcu2 hl h4 h5 h8 h9 h12 g0 g1 g3 g4
          have hlen2 := hcd2.1
          have hst2 := hcd2.2.1
          have hleaf2 := still_leaf hst2
          have hcc2 := hcc _ hlen2
          have hspz2 := hspz _ hlen2
          refine W_seqn (W_region (fun k => by simp +decide (disch := first | omega | simp +decide only [List.length_set, hl]) only [sa, simprocAttr, hps, h4, h5, h8, h9, h12, g0, g1, g3, g4, hlen2, hcut, hsp2, hcc2, hspz2, hzl, hleaf2, hlf']; rfl) ⟨rfl, W_ret ?_⟩)
          refine ⟨rfl, _, ⟨cs2, l, m', x', y', line, true, rfl, hcd2, hg', hlx', hm1, hm2, hcu2, fun h => (by cases h), fun _ => ⟨s, rfl, hv'⟩⟩, fin_stage hlen2 hst2 hxy' ?_ ?_ ?_ ?_ ?_ ?_⟩ <;> simp +decide (disch := first | omega | simp +decide only [List.length_set, hl]) only [sa, simprocAttr, hps, h8, h9, g3, g4, hsp2, hspz2]
        cases had with
        | true =>
          refine W_seqn (W_seqn (W_region (fun k => by simp +decide (disch := first | omega | simp +decide only [List.length_set, hl]) only [sa, simprocAttr, hps, h13]; rfl) ⟨rfl, W_fls (W_skip ⟨rfl, ?_⟩)⟩))
          refine endS cs1 _ hcd1 hcu1 ?_ ?_ ?_ ?_ ?_ ?_ g0 g1 g3 g4 <;> simp +decide (disch := first | omega | simp +decide only [List.length_set, hl]) only [sa, simprocAttr, hps, hl, h4, h5, h8, h9, h12]
        | false =>
          have hcd2 := cor_wait hcd1 (w := ml1) hml1
          have hcu2 := (cut_set_out cs1 110 22 30 (.int .i64 ml1) (by omega)).trans hcu1
          generalize hcs2 : cs1.set 110 (.int .i64 ml1) = cs2 at *
          refine W_seqn (W_seqn (W_region (fun k => by simp +decide (disch := first | omega | simp +decide only [List.length_set, hl]) only [sa, simprocAttr, hps, h13]; rfl) ⟨rfl, W_tru (W_region (fun k => by simp +decide (disch := first | omega | simp +decide only [List.length_set, hl]) only [sa, simprocAttr, hps, h4, g0, hlen1, c18', hcs2]; rfl) ⟨rfl, ?_⟩)⟩))
          refine endS cs2 _ hcd2 hcu2 ?_ ?_ ?_ ?_ ?_ ?_ ?_ ?_ ?_ ?_ <;> simp +decide (disch := first | omega | simp +decide only [List.length_set, hl]) only [sa, simprocAttr, hps, hl, h4, h5, h8, h9, h12, g0, g1, g3, g4, hcs2]
      all_goals simp +decide (disch := first | omega | simp +decide only [List.length_set, hl]) only [sa, simprocAttr, hps, hl, h4, h5, h8, h9, g0, g1, g3, g4, hsp1, hsp2]
    all_goals simp +decide (disch := first | omega | simp +decide only [List.length_set, hl]) only [sa, simprocAttr, hps, hl, h2, h4, h5, h8, h9, g0, g1, g3, g4]
end Go.Proofs.Ytabfinhkoihhfaa.Abs
