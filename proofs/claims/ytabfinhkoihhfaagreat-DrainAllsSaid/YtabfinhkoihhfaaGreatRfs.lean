/- A stage of draining, and draining whole, as the document says: the walks. -/
import Derived.Test.YtabfinhkoihhfaaGreatAll
namespace Go.Proofs.YtabfinhkoihhfaaGreat.Abs
open Go Go.RowKit Fn
set_option linter.unusedVariables false
set_option linter.unusedSimpArgs false
set_option linter.unnecessarySimpa false
set_option maxRecDepth 100000
set_option maxHeartbeats 4000000

theorem still_fz {h : Hp} {d : Nat} {x : T} (hx : still1 x = true) : frz h (d + 1) x = some (x, []) := by
  cases x <;> first | rfl | cases hx
theorem frzAll_still {h : Hp} {d : Nat} : ∀ {l : List T}, l.all still1 = true → frzAll (frz h (d + 1)) l = some (l, [])
  | [], _ => rfl
  | x :: l, hl => by
    rw [List.all_cons, Bool.and_eq_true] at hl
    simp only [frzAll, still_fz hl.1, frzAll_still hl.2, List.append_nil]
theorem frzAll_set {h : Hp} {d : Nat} {x y : T} {us : List Nat} (hx : frz h (d + 1) x = some (y, us)) : ∀ {l : List T} {i : Nat}, l.all still1 = true → i < l.length → frzAll (frz h (d + 1)) (l.set i x) = some (l.set i y, us)
  | [], i, _, hi => by simp at hi
  | z :: l, 0, hl, _ => by
    rw [List.all_cons, Bool.and_eq_true] at hl
    simp only [List.set_cons_zero, frzAll, hx, frzAll_still hl.2, List.append_nil]
  | z :: l, i + 1, hl, hi => by
    rw [List.all_cons, Bool.and_eq_true] at hl
    simp only [List.set_cons_succ, frzAll, still_fz hl.1, frzAll_set hx hl.2 (Nat.lt_of_succ_lt_succ (by simpa using hi)), List.nil_append]
theorem frz_own10 {g : Mem} {nx q n : Nat} {lc : List T} (hg : g q = some lc) (hl : lc.length = n * 3) (hs : lc.all still1 = true) : frz ⟨g, nx⟩ 10 (.own q 0 n 3) = some (.imm false n lc, [q]) := by
  have e : ((lc.drop 0).take (n * 3)) = lc := by rw [List.drop_zero, List.take_of_length_le (by omega)]
  rw [show (10 : Nat) = 9 + 1 from rfl, frz]
  simp only [hg, e, hl, if_true, show (9 : Nat) = 8 + 1 from rfl, frzAll_still hs]
theorem frz_core {g : Mem} {nx q n : Nat} {lc cs : List T} (hcl : cs.length = 112) (hcs : cs.all still1 = true) (hg : g q = some lc) (hl : lc.length = n * 3) (hs : lc.all still1 = true) : frz ⟨g, nx⟩ 11 (.agg (cs.set 107 (.own q 0 n 3))) = some (.agg (cs.set 107 (.imm false n lc)), [q]) := by
  rw [show (11 : Nat) = 10 + 1 from rfl, frz, show (10 : Nat) = 9 + 1 from rfl, frzAll_set (frz_own10 hg hl hs) hcs (by omega)]
theorem leaf_set {l : List T} (h : allLeaf l = true) (i : Nat) {x : T} (hx : x.leaf = true) : allLeaf (l.set i x) = true := by
  unfold allLeaf at h ⊢
  rw [List.all_eq_true] at h ⊢
  intro y hy
  rcases List.mem_or_eq_of_mem_set hy with h' | rfl
  · exact h y h'
  · exact hx
theorem q17 : ap 17 = some f17 := rfl
theorem r17 : f17.pure = true := rfl
theorem s17 : f17.nat = none := rfl
theorem rwrite_lax {m : Coh} (hok : Ok m) {x y : T} (h : Lax m x y) (who : Int) {s : Sb} (hs : s.wf) : ∃ N x' y', Lax (wrS m who s).1 x' y' ∧ ∀ k, N ≤ k → ∀ g, callPure (ev ap k) f17 [.agg [x, y], .int .i64 who, .int .u32 s.addr, .int .i64 s.size, .int .u32 s.data] g = some ⟨.tup [.agg [x', y'], .bool (wrS m who s).2], [], []⟩ := by
  have ha := wf_u32 hs.1
  have hd := wf_u32 hs.2.1
  obtain ⟨ad, ea⟩ : ∃ ad : Nat, s.addr = (ad : Int) := ⟨s.addr.toNat, by omega⟩
  have had : ad ≤ 4294967295 := by omega
  unfold wrS
  rw [ea, Int.toNat_natCast]
  obtain ⟨u, hE, hu⟩ := ref_writeM m hok who ad had s.size s.data hd
  obtain ⟨v', hE', hu'⟩ := hE.up (lax_args h _)
  obtain ⟨u', rfl, hu2⟩ := up_tupb hu'
  obtain ⟨x', y', rfl, hl⟩ := lax_out (hu.trans hu2)
  obtain ⟨f1, n1, c1, f2, n2, c2, rfl, rfl⟩ := lax_frz h
  obtain ⟨N, q⟩ := hE'.call (F := f17) rfl (fun g => rfl)
  exact ⟨N, x', y', hl, q⟩
theorem q18 : ap 18 = some f18 := rfl
theorem r18 : f18.pure = true := rfl
theorem s18 : f18.nat = none := rfl
theorem fin_rstage {F : AFun} (hF : F.res = [.cell 8 false 112, .cell 9 false 2, .tmp 10, .tmp 11]) {s : List T} {g : Mem} {nx : Nat} {cs2 cs3 : List T} {ids : List Nat} {x2 y2 : T} {line : Int} {ok : Bool} (hl : cs2.length = 112) (hf : frz ⟨g, nx⟩ 11 (.agg cs2) = some (.agg cs3, ids)) (hxy : ([x2, y2] : List T).all still1 = true) (h8 : rho s (.tmp 8) = .ptr 3 0) (h9 : rho s (.tmp 9) = .ptr 4 0) (h10 : rho s (.tmp 10) = .int .u32 line) (h11 : rho s (.tmp 11) = .bool ok) (g3 : g 3 = some cs2) (g4 : g 4 = some [x2, y2]) : ∃ u ids, resT s g F.res = some u ∧ frz ⟨g, nx⟩ frzDepth u = some (.tup [.agg cs3, .agg [x2, y2], .int .u32 line, .bool ok], ids) := by
  have hcc := cut_all hl
  have hcut : cut [x2, y2] 0 2 = [x2, y2] := rfl
  refine ⟨.tup [.agg cs2, .agg [x2, y2], .int .u32 line, .bool ok], ids, ?_, ?_⟩
  · simp only [resT, resL, resOne, hF]
    simp +decide (disch := first | omega | simp +decide [hl]) only [s9, simprocAttr, h8, h9, h10, h11, g3, g4, hcc, hl, hcut]
    try rfl
  · rw [show frzDepth = 11 + 1 from rfl, frz]
    simp only [frzAll, hf, frzA11 hxy, frzI11, frzB11, List.append_nil]
theorem ref_stage {m : Coh} (hok : Ok m) (who : Int) (cs : List T) (f : Bool) (l : List Sb) (wt ml : Int) (hc : CorX cs f l wt ml) (hl20 : l.length ≤ 1000) (hs : ∀ s ∈ l, s.wf) (t0 t1 t2 t4 : T) (dr : Bool) (htk : ([t0, t1, t2, t4] : List T).all still1 = true) :
    ∃ v, E ap 8 [.agg cs, .agg [memT m, cachT m], .int .i64 who, .agg [t0, t1, t2, .bool dr, t4]] v ∧ StR cs (stM m who dr l wt ml) v := by
  refine E_bodyV (F := f8) (P := StR cs (stM m who dr l wt ml)) rfl rfl rfl ?_
  have hbody : f8.body = f8.body := rfl
  conv at hbody => rhs; rw [f8]
  rw [hbody]
  clear hbody
  have hlx := lax_strict m
  generalize memT m = x at *
  generalize cachT m = y at *
  generalize hs0 : (_ : List T) ++ List.replicate _ T.undef = s0
  have e0 : s0.length = 68 ∧ rho s0 (.tmp 0) = .agg cs ∧ rho s0 (.tmp 1) = .agg [x, y] ∧ rho s0 (.tmp 2) = .int .i64 who ∧ rho s0 (.tmp 3) = .agg [t0, t1, t2, .bool dr, t4] := by subst hs0; exact ⟨rfl, rfl, rfl, rfl, rfl⟩
  clear hs0
  obtain ⟨hl, h0, h1, h2, h3⟩ := e0
  have hcw := hc
  obtain ⟨hlen, hst, c107, c110, hwt, c18, hml⟩ := hc
  have hleaf := still_leaf hst
  have hlf := lax_leaf hlx
  have hxy := lax_still hlx
  have htl : allLeaf [t0, t1, t2, .bool dr, t4] = true := by
    simp only [List.all_cons, List.all_nil, Bool.and_true, Bool.and_eq_true] at htk
    obtain ⟨a, b, c, d⟩ := htk
    refine still_leaf ?_
    simp only [List.all_cons, List.all_nil, a, b, c, d]; rfl
  have hzl := zCore_len
  have hzf := zCore_leaf
  have hcut : ∀ x y : T, cut [x, y] 0 2 = [x, y] := fun _ _ => rfl
  have hsp2 : ∀ x y x' y' : T, splice [x, y] 0 [x', y'] = [x', y'] := fun _ _ _ _ => rfl
  have hcc : ∀ c : List T, c.length = 112 → cut c 0 112 = c := fun c h => cut_all h
  have hspz : ∀ c : List T, c.length = 112 → splice zK0 0 c = c := fun c h => splice_all (by rw [h]; rfl)
  generalize zK0 = zc at *
  refine W_cut (fun t => t.s.length = 68 ∧ rho t.s (.tmp 2) = .int .i64 who ∧ rho t.s (.tmp 4) = .ptr 0 0 ∧ rho t.s (.tmp 5) = .ptr 1 0 ∧ rho t.s (.tmp 7) = .ptr 2 0 ∧ rho t.s (.tmp 8) = .ptr 3 0 ∧ rho t.s (.tmp 9) = .ptr 4 0 ∧ t.g 0 = some cs ∧ t.g 1 = some [x, y] ∧ t.g 2 = some [t0, t1, t2, .bool dr, t4] ∧ t.g 3 = some zc ∧ t.g 4 = some [.imm true 0 [], .imm true 0 []] ∧ t.nx = 7) (W_region (fun k => by simp +decide (disch := first | omega | simp +decide [hl]) only [s9, simprocAttr, h0, h1, h3, hleaf, hlf, htl, hzf]; rfl) ⟨rfl, ?_⟩) ?_
  · refine ⟨?_, ?_, ?_, ?_, ?_, ?_, ?_, ?_, ?_, ?_, ?_, ?_, rfl⟩ <;> simp +decide (disch := first | omega | simp +decide [hl]) only [s9, simprocAttr, hl, h2]
  clear hl h0 h1 h2 h3
  rintro ⟨ss, gg, nx⟩ ⟨hl, h2, h4, h5, h7, h8, h9, g0, g1, g2, g3, g4, hnx⟩
  simp only at hl h2 h4 h5 h7 h8 h9 g0 g1 g2 g3 g4 hnx
  subst hnx
  by_cases hw0 : wt > 0
  · have d0 : decide (wt > 0) = true := decide_eq_true hw0
    have w1 : IntKind.i64.wrap (wt - 1) = wt - 1 := wrap_id (by omega)
    have hcw' := cor_wait hcw (w := wt - 1) (by omega)
    have hstM : stM m who dr l wt ml = (l, wt - 1, m, 0, false) := by unfold stM; rw [if_pos hw0]
    rw [hstM]
    have hres : StR cs (l, wt - 1, m, 0, false) (.tup [.agg (cs.set 110 (.int .i64 (wt - 1))), .agg [x, y], .int .u32 0, .bool false]) := ⟨f, x, y, by rw [putC_wait hcw], hlx⟩
    have hlen' := hcw'.1
    have hst' := hcw'.2.1
    have hleaf' := still_leaf hst'
    generalize hcs' : cs.set 110 (.int .i64 (wt - 1)) = cs' at *
    have hcc2 := hcc _ hlen'
    have hspz2 := hspz _ hlen'
    refine W_seq (W_seqn (W_region (fun k => by simp +decide (disch := first | omega | simp +decide [hl]) only [s9, simprocAttr, h4, g0, hlen, c110, d0]; rfl) ⟨rfl, W_tru ?_⟩))
    refine W_cut (fun t => t.s.length = 68 ∧ rho t.s (.tmp 4) = .ptr 0 0 ∧ rho t.s (.tmp 5) = .ptr 1 0 ∧ rho t.s (.tmp 8) = .ptr 3 0 ∧ rho t.s (.tmp 9) = .ptr 4 0 ∧ t.g 0 = some cs' ∧ t.g 1 = some [x, y] ∧ t.g 3 = some zc ∧ t.g 4 = some [.imm true 0 [], .imm true 0 []]) (W_region (fun k => by simp +decide (disch := first | omega | simp +decide [hl]) only [s9, simprocAttr, h4, g0, hlen, c110, w1, hcs']; rfl) ⟨rfl, ?_⟩) ?_
    · refine ⟨?_, ?_, ?_, ?_, ?_, ?_, ?_, ?_, ?_⟩ <;> simp +decide (disch := first | omega | simp +decide [hl]) only [s9, simprocAttr, hl, h4, h5, h8, h9, g0, g1, g3, g4, hcs']
    clear hl h2 h4 h5 h7 h8 h9 g0 g1 g2 g3 g4
    rintro st ⟨hl, h4, h5, h8, h9, g0, g1, g3, g4⟩
    refine W_seqn (W_region (fun k => by simp +decide (disch := first | omega | simp +decide [hl]) only [s9, simprocAttr, h4, h5, h8, h9, g0, g1, g3, g4, hlen', hcut, hsp2, hcc2, hspz2, hzl, hleaf', hlf]; rfl) ⟨rfl, W_ret ?_⟩)
    simp only [reduceCtorEq, false_and, false_or, or_false, exists_false, exists_const, ne_eq, not_false_eq_true, true_and, implies_true]
    refine ⟨rfl, _, hres, fin_rstage (F := f8) rfl hlen' (frzA11 hst') hxy ?_ ?_ ?_ ?_ ?_ ?_⟩ <;> simp +decide (disch := first | omega | simp +decide [hl]) only [s9, simprocAttr, h8, h9, g3, g4, hsp2, hspz2]
  have d0 : decide (wt > 0) = false := decide_eq_false hw0
  by_cases hnd : dr = false ∨ l = []
  · have hstM : stM m who dr l wt ml = (l, wt, m, 0, false) := by
      unfold stM; rw [if_neg hw0]
      rcases hnd with rfl | rfl
      · rfl
      · cases dr <;> rfl
    rw [hstM]
    have hres : StR cs (l, wt, m, 0, false) (.tup [.agg cs, .agg [x, y], .int .u32 0, .bool false]) := ⟨f, x, y, by rw [putC_same hcw], hlx⟩
    have hcc2 := hcc _ hlen
    have hspz2 := hspz _ hlen
    refine W_seqn (W_seqn (W_region (fun k => by simp +decide (disch := first | omega | simp +decide [hl]) only [s9, simprocAttr, h4, g0, hlen, c110, d0]; rfl) ⟨rfl, W_fls (W_skip ⟨rfl, ?_⟩)⟩))
    refine W_seq (W_cut (fun t => t.s.length = 68 ∧ rho t.s (.tmp 4) = .ptr 0 0 ∧ rho t.s (.tmp 5) = .ptr 1 0 ∧ rho t.s (.tmp 8) = .ptr 3 0 ∧ rho t.s (.tmp 9) = .ptr 4 0 ∧ rho t.s (.tmp 32) = .bool true ∧ t.g 0 = some cs ∧ t.g 1 = some [x, y] ∧ t.g 3 = some zc ∧ t.g 4 = some [.imm true 0 [], .imm true 0 []]) ?_ ?_)
    · cases dr with
      | false =>
        refine W_region (fun k => by simp +decide (disch := first | omega | simp +decide [hl]) only [s9, simprocAttr, h4, h7, g0, g2, hlen, c107]; rfl) ⟨rfl, ?_, ?_, ?_, ?_, ?_, ?_, ?_, ?_, ?_, ?_⟩ <;> simp +decide (disch := first | omega | simp +decide [hl]) only [s9, simprocAttr, hl, h4, h5, h8, h9, g0, g1, g3, g4]
      | true =>
        obtain rfl : l = [] := hnd.resolve_left (by simp)
        have e1 : (((([] : List Sb).length : Nat) : Int) == 0) = true := rfl
        generalize ([] : List Sb).length = ln at *
        generalize ([] : List Sb).flatMap Sb.enc = lc at *
        refine W_region (fun k => by simp +decide (disch := first | omega | simp +decide [hl]) only [s9, simprocAttr, h4, h7, g0, g2, hlen, c107, e1]; rfl) ⟨rfl, ?_, ?_, ?_, ?_, ?_, ?_, ?_, ?_, ?_, ?_⟩ <;> simp +decide (disch := first | omega | simp +decide [hl]) only [s9, simprocAttr, hl, h4, h5, h8, h9, g0, g1, g3, g4]
    clear hl h2 h4 h5 h7 h8 h9 g0 g1 g2 g3 g4
    rintro st ⟨hl, h4, h5, h8, h9, h24, g0, g1, g3, g4⟩
    refine W_true h24 ?_
    refine W_seqn (W_region (fun k => by simp +decide (disch := first | omega | simp +decide [hl]) only [s9, simprocAttr, h4, h5, h8, h9, g0, g1, g3, g4, hlen, hcut, hsp2, hcc2, hspz2, hzl, hleaf, hlf]; rfl) ⟨rfl, W_ret ?_⟩)
    simp only [reduceCtorEq, false_and, false_or, or_false, exists_false, exists_const, ne_eq, not_false_eq_true, true_and, implies_true]
    refine ⟨rfl, _, hres, fin_rstage (F := f8) rfl hlen (frzA11 hst) hxy ?_ ?_ ?_ ?_ ?_ ?_⟩ <;> simp +decide (disch := first | omega | simp +decide [hl]) only [s9, simprocAttr, h8, h9, g3, g4, hsp2, hspz2]
  have hdr : dr = true := by cases dr; exact absurd (.inl rfl) hnd; rfl
  subst hdr
  cases l with
  | nil => exact absurd (.inr rfl) hnd
  | cons s l =>
    have hsw := hs s (List.mem_cons_self ..)
    obtain ⟨N, x', y', hlx', q⟩ := rwrite_lax hok hlx who hsw
    have q := q N (Nat.le_refl _)
    have ha := wf_u32 hsw.1
    have hstM : stM m who true (s :: l) wt ml = (l, if (wrS m who s).2 then wt else ml, (wrS m who s).1, ((s.addr.toNat / 16 : Nat) : Int), true) := by unfold stM; rw [if_neg hw0]
    rw [hstM]
    obtain ⟨ad, ea⟩ : ∃ ad : Nat, s.addr = (ad : Int) := ⟨s.addr.toNat, by omega⟩
    have had' : ad ≤ 4294967295 := by omega
    obtain ⟨NL, qL⟩ := (ref_line ad had').call q18 (fun g => rfl)
    have qL := qL NL (Nat.le_refl _)
    have hpt : putC cs false l wt = cs.set 107 (.imm false l.length (l.flatMap Sb.enc)) := putC_sb hcw false l
    have hpf : putC cs false l ml = (cs.set 110 (.int .i64 ml)).set 107 (.imm false l.length (l.flatMap Sb.enc)) := by unfold putC; rw [List.set_comm _ _ (by omega)]
    have hse : s.enc = [.int .u32 (ad : Int), .int .u32 s.data, .int .i64 s.size] := by show [T.int .u32 s.addr] ++ ([T.int .u32 s.data] ++ [T.int .i64 s.size]) = _; rw [ea]; rfl
    rw [ea] at q
    rw [ea, Int.toNat_natCast]
    have hxy' := lax_still hlx'
    have hlf' := lax_leaf hlx'
    generalize (wrS m who s).2 = had at *
    generalize (wrS m who s).1 = m' at *
    have hcell := sb_cells (s :: l)
    have hlen1 : (s :: l).length = l.length + 1 := rfl
    have hc1 : cut ((s :: l).flatMap Sb.enc) (1 * 3) ((l.length + 1 - 1) * 3) = l.flatMap Sb.enc := by
      unfold cut
      rw [List.flatMap_cons, List.drop_left' (by rfl), List.take_of_length_le (by rw [sb_cells]; omega)]
    have hc0 : cut ((s :: l).flatMap Sb.enc) (0 * 3) 3 = [.int .u32 (ad : Int), .int .u32 s.data, .int .i64 s.size] := by
      unfold cut
      rw [List.flatMap_cons, Nat.zero_mul, List.drop_zero, List.take_left' (by rfl), hse]
    rw [hlen1] at c107 hcell
    have e1 : (((l.length + 1 : Nat) : Int) == 0) = false := by simp; omega
    have hb0 : 0 < l.length + 1 := by omega
    have hb1 : 1 ≤ l.length + 1 := by omega
    have hb3 : 0 * 3 + 3 ≤ (l.length + 1) * 3 := by omega
    have hlx1 : l.length + 1 - 1 = l.length := by omega
    rw [hlx1] at hc1
    have hls := sb_still l
    have hlcl := sb_cells l
    have hll := still_leaf hls
    have hl10 : l.length ≤ 1000 := by simp at hl20; omega
    generalize (s :: l).flatMap Sb.enc = cc at *
    generalize hlc : l.flatMap Sb.enc = lc at *
    have hlf3 : allLeaf [T.int .u32 (ad : Int), T.int .u32 s.data, T.int .i64 s.size] = true := rfl
    have hsp3 : ∀ a b c a' b' c' : T, splice [a, b, c] 0 [a', b', c'] = [a', b', c'] := fun _ _ _ _ _ _ => rfl
    refine W_seqn (W_seqn (W_region (fun k => by simp +decide (disch := first | omega | simp +decide [hl]) only [s9, simprocAttr, h4, g0, hlen, c110, d0]; rfl) ⟨rfl, W_fls (W_skip ⟨rfl, ?_⟩)⟩))
    refine W_seqn (W_seqn (W_region (fun k => by simp +decide (disch := first | omega | simp +decide [hl]) only [s9, simprocAttr, h4, h7, g0, g2, hlen, c107, e1]; rfl) ⟨rfl, W_fls (W_skip ⟨rfl, ?_⟩)⟩))
    refine W_cut (fun t => t.s.length = 68 ∧ rho t.s (.tmp 2) = .int .i64 who ∧ rho t.s (.tmp 4) = .ptr 0 0 ∧ rho t.s (.tmp 5) = .ptr 1 0 ∧ rho t.s (.tmp 8) = .ptr 3 0 ∧ rho t.s (.tmp 9) = .ptr 4 0 ∧ rho t.s (.tmp 12) = .ptr 23 0 ∧ t.g 0 = some cs ∧ t.g 1 = some [x, y] ∧ t.g 3 = some zc ∧ t.g 4 = some [.imm true 0 [], .imm true 0 []] ∧ t.g 23 = some [.int .u32 (ad : Int), .int .u32 s.data, .int .i64 s.size] ∧ t.nx = 25) (W_region (fun k => by simp +decide (disch := first | omega | simp +decide [hl]) only [s9, simprocAttr, h4, g0, hlen, c107, hcell, hc0, hb0, hb3, hlf3, hsp3]; rfl) ⟨rfl, ?_⟩) ?_
    · refine ⟨?_, ?_, ?_, ?_, ?_, ?_, ?_, ?_, ?_, ?_, ?_, ?_, rfl⟩ <;> simp +decide (disch := first | omega | simp +decide [hl]) only [s9, simprocAttr, hl, h2, h4, h5, h8, h9, g0, g1, g3, g4, hsp3]
    clear hl h2 h4 h5 h7 h8 h9 g0 g1 g2 g3 g4
    rintro ⟨ss, gg, nx⟩ ⟨hl, h2, h4, h5, h8, h9, h12, g0, g1, g3, g4, g23, hnx⟩
    simp only at hl h2 h4 h5 h8 h9 h12 g0 g1 g3 g4 g23 hnx
    subst hnx
    refine W_cut (fun t => t.s.length = 68 ∧ rho t.s (.tmp 4) = .ptr 0 0 ∧ rho t.s (.tmp 8) = .ptr 3 0 ∧ rho t.s (.tmp 9) = .ptr 4 0 ∧ rho t.s (.tmp 12) = .ptr 23 0 ∧ rho t.s (.tmp 13) = .ptr 37 0 ∧ rho t.s (.tmp 14) = .bool had ∧ t.g 0 = some cs ∧ t.g 3 = some zc ∧ t.g 4 = some [.imm true 0 [], .imm true 0 []] ∧ t.g 23 = some [.int .u32 (ad : Int), .int .u32 s.data, .int .i64 s.size] ∧ t.g 37 = some [x', y'] ∧ t.nx = 40) (W_regionN ⟨N, by simp +decide (disch := first | omega | simp +decide [hl]) only [s9, simprocAttr, h2, h5, h12, g1, g23, hcut, hsp2, hlf', q17, r17, s17, q]; rfl⟩ ⟨rfl, ?_⟩) ?_
    · refine ⟨?_, ?_, ?_, ?_, ?_, ?_, ?_, ?_, ?_, ?_, ?_, ?_, rfl⟩ <;> simp +decide (disch := first | omega | simp +decide [hl]) only [s9, simprocAttr, hl, h4, h8, h9, h12, g0, g3, g4, g23, hsp2]
    clear hl h2 h4 h5 h8 h9 h12 g0 g1 g3 g4 g23
    rintro st ⟨hl, h4, h8, h9, h12, h13, h14, g0, g3, g4, g23, g37, hnx⟩
    have endS : ∀ (cs1 : List T) (t : St), cs1.length = 112 → cs1.all still1 = true → cs1[107]? = some (.imm f (l.length + 1) cc) → putC cs false l (if had then wt else ml) = cs1.set 107 (.imm false l.length lc) → t.s.length = 68 → rho t.s (.tmp 4) = .ptr 0 0 → rho t.s (.tmp 8) = .ptr 3 0 → rho t.s (.tmp 9) = .ptr 4 0 → rho t.s (.tmp 12) = .ptr 23 0 → rho t.s (.tmp 13) = .ptr 37 0 → t.g 0 = some cs1 → t.g 3 = some zc → t.g 4 = some [.imm true 0 [], .imm true 0 []] → t.g 23 = some [.int .u32 (ad : Int), .int .u32 s.data, .int .i64 s.size] → t.g 37 = some [x', y'] → 40 ≤ t.nx → W ap (.seq (.region [⟨some 57, .bsl [] 0 3 [], none⟩, ⟨some 58, .faddr (.tmp 4) 107, none⟩, ⟨some 59, .load true 1 (.tmp 58), none⟩, ⟨some 60, .slSl 3 (.tmp 59) (some (.con (.int .i64 1))) none none, none⟩, ⟨some 61, .append 3 16 (.tmp 57) (.tmp 60), none⟩, ⟨some 62, .faddr (.tmp 4) 107, none⟩, ⟨none, .store 1 (.tmp 62) (.tmp 61), none⟩] []) (.seq (.region [⟨some 63, .load false 112 (.tmp 4), none⟩, ⟨some 64, .load false 2 (.tmp 13), none⟩, ⟨some 65, .faddr (.tmp 12) 0, none⟩, ⟨some 66, .load true 1 (.tmp 65), none⟩, ⟨some 67, .call 18 [(.tmp 66)], none⟩, ⟨none, .store 112 (.tmp 8) (.tmp 63), none⟩, ⟨none, .store 2 (.tmp 9) (.tmp 64), none⟩, ⟨some 10, .mv (.tmp 67), none⟩, ⟨some 11, .mv (.con (.bool true)), none⟩] [(0, 4), (1, 4), (1, 5)]) .ret)) t (fun e st => e.leaves = true ∧ ∃ v, StR cs (l, if had then wt else ml, m', ((ad / 16 : Nat) : Int), true) v ∧ ∃ u ids, resT st.s st.g f8.res = some u ∧ frz ⟨st.g, st.nx⟩ frzDepth u = some (v, ids)) := by
      intro cs1 t hlen1 hst1 c107 hput hl h4 h8 h9 h12 h13 g0 g3 g4 g23 g37 hnx
      have hres : StR cs (l, if had then wt else ml, m', ((ad / 16 : Nat) : Int), true) (.tup [.agg (cs1.set 107 (.imm false l.length lc)), .agg [x', y'], .int .u32 ((ad / 16 : Nat) : Int), .bool true]) := ⟨false, x', y', by rw [hput], hlx'⟩
      refine W_cut (fun t => ∃ q, 40 ≤ q ∧ t.s.length = 68 ∧ rho t.s (.tmp 4) = .ptr 0 0 ∧ rho t.s (.tmp 8) = .ptr 3 0 ∧ rho t.s (.tmp 9) = .ptr 4 0 ∧ rho t.s (.tmp 12) = .ptr 23 0 ∧ rho t.s (.tmp 13) = .ptr 37 0 ∧ t.g 0 = some (cs1.set 107 (.own q 0 l.length 3)) ∧ t.g 3 = some zc ∧ t.g 4 = some [.imm true 0 [], .imm true 0 []] ∧ t.g 23 = some [.int .u32 (ad : Int), .int .u32 s.data, .int .i64 s.size] ∧ t.g 37 = some [x', y'] ∧ t.g q = some lc) ?_ ?_
      · have hn0 : (t.nx = 0) = False := eq_false (by omega)
        have hn3 : (3 = t.nx) = False := eq_false (by omega)
        have hn4 : (4 = t.nx) = False := eq_false (by omega)
        have hn23 : (23 = t.nx) = False := eq_false (by omega)
        have hn37 : (37 = t.nx) = False := eq_false (by omega)
        have hz0 : (0 = t.nx) = False := eq_false (by omega)
        have hz34 : (3 = t.nx + 1 + 1 + 1 + 1) = False := eq_false (by omega)
        have hz44 : (4 = t.nx + 1 + 1 + 1 + 1) = False := eq_false (by omega)
        have hz234 : (23 = t.nx + 1 + 1 + 1 + 1) = False := eq_false (by omega)
        have hz374 : (37 = t.nx + 1 + 1 + 1 + 1) = False := eq_false (by omega)
        have hz04 : (0 = t.nx + 1 + 1 + 1 + 1) = False := eq_false (by omega)
        have hz40 : (t.nx + 1 + 1 + 1 + 1 = 0) = False := eq_false (by omega)
        have hzn4 : (t.nx + 1 + 1 + 1 + 1 = t.nx) = False := eq_false (by omega)
        have hcct : cut ([] : List T) 0 0 = [] := rfl
        by_cases hln : l.length = 0
        · have hlc0 : lc = [] := List.eq_nil_of_length_eq_zero (by omega)
          subst hlc0
          rw [hln] at hlcl hc1 hlx1 c107 hcell hb0 hb1 ⊢
          refine W_region (fun k => by simp +decide (disch := first | omega | simp +decide [hl]) only [s9, simprocAttr, h4, g0, hlen1, c107, hcell, hc1, hlx1, hb0, hb1, hn0, hn3, hn4, hn23, hn37, hz0, Nat.le_refl, Option.map_some, Option.map_none, Option.isSome, hlcl, cellsOf]; rfl) ⟨rfl, t.nx, hnx, ?_⟩
          refine ⟨?_, ?_, ?_, ?_, ?_, ?_, ?_, ?_, ?_, ?_, ?_, ?_⟩ <;> simp +decide (disch := first | omega | simp +decide [hl]) only [s9, simprocAttr, hl, h4, h8, h9, h12, h13, g0, g3, g4, g23, g37, hn0, hn3, hn4, hn23, hn37, hz0]
        · have hr1 : l.length * 16 ≤ 549755813888 := by omega
          have hr2 : l.length ≤ 549755813888 := by omega
          refine W_region (fun k => by simp +decide (disch := first | omega | simp +decide [hl]) only [s9, simprocAttr, h4, g0, hlen1, c107, hcell, hc1, hlx1, hb0, hb1, hn0, hn3, hn4, hn23, hn37, hz0, hz34, hz44, hz234, hz374, hz04, hz40, hzn4, Nat.le_refl, Option.map_some, Option.map_none, Option.isSome, hlcl, hln, hll, hr1, hr2, hcct, List.nil_append, cellsOf]; rfl) ⟨rfl, t.nx + 1 + 1 + 1 + 1, by omega, ?_⟩
          refine ⟨?_, ?_, ?_, ?_, ?_, ?_, ?_, ?_, ?_, ?_, ?_, ?_⟩ <;> simp +decide (disch := first | omega | simp +decide [hl]) only [s9, simprocAttr, hl, h4, h8, h9, h12, h13, g0, g3, g4, g23, g37, hn0, hn3, hn4, hn23, hn37, hz0, hz34, hz44, hz234, hz374, hz04, hz40, hzn4]
      clear hl h4 h8 h9 h12 h13 g0 g3 g4 g23 g37
      rintro t ⟨q, hq, hl, h4, h8, h9, h12, h13, g0, g3, g4, g23, g37, gq⟩
      have hlen2 : (cs1.set 107 (.own q 0 l.length 3)).length = 112 := by rw [List.length_set]; exact hlen1
      have hleaf2 : allLeaf (cs1.set 107 (.own q 0 l.length 3)) = true := leaf_set (still_leaf hst1) _ rfl
      have hfrz : ∀ (g : Mem) (nx : Nat), g q = some lc → frz ⟨g, nx⟩ 11 (.agg (cs1.set 107 (.own q 0 l.length 3))) = some (.agg (cs1.set 107 (.imm false l.length lc)), [q]) := fun g nx hg => frz_core hlen1 hst1 hg hlcl hls
      generalize cs1.set 107 (.own q 0 l.length 3) = cs2 at *
      have hcc2 := hcc _ hlen2
      have hspz2 := hspz _ hlen2
      refine W_seqn (W_regionN ⟨NL, by simp +decide (disch := first | omega | simp +decide [hl]) only [s9, simprocAttr, h4, h8, h9, h12, h13, g0, g3, g4, g23, g37, hlen2, hcut, hsp2, hcc2, hspz2, hzl, hleaf2, hlf', q18, r18, s18, qL]; rfl⟩ ⟨rfl, W_ret ?_⟩)
      simp only [reduceCtorEq, false_and, false_or, or_false, exists_false, exists_const, ne_eq, not_false_eq_true, true_and, implies_true]
      have hq3 : (q = 3) = False := eq_false (by omega)
      have hq4 : (q = 4) = False := eq_false (by omega)
      refine ⟨rfl, _, hres, fin_rstage (F := f8) rfl hlen2 (hfrz _ _ ?_) hxy' ?_ ?_ ?_ ?_ ?_ ?_⟩ <;> simp +decide (disch := first | omega | simp +decide [hl]) only [s9, simprocAttr, h8, h9, g3, g4, gq, hsp2, hspz2, hq3, hq4]
    have hcw1 := cor_wait hcw (w := ml) hml
    cases had with
    | true =>
      refine W_seqn (W_seqn (W_region (fun k => by simp +decide (disch := first | omega | simp +decide [hl]) only [s9, simprocAttr, h14]; rfl) ⟨rfl, W_fls (W_skip ⟨rfl, ?_⟩)⟩))
      refine endS cs _ hlen hst c107 hpt ?_ ?_ ?_ ?_ ?_ ?_ g0 g3 g4 g23 g37 (by show 40 ≤ st.nx + _; omega) <;> simp +decide (disch := first | omega | simp +decide [hl]) only [s9, simprocAttr, hl, h4, h8, h9, h12, h13]
    | false =>
      have c107' : (cs.set 110 (.int .i64 ml))[107]? = some (.imm f (l.length + 1) cc) := by rw [List.getElem?_set_ne (by omega)]; exact c107
      generalize hcs2 : cs.set 110 (.int .i64 ml) = cs2 at *
      refine W_seqn (W_seqn (W_region (fun k => by simp +decide (disch := first | omega | simp +decide [hl]) only [s9, simprocAttr, h14]; rfl) ⟨rfl, W_tru (W_region (fun k => by simp +decide (disch := first | omega | simp +decide [hl]) only [s9, simprocAttr, h4, g0, hlen, c18, hcs2]; rfl) ⟨rfl, ?_⟩)⟩))
      refine endS cs2 _ hcw1.1 hcw1.2.1 c107' hpf ?_ ?_ ?_ ?_ ?_ ?_ ?_ ?_ ?_ ?_ ?_ ?_
      all_goals first | (show 40 ≤ st.nx + _ + _; omega) | (simp +decide (disch := first | omega | simp +decide [hl]) only [s9, simprocAttr, hl, h4, h8, h9, h12, h13, g0, g3, g4, g23, g37, hcs2]; done)
end Go.Proofs.YtabfinhkoihhfaaGreat.Abs
