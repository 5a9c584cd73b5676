/- The store buffer's oldest store written, a stage, all of it: the program's walks. -/
import Derived.Test.YtabfinhkoihhfaaGreatLight
namespace Go.Proofs.YtabfinhkoihhfaaGreat.Abs
open Go Go.RowKit Fn
set_option linter.unusedVariables false
set_option linter.unusedSimpArgs false
set_option linter.unnecessarySimpa false
set_option maxRecDepth 100000
set_option maxHeartbeats 4000000

theorem sb_len (s : Sb) : s.enc.length = 3 := rfl
theorem sb_cells (l : List Sb) : (l.flatMap Sb.enc).length = l.length * 3 := flat_len sb_len l
theorem sb_still (l : List Sb) : (l.flatMap Sb.enc).all still1 = true := by
  induction l with
  | nil => rfl
  | cons s l ih => rw [List.flatMap_cons, List.all_append, ih]; rfl
theorem frz_tup {h : Hp} {l : List T} (hl : frzAll (frz h 11) l = some (l, [])) : frz h frzDepth (.tup l) = some (.tup l, []) := by
  rw [show frzDepth = 11 + 1 from rfl, frz]; simp only [hl]
theorem frzI11 {h : Hp} {k : IntKind} {n : Int} : frz h 11 (.int k n) = some (.int k n, []) := rfl
theorem frzB11 {h : Hp} {b : Bool} : frz h 11 (.bool b) = some (.bool b, []) := rfl
theorem frzM11 {h : Hp} {f : Bool} {n : Nat} {c : List T} : frz h 11 (.imm f n c) = some (.imm f n c, []) := rfl
theorem frzI12 {h : Hp} {k : IntKind} {n : Int} : frz h 12 (.int k n) = some (.int k n, []) := rfl
theorem frzA11 {h : Hp} {l : List T} (hl : l.all still1 = true) : frz h 11 (.agg l) = some (.agg l, []) := still_agg (d := 9) hl
theorem frzA12 {h : Hp} {l : List T} (hl : l.all still1 = true) : frz h 12 (.agg l) = some (.agg l, []) := still_agg (d := 10) hl
theorem stI (k : IntKind) (n : Int) : still1 (.int k n) = true := rfl
theorem stB (b : Bool) : still1 (.bool b) = true := rfl
def EA (F : AFun) (args : List T) (v : T) : Prop := ∃ N, ∀ k, runPure (ev ap (k + N)) F args = some v
theorem EA_bodyV {F : AFun} {args : List T} {P : T → Prop} (h : W ap F.body ⟨args ++ List.replicate (F.ntmps - args.length) .undef, fun _ => none, 0⟩ (fun e st => e.leaves = true ∧ ∃ v, P v ∧ ∃ u ids, resT st.s st.g F.res = some u ∧ frz ⟨st.g, st.nx⟩ frzDepth u = some (v, ids))) : ∃ v, EA F args v ∧ P v := by
  obtain ⟨k, e, st, h1, h2, v, hv, u, ids, h3, h4⟩ := h
  refine ⟨v, ⟨k, fun n => ?_⟩, hv⟩
  rw [Nat.add_comm]
  refine runPure_le (ev_add ap k n) ?_
  unfold runPure runBody
  simp only [h1, h2, if_true, h3, h4]
theorem EA_body {F : AFun} {args : List T} {v : T} (h : W ap F.body ⟨args ++ List.replicate (F.ntmps - args.length) .undef, fun _ => none, 0⟩ (fun e st => e.leaves = true ∧ ∃ u ids, resT st.s st.g F.res = some u ∧ frz ⟨st.g, st.nx⟩ frzDepth u = some (v, ids))) : EA F args v := by
  obtain ⟨w, hE, rfl⟩ := EA_bodyV (P := fun w => w = v) (h.mono fun e st h => ⟨h.1, v, rfl, h.2⟩)
  exact hE
theorem EA.call {F : AFun} {args : List T} {v : T} (h : EA F args v) (hf : ∀ g : Mem, frzL ⟨g, 0⟩ frzDepth args = some (args, [])) : ∃ N, ∀ k, N ≤ k → ∀ g, callPure (ev ap k) F args g = some ⟨v, [], []⟩ := by
  obtain ⟨N, hN⟩ := h
  refine ⟨N, fun k hk g => callPure_imm (hf g) ?_⟩
  have := hN (k - N)
  rwa [Nat.sub_add_cancel hk] at this
theorem qPOP : ap 38 = some f38 := rfl
theorem rPOP : f38.pure = false := rfl
theorem sPOP : f38.nat = none := rfl
theorem sb_pop (f : Bool) (s : Sb) (l : List Sb) (hl20 : (s :: l).length ≤ 1000) : EA f38 [.imm f (s :: l).length ((s :: l).flatMap Sb.enc)] (.tup [.imm true l.length (l.flatMap Sb.enc), .agg s.enc, .bool true]) := by
  refine EA_body (F := f38) ?_
  generalize hs0 : (_ : List T) ++ List.replicate _ T.undef = s0
  have e0 : s0.length = 18 ∧ rho s0 (.tmp 0) = .imm f (s :: l).length ((s :: l).flatMap Sb.enc) := by subst hs0; exact ⟨rfl, rfl⟩
  clear hs0
  obtain ⟨hl, h0⟩ := e0
  have hcell := sb_cells (s :: l)
  have hlen1 : (s :: l).length = l.length + 1 := rfl
  have hc1 : cut ((s :: l).flatMap Sb.enc) (1 * 3) ((l.length + 1 - 1) * 3) = l.flatMap Sb.enc := by
    unfold cut
    rw [List.flatMap_cons, List.drop_left' (by rfl), List.take_of_length_le (by rw [sb_cells]; omega)]
  have hc0 : cut ((s :: l).flatMap Sb.enc) (0 * 3) 3 = s.enc := by
    unfold cut
    rw [List.flatMap_cons, Nat.zero_mul, List.drop_zero, List.take_left' (by rfl)]
  rw [hlen1] at h0 hcell
  have e1 : (((l.length + 1 : Nat) : Int) == 0) = false := by simp; omega
  have hb0 : 0 < l.length + 1 := by omega
  have hb1 : 1 ≤ l.length + 1 := by omega
  have hb3 : 0 * 3 + 3 ≤ (l.length + 1) * 3 := by omega
  have hsl : s.enc.length = 3 := rfl
  have hsf : allLeaf s.enc = true := rfl
  have hsp : splice [T.int .u32 0, T.int .u32 0, T.int .i64 0] 0 s.enc = s.enc := rfl
  have hcs : cut s.enc 0 3 = s.enc := rfl
  have hst := sb_still l
  have hss : s.enc.all still1 = true := rfl
  have hlx : l.length + 1 - 1 = l.length := by omega
  have hbe : (l.length == l.length) = true := by simp
  rw [hlx] at hc1
  generalize (s :: l).flatMap Sb.enc = cc at *
  generalize l.flatMap Sb.enc = lc at *
  generalize s.enc = se at *
  refine W_seqn (W_region (fun k => by simp +decide (disch := first | omega | simp +decide [hl]) only [s9, simprocAttr]; rfl) ⟨rfl, ?_⟩)
  refine W_seqn (W_seqn (W_region (fun k => by simp +decide (disch := first | omega | simp +decide [hl]) only [s9, simprocAttr, h0, e1]; rfl) ⟨rfl, W_fls (W_skip ⟨rfl, ?_⟩)⟩))
  refine W_seqn (W_region (fun k => by simp +decide (disch := first | omega | simp +decide [hl]) only [s9, simprocAttr, h0, hcell, hc1, hc0, hb0, hb1, hb3, hsl, hsf, hsp, hlx, Nat.le_refl, Option.map_some, Option.isSome]; rfl) ⟨rfl, W_ret ?_⟩)
  refine ⟨rfl, .tup [.imm true l.length lc, .agg se, .bool true], [], ?_, ?_⟩
  · simp only [resT, resL, resOne, show f38.res = [.tmp 2, .cell 3 false 3, .tmp 4] from rfl]
    simp +decide (disch := first | omega | simp +decide [hl]) only [s9, simprocAttr, hcs, hsl, hbe]
    try rfl
  · refine frz_tup ?_
    simp only [frzAll, frzM11, frzB11, frzA11 hss, List.append_nil]
def CorX (cs : List T) (f : Bool) (l : List Sb) (wt ml : Int) : Prop := cs.length = 112 ∧ cs.all still1 = true ∧ cs[107]? = some (.imm f l.length (l.flatMap Sb.enc)) ∧ cs[110]? = some (.int .i64 wt) ∧ (-9223372036854775808 ≤ wt ∧ wt ≤ 9223372036854775807) ∧ cs[18]? = some (.int .i64 ml) ∧ -9223372036854775808 ≤ ml ∧ ml ≤ 9223372036854775807
theorem all_set {l : List T} (h : l.all still1 = true) (i : Nat) {x : T} (hx : still1 x = true) : (l.set i x).all still1 = true := by
  rw [List.all_eq_true] at h ⊢
  intro y hy
  rcases List.mem_or_eq_of_mem_set hy with h' | rfl
  · exact h y h'
  · exact hx
theorem cor_sb {cs : List T} {f : Bool} {l l' : List Sb} {wt ml : Int} (f' : Bool) (h : CorX cs f l wt ml) : CorX (cs.set 107 (.imm f' l'.length (l'.flatMap Sb.enc))) f' l' wt ml := by
  obtain ⟨h1, h2, _, h4, h4', h5, h5'⟩ := h
  refine ⟨by rw [List.length_set]; exact h1, all_set h2 _ rfl, ?_, ?_, h4', ?_, h5'⟩
  · rw [List.getElem?_set_self (by omega)]
  · rw [List.getElem?_set_ne (by omega)]; exact h4
  · rw [List.getElem?_set_ne (by omega)]; exact h5
theorem cor_wait {cs : List T} {f : Bool} {l : List Sb} {wt ml : Int} (h : CorX cs f l wt ml) {w : Int} (hw : -9223372036854775808 ≤ w ∧ w ≤ 9223372036854775807) : CorX (cs.set 110 (.int .i64 w)) f l w ml := by
  obtain ⟨h1, h2, h3, h4, h4', h5, h5'⟩ := h
  refine ⟨by rw [List.length_set]; exact h1, all_set h2 _ rfl, ?_, ?_, hw, ?_, h5'⟩
  · rw [List.getElem?_set_ne (by omega)]; exact h3
  · rw [List.getElem?_set_self (by omega)]
  · rw [List.getElem?_set_ne (by omega)]; exact h5
def wrS (m : Coh) (who : Int) (s : Sb) : Coh × Bool := writeM m who s.addr.toNat s.size s.data
theorem zCore_len : zK0.length = 112 := rfl
theorem zCore_leaf : allLeaf zK0 = true := rfl
theorem qCWR : ap 39 = some f39 := rfl
theorem rCWR : f39.pure = true := rfl
theorem sCWR : f39.nat = none := rfl
theorem qDWR : ap 16 = some f16 := rfl
theorem rDWR : f16.pure = false := rfl
theorem sDWR : f16.nat = none := rfl
theorem drain_write {m : Coh} (hok : Ok m) {x y : T} (hlx : Lax m x y) (who : Int) (cs : List T) (s : Sb) (hs : s.wf) (l : List Sb) (f : Bool) (wt ml : Int) (hc : CorX cs f (s :: l) wt ml) (hl20 : (s :: l).length ≤ 1000) :
    ∃ x' y', EA f16 [.agg cs, .agg [x, y], .int .i64 who] (.tup [.agg (cs.set 107 (.imm true l.length (l.flatMap Sb.enc))), .agg [x', y'], .int .u32 ((s.addr.toNat / 16 : Nat) : Int), .bool (wrS m who s).2]) ∧ Lax (wrS m who s).1 x' y' := by
  have ha := wf_u32 hs.1
  have hd := wf_u32 hs.2.1
  obtain ⟨ad, ea⟩ : ∃ ad : Nat, s.addr = (ad : Int) := ⟨s.addr.toNat, by omega⟩
  have had : ad ≤ 4294967295 := by omega
  have hw : wrS m who s = writeM m who ad s.size s.data := by unfold wrS; rw [ea, Int.toNat_natCast]
  obtain ⟨N, x', y', hlx', q⟩ := write_lax hok hlx who ad had s.size s.data hd
  have q := q N (Nat.le_refl _)
  obtain ⟨NP, qP⟩ : ∃ N, ∀ k, N ≤ k → ∀ g f, callPure (ev ap k) f38 [.imm f (s :: l).length ((s :: l).flatMap Sb.enc)] g = some ⟨.tup [.imm true l.length (l.flatMap Sb.enc), .agg s.enc, .bool true], [], []⟩ := by
    obtain ⟨N1, q1⟩ := (sb_pop true s l hl20).call (fun g => rfl)
    obtain ⟨N2, q2⟩ := (sb_pop false s l hl20).call (fun g => rfl)
    refine ⟨N1 + N2, fun k hk g f => ?_⟩
    cases f
    · exact q2 k (by omega) g
    · exact q1 k (by omega) g
  obtain ⟨NL, qL⟩ := (line_of ad had).call ap40 (fun g => rfl)
  have qL := qL NL (Nat.le_refl _)
  obtain ⟨hlen, hst, c107, _⟩ := hc
  have qP := qP NP (Nat.le_refl _)
  have qP := fun g => qP g f
  have hse : s.enc = [.int .u32 (ad : Int), .int .u32 s.data, .int .i64 s.size] := by show [T.int .u32 s.addr] ++ ([T.int .u32 s.data] ++ [T.int .i64 s.size]) = _; rw [ea]; rfl
  rw [hse] at qP
  rw [hw, ea, Int.toNat_natCast]
  refine ⟨x', y', ?_, hlx'⟩
  have hleaf := still_leaf hst
  have hlf := lax_leaf hlx
  have hlf' := lax_leaf hlx'
  have hstill' : ∀ d, d ∈ [x', y'] → still1 d = true := by
    obtain ⟨f1, n1, c1, f2, n2, c2, rfl, rfl⟩ := lax_frz hlx'
    intro d hd
    simp only [List.mem_cons, List.not_mem_nil, or_false] at hd
    rcases hd with rfl | rfl <;> rfl
  generalize (writeM m who ad s.size s.data).2 = wb at *
  generalize (writeM m who ad s.size s.data).1 = m' at *
  have hcut : ∀ x y : T, cut [x, y] 0 2 = [x, y] := fun _ _ => rfl
  have hcc : ∀ c : List T, c.length = 112 → cut c 0 112 = c := fun c h => cut_all h
  have hsp2 : ∀ x y x' y' : T, splice [x, y] 0 [x', y'] = [x', y'] := fun _ _ _ _ => rfl
  have hsp3 : ∀ a b c a' b' c' : T, splice [a, b, c] 0 [a', b', c'] = [a', b', c'] := fun _ _ _ _ _ _ => rfl
  have hspz : ∀ c : List T, c.length = 112 → splice zK0 0 c = c := fun c h => splice_all (by rw [h]; rfl)
  have hlf3 : allLeaf [T.int .u32 (ad : Int), T.int .u32 s.data, T.int .i64 s.size] = true := rfl
  have hzl := zCore_len
  have hzf := zCore_leaf
  have hst' : (cs.set 107 (.imm true l.length (l.flatMap Sb.enc))).all still1 = true := all_set hst _ rfl
  have hlen' : (cs.set 107 (.imm true l.length (l.flatMap Sb.enc))).length = 112 := by rw [List.length_set]; exact hlen
  have hleaf' := still_leaf hst'
  generalize l.flatMap Sb.enc = lc at *
  generalize hsv : (s :: l).flatMap Sb.enc = sv at *
  generalize (s :: l).length = sn at *
  have hcc1 := hcc cs hlen
  have hcc2 := hcc _ hlen'
  have hspz2 := hspz _ hlen'
  generalize hcs' : cs.set 107 (.imm true l.length lc) = cs' at *
  refine EA_body (F := f16) ?_
  have hbody : f16.body = f16.body := rfl
  conv at hbody => rhs; rw [f16]
  rw [hbody]
  clear hbody
  generalize hs0 : (_ : List T) ++ List.replicate _ T.undef = s0
  have e0 : s0.length = 41 ∧ rho s0 (.tmp 0) = .agg cs ∧ rho s0 (.tmp 1) = .agg [x, y] ∧ rho s0 (.tmp 2) = .int .i64 who := by subst hs0; exact ⟨rfl, rfl, rfl, rfl⟩
  clear hs0
  obtain ⟨hl, h0, h1, h2⟩ := e0
  generalize zK0 = zc at *
  refine W_cut (fun t => t.s.length = 41 ∧ rho t.s (.tmp 2) = .int .i64 who ∧ rho t.s (.tmp 3) = .ptr 0 0 ∧ rho t.s (.tmp 4) = .ptr 1 0 ∧ rho t.s (.tmp 6) = .ptr 2 0 ∧ rho t.s (.tmp 7) = .ptr 3 0 ∧ t.g 0 = some cs ∧ t.g 1 = some [x, y] ∧ t.g 2 = some zc ∧ t.g 3 = some [.imm true 0 [], .imm true 0 []] ∧ t.nx = 6) (W_region (fun k => by simp +decide (disch := first | omega | simp +decide [hl]) only [s9, simprocAttr, h0, h1, hleaf, hlf, hzf]; rfl) ⟨rfl, ?_⟩) ?_
  · refine ⟨?_, ?_, ?_, ?_, ?_, ?_, ?_, ?_, ?_, ?_, rfl⟩ <;> simp +decide (disch := first | omega | simp +decide [hl]) only [s9, simprocAttr, hl, h2]
  clear hl h0 h1 h2
  rintro ⟨ss, gg, nx⟩ ⟨hl, h2, h3, h4, h6, h7, g0, g1, g2, g3, hnx⟩
  simp only at hl h2 h3 h4 h6 h7 g0 g1 g2 g3 hnx
  subst hnx
  refine W_cut (fun t => t.s.length = 41 ∧ rho t.s (.tmp 2) = .int .i64 who ∧ rho t.s (.tmp 3) = .ptr 0 0 ∧ rho t.s (.tmp 4) = .ptr 1 0 ∧ rho t.s (.tmp 6) = .ptr 2 0 ∧ rho t.s (.tmp 7) = .ptr 3 0 ∧ rho t.s (.tmp 10) = .imm true l.length lc ∧ rho t.s (.tmp 11) = .ptr 13 0 ∧ t.g 0 = some cs ∧ t.g 1 = some [x, y] ∧ t.g 2 = some zc ∧ t.g 3 = some [.imm true 0 [], .imm true 0 []] ∧ t.g 13 = some [.int .u32 (ad : Int), .int .u32 s.data, .int .i64 s.size]) (W_regionN ⟨NP, by simp +decide (disch := first | omega | simp +decide [hl]) only [s9, simprocAttr, h3, g0, hlen, c107, hlf3, hsp3, qPOP, rPOP, sPOP, T.still, still1, List.all_cons, List.all_nil, qP]; rfl⟩ ⟨rfl, ?_⟩) ?_
  · refine ⟨?_, ?_, ?_, ?_, ?_, ?_, ?_, ?_, ?_, ?_, ?_, ?_, ?_⟩ <;> simp +decide (disch := first | omega | simp +decide [hl]) only [s9, simprocAttr, hl, h2, h3, h4, h6, h7, g0, g1, g2, g3]
  clear hl h2 h3 h4 h6 h7 g0 g1 g2 g3
  rintro st ⟨hl, h2, h3, h4, h6, h7, h10, h11, g0, g1, g2, g3, g13⟩
  refine W_cut (fun t => t.s.length = 41 ∧ rho t.s (.tmp 2) = .int .i64 who ∧ rho t.s (.tmp 3) = .ptr 0 0 ∧ rho t.s (.tmp 4) = .ptr 1 0 ∧ rho t.s (.tmp 6) = .ptr 2 0 ∧ rho t.s (.tmp 7) = .ptr 3 0 ∧ rho t.s (.tmp 11) = .ptr 13 0 ∧ t.g 0 = some cs' ∧ t.g 1 = some [x, y] ∧ t.g 2 = some zc ∧ t.g 3 = some [.imm true 0 [], .imm true 0 []] ∧ t.g 13 = some [.int .u32 (ad : Int), .int .u32 s.data, .int .i64 s.size]) (W_region (fun k => by simp +decide (disch := first | omega | simp +decide [hl]) only [s9, simprocAttr, h3, h10, g0, hlen, hcs']; rfl) ⟨rfl, ?_⟩) ?_
  · refine ⟨?_, ?_, ?_, ?_, ?_, ?_, ?_, ?_, ?_, ?_, ?_, ?_⟩ <;> simp +decide (disch := first | omega | simp +decide [hl]) only [s9, simprocAttr, hl, h2, h3, h4, h6, h7, h11, g0, g1, g2, g3, g13, hcs']
  clear hl h2 h3 h4 h6 h7 h10 h11 g0 g1 g2 g3 g13
  rintro st ⟨hl, h2, h3, h4, h6, h7, h11, g0, g1, g2, g3, g13⟩
  refine W_cut (fun t => t.s.length = 41 ∧ rho t.s (.tmp 3) = .ptr 0 0 ∧ rho t.s (.tmp 4) = .ptr 1 0 ∧ rho t.s (.tmp 6) = .ptr 2 0 ∧ rho t.s (.tmp 7) = .ptr 3 0 ∧ rho t.s (.tmp 11) = .ptr 13 0 ∧ rho t.s (.tmp 13) = .bool wb ∧ t.g 0 = some cs' ∧ t.g 1 = some [x', y'] ∧ t.g 2 = some zc ∧ t.g 3 = some [.imm true 0 [], .imm true 0 []] ∧ t.g 13 = some [.int .u32 (ad : Int), .int .u32 s.data, .int .i64 s.size]) (W_regionN ⟨N, by simp +decide (disch := first | omega | simp +decide [hl]) only [s9, simprocAttr, h2, h4, h11, g1, g13, hcut, hsp2, hlf', qCWR, rCWR, sCWR, q]; rfl⟩ ⟨rfl, ?_⟩) ?_
  · refine ⟨?_, ?_, ?_, ?_, ?_, ?_, ?_, ?_, ?_, ?_, ?_, ?_⟩ <;> simp +decide (disch := first | omega | simp +decide [hl]) only [s9, simprocAttr, hl, h3, h4, h6, h7, h11, g0, g1, g2, g3, g13, hsp2]
  clear hl h2 h3 h4 h6 h7 h11 g0 g1 g2 g3 g13
  rintro st ⟨hl, h3, h4, h6, h7, h11, h13, g0, g1, g2, g3, g13⟩
  refine W_seqn (W_regionN ⟨NL, by simp +decide (disch := first | omega | simp +decide [hl]) only [s9, simprocAttr, h3, h4, h6, h7, h11, h13, g0, g1, g2, g3, g13, hcut, hsp2, hlf', hlen', hcc2, hspz2, hzl, hleaf', ap40, p40, n40, qL]; rfl⟩ ⟨rfl, W_ret ?_⟩)
  refine ⟨rfl, .tup [.agg cs', .agg [x', y'], .int .u32 ((ad / 16 : Nat) : Int), .bool wb], [], ?_, ?_⟩
  · simp only [resT, resL, resOne, show f16.res = [.cell 6 false 112, .cell 7 false 2, .tmp 8, .tmp 9] from rfl]
    simp +decide (disch := first | omega | simp +decide [hl]) only [s9, simprocAttr, h6, h7, hcc2, hlen', hcut]
    try rfl
  · refine frz_tup ?_
    have e2 : ([x', y'] : List T).all still1 = true := List.all_eq_true.mpr hstill'
    simp only [frzAll, frzA11 hst', frzA11 e2, frzI11, frzB11, List.append_nil]
end Go.Proofs.YtabfinhkoihhfaaGreat.Abs
