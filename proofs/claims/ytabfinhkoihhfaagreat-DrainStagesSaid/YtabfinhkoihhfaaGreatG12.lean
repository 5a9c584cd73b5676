/- Words of other seats' texts, as they are used here: Bdo4 Bdo5. -/
import Derived.Test.YtabfinhkoihhfaaGreatG11
namespace Go.Proofs.YtabfinhkoihhfaaGreat.Abs
open Go Go.RowKit Fn
set_option linter.unusedVariables false
set_option linter.unusedSimpArgs false
set_option linter.unnecessarySimpa false
set_option maxRecDepth 100000
set_option maxHeartbeats 4000000

def bdInc : ACode := match bdLoop with | .seq _ (.seq _ (.seq _ c)) => c | _ => .skip
theorem bd_loop (m : Coh) (hok : Ok m) (who kind : Int) (hk : kind = 1 ∨ kind = 2 ∨ kind = 3) (ln : Nat) (hln : ln ≤ 4294967295) (hlies : ln * 16 + 16 ≤ m.mem.length) (Q : AExit → St → Prop)
    (hQ : ∀ st x y, BdF who kind ln m.caches.length m.caches.length st x y → CohAt (PN st) st.g x y (snoopN who kind ln m m.caches.length) → Q (.exit 0) st) :
    ∀ (k : Nat) (st : St), (∃ (i : Nat) (x y : T), BdF who kind ln m.caches.length i st x y ∧ CohAt (PN st) st.g x y (snoopN who kind ln m i) ∧ i ≤ m.caches.length ∧ k = m.caches.length - i) → W ap (.loop bdLoop) st Q := by
  refine W_loop _ ?_
  rintro k st ⟨i, x, y, hF, hC, hi, hkk⟩
  have hF0 := hF
  obtain ⟨hl, h1, h3, h5, h6, h48, h49, g0, g1, g2, hnx⟩ := hF
  have hm4 := hok.2.2.1
  by_cases hend : i = m.caches.length
  · have hlt : decide ((i : Int) < (m.caches.length : Int)) = false := decide_eq_false (by omega)
    refine W_seqn (W_region (fun k => by simp +decide (disch := first | omega | simp +decide [hl]) only [s9, simprocAttr, h48, h49, hlt]; rfl) ⟨rfl, ?_⟩)
    refine W_seq (W_fls (W_exit (.inr ⟨by simp, .inr ⟨by simp, hQ _ x y ⟨?_, ?_, ?_, ?_, ?_, ?_, ?_, ?_, ?_, ?_, by show 3 ≤ st.nx + 1; omega⟩ ?_⟩⟩)))
    iterate 6 (· simp +decide (disch := first | omega | simp +decide [hl]) only [s9, simprocAttr, hl, h1, h3, h5, h6, h48])
    · rw [← hend]
      simp +decide (disch := first | omega | simp +decide [hl]) only [s9, simprocAttr, h49]
    iterate 3 (· simp +decide (disch := first | omega | simp +decide [hl]) only [s9, simprocAttr, g0, g1, g2])
    · rw [← hend]
      exact hC.mono (fun t h => ⟨h.1, by show t < st.nx + 1; have := h.2; omega⟩) (fun _ _ => rfl)
  · have hlt : decide ((i : Int) < (m.caches.length : Int)) = true := decide_eq_true (by omega)
    have hw2 : IntKind.i64.wrap ((i : Int) + 1) = ((i + 1 : Nat) : Int) := by rw [wrap_id (by omega)]; omega
    have hsl := snoopN_len who kind ln m i
    refine W_seqn (W_region (fun k => by simp +decide (disch := first | omega | simp +decide [hl]) only [s9, simprocAttr, h48, h49, hlt]; rfl) ⟨rfl, ?_⟩)
    refine W_seqn (W_tru (W_skip ⟨rfl, ?_⟩))
    have hinc : ∀ st' x' y', BdF who kind ln m.caches.length i st' x' y' → CohAt (PN st') st'.g x' y' (snoopN who kind ln m (i + 1)) → W ap bdInc st' (fun e s' => (e = .normal ∧ ∃ mm, mm < k ∧ ∃ (i : Nat) (x y : T), BdF who kind ln m.caches.length i s' x y ∧ CohAt (PN s') s'.g x y (snoopN who kind ln m i) ∧ i ≤ m.caches.length ∧ mm = m.caches.length - i) ∨ (e ≠ .normal ∧ Q e s')) := by
      rintro st' x' y' ⟨hl, h1, h3, h5, h6, h48, h49, g0, g1, g2, hnx⟩ hC
      refine W_region (fun k => by simp +decide (disch := first | omega | simp +decide [hl]) only [s9, simprocAttr, h49, hw2]; rfl) (.inl ⟨rfl, m.caches.length - (i + 1), by omega, i + 1, x', y', ⟨?_, ?_, ?_, ?_, ?_, ?_, ?_, ?_, ?_, ?_, ?_⟩, ?_, by omega, rfl⟩)
      iterate 10 (· simp +decide (disch := first | omega | simp +decide [hl]) only [s9, simprocAttr, hl, h1, h3, h5, h6, h48, g0, g1, g2])
      · show 3 ≤ st'.nx + 2
        omega
      · exact hC.mono (fun t h => ⟨h.1, by show t < st'.nx + 2; have := h.2; omega⟩) (fun _ _ => rfl)
    refine W_seqn (W_block (W_abs (fun z => BdF who kind ln m.caches.length i z x y ∧ CohAt (PN z) z.g x y (snoopN who kind ln m i)) ⟨⟨?_, ?_, ?_, ?_, ?_, ?_, ?_, ?_, ?_, ?_, by show 3 ≤ st.nx + 1; omega⟩, hC.mono (fun t h => ⟨h.1, by show t < st.nx + 1; have := h.2; omega⟩) (fun _ _ => rfl)⟩ (fun z ⟨hFz, hCz⟩ => bd_blk _ (ok_snoopN hok who kind ln i hi) who kind hk ln _ hln (by rw [hsl.2]; exact hlies) i (by rw [hsl.1]; omega) z x y hFz hCz _ (fun e st' x' y' he hF' hC' => ?_))))
    iterate 10 (· simp +decide (disch := first | omega | simp +decide [hl]) only [s9, simprocAttr, hl, h1, h3, h5, h6, h48, h49, g0, g1, g2])
    have hfin := hinc st' x' y' hF' hC'
    rcases he with rfl | rfl
    · exact .inr (.inl ⟨by simp, rfl, hfin⟩)
    · exact .inl ⟨rfl, rfl, hfin⟩
def BdT (who kind : Int) (ln : Nat) (st : St) (x y : T) : Prop := st.s.length = 163 ∧ rho st.s (.tmp 1) = .int .i64 who ∧ rho st.s (.tmp 3) = .ptr 0 0 ∧ rho st.s (.tmp 5) = .ptr 1 0 ∧ rho st.s (.tmp 6) = .ptr 2 0 ∧ st.g 0 = some [x, y] ∧ st.g 1 = some [.int .i64 kind, .int .u32 (ln : Int)] ∧ st.g 2 = some [.imm true 0 [], .imm true 0 []] ∧ 3 ≤ st.nx
def bdRest : ACode := match f64.body with | .seq _ (.seq _ (.seq _ (.seq _ c))) => c | _ => .skip
def bdMine : ACode := match bdRest with | .seq _ (.seq (.seq _ (.cond _ c _)) _) => c | _ => .skip
def bdFill : ACode := match bdRest with | .seq _ (.seq _ c) => c | _ => .skip
def DoEnd (n : Coh) (e : AExit) (st : St) : Prop := e.leaves = true ∧ ∃ v, UpT (.agg n.enc) v ∧ ∃ u ids, resT st.s st.g f64.res = some u ∧ frz ⟨st.g, st.nx⟩ frzDepth u = some (v, ids)
theorem bd_mine (m : Coh) (hok : Ok m) (w : Nat) (kind : Int) (ln : Nat) (hln : ln ≤ 4294967295) (nxt : Int) (hw : w < m.caches.length) (st : St) (x y : T) (hF : BdT (w : Int) kind ln st x y) (h11 : rho st.s (.tmp 11) = .int .i64 nxt) (hc : CohAt (PN st) st.g x y m) : W ap bdMine st (fun e s => e ≠ .normal ∧ DoEnd (withC m w (setR (cacheAt m w) ln nxt)) e s) := by
  obtain ⟨hl, h1, h3, h5, h6, g0, g1, g2, hnx⟩ := hF
  obtain ⟨B, ys, ⟨hB1, hB2⟩, rfl, gB, hu, hx⟩ := hc
  obtain ⟨z, hz, hzu, f, a, b, rfl⟩ := cache_cell hu hw
  have hyl := upL_len1 m hu
  obtain ⟨v0, hE, hex⟩ := bus_set_rows (cacheAt m w) (cacheAt_wf hok.1 w hw) (hok.2.2.2 w hw) ln hln nxt
  obtain rfl := ex_setsT _ hex
  obtain ⟨N, v', hv, q⟩ := hE.callU ap92' (args' := [.agg [.imm f a b], .int .u32 (ln : Int), .int .i64 nxt]) (UpL.cons (upT_agg (UpL.cons hzu UpL.nil)) (UpL.refl _))
  obtain ⟨c', rfl, hv2⟩ := hv.agg
  simp only [UpL] at hv2
  obtain ⟨z', _, rfl, hz', rfl⟩ := hv2
  have q := q N (Nat.le_refl _) st.g [.agg [.imm f a b], .int .u32 (ln : Int), .int .i64 nxt] [] rfl
  have hzl : allLeaf [z'] = true := by
    obtain ⟨f', c', rfl, _⟩ := UpT.imm (f := false) (n := (setR (cacheAt m w) ln nxt).length) (c := (setR (cacheAt m w) ln nxt).flatMap (fun l => [rowT l])) hz'
    try rfl
  have hcut := cell_at hz
  have hiy : w < ys.length := by omega
  have hib : w + 1 ≤ ys.length := by omega
  have hcutx : cut [x, .own B 0 ys.length 1] 0 2 = [x, .own B 0 ys.length 1] := rfl
  have hlf : allLeaf [x, .own B 0 ys.length 1] = true := by
    show ([x, T.own B 0 ys.length 1].all T.leaf) = true
    rw [List.all_cons, List.all_cons, hx.leaf]; rfl
  refine W_cut (fun s => s.s.length = 163 ∧ rho s.s (.tmp 3) = .ptr 0 0 ∧ rho s.s (.tmp 6) = .ptr 2 0 ∧ s.g 0 = some [x, .own B 0 ys.length 1] ∧ s.g 2 = some [.imm true 0 [], .imm true 0 []] ∧ CohAt (PN s) s.g x (.own B 0 ys.length 1) (withC m w (setR (cacheAt m w) ln nxt))) (W_regionN ⟨N, by simp +decide (disch := first | omega | simp +decide [hl]) only [s9, simprocAttr, h1, h3, h5, h11, g0, g1, gB, hiy, hib, hcut, ap92', p92', n92', q, ite_self, hzl, Nat.mul_one]; rfl⟩ ⟨rfl, ?_⟩) ?_
  · refine ⟨?_, ?_, ?_, ?_, ?_, ?_⟩
    iterate 5 (· simp +decide (disch := first | omega | simp +decide [hl]) only [s9, simprocAttr, hl, h3, h6, g0, g2])
    refine CohAt.with (P := fun t => 2 < t ∧ t < st.nx + 14) ⟨hB1, by omega⟩ hu (hx.mono (fun t h => ⟨⟨h.1.1, by have := h.1.2; omega⟩, h.2⟩) (fun _ _ => rfl)) w _ hz' ?_ (fun t ht hne => ?_)
    · simp +decide (disch := first | omega | simp +decide [hl]) only [s9, simprocAttr]
    · simp +decide (disch := first | omega | simp +decide [hl]) only [s9, simprocAttr]
  rintro s ⟨hl, h3, h6, g0, g2, hc⟩
  obtain ⟨v, ids, hv, hf⟩ := coh_frz (g := put1 s.g (2, some [x, .own B 0 ys.length 1])) (hc.coh.mono (P' := fun _ => True) (fun _ _ => trivial) (fun t ht => put1_ne (by have := ht.1; omega))) (s.nx + 2)
  refine W_seqn (W_region (fun k => by simp +decide (disch := first | omega | simp +decide [hl]) only [s9, simprocAttr, h3, h6, g0, g2, hcutx, hlf]; rfl) ⟨rfl, W_ret ⟨by simp, rfl, v, hv, .agg [x, .own B 0 ys.length 1], ids, ?_, hf⟩⟩)
  simp only [resT, resL, resOne, show f64.res = [.cell 6 false 2] from rfl]
  simp +decide (disch := first | omega | simp +decide [hl]) only [s9, simprocAttr, h6]
  try rfl
theorem ap95' : ap 95 = some f95 := rfl
theorem p95' : f95.pure = true := rfl
theorem n95' : f95.nat = none := rfl
theorem u8_map (l : List Int) : l.flatMap u8T = l.map (T.int .u8) := by
  induction l with
  | nil => rfl
  | cons a l ih => rw [List.flatMap_cons, ih]; rfl
theorem bytesM_u8 (m : Coh) (ln n : Nat) (h : ln * 16 + 16 ≤ m.mem.length) (hn : n = m.mem.length - ln * 16) : (cut (m.mem.flatMap u8T) (ln * 16) n).take 16 = (bytesM m ln).flatMap u8T := by
  unfold bytesM cut
  rw [u8_map, u8_map, List.map_take, List.map_drop, List.take_take, show min 16 n = 16 by omega]
theorem bytesM_wf {m : Coh} (hm : m.wf) (ln : Nat) : ∀ y ∈ bytesM m ln, (Lit.int .u8 y).wf = true := fun y hy => hm.1.2 y (List.mem_of_mem_drop (List.mem_of_mem_take hy))
theorem frzL_fill2 (f : Bool) (a : Nat) (b : List T) (ln st : Int) (data : List Int) (g : Mem) : frzL ⟨g, 0⟩ frzDepth [.agg [.imm f a b], .int .u32 ln, .int .i64 st, .agg (data.flatMap u8T)] = some ([.agg [.imm f a b], .int .u32 ln, .int .i64 st, .agg (data.flatMap u8T)], []) := by
  have e0 : frz ⟨g, 0⟩ frzDepth (.agg [.imm f a b]) = some (.agg [.imm f a b], []) := rfl
  have e1 : frz ⟨g, 0⟩ frzDepth (.int .u32 ln) = some (.int .u32 ln, []) := rfl
  have e2 : frz ⟨g, 0⟩ frzDepth (.int .i64 st) = some (.int .i64 st, []) := rfl
  have e3 : frz ⟨g, 0⟩ frzDepth (.agg (data.flatMap u8T)) = some (.agg (data.flatMap u8T), []) := by
    show frz ⟨g, 0⟩ (11 + 1) _ = _
    rw [frz]
    simp only [frzAll_int (d := 10) _ (u8_ints data)]
  unfold frzL
  simp only [frzAll, e0, e1, e2, e3, List.append_nil]
theorem zeros_u8 : ∃ Z : List Int, List.replicate 16 (T.int .u8 0) = Z.flatMap u8T ∧ Z.length = 16 := ⟨List.replicate 16 0, rfl, rfl⟩
theorem bd_fill (m : Coh) (hok : Ok m) (w : Nat) (kind : Int) (ln : Nat) (hln : ln ≤ 4294967295) (hlies : ln * 16 + 16 ≤ m.mem.length) (nxt : Int) (hw : w < m.caches.length) (st : St) (x y : T) (hF : BdT (w : Int) kind ln st x y) (h11 : rho st.s (.tmp 11) = .int .i64 nxt) (hc : CohAt (PN st) st.g x y m) : W ap bdFill st (fun e s => DoEnd (backM (withC m w (fillR (cacheAt m w) ln nxt (bytesM m ln)).1) (fillR (cacheAt m w) ln nxt (bytesM m ln)).2) e s) := by
  obtain ⟨hl, h1, h3, h5, h6, g0, g1, g2, hnx⟩ := hF
  obtain ⟨B, ys, ⟨hB1, hB2⟩, rfl, gB, hu, hx⟩ := hc
  obtain ⟨Z, hZ, hZl⟩ := zeros_u8
  have hZf := u8_leaf Z
  have hZm := u8_len Z
  refine W_cut (fun s => (∃ p, st.nx ≤ p ∧ p < s.nx ∧ rho s.s (.tmp 12) = .ptr p 0 ∧ s.g p = some (Z.flatMap u8T)) ∧ rho s.s (.tmp 11) = .int .i64 nxt ∧ BdT (w : Int) kind ln s x (.own B 0 ys.length 1) ∧ (∀ t, t < st.nx → s.g t = st.g t)) (W_region (fun k => by simp +decide (disch := first | omega | simp +decide [hl]) only [s9, simprocAttr, hZ, hZf]; rfl) ⟨rfl, ?_⟩) ?_
  · refine ⟨⟨st.nx, by omega, by show st.nx < st.nx + 1; omega, ?_, ?_⟩, ?_, ⟨?_, ?_, ?_, ?_, ?_, ?_, ?_, ?_, by show 3 ≤ st.nx + 1; omega⟩, fun t ht => ?_⟩ <;> simp +decide (disch := first | omega | simp +decide [hl]) only [s9, simprocAttr, hl, h1, h3, h5, h6, h11, g0, g1, g2]
  clear hl h1 h3 h5 h6 h11 g0 g1 g2
  rintro s ⟨⟨p, hp1, hp2, h12, gp⟩, h11, ⟨hl, h1, h3, h5, h6, g0, g1, g2, hnx2⟩, hg⟩
  have hbl := bytesM_len m ln hlies
  have hDl := u8_len (bytesM m ln)
  have hDf := u8_leaf (bytesM m ln)
  have hMl := u8_len m.mem
  have hK := bytesM_u8 m ln _ hlies rfl
  have hKl : (cut (m.mem.flatMap u8T) (ln * 16) (m.mem.length - ln * 16)).length = m.mem.length - ln * 16 := by
    unfold cut; rw [List.length_take, List.length_drop]; omega
  have hKf : allLeaf (cut (m.mem.flatMap u8T) (ln * 16) (m.mem.length - ln * 16)) = true := by
    have := u8_leaf m.mem
    unfold allLeaf at this ⊢
    rw [List.all_eq_true] at this ⊢
    exact fun z hz => this z (List.mem_of_mem_drop (List.mem_of_mem_take hz))
  have hsp : splice (Z.flatMap u8T) 0 ((bytesM m ln).flatMap u8T) = (bytesM m ln).flatMap u8T := splice_all (by omega)
  have w1 : IntKind.i64.wrap (ln : Int) = (ln : Int) := wrap_id (by omega)
  have w2 : IntKind.i64.wrap ((ln : Int) * 16) = ((ln * 16 : Nat) : Int) := by rw [wrap_id (by omega)]; omega
  have a1 : ln * 16 ≤ m.mem.length := by omega
  have a2 : min (m.mem.length - ln * 16) 16 = 16 := by omega
  have a3 : ln * 16 + (m.mem.length - ln * 16) ≤ m.mem.length := by omega
  have a4 : (Z.flatMap u8T).length = 16 := by omega
  have a5 : (m.mem.length - ln * 16 = (m.mem.length - ln * 16) * 1) = True := by simp
  refine W_cut (fun s' => rho s'.s (.tmp 12) = .ptr p 0 ∧ s'.g p = some ((bytesM m ln).flatMap u8T) ∧ rho s'.s (.tmp 11) = .int .i64 nxt ∧ BdT (w : Int) kind ln s' x (.own B 0 ys.length 1) ∧ (∀ t, t < st.nx → s'.g t = st.g t) ∧ s.nx ≤ s'.nx) ?_ ?_
  · rcases hx with ⟨f, rfl⟩ | ⟨A, ⟨⟨hA1, hA2⟩, hAB⟩, rfl, gA⟩
    · refine W_region (fun k => by simp +decide (disch := first | omega | simp +decide [hl]) only [s9, simprocAttr, h3, h5, h12, g0, g1, gp, w1, w2, hMl, a1, a2, a4, a5, hK, hKl, hKf, hsp, cellsOf, Nat.le_refl, Nat.mul_one, Nat.sub_zero, Option.map_some, Option.map_none]; rfl) ⟨rfl, ?_⟩
      refine ⟨?_, ?_, ?_, ⟨?_, ?_, ?_, ?_, ?_, ?_, ?_, ?_, by show 3 ≤ s.nx + 9; omega⟩, fun t ht => ?_, by show s.nx ≤ s.nx + 9; omega⟩ <;> simp +decide (disch := first | omega | simp +decide [hl]) only [s9, simprocAttr, hl, h1, h3, h5, h6, h11, h12, g0, g1, g2, hMl]
      exact hg t ht
    · have gA := (hg A hA2).trans gA
      refine W_region (fun k => by simp +decide (disch := first | omega | simp +decide [hl]) only [s9, simprocAttr, h3, h5, h12, g0, g1, gp, gA, w1, w2, hMl, a1, a2, a3, a4, a5, hK, hKl, hKf, hsp, cellsOf, Nat.le_refl, Nat.mul_one, Nat.sub_zero, Option.map_some, Option.map_none]; rfl) ⟨rfl, ?_⟩
      refine ⟨?_, ?_, ?_, ⟨?_, ?_, ?_, ?_, ?_, ?_, ?_, ?_, by show 3 ≤ s.nx + 9; omega⟩, fun t ht => ?_, by show s.nx ≤ s.nx + 9; omega⟩ <;> simp +decide (disch := first | omega | simp +decide [hl]) only [s9, simprocAttr, hl, h1, h3, h5, h6, h11, h12, g0, g1, g2, hMl]
      exact hg t ht
  clear hl h1 h3 h5 h6 h11 h12 g0 g1 g2 gp hsp hZf hK hKl hKf a5 a4 hZm
  rintro s' ⟨h12, gp, h11, ⟨hl, h1, h3, h5, h6, g0, g1, g2, hnx3⟩, hg, hnn⟩
  have gB' := (hg B hB2).trans gB
  obtain ⟨z, hz, hzu, f, a, b, rfl⟩ := cache_cell hu hw
  have hyl := upL_len1 m hu
  have hbd : (bytesM m ln).length = 16 ∧ ∀ y ∈ bytesM m ln, (Lit.int .u8 y).wf = true := ⟨hbl, bytesM_wf hok.1 ln⟩
  obtain ⟨u0, hE, hex⟩ := bus_fill (cacheAt m w) (cacheAt_wf hok.1 w hw) (hok.2.2.2 w hw) ln hln nxt (bytesM m ln) hbd
  obtain rfl := ex_setsT _ hex
  obtain ⟨hfit, hgw⟩ := fit_fillR (hok.2.2.2 w hw) ln hln nxt (bytesM m ln) hbd
  obtain ⟨N, v', hv, q⟩ := hE.callU ap95' (args' := [.agg [.imm f a b], .int .u32 (ln : Int), .int .i64 nxt, .agg (dataT (bytesM m ln))]) (UpL.cons (upT_agg (UpL.cons hzu UpL.nil)) (UpL.refl _))
  generalize hFe : fillR (cacheAt m w) ln nxt (bytesM m ln) = F at *
  obtain ⟨c', rfl, hv2⟩ := hv.tup
  simp only [UpL] at hv2
  obtain ⟨u', _, rfl, hu', v2, _, rfl, hv3, rfl⟩ := hv2
  obtain rfl := way_up F.2 _ hv3
  obtain ⟨c2, rfl, hu2⟩ := hu'.agg
  simp only [UpL] at hu2
  obtain ⟨z', _, rfl, hz', rfl⟩ := hu2
  have q := q N (Nat.le_refl _) s'.g [.agg [.imm f a b], .int .u32 (ln : Int), .int .i64 nxt, .agg ((bytesM m ln).flatMap u8T)] [] (frzL_fill2 f a b (ln : Int) nxt (bytesM m ln) s'.g)
  have hzl : allLeaf [z'] = true := by
    obtain ⟨f', c', rfl, _⟩ := UpT.imm (f := false) (n := F.1.length) (c := F.1.flatMap (fun l => [rowT l])) hz'
    try rfl
  have hgl := leaf_ints _ (way_ints F.2)
  have hglen := way_len hgw
  have hgz : splice zeroW.enc 0 F.2.enc = F.2.enc := splice_all (by rw [hglen]; rfl)
  have hzzf := leaf_ints _ (way_ints zeroW)
  have hzzl : zeroW.enc.length = 19 := rfl
  have hcut := cell_at hz
  have hiy : w < ys.length := by omega
  have hib : w + 1 ≤ ys.length := by omega
  have hDc : cut ((bytesM m ln).flatMap u8T) 0 16 = (bytesM m ln).flatMap u8T := cut_all (by omega)
  have hD16 : 16 ≤ ((bytesM m ln).flatMap u8T).length := by omega
  have hze := zero_enc
  refine W_cut (fun r => (∃ p81 p90014, st.nx ≤ p81 ∧ p81 < r.nx ∧ st.nx ≤ p90014 ∧ p90014 < r.nx ∧ rho r.s (.tmp 13) = .ptr p81 0 ∧ rho r.s (.tmp 14) = .ptr p90014 0 ∧ r.g p81 = some [z'] ∧ r.g p90014 = some F.2.enc) ∧ BdT (w : Int) kind ln r x (.own B 0 ys.length 1) ∧ (∀ t, t < st.nx → r.g t = st.g t)) (W_regionN ⟨N, by rw [← hze]; simp +decide (disch := first | omega | simp +decide [hl]) only [s9, simprocAttr, h1, h3, h5, h11, h12, g0, g1, gB', gp, hiy, hib, hcut, ap95', p95', n95', q, ite_self, hzl, Nat.mul_one, hDc, hD16, hgl, hglen, hgz, hzzf, hzzl, Nat.le_refl]; rfl⟩ ⟨rfl, ?_⟩) ?_
  · refine ⟨⟨s'.nx + 13, s'.nx + 14, by omega, by show s'.nx + 13 < s'.nx + 17; omega, by omega, by show s'.nx + 14 < s'.nx + 17; omega, ?_, ?_, ?_, ?_⟩, ⟨?_, ?_, ?_, ?_, ?_, ?_, ?_, ?_, by show 3 ≤ s'.nx + 17; omega⟩, fun t ht => ?_⟩ <;> simp +decide (disch := first | omega | simp +decide [hl]) only [s9, simprocAttr, hl, h1, h3, h5, h6, g0, g1, g2]
    exact hg t ht
  clear hl h1 h3 h5 h6 h11 h12 g0 g1 g2 gp gB' q hg
  rintro r ⟨⟨p81, p90014, b1, b2, b3, b4, h13, h14, gz, gw⟩, ⟨hl, h1, h3, h5, h6, g0, g1, g2, hnx4⟩, hg⟩
  have gB' := (hg B hB2).trans gB
  have hcz : cut [z'] 0 1 = [z'] := rfl
  refine W_cut (fun r' => rho r'.s (.tmp 14) = .ptr p90014 0 ∧ r'.g p90014 = some F.2.enc ∧ r.nx ≤ r'.nx ∧ BdT (w : Int) kind ln r' x (.own B 0 ys.length 1) ∧ CohAt (fun t => 2 < t ∧ t < st.nx) r'.g x (.own B 0 ys.length 1) (withC m w F.1)) (W_region (fun k => by simp +decide (disch := first | omega | simp +decide [hl]) only [s9, simprocAttr, h1, h3, h13, g0, gB', gz, hiy, hib, hcz, hzl, Nat.mul_one]; rfl) ⟨rfl, ?_⟩) ?_
  · refine ⟨?_, ?_, by show r.nx ≤ r.nx + 6; omega, ⟨?_, ?_, ?_, ?_, ?_, ?_, ?_, ?_, by show 3 ≤ r.nx + 6; omega⟩, ?_⟩
    iterate 10 (· simp +decide (disch := first | omega | simp +decide [hl]) only [s9, simprocAttr, hl, h1, h3, h5, h6, h14, g0, g1, g2, gw])
    refine CohAt.with (P := fun t => 2 < t ∧ t < st.nx) ⟨hB1, hB2⟩ hu (hx.mono (fun t h => h) (fun t h => hg t h.1.2)) w _ hz' ?_ (fun t ht hne => ?_)
    · simp +decide (disch := first | omega | simp +decide [hl]) only [s9, simprocAttr]
    · exact put1_ne hne
  clear hl h1 h3 h5 h6 h13 h14 g0 g1 g2 gz gw gB'
  rintro r' ⟨h14, gw, hnn2, ⟨hl, h1, h3, h5, h6, g0, g1, g2, hnx5⟩, hC⟩
  have hokW : Ok (withC m w F.1) := ok_with hok hw hfit
  obtain ⟨N3, v3, g3, nx3, q3, x3, rfl, hx3, hg3, hn3⟩ := back_run (withC m w F.1) hokW.1 hokW.2.1 F.2 hgw (w : Int) x (.own B 0 ys.length 1) r'.g (r'.nx + 5) (hC.coh.mono (fun t h => by show t < r'.nx + 5; have := h.2; omega) (fun _ _ => rfl))
  have q3 := q3 N3 (Nat.le_refl _)
  have e2 := (hg3 2 (by omega)).trans g2
  have hso := still_own x B ys.length 1
  have hcutx : cut [x, .own B 0 ys.length 1] 0 2 = [x, .own B 0 ys.length 1] := rfl
  have hcutw : cut F.2.enc 0 19 = F.2.enc := cut_all hglen
  have hlen19 : 19 ≤ F.2.enc.length := by omega
  have hfin : CohIn (fun t => 2 < t) g3 x3 (.own B 0 ys.length 1) (backM (withC m w F.1) F.2) := by
    obtain ⟨k1, ys', k2, k3⟩ := hC.coh
    refine ⟨?_, ys', by rw [backM_caches]; exact k2, k3.mono (fun t h => h.1) (fun t h => hg3 t (by have := h.2; omega))⟩
    rcases hx3 with ⟨rfl, hx3⟩ | ⟨A, a1, a2, a3, a4⟩
    · rw [hx3]
      exact k1.mono (fun t h => h.1) (fun t h => hg3 t (by have := h.2; omega))
    · exact .inr ⟨A, by show 2 < A; omega, a3, a4⟩
  have hlf := hfin.leaf
  obtain ⟨v, ids, hv, hf⟩ := coh_frz (g := put1 g3 (2, some [x3, .own B 0 ys.length 1])) (hfin.mono (P' := fun _ => True) (fun _ _ => trivial) (fun t ht => put1_ne (by have : 2 < t := ht; omega))) nx3
  refine W_seqn (W_regionN ⟨N3, by simp +decide (disch := first | omega | simp +decide [hl]) only [s9, simprocAttr, h1, h3, h6, h14, g0, gw, hcutx, hcutw, hglen, hlen19, ap91, p91, n91, hso, evI, q3, e2, hlf]; rfl⟩ ⟨rfl, W_ret ⟨rfl, v, hv, .agg [x3, .own B 0 ys.length 1], ids, ?_, hf⟩⟩)
  simp only [resT, resL, resOne, show f64.res = [.cell 6 false 2] from rfl]
  simp +decide (disch := first | omega | simp +decide [hl]) only [s9, simprocAttr, h6]
  try rfl
theorem ap94' : ap 94 = some f94 := rfl
theorem p94' : f94.pure = true := rfl
theorem n94' : f94.nat = none := rfl
theorem ap93 : ap 93 = some f93 := rfl
theorem p93 : f93.pure = true := rfl
theorem n93 : f93.nat = none := rfl
theorem doGot_mine {m : Coh} {w : Nat} {kind : Int} {ln : Nat} (h : kind = 3 ∧ (wayOf (cacheAt m w) ln).state ≠ 0) : doGot m (w : Int) kind ln = withC m w (setR (cacheAt m w) ln (gotv kind (sharedN m (w : Int) ln 0 m.caches.length))) := by
  unfold doGot; rw [Int.toNat_natCast, if_pos h]
theorem doGot_fill {m : Coh} {w : Nat} {kind : Int} {ln : Nat} (h : ¬ (kind = 3 ∧ (wayOf (cacheAt m w) ln).state ≠ 0)) : doGot m (w : Int) kind ln = backM (withC m w (fillR (cacheAt m w) ln (gotv kind (sharedN m (w : Int) ln 0 m.caches.length)) (bytesM m ln)).1) (fillR (cacheAt m w) ln (gotv kind (sharedN m (w : Int) ln 0 m.caches.length)) (bytesM m ln)).2 := by
  unfold doGot; rw [Int.toNat_natCast, if_neg h]
theorem bd_rest (m : Coh) (hok : Ok m) (w : Nat) (hw : w < m.caches.length) (kind : Int) (hk : kind = 1 ∨ kind = 2 ∨ kind = 3) (ln : Nat) (hln : ln ≤ 4294967295) (hlies : ln * 16 + 16 ≤ m.mem.length) (st : St) (x y : T) (hF : BdT (w : Int) kind ln st x y) (hc : CohAt (PN st) st.g x y m) : W ap bdRest st (fun e s => DoEnd (doGot m (w : Int) kind ln) e s) := by
  obtain ⟨hl, h1, h3, h5, h6, g0, g1, g2, hnx⟩ := hF
  have hcut : cut [x, y] 0 2 = [x, y] := rfl
  obtain ⟨x', y', hu, ids, hfz, hids⟩ := coh_args hc.coh [] [.int .i64 (w : Int), .int .u32 (ln : Int)] ints_nil (ints_two _ _ _ _)
  obtain ⟨N1, q1⟩ := (bus_shared m hok.1 (w : Int) ln hln).callF ap94' (up_tl hu [] _) (bool_up _) rfl
  have hgm := @doGot_mine m w kind ln
  have hgf := @doGot_fill m w kind ln
  generalize sharedN m (w : Int) ln 0 m.caches.length = sh at *
  obtain ⟨N2, q2⟩ := (bus_got kind sh hk).call ap93 (fun g => rfl)
  have q1 := q1 (N1 + N2) (by omega) st.g _ ids hfz
  have q2 := q2 (N1 + N2) (by omega)
  refine W_cut (fun s => rho s.s (.tmp 11) = .int .i64 (gotv kind sh) ∧ BdT (w : Int) kind ln s x y ∧ s.g = st.g ∧ st.nx ≤ s.nx) (W_regionN ⟨N1 + N2, by simp +decide (disch := first | omega | simp +decide [hl]) only [s9, simprocAttr, h1, h3, h5, g0, g1, hcut, ap94', p94', n94', ap93, p93, n93, q1, q2]; rfl⟩ ⟨rfl, ?_⟩) ?_
  · refine ⟨?_, ⟨?_, ?_, ?_, ?_, ?_, ?_, ?_, ?_, by show 3 ≤ st.nx + 9; omega⟩, rfl, by show st.nx ≤ st.nx + 9; omega⟩ <;> simp +decide (disch := first | omega | simp +decide [hl]) only [s9, simprocAttr, hl, h1, h3, h5, h6, g0, g1, g2]
  clear q1 q2 hfz hids hu
  rintro s ⟨h11, ⟨hl, h1, h3, h5, h6, g0, g1, g2, hnx2⟩, hg, hnn⟩
  have hc' : CohAt (PN s) s.g x y m := hc.mono (fun t h => ⟨h.1, by have := h.2; omega⟩) (fun t _ => by rw [hg])
  obtain ⟨x', y', hu, ids, hfz, hids⟩ := coh_args hc'.coh [.int .u32 (ln : Int)] [.int .i64 (w : Int)] (ints_one _ _) (ints_one _ _)
  obtain ⟨N, q⟩ := (bus_way m hok.1 (w : Int) ln hln).callF ap88 (up_tl hu [.int .u32 (ln : Int)] [.int .i64 (w : Int)]) (way_up _) (way_flat _)
  rw [wayAt_is m w ln hw] at q
  have q := q N (Nat.le_refl _) s.g _ ids hfz
  have hww := wayOf_wf (cacheAt_wf hok.1 w hw) ln
  have hlf := hc'.coh.leaf
  have hxl : fillT [.imm true 0 [], .imm true 0 [], .int .u32 0] [(0, 2, .agg [x, y]), (2, 1, .int .u32 (ln : Int))] = some [x, y, .int .u32 (ln : Int)] := by
    unfold allLeaf at hlf
    simp +decide only [fillT, T.cells, List.length_cons, List.length_nil, hlf, if_true, splice, List.set_cons_zero, List.set_cons_succ]
    try rfl
  generalize wayOf (cacheAt m w) ln = W at *
  have hst := way_state W
  have hlen := way_len hww
  generalize W.enc = we at *
  have hlen1 : 0 + 1 ≤ we.length := by omega
  by_cases hk3 : kind = 3
  · have hd : (kind == 3) = true := by simpa using hk3
    by_cases hs0 : W.state = 0
    · have hd0 : (W.state != 0) = false := by rw [hs0]; rfl
      rw [hgf (fun h => h.2 hs0)]
      refine W_seqn (W_seqn (W_regionN ⟨N, by simp +decide (disch := first | omega | simp +decide [hl]) only [s9, simprocAttr, h1, h3, h5, g0, g1, hcut, hxl, ap88, p88, n88, q, hd, hlen, hlen1, hst, hd0]; rfl⟩ ⟨rfl, W_fls (W_skip ⟨rfl, ?_⟩)⟩))
      refine W_abs (fun z => BdT (w : Int) kind ln z x y ∧ rho z.s (.tmp 11) = .int .i64 (gotv kind sh) ∧ CohAt (PN z) z.g x y m) ⟨⟨?_, ?_, ?_, ?_, ?_, ?_, ?_, ?_, by show 3 ≤ s.nx + 13; omega⟩, ?_, hc'.mono (fun t h => ⟨h.1, by show t < s.nx + 13; have := h.2; omega⟩) (fun _ _ => rfl)⟩ (fun z ⟨hF, a11, hC⟩ => bd_fill m hok w kind ln hln hlies _ hw z x y hF a11 hC)
      all_goals simp +decide (disch := first | omega | simp +decide [hl]) only [s9, simprocAttr, hl, h1, h3, h5, h6, h11, g0, g1, g2]
    · have hd0 : (W.state != 0) = true := by simpa using hs0
      rw [hgm ⟨hk3, hs0⟩]
      refine W_seq (W_seqn (W_regionN ⟨N, by simp +decide (disch := first | omega | simp +decide [hl]) only [s9, simprocAttr, h1, h3, h5, g0, g1, hcut, hxl, ap88, p88, n88, q, hd, hlen, hlen1, hst, hd0]; rfl⟩ ⟨rfl, W_tru ?_⟩))
      refine W_abs (fun z => BdT (w : Int) kind ln z x y ∧ rho z.s (.tmp 11) = .int .i64 (gotv kind sh) ∧ CohAt (PN z) z.g x y m) ⟨⟨?_, ?_, ?_, ?_, ?_, ?_, ?_, ?_, by show 3 ≤ s.nx + 13; omega⟩, ?_, hc'.mono (fun t h => ⟨h.1, by show t < s.nx + 13; have := h.2; omega⟩) (fun _ _ => rfl)⟩ (fun z ⟨hF, a11, hC⟩ => (bd_mine m hok w kind ln hln _ hw z x y hF a11 hC).mono (fun e s h => .inr h))
      all_goals simp +decide (disch := first | omega | simp +decide [hl]) only [s9, simprocAttr, hl, h1, h3, h5, h6, h11, g0, g1, g2]
  · have hd : (kind == 3) = false := by simpa using hk3
    rw [hgf (fun h => hk3 h.1)]
    refine W_seqn (W_seqn (W_region (fun k => by simp +decide (disch := first | omega | simp +decide [hl]) only [s9, simprocAttr, h5, g1, hd]; rfl) ⟨rfl, W_fls (W_skip ⟨rfl, ?_⟩)⟩))
    refine W_abs (fun z => BdT (w : Int) kind ln z x y ∧ rho z.s (.tmp 11) = .int .i64 (gotv kind sh) ∧ CohAt (PN z) z.g x y m) ⟨⟨?_, ?_, ?_, ?_, ?_, ?_, ?_, ?_, by show 3 ≤ s.nx + 13; omega⟩, ?_, hc'.mono (fun t h => ⟨h.1, by show t < s.nx + 13; have := h.2; omega⟩) (fun _ _ => rfl)⟩ (fun z ⟨hF, a11, hC⟩ => bd_fill m hok w kind ln hln hlies _ hw z x y hF a11 hC)
    all_goals simp +decide (disch := first | omega | simp +decide [hl]) only [s9, simprocAttr, hl, h1, h3, h5, h6, h11, g0, g1, g2]
def bdFail : ACode := match f64.body with | .seq _ (.seq (.seq _ (.cond _ c _)) _) => c | _ => .skip
def bdStart (m : Coh) (st : St) : Prop := st.s.length = 163 ∧ rho st.s (.tmp 3) = .ptr 0 0 ∧ rho st.s (.tmp 6) = .ptr 2 0 ∧ st.g 0 = some [memT m, cachT m] ∧ st.g 2 = some [.imm true 0 [], .imm true 0 []]
theorem bd_fail (m : Coh) (st : St) (h : bdStart m st) : W ap bdFail st (fun e s => e ≠ .normal ∧ DoEnd m e s) := by
  obtain ⟨hl, h3, h6, g0, g2⟩ := h
  have hcut : cut [memT m, cachT m] 0 2 = [memT m, cachT m] := rfl
  have hleaf : allLeaf [memT m, cachT m] = true := rfl
  obtain ⟨v, ids, hv, hf⟩ := coh_frz (coh_imm (fun _ => True) (put1 st.g (2, some [memT m, cachT m])) m) (st.nx + 2)
  refine W_seqn (W_region (fun k => by simp +decide (disch := first | omega | simp +decide [hl]) only [s9, simprocAttr, h3, h6, g0, g2, hcut, hleaf]; rfl) ⟨rfl, W_ret ⟨by simp, rfl, v, hv, .agg [memT m, cachT m], ids, ?_, hf⟩⟩)
  simp only [resT, resL, resOne, show f64.res = [.cell 6 false 2] from rfl]
  simp +decide (disch := first | omega | simp +decide [hl]) only [s9, simprocAttr, h6]
  try rfl
theorem bus_do (m : Coh) (hok : Ok m) (who kind : Int) (ln : Nat) (hln : ln ≤ 4294967295) : ∃ v, E ap 64 [.agg [memT m, cachT m], .int .i64 who, .agg [.int .i64 kind, .int .u32 (ln : Int)]] v ∧ UpT (.agg (doM m who kind ln).enc) v := by
  refine E_bodyV (F := f64) rfl rfl rfl (P := fun v => UpT (.agg (doM m who kind ln).enc) v) ?_
  generalize hs0 : (_ : List T) ++ List.replicate _ T.undef = s0
  have e0 : s0.length = 163 ∧ rho s0 (.tmp 0) = .agg [memT m, cachT m] ∧ rho s0 (.tmp 1) = .int .i64 who ∧ rho s0 (.tmp 2) = .agg [.int .i64 kind, .int .u32 (ln : Int)] := by subst hs0; exact ⟨rfl, rfl, rfl, rfl⟩
  clear hs0
  obtain ⟨hl, h0, h1, h2⟩ := e0
  have hleaf : allLeaf [memT m, cachT m] = true := rfl
  have hleaf2 : allLeaf [T.int .i64 kind, T.int .u32 (ln : Int)] = true := rfl
  have hcut : cut [memT m, cachT m] 0 2 = [memT m, cachT m] := rfl
  have hcc : cachT m = .imm false m.caches.length (m.caches.flatMap Cache.enc) := rfl
  refine W_cut (fun st => st.s.length = 163 ∧ rho st.s (.tmp 1) = .int .i64 who ∧ rho st.s (.tmp 3) = .ptr 0 0 ∧ rho st.s (.tmp 5) = .ptr 1 0 ∧ rho st.s (.tmp 6) = .ptr 2 0 ∧ st.g 0 = some [memT m, cachT m] ∧ st.g 1 = some [.int .i64 kind, .int .u32 (ln : Int)] ∧ st.g 2 = some [.imm true 0 [], .imm true 0 []] ∧ st.nx = 3) (W_region (fun k => by simp +decide (disch := first | omega | simp +decide [hl]) only [s9, simprocAttr, h0, h2, hleaf, hleaf2]; rfl) ⟨rfl, ?_⟩) ?_
  · refine ⟨?_, ?_, ?_, ?_, ?_, ?_, ?_, ?_, rfl⟩ <;> simp +decide (disch := first | omega | simp +decide [hl]) only [s9, simprocAttr, hl, h1]
  clear hl h0 h1 h2
  rintro st ⟨hl, h1, h3, h5, h6, g0, g1, g2, hnx⟩
  have hdo : ∀ h : ¬ DoesGo m who kind ln, doM m who kind ln = m := fun h => if_neg h
  have hfail : ∀ z, bdStart m z → ¬ DoesGo m who kind ln → W ap bdFail z (fun e s => e ≠ .normal ∧ DoEnd (doM m who kind ln) e s) := fun z hz h => by rw [hdo h]; exact bd_fail m z hz
  obtain ⟨N, q⟩ := (bus_lies m hok.1 ln hln).call ap89 (fun g => rfl)
  have q := q N (Nat.le_refl _)
  by_cases c1 : who < 0
  · have d1 : decide (who < 0) = true := decide_eq_true c1
    refine W_seq (W_seqn (W_region (fun k => by simp +decide (disch := first | omega | simp +decide [hl]) only [s9, simprocAttr, h1, d1]; rfl) ⟨rfl, W_tru ?_⟩))
    refine W_abs (bdStart m) ⟨?_, ?_, ?_, ?_, ?_⟩ (fun z hz => (hfail z hz (fun h => by have := h.1.1; omega)).mono (fun e s h => .inr h))
    all_goals simp +decide (disch := first | omega | simp +decide [hl]) only [s9, simprocAttr, hl, h3, h6, g0, g2]
  have d1 : decide (who < 0) = false := decide_eq_false c1
  by_cases c2 : who ≥ (m.caches.length : Int)
  · have d2 : decide (who ≥ (m.caches.length : Int)) = true := decide_eq_true c2
    refine W_seq (W_seqn (W_region (fun k => by simp +decide (disch := first | omega | simp +decide [hl]) only [s9, simprocAttr, h1, h3, g0, hcc, d1, d2]; rfl) ⟨rfl, W_tru ?_⟩))
    refine W_abs (bdStart m) ⟨?_, ?_, ?_, ?_, ?_⟩ (fun z hz => (hfail z hz (fun h => by have := h.1.2; omega)).mono (fun e s h => .inr h))
    all_goals simp +decide (disch := first | omega | simp +decide [hl]) only [s9, simprocAttr, hl, h3, h6, g0, g2, hcc]
  have d2 : decide (who ≥ (m.caches.length : Int)) = false := decide_eq_false c2
  by_cases c3 : kind < 1
  · have d3 : decide (kind < 1) = true := decide_eq_true c3
    refine W_seq (W_seqn (W_region (fun k => by simp +decide (disch := first | omega | simp +decide [hl]) only [s9, simprocAttr, h1, h3, h5, g0, g1, hcc, d1, d2, d3]; rfl) ⟨rfl, W_tru ?_⟩))
    refine W_abs (bdStart m) ⟨?_, ?_, ?_, ?_, ?_⟩ (fun z hz => (hfail z hz (fun h => by have := h.2.1.1; omega)).mono (fun e s h => .inr h))
    all_goals simp +decide (disch := first | omega | simp +decide [hl]) only [s9, simprocAttr, hl, h3, h6, g0, g2, hcc]
  have d3 : decide (kind < 1) = false := decide_eq_false c3
  by_cases c4 : kind > 3
  · have d4 : decide (kind > 3) = true := decide_eq_true c4
    refine W_seq (W_seqn (W_region (fun k => by simp +decide (disch := first | omega | simp +decide [hl]) only [s9, simprocAttr, h1, h3, h5, g0, g1, hcc, d1, d2, d3, d4]; rfl) ⟨rfl, W_tru ?_⟩))
    refine W_abs (bdStart m) ⟨?_, ?_, ?_, ?_, ?_⟩ (fun z hz => (hfail z hz (fun h => by have := h.2.1.2; omega)).mono (fun e s h => .inr h))
    all_goals simp +decide (disch := first | omega | simp +decide [hl]) only [s9, simprocAttr, hl, h3, h6, g0, g2, hcc]
  have d4 : decide (kind > 3) = false := decide_eq_false c4
  by_cases c5 : ln * 16 + 16 ≤ m.mem.length
  · rw [decide_eq_true c5] at q
    obtain ⟨w, rfl⟩ : ∃ w : Nat, who = (w : Int) := ⟨who.toNat, by omega⟩
    have hw : w < m.caches.length := by omega
    have hgo : DoesGo m (w : Int) kind ln := ⟨⟨by omega, by omega⟩, ⟨by omega, by omega⟩, c5⟩
    have hdm : doM m (w : Int) kind ln = doGot (snoopN (w : Int) kind ln m m.caches.length) (w : Int) kind ln := if_pos hgo
    rw [hdm]
    have hk : kind = 1 ∨ kind = 2 ∨ kind = 3 := by omega
    have hsl := snoopN_len (w : Int) kind ln m m.caches.length
    have hCl := caches_len' m
    have hCf : allLeaf (m.caches.flatMap Cache.enc) = true := flat_leaf (f := Cache.enc) (fun _ => rfl) _
    have hm4 := hok.2.2.1
    have hC1 : (m.caches.length = 0) = False := eq_false (by omega)
    have hC2 : (m.caches.length = m.caches.length * 1) = True := by simp
    have hC3 : m.caches.length * 24 ≤ 549755813888 := by omega
    have hC4 : m.caches.length ≤ 549755813888 := by omega
    have hll : allLeaf ([] : List T) = true := rfl
    rw [hcc] at g0 q hcut
    have hbd := bd_loop m hok (w : Int) kind hk ln hln c5
    have hue : UpL (m.caches.flatMap Cache.enc) (m.caches.flatMap Cache.enc) := UpL.refl _
    generalize hCe : m.caches.flatMap Cache.enc = C at *
    refine W_seqn (W_seqn (W_regionN ⟨N, by simp +decide (disch := first | omega | simp +decide [hl]) only [s9, simprocAttr, h1, h3, h5, g0, g1, d1, d2, d3, d4, hcut, ap89, p89, n89, q]; rfl⟩ ⟨rfl, W_fls (W_skip ⟨rfl, ?_⟩)⟩))
    refine W_cut (fun s => (∃ B, 2 < B ∧ B < s.nx ∧ s.g 0 = some [memT m, .own B 0 m.caches.length 1] ∧ s.g B = some C) ∧ s.s.length = 163 ∧ rho s.s (.tmp 1) = .int .i64 (w : Int) ∧ rho s.s (.tmp 3) = .ptr 0 0 ∧ rho s.s (.tmp 5) = .ptr 1 0 ∧ rho s.s (.tmp 6) = .ptr 2 0 ∧ s.g 1 = some [.int .i64 kind, .int .u32 (ln : Int)] ∧ s.g 2 = some [.imm true 0 [], .imm true 0 []] ∧ 3 ≤ s.nx) (W_region (fun k => by simp +decide (disch := first | omega | simp +decide [hl]) only [s9, simprocAttr, h3, g0, cellsOf, hC1, hC2, hC3, hC4, hCl, hCf, hll]; rfl) ⟨rfl, ?_⟩) ?_
    · refine ⟨⟨st.nx + 26 + 2, by omega, by show st.nx + 26 + 2 < st.nx + 26 + 5; omega, ?_, ?_⟩, ?_, ?_, ?_, ?_, ?_, ?_, ?_, by show 3 ≤ st.nx + 26 + 5; omega⟩ <;> simp +decide (disch := first | omega | simp +decide [hl]) only [s9, simprocAttr, hl, h1, h3, h5, h6, g1, g2]
    clear hl h1 h3 h5 h6 g0 g1 g2
    rintro s ⟨⟨B, hB1, hB2, g0, gB⟩, hl, h1, h3, h5, h6, g1, g2, hnx2⟩
    refine W_seq (W_seqn (W_region (fun k => by simp +decide (disch := first | omega | simp +decide [hl]) only [s9, simprocAttr, h3, g0]; rfl) ⟨rfl, W_block ?_⟩))
    refine hbd _ (fun st x y hF hC => ?_) (m.caches.length - 0) _ ⟨0, memT m, .own B 0 m.caches.length 1, ⟨?_, ?_, ?_, ?_, ?_, ?_, ?_, ?_, ?_, ?_, ?_⟩, ⟨B, C, ⟨hB1, ?_⟩, by rw [hCl], ?_, by rw [show snoopN (w : Int) kind ln m 0 = m from rfl, hCe]; exact hue, .inl ⟨false, memT_is m⟩⟩, by omega, rfl⟩
    · refine .inl ⟨rfl, .inl ⟨rfl, ?_⟩⟩
      obtain ⟨a1, a2, a3, a4, a5, _, _, a6, a7, a8, a9⟩ := hF
      exact bd_rest _ (ok_snoopN hok (w : Int) kind ln _ (Nat.le_refl _)) w (by rw [hsl.1]; exact hw) kind hk ln hln (by rw [hsl.2]; exact c5) st x y ⟨a1, a2, a3, a4, a5, a6, a7, a8, a9⟩ hC
    all_goals first | (show 3 ≤ s.nx + 4; omega) | (show B < s.nx + 4; omega) | (simp +decide (disch := first | omega | simp +decide [hl]) only [s9, simprocAttr, hl, h1, h3, h5, h6, g0, g1, g2, gB]; done) | (simp +decide (disch := first | omega | simp +decide [hl]) only [s9, simprocAttr, hl, h1, h3, h5, h6, g0, g1, g2, gB]; rfl)
  · rw [decide_eq_false c5] at q
    rw [hcc] at g0 q hcut
    refine W_seq (W_seqn (W_regionN ⟨N, by simp +decide (disch := first | omega | simp +decide [hl]) only [s9, simprocAttr, h1, h3, h5, g0, g1, d1, d2, d3, d4, hcut, ap89, p89, n89, q]; rfl⟩ ⟨rfl, W_tru ?_⟩))
    refine W_abs (bdStart m) ⟨?_, ?_, ?_, ?_, ?_⟩ (fun z hz => (hfail z hz (fun h => c5 h.2.2)).mono (fun e s h => .inr h))
    all_goals simp +decide (disch := first | omega | simp +decide [hl]) only [s9, simprocAttr, hl, h3, h6, g0, g2, hcc]
end Go.Proofs.YtabfinhkoihhfaaGreat.Abs
