/- What a request does: the program's walk, all of the others' caches; the asker's own, where it has the line. -/
import Derived.Test.YtikeeegkndnnfaaBdo2
namespace Go.Proofs.Ytikeeegkndnnfaa.Abs
open Go Go.RowKit Fn
set_option linter.unusedVariables false
set_option linter.unusedSimpArgs false
set_option linter.unnecessarySimpa false
set_option maxRecDepth 100000
set_option maxHeartbeats 4000000

def bdInc : ACode := match bdLoop with | .seq _ (.seq _ (.seq _ c)) => c | _ => .skip
theorem bd_loop (m : Coh) (hok : Ok m) (who kind : Int) (hk : kind = 1 ∨ kind = 2 ∨ kind = 3) (ln : Nat) (hln : ln ≤ 4294967295) (hlies : ln * 16 + 16 ≤ m.mem.length) (Q : AExit → St → Prop)
    (hQ : ∀ st x y, BdF who kind ln m.caches.length m.caches.length st x y → CohAt (PN st) st.g x y (snoopN who kind ln m m.caches.length) → Q (.exit 0) st) :
    ∀ (k : Nat) (st : St), (∃ (i : Nat) (x y : T), BdF who kind ln m.caches.length i st x y ∧ CohAt (PN st) st.g x y (snoopN who kind ln m i) ∧ i ≤ m.caches.length ∧ k = m.caches.length - i) → W ap (.loop bdLoop) st Q := by
  refine W_loop _ ?_
  rintro k st ⟨i, x, y, hF, hC, hi, hkk⟩
  have hF0 := hF
  obtain ⟨hl, h1, h3, h5, h6, h48, h49, g0, g1, g2, hnx⟩ := hF
  have hm4 := hok.2.2.1
  by_cases hend : i = m.caches.length
  · have hlt : decide ((i : Int) < (m.caches.length : Int)) = false := decide_eq_false (by omega)
    refine W_seqn (W_region (fun k => by simp (decide := true) (disch := first | omega | simp (decide := true) only [List.length_set, hl]) only [sims, autos, simprocAttr, hps, h48, h49, hlt]; rfl) ⟨rfl, ?_⟩)
    refine W_seq (W_fls (W_exit (.inr ⟨by simp, .inr ⟨by simp, hQ _ x y ⟨?_, ?_, ?_, ?_, ?_, ?_, ?_, ?_, ?_, ?_, by show 3 ≤ st.nx + 1; omega⟩ ?_⟩⟩)))
    iterate 6 (· simp (decide := true) (disch := first | omega | simp (decide := true) only [List.length_set, hl]) only [sims, autos, simprocAttr, hps, hl, h1, h3, h5, h6, h48])
    · rw [← hend]
      simp (decide := true) (disch := first | omega | simp (decide := true) only [List.length_set, hl]) only [sims, autos, simprocAttr, hps, h49]
    iterate 3 (· simp (decide := true) (disch := first | omega | simp (decide := true) only [List.length_set, hl]) only [sims, autos, simprocAttr, hps, g0, g1, g2])
    · rw [← hend]
      exact hC.mono (fun t h => ⟨h.1, by show t < st.nx + 1; have := h.2; omega⟩) (fun _ _ => rfl)
  · have hlt : decide ((i : Int) < (m.caches.length : Int)) = true := decide_eq_true (by omega)
    have hw2 : IntKind.i64.wrap ((i : Int) + 1) = ((i + 1 : Nat) : Int) := by rw [wrap_id (by omega)]; omega
    have hsl := snoopN_len who kind ln m i
    refine W_seqn (W_region (fun k => by simp (decide := true) (disch := first | omega | simp (decide := true) only [List.length_set, hl]) only [sims, autos, simprocAttr, hps, h48, h49, hlt]; rfl) ⟨rfl, ?_⟩)
    refine W_seqn (W_tru (W_skip ⟨rfl, ?_⟩))
    have hinc : ∀ st' x' y', BdF who kind ln m.caches.length i st' x' y' → CohAt (PN st') st'.g x' y' (snoopN who kind ln m (i + 1)) → W ap bdInc st' (fun e s' => (e = .normal ∧ ∃ mm, mm < k ∧ ∃ (i : Nat) (x y : T), BdF who kind ln m.caches.length i s' x y ∧ CohAt (PN s') s'.g x y (snoopN who kind ln m i) ∧ i ≤ m.caches.length ∧ mm = m.caches.length - i) ∨ (e ≠ .normal ∧ Q e s')) := by
      rintro st' x' y' ⟨hl, h1, h3, h5, h6, h48, h49, g0, g1, g2, hnx⟩ hC
      refine W_region (fun k => by simp (decide := true) (disch := first | omega | simp (decide := true) only [List.length_set, hl]) only [sims, autos, simprocAttr, hps, h49, hw2]; rfl) (.inl ⟨rfl, m.caches.length - (i + 1), by omega, i + 1, x', y', ⟨?_, ?_, ?_, ?_, ?_, ?_, ?_, ?_, ?_, ?_, ?_⟩, ?_, by omega, rfl⟩)
      iterate 10 (· simp (decide := true) (disch := first | omega | simp (decide := true) only [List.length_set, hl]) only [sims, autos, simprocAttr, hps, hl, h1, h3, h5, h6, h48, g0, g1, g2])
      · show 3 ≤ st'.nx + 2
        omega
      · exact hC.mono (fun t h => ⟨h.1, by show t < st'.nx + 2; have := h.2; omega⟩) (fun _ _ => rfl)
    refine W_seqn (W_block (W_abs (fun z => BdF who kind ln m.caches.length i z x y ∧ CohAt (PN z) z.g x y (snoopN who kind ln m i)) ⟨⟨?_, ?_, ?_, ?_, ?_, ?_, ?_, ?_, ?_, ?_, by show 3 ≤ st.nx + 1; omega⟩, hC.mono (fun t h => ⟨h.1, by show t < st.nx + 1; have := h.2; omega⟩) (fun _ _ => rfl)⟩ (fun z ⟨hFz, hCz⟩ => bd_blk _ (ok_snoopN hok who kind ln i hi) who kind hk ln _ hln (by rw [hsl.2]; exact hlies) i (by rw [hsl.1]; omega) z x y hFz hCz _ (fun e st' x' y' he hF' hC' => ?_))))
    iterate 10 (· simp (decide := true) (disch := first | omega | simp (decide := true) only [List.length_set, hl]) only [sims, autos, simprocAttr, hps, hl, h1, h3, h5, h6, h48, h49, g0, g1, g2])
    have hfin := hinc st' x' y' hF' hC'
    rcases he with rfl | rfl
    · exact .inr (.inl ⟨by simp, rfl, hfin⟩)
    · exact .inl ⟨rfl, rfl, hfin⟩
/-- What stands behind the loop. -/
def BdT (who kind : Int) (ln : Nat) (st : St) (x y : T) : Prop := st.s.length = 163 ∧ rho st.s (.tmp 1) = .int .i64 who ∧ rho st.s (.tmp 3) = .ptr 0 0 ∧ rho st.s (.tmp 5) = .ptr 1 0 ∧ rho st.s (.tmp 6) = .ptr 2 0 ∧ st.g 0 = some [x, y] ∧ st.g 1 = some [.int .i64 kind, .int .u32 (ln : Int)] ∧ st.g 2 = some [.imm true 0 [], .imm true 0 []] ∧ 3 ≤ st.nx
def bdRest : ACode := match f53.body with | .seq _ (.seq _ (.seq _ (.seq _ c))) => c | _ => .skip
def bdMine : ACode := match bdRest with | .seq _ (.seq (.seq _ (.cond _ c _)) _) => c | _ => .skip
def bdFill : ACode := match bdRest with | .seq _ (.seq _ c) => c | _ => .skip
/-- How it ends. -/
def DoEnd (n : Coh) (e : AExit) (st : St) : Prop := e.leaves = true ∧ ∃ v, UpT (.agg n.enc) v ∧ ∃ u ids, resT st.s st.g f53.res = some u ∧ frz ⟨st.g, st.nx⟩ frzDepth u = some (v, ids)
theorem bd_mine (m : Coh) (hok : Ok m) (w : Nat) (kind : Int) (ln : Nat) (hln : ln ≤ 4294967295) (nxt : Int) (hw : w < m.caches.length) (st : St) (x y : T) (hF : BdT (w : Int) kind ln st x y) (h11 : rho st.s (.tmp 11) = .int .i64 nxt) (hc : CohAt (PN st) st.g x y m) : W ap bdMine st (fun e s => e ≠ .normal ∧ DoEnd (withC m w (setR (cacheAt m w) ln nxt)) e s) := by
  obtain ⟨hl, h1, h3, h5, h6, g0, g1, g2, hnx⟩ := hF
  obtain ⟨B, ys, ⟨hB1, hB2⟩, rfl, gB, hu, hx⟩ := hc
  obtain ⟨z, hz, hzu, f, a, b, rfl⟩ := cache_cell hu hw
  have hyl := upL_len1 m hu
  obtain ⟨v0, hE, hex⟩ := bus_set_rows (cacheAt m w) (cacheAt_wf hok.1 w hw) (hok.2.2.2 w hw) ln hln nxt
  obtain rfl := ex_setsT _ hex
  obtain ⟨N, v', hv, q⟩ := hE.callU ap72' (args' := [.agg [.imm f a b], .int .u32 (ln : Int), .int .i64 nxt]) (UpL.cons (upT_agg (UpL.cons hzu UpL.nil)) (UpL.refl _))
  obtain ⟨c', rfl, hv2⟩ := hv.agg
  simp only [UpL] at hv2
  obtain ⟨z', _, rfl, hz', rfl⟩ := hv2
  have q := q N (Nat.le_refl _) st.g [.agg [.imm f a b], .int .u32 (ln : Int), .int .i64 nxt] [] rfl
  have hzl : allLeaf [z'] = true := by
    obtain ⟨f', c', rfl, _⟩ := UpT.imm (f := false) (n := (setR (cacheAt m w) ln nxt).length) (c := (setR (cacheAt m w) ln nxt).flatMap (fun l => [rowT l])) hz'
    try rfl
  have hcut := cell_at hz
  have hiy : w < ys.length := by omega
  have hib : w + 1 ≤ ys.length := by omega
  have hcutx : cut [x, .own B 0 ys.length 1] 0 2 = [x, .own B 0 ys.length 1] := rfl
  have hlf : allLeaf [x, .own B 0 ys.length 1] = true := by
    show ([x, T.own B 0 ys.length 1].all T.leaf) = true
    rw [List.all_cons, List.all_cons, hx.leaf]; rfl
  refine W_cut (fun s => s.s.length = 163 ∧ rho s.s (.tmp 3) = .ptr 0 0 ∧ rho s.s (.tmp 6) = .ptr 2 0 ∧ s.g 0 = some [x, .own B 0 ys.length 1] ∧ s.g 2 = some [.imm true 0 [], .imm true 0 []] ∧ CohAt (PN s) s.g x (.own B 0 ys.length 1) (withC m w (setR (cacheAt m w) ln nxt))) (W_regionN ⟨N, by simp (decide := true) (disch := first | omega | simp (decide := true) only [List.length_set, hl]) only [sims, autos, simprocAttr, hps, h1, h3, h5, h11, g0, g1, gB, hiy, hib, hcut, ap72', p72', n72', q, ite_self, hzl, Nat.mul_one]; rfl⟩ ⟨rfl, ?_⟩) ?_
  · refine ⟨?_, ?_, ?_, ?_, ?_, ?_⟩
    iterate 5 (· simp (decide := true) (disch := first | omega | simp (decide := true) only [List.length_set, hl]) only [sims, autos, simprocAttr, hps, hl, h3, h6, g0, g2])
    refine CohAt.with (P := fun t => 2 < t ∧ t < st.nx + 14) ⟨hB1, by omega⟩ hu (hx.mono (fun t h => ⟨⟨h.1.1, by have := h.1.2; omega⟩, h.2⟩) (fun _ _ => rfl)) w _ hz' ?_ (fun t ht hne => ?_)
    · simp (decide := true) (disch := first | omega | simp (decide := true) only [List.length_set, hl]) only [sims, autos, simprocAttr, hps]
    · simp (decide := true) (disch := first | omega | simp (decide := true) only [List.length_set, hl]) only [sims, autos, simprocAttr, hps]
  rintro s ⟨hl, h3, h6, g0, g2, hc⟩
  obtain ⟨v, ids, hv, hf⟩ := coh_frz (g := put1 s.g (2, some [x, .own B 0 ys.length 1])) (hc.coh.mono (P' := fun _ => True) (fun _ _ => trivial) (fun t ht => put1_ne (by have := ht.1; omega))) (s.nx + 2)
  refine W_seqn (W_region (fun k => by simp (decide := true) (disch := first | omega | simp (decide := true) only [List.length_set, hl]) only [sims, autos, simprocAttr, hps, h3, h6, g0, g2, hcutx, hlf]; rfl) ⟨rfl, W_ret ⟨by simp, rfl, v, hv, .agg [x, .own B 0 ys.length 1], ids, ?_, hf⟩⟩)
  simp only [resT, resL, resOne, show f53.res = [.cell 6 false 2] from rfl]
  simp (decide := true) (disch := first | omega | simp (decide := true) only [List.length_set, hl]) only [sims, autos, simprocAttr, hps, h6]
  try rfl

set_option maxHeartbeats 4000000
theorem ap75' : ap 75 = some f75 := rfl
theorem p75' : f75.pure = true := rfl
theorem n75' : f75.nat = none := rfl
theorem u8_map (l : List Int) : l.flatMap u8T = l.map (T.int .u8) := by
  induction l with
  | nil => rfl
  | cons a l ih => rw [List.flatMap_cons, ih]; rfl
theorem bytesM_u8 (m : Coh) (ln n : Nat) (h : ln * 16 + 16 ≤ m.mem.length) (hn : n = m.mem.length - ln * 16) : (cut (m.mem.flatMap u8T) (ln * 16) n).take 16 = (bytesM m ln).flatMap u8T := by
  unfold bytesM cut
  rw [u8_map, u8_map, List.map_take, List.map_drop, List.take_take, show min 16 n = 16 by omega]
theorem bytesM_wf {m : Coh} (hm : m.wf) (ln : Nat) : ∀ y ∈ bytesM m ln, (Lit.int .u8 y).wf = true := fun y hy => hm.1.2 y (List.mem_of_mem_drop (List.mem_of_mem_take hy))
theorem frzL_fill2 (f : Bool) (a : Nat) (b : List T) (ln st : Int) (data : List Int) (g : Mem) : frzL ⟨g, 0⟩ frzDepth [.agg [.imm f a b], .int .u32 ln, .int .i64 st, .agg (data.flatMap u8T)] = some ([.agg [.imm f a b], .int .u32 ln, .int .i64 st, .agg (data.flatMap u8T)], []) := by
  have e0 : frz ⟨g, 0⟩ frzDepth (.agg [.imm f a b]) = some (.agg [.imm f a b], []) := rfl
  have e1 : frz ⟨g, 0⟩ frzDepth (.int .u32 ln) = some (.int .u32 ln, []) := rfl
  have e2 : frz ⟨g, 0⟩ frzDepth (.int .i64 st) = some (.int .i64 st, []) := rfl
  have e3 : frz ⟨g, 0⟩ frzDepth (.agg (data.flatMap u8T)) = some (.agg (data.flatMap u8T), []) := by
    show frz ⟨g, 0⟩ (11 + 1) _ = _
    rw [frz]
    simp only [frzAll_int (d := 10) _ (u8_ints data)]
  unfold frzL
  simp only [frzAll, e0, e1, e2, e3, List.append_nil]
theorem zeros_u8 : ∃ Z : List Int, List.replicate 16 (T.int .u8 0) = Z.flatMap u8T ∧ Z.length = 16 := ⟨List.replicate 16 0, rfl, rfl⟩
theorem bd_fill (m : Coh) (hok : Ok m) (w : Nat) (kind : Int) (ln : Nat) (hln : ln ≤ 4294967295) (hlies : ln * 16 + 16 ≤ m.mem.length) (nxt : Int) (hw : w < m.caches.length) (st : St) (x y : T) (hF : BdT (w : Int) kind ln st x y) (h11 : rho st.s (.tmp 11) = .int .i64 nxt) (hc : CohAt (PN st) st.g x y m) : W ap bdFill st (fun e s => DoEnd (backM (withC m w (fillR (cacheAt m w) ln nxt (bytesM m ln)).1) (fillR (cacheAt m w) ln nxt (bytesM m ln)).2) e s) := by
  obtain ⟨hl, h1, h3, h5, h6, g0, g1, g2, hnx⟩ := hF
  obtain ⟨B, ys, ⟨hB1, hB2⟩, rfl, gB, hu, hx⟩ := hc
  obtain ⟨Z, hZ, hZl⟩ := zeros_u8
  have hZf := u8_leaf Z
  have hZm := u8_len Z
  refine W_cut (fun s => (∃ p, st.nx ≤ p ∧ p < s.nx ∧ rho s.s (.tmp 12) = .ptr p 0 ∧ s.g p = some (Z.flatMap u8T)) ∧ rho s.s (.tmp 11) = .int .i64 nxt ∧ BdT (w : Int) kind ln s x (.own B 0 ys.length 1) ∧ (∀ t, t < st.nx → s.g t = st.g t)) (W_region (fun k => by simp (decide := true) (disch := first | omega | simp (decide := true) only [List.length_set, hl]) only [sims, autos, simprocAttr, hps, hZ, hZf]; rfl) ⟨rfl, ?_⟩) ?_
  · refine ⟨⟨st.nx, by omega, by show st.nx < st.nx + 1; omega, ?_, ?_⟩, ?_, ⟨?_, ?_, ?_, ?_, ?_, ?_, ?_, ?_, by show 3 ≤ st.nx + 1; omega⟩, fun t ht => ?_⟩ <;> simp (decide := true) (disch := first | omega | simp (decide := true) only [List.length_set, hl]) only [sims, autos, simprocAttr, hps, hl, h1, h3, h5, h6, h11, g0, g1, g2]
  clear hl h1 h3 h5 h6 h11 g0 g1 g2
  rintro s ⟨⟨p, hp1, hp2, h12, gp⟩, h11, ⟨hl, h1, h3, h5, h6, g0, g1, g2, hnx2⟩, hg⟩
  have hbl := bytesM_len m ln hlies
  have hDl := u8_len (bytesM m ln)
  have hDf := u8_leaf (bytesM m ln)
  have hMl := u8_len m.mem
  have hK := bytesM_u8 m ln _ hlies rfl
  have hKl : (cut (m.mem.flatMap u8T) (ln * 16) (m.mem.length - ln * 16)).length = m.mem.length - ln * 16 := by
    unfold cut; rw [List.length_take, List.length_drop]; omega
  have hKf : allLeaf (cut (m.mem.flatMap u8T) (ln * 16) (m.mem.length - ln * 16)) = true := by
    have := u8_leaf m.mem
    unfold allLeaf at this ⊢
    rw [List.all_eq_true] at this ⊢
    exact fun z hz => this z (List.mem_of_mem_drop (List.mem_of_mem_take hz))
  have hsp : splice (Z.flatMap u8T) 0 ((bytesM m ln).flatMap u8T) = (bytesM m ln).flatMap u8T := splice_all (by omega)
  have w1 : IntKind.i64.wrap (ln : Int) = (ln : Int) := wrap_id (by omega)
  have w2 : IntKind.i64.wrap ((ln : Int) * 16) = ((ln * 16 : Nat) : Int) := by rw [wrap_id (by omega)]; omega
  have a1 : ln * 16 ≤ m.mem.length := by omega
  have a2 : min (m.mem.length - ln * 16) 16 = 16 := by omega
  have a3 : ln * 16 + (m.mem.length - ln * 16) ≤ m.mem.length := by omega
  have a4 : (Z.flatMap u8T).length = 16 := by omega
  have a5 : (m.mem.length - ln * 16 = (m.mem.length - ln * 16) * 1) = True := by simp
  refine W_cut (fun s' => rho s'.s (.tmp 12) = .ptr p 0 ∧ s'.g p = some ((bytesM m ln).flatMap u8T) ∧ rho s'.s (.tmp 11) = .int .i64 nxt ∧ BdT (w : Int) kind ln s' x (.own B 0 ys.length 1) ∧ (∀ t, t < st.nx → s'.g t = st.g t) ∧ s.nx ≤ s'.nx) ?_ ?_
  · rcases hx with ⟨f, rfl⟩ | ⟨A, ⟨⟨hA1, hA2⟩, hAB⟩, rfl, gA⟩
    · refine W_region (fun k => by simp (decide := true) (disch := first | omega | simp (decide := true) only [List.length_set, hl]) only [sims, autos, simprocAttr, hps, h3, h5, h12, g0, g1, gp, w1, w2, hMl, a1, a2, a4, a5, hK, hKl, hKf, hsp, cellsOf, Nat.le_refl, Nat.mul_one, Nat.sub_zero, Option.map_some, Option.map_none]; rfl) ⟨rfl, ?_⟩
      refine ⟨?_, ?_, ?_, ⟨?_, ?_, ?_, ?_, ?_, ?_, ?_, ?_, by show 3 ≤ s.nx + 9; omega⟩, fun t ht => ?_, by show s.nx ≤ s.nx + 9; omega⟩ <;> simp (decide := true) (disch := first | omega | simp (decide := true) only [List.length_set, hl]) only [sims, autos, simprocAttr, hps, hl, h1, h3, h5, h6, h11, h12, g0, g1, g2, hMl]
      exact hg t ht
    · have gA := (hg A hA2).trans gA
      refine W_region (fun k => by simp (decide := true) (disch := first | omega | simp (decide := true) only [List.length_set, hl]) only [sims, autos, simprocAttr, hps, h3, h5, h12, g0, g1, gp, gA, w1, w2, hMl, a1, a2, a3, a4, a5, hK, hKl, hKf, hsp, cellsOf, Nat.le_refl, Nat.mul_one, Nat.sub_zero, Option.map_some, Option.map_none]; rfl) ⟨rfl, ?_⟩
      refine ⟨?_, ?_, ?_, ⟨?_, ?_, ?_, ?_, ?_, ?_, ?_, ?_, by show 3 ≤ s.nx + 9; omega⟩, fun t ht => ?_, by show s.nx ≤ s.nx + 9; omega⟩ <;> simp (decide := true) (disch := first | omega | simp (decide := true) only [List.length_set, hl]) only [sims, autos, simprocAttr, hps, hl, h1, h3, h5, h6, h11, h12, g0, g1, g2, hMl]
      exact hg t ht
  clear hl h1 h3 h5 h6 h11 h12 g0 g1 g2 gp hsp hZf hK hKl hKf a5 a4 hZm
  rintro s' ⟨h12, gp, h11, ⟨hl, h1, h3, h5, h6, g0, g1, g2, hnx3⟩, hg, hnn⟩
  have gB' := (hg B hB2).trans gB
  obtain ⟨z, hz, hzu, f, a, b, rfl⟩ := cache_cell hu hw
  have hyl := upL_len1 m hu
  have hbd : (bytesM m ln).length = 16 ∧ ∀ y ∈ bytesM m ln, (Lit.int .u8 y).wf = true := ⟨hbl, bytesM_wf hok.1 ln⟩
  obtain ⟨u0, hE, hex⟩ := bus_fill (cacheAt m w) (cacheAt_wf hok.1 w hw) (hok.2.2.2 w hw) ln hln nxt (bytesM m ln) hbd
  obtain rfl := ex_setsT _ hex
  obtain ⟨hfit, hgw⟩ := fit_fillR (hok.2.2.2 w hw) ln hln nxt (bytesM m ln) hbd
  obtain ⟨N, v', hv, q⟩ := hE.callU ap75' (args' := [.agg [.imm f a b], .int .u32 (ln : Int), .int .i64 nxt, .agg (dataT (bytesM m ln))]) (UpL.cons (upT_agg (UpL.cons hzu UpL.nil)) (UpL.refl _))
  generalize hFe : fillR (cacheAt m w) ln nxt (bytesM m ln) = F at *
  obtain ⟨c', rfl, hv2⟩ := hv.tup
  simp only [UpL] at hv2
  obtain ⟨u', _, rfl, hu', v2, _, rfl, hv3, rfl⟩ := hv2
  obtain rfl := way_up F.2 _ hv3
  obtain ⟨c2, rfl, hu2⟩ := hu'.agg
  simp only [UpL] at hu2
  obtain ⟨z', _, rfl, hz', rfl⟩ := hu2
  have q := q N (Nat.le_refl _) s'.g [.agg [.imm f a b], .int .u32 (ln : Int), .int .i64 nxt, .agg ((bytesM m ln).flatMap u8T)] [] (frzL_fill2 f a b (ln : Int) nxt (bytesM m ln) s'.g)
  have hzl : allLeaf [z'] = true := by
    obtain ⟨f', c', rfl, _⟩ := UpT.imm (f := false) (n := F.1.length) (c := F.1.flatMap (fun l => [rowT l])) hz'
    try rfl
  have hgl := leaf_ints _ (way_ints F.2)
  have hglen := way_len hgw
  have hgz : splice zeroW.enc 0 F.2.enc = F.2.enc := splice_all (by rw [hglen]; rfl)
  have hzzf := leaf_ints _ (way_ints zeroW)
  have hzzl : zeroW.enc.length = 19 := rfl
  have hcut := cell_at hz
  have hiy : w < ys.length := by omega
  have hib : w + 1 ≤ ys.length := by omega
  have hDc : cut ((bytesM m ln).flatMap u8T) 0 16 = (bytesM m ln).flatMap u8T := cut_all (by omega)
  have hD16 : 16 ≤ ((bytesM m ln).flatMap u8T).length := by omega
  have hze := zero_enc
  refine W_cut (fun r => (∃ p19 p20, st.nx ≤ p19 ∧ p19 < r.nx ∧ st.nx ≤ p20 ∧ p20 < r.nx ∧ rho r.s (.tmp 13) = .ptr p19 0 ∧ rho r.s (.tmp 14) = .ptr p20 0 ∧ r.g p19 = some [z'] ∧ r.g p20 = some F.2.enc) ∧ BdT (w : Int) kind ln r x (.own B 0 ys.length 1) ∧ (∀ t, t < st.nx → r.g t = st.g t)) (W_regionN ⟨N, by rw [← hze]; simp (decide := true) (disch := first | omega | simp (decide := true) only [List.length_set, hl]) only [sims, autos, simprocAttr, hps, h1, h3, h5, h11, h12, g0, g1, gB', gp, hiy, hib, hcut, ap75', p75', n75', q, ite_self, hzl, Nat.mul_one, hDc, hD16, hgl, hglen, hgz, hzzf, hzzl, Nat.le_refl]; rfl⟩ ⟨rfl, ?_⟩) ?_
  · refine ⟨⟨s'.nx + 13, s'.nx + 14, by omega, by show s'.nx + 13 < s'.nx + 17; omega, by omega, by show s'.nx + 14 < s'.nx + 17; omega, ?_, ?_, ?_, ?_⟩, ⟨?_, ?_, ?_, ?_, ?_, ?_, ?_, ?_, by show 3 ≤ s'.nx + 17; omega⟩, fun t ht => ?_⟩ <;> simp (decide := true) (disch := first | omega | simp (decide := true) only [List.length_set, hl]) only [sims, autos, simprocAttr, hps, hl, h1, h3, h5, h6, g0, g1, g2]
    exact hg t ht
  clear hl h1 h3 h5 h6 h11 h12 g0 g1 g2 gp gB' q hg
  rintro r ⟨⟨p19, p20, b1, b2, b3, b4, h13, h14, gz, gw⟩, ⟨hl, h1, h3, h5, h6, g0, g1, g2, hnx4⟩, hg⟩
  have gB' := (hg B hB2).trans gB
  have hcz : cut [z'] 0 1 = [z'] := rfl
  refine W_cut (fun r' => rho r'.s (.tmp 14) = .ptr p20 0 ∧ r'.g p20 = some F.2.enc ∧ r.nx ≤ r'.nx ∧ BdT (w : Int) kind ln r' x (.own B 0 ys.length 1) ∧ CohAt (fun t => 2 < t ∧ t < st.nx) r'.g x (.own B 0 ys.length 1) (withC m w F.1)) (W_region (fun k => by simp (decide := true) (disch := first | omega | simp (decide := true) only [List.length_set, hl]) only [sims, autos, simprocAttr, hps, h1, h3, h13, g0, gB', gz, hiy, hib, hcz, hzl, Nat.mul_one]; rfl) ⟨rfl, ?_⟩) ?_
  · refine ⟨?_, ?_, by show r.nx ≤ r.nx + 6; omega, ⟨?_, ?_, ?_, ?_, ?_, ?_, ?_, ?_, by show 3 ≤ r.nx + 6; omega⟩, ?_⟩
    iterate 10 (· simp (decide := true) (disch := first | omega | simp (decide := true) only [List.length_set, hl]) only [sims, autos, simprocAttr, hps, hl, h1, h3, h5, h6, h14, g0, g1, g2, gw])
    refine CohAt.with (P := fun t => 2 < t ∧ t < st.nx) ⟨hB1, hB2⟩ hu (hx.mono (fun t h => h) (fun t h => hg t h.1.2)) w _ hz' ?_ (fun t ht hne => ?_)
    · simp (decide := true) (disch := first | omega | simp (decide := true) only [List.length_set, hl]) only [sims, autos, simprocAttr, hps]
    · exact put1_ne hne
  clear hl h1 h3 h5 h6 h13 h14 g0 g1 g2 gz gw gB'
  rintro r' ⟨h14, gw, hnn2, ⟨hl, h1, h3, h5, h6, g0, g1, g2, hnx5⟩, hC⟩
  have hokW : Ok (withC m w F.1) := ok_with hok hw hfit
  obtain ⟨N3, v3, g3, nx3, q3, x3, rfl, hx3, hg3, hn3⟩ := back_run (withC m w F.1) hokW.1 hokW.2.1 F.2 hgw (w : Int) x (.own B 0 ys.length 1) r'.g (r'.nx + 5) (hC.coh.mono (fun t h => by show t < r'.nx + 5; have := h.2; omega) (fun _ _ => rfl))
  have q3 := q3 N3 (Nat.le_refl _)
  have e2 := (hg3 2 (by omega)).trans g2
  have hso := still_own x B ys.length 1
  have hcutx : cut [x, .own B 0 ys.length 1] 0 2 = [x, .own B 0 ys.length 1] := rfl
  have hcutw : cut F.2.enc 0 19 = F.2.enc := cut_all hglen
  have hlen19 : 19 ≤ F.2.enc.length := by omega
  have hfin : CohIn (fun t => 2 < t) g3 x3 (.own B 0 ys.length 1) (backM (withC m w F.1) F.2) := by
    obtain ⟨k1, ys', k2, k3⟩ := hC.coh
    refine ⟨?_, ys', by rw [backM_caches]; exact k2, k3.mono (fun t h => h.1) (fun t h => hg3 t (by have := h.2; omega))⟩
    rcases hx3 with ⟨rfl, hx3⟩ | ⟨A, a1, a2, a3, a4⟩
    · rw [hx3]
      exact k1.mono (fun t h => h.1) (fun t h => hg3 t (by have := h.2; omega))
    · exact .inr ⟨A, by show 2 < A; omega, a3, a4⟩
  have hlf := hfin.leaf
  obtain ⟨v, ids, hv, hf⟩ := coh_frz (g := put1 g3 (2, some [x3, .own B 0 ys.length 1])) (hfin.mono (P' := fun _ => True) (fun _ _ => trivial) (fun t ht => put1_ne (by have : 2 < t := ht; omega))) nx3
  refine W_seqn (W_regionN ⟨N3, by simp (decide := true) (disch := first | omega | simp (decide := true) only [List.length_set, hl]) only [sims, autos, simprocAttr, hps, h1, h3, h6, h14, g0, gw, hcutx, hcutw, hglen, hlen19, ap71, p71, n71, hso, evI, q3, e2, hlf]; rfl⟩ ⟨rfl, W_ret ⟨rfl, v, hv, .agg [x3, .own B 0 ys.length 1], ids, ?_, hf⟩⟩)
  simp only [resT, resL, resOne, show f53.res = [.cell 6 false 2] from rfl]
  simp (decide := true) (disch := first | omega | simp (decide := true) only [List.length_set, hl]) only [sims, autos, simprocAttr, hps, h6]
  try rfl
end Go.Proofs.Ytikeeegkndnnfaa.Abs
