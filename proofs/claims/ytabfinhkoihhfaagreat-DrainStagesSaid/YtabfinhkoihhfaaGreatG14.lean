/- Words of other seats' texts, as they are used here: Rdo2. -/
import Derived.Test.YtabfinhkoihhfaaGreatG13
namespace Go.Proofs.YtabfinhkoihhfaaGreat.Abs
open Go Go.RowKit Fn
set_option linter.unusedVariables false
set_option linter.unusedSimpArgs false
set_option linter.unnecessarySimpa false
set_option maxRecDepth 100000
set_option maxHeartbeats 4000000

theorem ap76' : ap 76 = some f76 := rfl
theorem ap77 : ap 77 = some f77 := rfl
theorem p77 : f77.pure = true := rfl
theorem n77 : f77.nat = none := rfl
theorem ap79' : ap 79 = some f79 := rfl
theorem p79' : f79.pure = true := rfl
theorem n79' : f79.nat = none := rfl
def RdF (who kind : Int) (ln i : Nat) (st : St) (x y : T) : Prop := st.s.length = 152 ∧ rho st.s (.tmp 1) = .int .i64 who ∧ rho st.s (.tmp 3) = .ptr 0 0 ∧ rho st.s (.tmp 5) = .ptr 1 0 ∧ rho st.s (.tmp 6) = .ptr 2 0 ∧ rho st.s (.tmp 7) = .int .i64 (i : Int) ∧ st.g 0 = some [x, y] ∧ st.g 1 = some [.int .i64 kind, .int .u32 (ln : Int)] ∧ st.g 2 = some [.imm true 0 [], .imm true 0 []] ∧ 3 ≤ st.nx
def rdLoop : ACode := match f56.body with | .seq _ (.seq _ (.seq _ (.seq (.seq _ (.block _ (.loop c))) _))) => c | _ => .skip
def rdBlk : ACode := match rdLoop with | .seq _ (.seq (.block _ c) _) => c | _ => .skip
def rdSet : ACode := match rdBlk with | .seq _ (.seq _ (.seq _ (.seq _ c))) => c | _ => .skip
theorem cell_up {R : List (List Way)} {v : T} (h : UpT (.agg [setsT ⟨R⟩]) v) : ∃ z, v = .agg [z] ∧ UpT (setsT ⟨R⟩) z ∧ allLeaf [z] = true := by
  obtain ⟨c', rfl, h2⟩ := h.agg
  simp only [UpL] at h2
  obtain ⟨z, _, rfl, hz, rfl⟩ := h2
  refine ⟨z, rfl, hz, ?_⟩
  obtain ⟨f', c', rfl, _⟩ := UpT.imm (f := false) (n := R.length) (c := R.flatMap (fun l => [rowT l])) hz
  try rfl
theorem rd_set (m : Coh) (hok : Ok m) (who kind : Int) (ln : Nat) (hln : ln ≤ 4294967295) (nxt : Int) (i : Nat) (hi : i < m.caches.length) (st : St) (x y : T) (hF : RdF who kind ln i st x y) (h9 : rho st.s (.tmp 9) = .int .i64 nxt) (hc : CohAt (PN st) st.g x y m) (Q : AExit → St → Prop)
    (hQ : ∀ st', RdF who kind ln i st' x y → CohAt (PN st') st'.g x y (withC m i (setR (cacheAt m i) ln nxt)) → Q .normal st') : W ap rdSet st Q := by
  obtain ⟨hl, h1, h3, h5, h6, h7, g0, g1, g2, hnx⟩ := hF
  obtain ⟨B, ys, ⟨hB1, hB2⟩, rfl, gB, hu, hx⟩ := hc
  obtain ⟨z, hz, hzu, f, a, b, rfl⟩ := cache_cell hu hi
  have hyl := upL_len1 m hu
  obtain ⟨v0, hE, hex⟩ := ref_set_rows (cacheAt m i) (cacheAt_wf hok.1 i hi) (hok.2.2.2 i hi) ln hln nxt
  obtain ⟨N, v', hv, q⟩ := hE.callU ap79' (args' := [.agg [.imm f a b], .int .u32 (ln : Int), .int .i64 nxt]) (UpL.cons (upT_agg (UpL.cons hzu UpL.nil)) (UpL.refl _))
  obtain ⟨z', rfl, hz', hzl⟩ := cell_up ((up_of hex).trans hv)
  have q := q N (Nat.le_refl _) st.g [.agg [.imm f a b], .int .u32 (ln : Int), .int .i64 nxt] [] rfl
  have hcut := cell_at hz
  have hiy : i < ys.length := by omega
  have hib : i + 1 ≤ ys.length := by omega
  refine W_regionN ⟨N, by simp +decide (disch := first | omega | simp +decide [hl]) only [s9, simprocAttr, h3, h5, h7, h9, g0, g1, gB, hiy, hib, hcut, ap79', p79', n79', q, ite_self, hzl, Nat.mul_one]; rfl⟩ (hQ _ ?_ ?_)
  · refine ⟨?_, ?_, ?_, ?_, ?_, ?_, ?_, ?_, ?_, by show 3 ≤ st.nx + 14; omega⟩ <;> simp +decide (disch := first | omega | simp +decide [hl]) only [s9, simprocAttr, hl, h1, h3, h5, h6, h7, g0, g1, g2]
  · refine CohAt.with (P := fun t => 2 < t ∧ t < st.nx + 14) ⟨hB1, by omega⟩ hu (hx.mono (fun t h => ⟨⟨h.1.1, by have := h.1.2; omega⟩, h.2⟩) (fun _ _ => rfl)) i _ hz' ?_ (fun t ht hne => ?_)
    · simp +decide (disch := first | omega | simp +decide [hl]) only [s9, simprocAttr]
    · simp +decide (disch := first | omega | simp +decide [hl]) only [s9, simprocAttr]
theorem rd_blk (m : Coh) (hok : Ok m) (who kind : Int) (hk : kind = 1 ∨ kind = 2 ∨ kind = 3) (ln : Nat) (hln : ln ≤ 4294967295) (hlies : ln * 16 + 16 ≤ m.mem.length) (i : Nat) (hi : i < m.caches.length) (st : St) (x y : T) (hF : RdF who kind ln i st x y) (hc : CohAt (PN st) st.g x y m) (Q : AExit → St → Prop)
    (hQ : ∀ e st' x' y', (e = .normal ∨ e = .exit 1) → RdF who kind ln i st' x' y' → CohAt (PN st') st'.g x' y' (snoop1 who kind ln m i) → Q e st') : W ap rdBlk st Q := by
  obtain ⟨hl, h1, h3, h5, h6, h7, g0, g1, g2, hnx⟩ := hF
  obtain ⟨B, ys, ⟨hB1, hB2⟩, rfl, gB, hu, hx⟩ := hc
  have hc : CohAt (PN st) st.g x (.own B 0 ys.length 1) m := ⟨B, ys, ⟨hB1, hB2⟩, rfl, gB, hu, hx⟩
  obtain ⟨z, hz, hzu, f, a, b, rfl⟩ := cache_cell hu hi
  have hyl := upL_len1 m hu
  have hww := wayOf_wf (cacheAt_wf hok.1 i hi) ln
  obtain ⟨N, q⟩ := (ref_way (cacheAt m i) (cacheAt_wf hok.1 i hi) ln hln).callF ap76' (args' := [.agg [.imm f a b], .int .u32 (ln : Int)]) (UpL.cons (upT_agg (UpL.cons hzu UpL.nil)) (UpL.refl _)) (way_up _) (way_flat _)
  have q := q N (Nat.le_refl _) st.g [.agg [.imm f a b], .int .u32 (ln : Int)] [] rfl
  have hsk := @snoop1_skip who kind ln m i
  have hsb := @snoop1_back who kind ln m i
  have hss := @snoop1_set who kind ln m i
  have hcutc := cell_at hz
  have hiy : i < ys.length := by omega
  have hib : i + 1 ≤ ys.length := by omega
  generalize hweq : wayOf (cacheAt m i) ln = w at *
  have hwl := leaf_ints _ (way_ints w)
  have hlen := way_len hww
  have hst := way_state w
  have hdt := way_cut w hww
  have hzl : zeroW.enc.length = 19 := rfl
  have hspz : splice zeroW.enc 0 w.enc = w.enc := splice_all (by rw [hlen]; rfl)
  have hzf := leaf_ints _ (way_ints zeroW)
  generalize hwe : w.enc = we at *
  have hze := zero_enc
  refine W_cut (fun s => (∃ p, 2 < p ∧ p < s.nx ∧ st.nx ≤ p ∧ rho s.s (.tmp 8) = .ptr p 0 ∧ s.g p = some we) ∧ RdF who kind ln i s x (.own B 0 ys.length 1) ∧ st.nx ≤ s.nx ∧ (∀ t, t < st.nx → s.g t = st.g t)) (W_regionN ⟨N, by rw [← hze]; simp +decide (disch := first | omega | simp +decide [hl]) only [s9, simprocAttr, h3, h5, h7, g0, g1, gB, hcutc, hiy, hib, ap76', p76, n76, q, hzf, hzl, hlen, hwl, hspz, Nat.le_refl, Nat.mul_one]; rfl⟩ ⟨rfl, ?_⟩) ?_
  · refine ⟨⟨st.nx + 8, by omega, by show st.nx + 8 < st.nx + 10; omega, by omega, ?_, ?_⟩, ⟨?_, ?_, ?_, ?_, ?_, ?_, ?_, ?_, ?_, by show 3 ≤ st.nx + 10; omega⟩, by show st.nx ≤ st.nx + 10; omega, fun t ht => ?_⟩ <;> simp +decide (disch := first | omega | simp +decide [hl]) only [s9, simprocAttr, hl, h1, h3, h5, h6, h7, g0, g1, g2]
  clear q g0 g1 g2 h1 h3 h5 h6 h7 hl
  rintro s ⟨⟨p, hp1, hp2, hp3, h8, gp⟩, ⟨hl, h1, h3, h5, h6, h7, g0, g1, g2, hnx2⟩, hnn, hg⟩
  have hc' : CohAt (fun t => 2 < t ∧ t < st.nx) s.g x (.own B 0 ys.length 1) m := hc.mono (fun t h => h) (fun t h => hg t h.2)
  by_cases hwho : (i : Int) = who
  · have hd : ((i : Int) == who) = true := by simpa using hwho
    refine W_seq (W_seqn (W_region (fun k => by simp +decide (disch := first | omega | simp +decide [hl]) only [s9, simprocAttr, h1, h7, hd]; rfl) ⟨rfl, W_tru (W_exit (.inr ⟨by simp, hQ _ _ x (.own B 0 ys.length 1) (.inr rfl) ⟨?_, ?_, ?_, ?_, ?_, ?_, ?_, ?_, ?_, by show 3 ≤ s.nx + 8; omega⟩ ?_⟩))⟩))
    iterate 9 (· simp +decide (disch := first | omega | simp +decide [hl]) only [s9, simprocAttr, hl, h1, h3, h5, h6, h7, g0, g1, g2])
    rw [hsk (.inl hwho)]
    exact hc'.mono (fun t h => ⟨h.1, by show t < s.nx + 8; have := h.2; omega⟩) (fun _ _ => rfl)
  have hd : ((i : Int) == who) = false := by simpa using hwho
  by_cases hw0 : w.state = 0
  · have hd0 : (w.state == 0) = true := by simpa using hw0
    refine W_seq (W_seqn (W_region (fun k => by simp +decide (disch := first | omega | simp +decide [hl]) only [s9, simprocAttr, h1, h7, h8, gp, hlen, hst, hd, hd0]; rfl) ⟨rfl, W_tru (W_exit (.inr ⟨by simp, hQ _ _ x (.own B 0 ys.length 1) (.inr rfl) ⟨?_, ?_, ?_, ?_, ?_, ?_, ?_, ?_, ?_, by show 3 ≤ s.nx + 8; omega⟩ ?_⟩))⟩))
    iterate 9 (· simp +decide (disch := first | omega | simp +decide [hl]) only [s9, simprocAttr, hl, h1, h3, h5, h6, h7, g0, g1, g2])
    rw [hsk (.inr hw0)]
    exact hc'.mono (fun t h => ⟨h.1, by show t < s.nx + 8; have := h.2; omega⟩) (fun _ _ => rfl)
  have hd0 : (w.state == 0) = false := by simpa using hw0
  have hno : ¬ ((i : Int) = who ∨ w.state = 0) := fun h => h.elim hwho hw0
  refine W_seqn (W_seqn (W_region (fun k => by simp +decide (disch := first | omega | simp +decide [hl]) only [s9, simprocAttr, h1, h7, h8, gp, hlen, hst, hd, hd0]; rfl) ⟨rfl, W_fls (W_skip ⟨rfl, ?_⟩)⟩))
  obtain ⟨N2, q2⟩ := (ref_snoop w.state kind hk).call ap77 (fun g => rfl)
  have q2 := q2 N2 (Nat.le_refl _)
  have hT : snoopT w.state kind = .tup [.int .i64 (snoopv w.state kind), .bool (backv w.state)] := rfl
  refine W_cut (fun s' => rho s'.s (.tmp 8) = .ptr p 0 ∧ rho s'.s (.tmp 9) = .int .i64 (snoopv w.state kind) ∧ rho s'.s (.tmp 10) = .bool (backv w.state) ∧ s'.g p = some we ∧ RdF who kind ln i s' x (.own B 0 ys.length 1) ∧ s.nx ≤ s'.nx ∧ (∀ t, t < st.nx → s'.g t = st.g t)) (W_regionN ⟨N2, by simp +decide (disch := first | omega | simp +decide [hl]) only [s9, simprocAttr, h5, h8, g1, gp, hlen, hst, ap77, p77, n77, q2, hT]; rfl⟩ ⟨rfl, ?_⟩) ?_
  · refine ⟨?_, ?_, ?_, ?_, ⟨?_, ?_, ?_, ?_, ?_, ?_, ?_, ?_, ?_, by show 3 ≤ s.nx + 8 + 10; omega⟩, by show s.nx ≤ s.nx + 8 + 10; omega, hg⟩ <;> simp +decide (disch := first | omega | simp +decide [hl]) only [s9, simprocAttr, hl, h1, h3, h5, h6, h7, h8, g0, g1, g2, gp]
  clear hc' g0 g1 g2 h1 h3 h5 h6 hl gp h7 h8 hg
  rintro s' ⟨h8, h9, h10, gp, ⟨hl, h1, h3, h5, h6, h7, g0, g1, g2, hnx3⟩, hnn2, hg⟩
  have hc' : CohAt (fun t => 2 < t ∧ t < st.nx) s'.g x (.own B 0 ys.length 1) m := hc.mono (fun t h => h) (fun t h => hg t h.2)
  by_cases hbk : backv w.state = true
  · rw [hbk] at h10
    refine W_seqn (W_seqn (W_region (fun k => by simp +decide (disch := first | omega | simp +decide [hl]) only [s9, simprocAttr, h10]; rfl) ⟨rfl, W_tru ?_⟩))
    have hcutx : cut [x, .own B 0 ys.length 1] 0 2 = [x, .own B 0 ys.length 1] := rfl
    obtain ⟨N3, v3, g3, nx3, q3, x3, y3, rfl, hx3, hg3, hn3⟩ := put_run m hok.1 hok.2.1 hok.2.2.1 ln hln w.data hww.2.2.1.1 x (.own B 0 ys.length 1) s'.g (s'.nx + 1 + 7) (hc'.coh.mono (fun t h => by show t < s'.nx + 1 + 7; have := h.2; omega) (fun _ _ => rfl))
    have q3 := q3 N3 (Nat.le_refl _)
    have hx4 : CohAt (fun t => 2 < t ∧ t < nx3) g3 x3 y3 (putM m ln w.data) := by
      rcases hx3 with ⟨_, h⟩ | ⟨h, _, _⟩
      · exact h.mono (fun t h => ⟨by have := h.1; omega, h.2⟩) (fun _ _ => rfl)
      · exact absurd hlies h
    have e0 := (hg3 0 (by omega)).trans g0
    have e1 := (hg3 1 (by omega)).trans g1
    have e2 := (hg3 2 (by omega)).trans g2
    have hlf := hx4.coh.leaf
    have hb18 : 0 + 2 + 16 ≤ we.length := by omega
    refine W_regionN ⟨N3, by simp +decide (disch := first | omega | simp +decide [hl]) only [s9, simprocAttr, h3, h5, h8, g0, g1, gp, hlen, hcutx, hdt, ap78, p78, n78, evI, q3, e0, hlf]; rfl⟩ ⟨rfl, ?_⟩
    have hmp := putM_caches m ln w.data
    refine W_abs (fun z' => RdF who kind ln i z' x3 y3 ∧ rho z'.s (.tmp 9) = .int .i64 (snoopv w.state kind) ∧ CohAt (PN z') z'.g x3 y3 (putM m ln w.data)) ⟨⟨?_, ?_, ?_, ?_, ?_, ?_, ?_, ?_, ?_, by show 3 ≤ nx3; omega⟩, ?_, hx4.mono (fun t h => h) (fun t h => put1_ne (by have := h.1; omega))⟩ (fun z' ⟨hF, a9, hC⟩ => rd_set (putM m ln w.data) (ok_put hok ln hww.2.2.1.2) who kind ln hln _ i (by rw [hmp]; exact hi) z' x3 _ hF a9 hC Q (fun st' hF hC => hQ _ _ _ _ (.inl rfl) hF (by rw [hsb hno hbk]; have e : cacheAt (putM m ln w.data) i = cacheAt m i := by { unfold cacheAt; rw [hmp] }; rw [e] at hC; exact hC)))
    all_goals simp +decide (disch := first | omega | simp +decide [hl]) only [s9, simprocAttr, hl, h1, h3, h5, h6, h7, h8, h9, e0, e1, e2]
  · have hbf : backv w.state = false := by simpa using hbk
    rw [hbf] at h10
    refine W_seqn (W_seqn (W_region (fun k => by simp +decide (disch := first | omega | simp +decide [hl]) only [s9, simprocAttr, h10]; rfl) ⟨rfl, W_fls (W_skip ⟨rfl, ?_⟩)⟩))
    refine W_abs (fun z => RdF who kind ln i z x (.own B 0 ys.length 1) ∧ rho z.s (.tmp 9) = .int .i64 (snoopv w.state kind) ∧ CohAt (PN z) z.g x (.own B 0 ys.length 1) m) ⟨⟨?_, ?_, ?_, ?_, ?_, ?_, ?_, ?_, ?_, by show 3 ≤ s'.nx + 1; omega⟩, ?_, hc'.mono (fun t h => ⟨h.1, by show t < s'.nx + 1; have := h.2; omega⟩) (fun _ _ => rfl)⟩ (fun z ⟨hF, a9, hC⟩ => rd_set m hok who kind ln hln _ i hi z x _ hF a9 hC Q (fun st' hF hC => hQ _ _ _ _ (.inl rfl) hF (by rw [hss hno hbk]; exact hC)))
    all_goals simp +decide (disch := first | omega | simp +decide [hl]) only [s9, simprocAttr, hl, h1, h3, h5, h6, h7, h8, h9, g0, g1, g2]
theorem ap82' : ap 82 = some f82 := rfl
theorem p82' : f82.pure = true := rfl
theorem n82' : f82.nat = none := rfl
theorem ap83 : ap 83 = some f83 := rfl
theorem p83 : f83.pure = true := rfl
theorem n83 : f83.nat = none := rfl
theorem ap84' : ap 84 = some f84 := rfl
theorem p84' : f84.pure = true := rfl
theorem n84' : f84.nat = none := rfl
theorem ref_fill (c : Cache) (hc : c.wf) (hfit : Fit c.sets) (ln : Nat) (hln : ln ≤ 4294967295) (st : Int) (data : List Int) (hd : data.length = 16 ∧ ∀ y ∈ data, (Lit.int .u8 y).wf = true) :
    ∃ u, E ap 82 [.agg [setsT c], .int .u32 (ln : Int), .int .i64 st, .agg (dataT data)] (.tup [u, .agg (fillR c ln st data).2.enc]) ∧ CacheOf (fillR c ln st data).1 u := by
  by_cases hb : st < 1 ∨ st > 3 ∨ c.sets.length = 0 ∨ (row c (seti c ln)).length = 0
  · have e : fillR c ln st data = (c.sets, zeroW) := if_pos hb
    rw [e]
    obtain ⟨v, h, u, rfl, o⟩ := ref_fill_bad c hc hfit ln hln st data hd.1 (by
      rcases hb with h | h | h | h
      · exact .inl h
      · exact .inr (.inl h)
      · exact .inr (.inr (victim_none c ln (.inl h)))
      · exact .inr (.inr (victim_none c ln (.inr h))))
    exact ⟨u, h, o⟩
  · obtain ⟨v, h, u, rfl, o⟩ := ref_fill_ok c hc hfit ln hln st data hd (by omega) (by omega) (by omega)
    exact ⟨u, h, o⟩
def rdInc : ACode := match rdLoop with | .seq _ (.seq _ c) => c | _ => .skip
theorem CohAt.ylen {P : Nat → Prop} {g : Mem} {x y : T} {m : Coh} (h : CohAt P g x y m) : ∃ B, P B ∧ y = .own B 0 m.caches.length 1 := by
  obtain ⟨B, ys, pB, rfl, _, hu, _⟩ := h
  exact ⟨B, pB, by rw [upL_len1 m hu]⟩
theorem rd_loop (m : Coh) (hok : Ok m) (who kind : Int) (hk : kind = 1 ∨ kind = 2 ∨ kind = 3) (ln : Nat) (hln : ln ≤ 4294967295) (hlies : ln * 16 + 16 ≤ m.mem.length) (Q : AExit → St → Prop)
    (hQ : ∀ st x y, RdF who kind ln m.caches.length st x y → CohAt (PN st) st.g x y (snoopN who kind ln m m.caches.length) → Q (.exit 0) st) :
    ∀ (k : Nat) (st : St), (∃ (i : Nat) (x y : T), RdF who kind ln i st x y ∧ CohAt (PN st) st.g x y (snoopN who kind ln m i) ∧ i ≤ m.caches.length ∧ k = m.caches.length - i) → W ap (.loop rdLoop) st Q := by
  refine W_loop _ ?_
  rintro k st ⟨i, x, y, hF, hC, hi, hkk⟩
  obtain ⟨hl, h1, h3, h5, h6, h7, g0, g1, g2, hnx⟩ := hF
  have hm4 := hok.2.2.1
  have hsl := snoopN_len who kind ln m i
  obtain ⟨B, pB, rfl⟩ := hC.ylen
  rw [hsl.1] at g0 hC
  by_cases hend : i = m.caches.length
  · have hlt : decide ((i : Int) < (m.caches.length : Int)) = false := decide_eq_false (by omega)
    refine W_seq (W_seqn (W_region (fun k => by simp +decide (disch := first | omega | simp +decide [hl]) only [s9, simprocAttr, h3, h7, g0, hlt]; rfl) ⟨rfl, W_fls (W_exit (.inr ⟨by simp, .inr ⟨by simp, hQ _ x (.own B 0 m.caches.length 1) ⟨?_, ?_, ?_, ?_, ?_, ?_, ?_, ?_, ?_, by show 3 ≤ st.nx + 5; omega⟩ ?_⟩⟩))⟩))
    iterate 5 (· simp +decide (disch := first | omega | simp +decide [hl]) only [s9, simprocAttr, hl, h1, h3, h5, h6])
    · rw [← hend]
      simp +decide (disch := first | omega | simp +decide [hl]) only [s9, simprocAttr, h7]
    iterate 3 (· simp +decide (disch := first | omega | simp +decide [hl]) only [s9, simprocAttr, g0, g1, g2])
    · rw [← hend] at hC ⊢
      exact hC.mono (fun t h => ⟨h.1, by show t < st.nx + 5; have := h.2; omega⟩) (fun _ _ => rfl)
  · have hlt : decide ((i : Int) < (m.caches.length : Int)) = true := decide_eq_true (by omega)
    have hw2 : IntKind.i64.wrap ((i : Int) + 1) = ((i + 1 : Nat) : Int) := by rw [wrap_id (by omega)]; omega
    refine W_seqn (W_seqn (W_region (fun k => by simp +decide (disch := first | omega | simp +decide [hl]) only [s9, simprocAttr, h3, h7, g0, hlt]; rfl) ⟨rfl, W_tru (W_skip ⟨rfl, ?_⟩)⟩))
    have hinc : ∀ st' x' y', RdF who kind ln i st' x' y' → CohAt (PN st') st'.g x' y' (snoopN who kind ln m (i + 1)) → W ap rdInc st' (fun e s' => (e = .normal ∧ ∃ mm, mm < k ∧ ∃ (i : Nat) (x y : T), RdF who kind ln i s' x y ∧ CohAt (PN s') s'.g x y (snoopN who kind ln m i) ∧ i ≤ m.caches.length ∧ mm = m.caches.length - i) ∨ (e ≠ .normal ∧ Q e s')) := by
      rintro st' x' y' ⟨hl, h1, h3, h5, h6, h7, g0, g1, g2, hnx⟩ hC
      refine W_region (fun k => by simp +decide (disch := first | omega | simp +decide [hl]) only [s9, simprocAttr, h7, hw2]; rfl) (.inl ⟨rfl, m.caches.length - (i + 1), by omega, i + 1, x', y', ⟨?_, ?_, ?_, ?_, ?_, ?_, ?_, ?_, ?_, ?_⟩, ?_, by omega, rfl⟩)
      iterate 9 (· simp +decide (disch := first | omega | simp +decide [hl]) only [s9, simprocAttr, hl, h1, h3, h5, h6, g0, g1, g2])
      · show 3 ≤ st'.nx + 3
        omega
      · exact hC.mono (fun t h => ⟨h.1, by show t < st'.nx + 3; have := h.2; omega⟩) (fun _ _ => rfl)
    refine W_seqn (W_block (W_abs (fun z => RdF who kind ln i z x (.own B 0 m.caches.length 1) ∧ CohAt (PN z) z.g x (.own B 0 m.caches.length 1) (snoopN who kind ln m i)) ⟨⟨?_, ?_, ?_, ?_, ?_, ?_, ?_, ?_, ?_, by show 3 ≤ st.nx + 5; omega⟩, hC.mono (fun t h => ⟨h.1, by show t < st.nx + 5; have := h.2; omega⟩) (fun _ _ => rfl)⟩ (fun z ⟨hFz, hCz⟩ => rd_blk _ (ok_snoopN hok who kind ln i hi) who kind hk ln hln (by rw [hsl.2]; exact hlies) i (by rw [hsl.1]; omega) z x _ hFz hCz _ (fun e st' x' y' he hF' hC' => ?_))))
    iterate 9 (· simp +decide (disch := first | omega | simp +decide [hl]) only [s9, simprocAttr, hl, h1, h3, h5, h6, h7, g0, g1, g2])
    have hfin := hinc st' x' y' hF' hC'
    rcases he with rfl | rfl
    · exact .inr (.inl ⟨by simp, rfl, hfin⟩)
    · exact .inl ⟨rfl, rfl, hfin⟩
def RdT (who kind : Int) (ln : Nat) (st : St) (x y : T) : Prop := st.s.length = 152 ∧ rho st.s (.tmp 1) = .int .i64 who ∧ rho st.s (.tmp 3) = .ptr 0 0 ∧ rho st.s (.tmp 5) = .ptr 1 0 ∧ rho st.s (.tmp 6) = .ptr 2 0 ∧ st.g 0 = some [x, y] ∧ st.g 1 = some [.int .i64 kind, .int .u32 (ln : Int)] ∧ st.g 2 = some [.imm true 0 [], .imm true 0 []] ∧ 3 ≤ st.nx
def rdRest : ACode := match f56.body with | .seq _ (.seq _ (.seq _ (.seq _ c))) => c | _ => .skip
def rdMine : ACode := match rdRest with | .seq _ (.seq (.seq _ (.cond _ c _)) _) => c | _ => .skip
def rdFill : ACode := match rdRest with | .seq _ (.seq _ c) => c | _ => .skip
def RdoEnd (n : Coh) (e : AExit) (st : St) : Prop := e.leaves = true ∧ ∃ v, UpT (.agg n.enc) v ∧ ∃ u ids, resT st.s st.g f56.res = some u ∧ frz ⟨st.g, st.nx⟩ frzDepth u = some (v, ids)
theorem rd_mine (m : Coh) (hok : Ok m) (w : Nat) (kind : Int) (ln : Nat) (hln : ln ≤ 4294967295) (nxt : Int) (hw : w < m.caches.length) (st : St) (x y : T) (hF : RdT (w : Int) kind ln st x y) (h11 : rho st.s (.tmp 11) = .int .i64 nxt) (hc : CohAt (PN st) st.g x y m) : W ap rdMine st (fun e s => e ≠ .normal ∧ RdoEnd (withC m w (setR (cacheAt m w) ln nxt)) e s) := by
  obtain ⟨hl, h1, h3, h5, h6, g0, g1, g2, hnx⟩ := hF
  obtain ⟨B, ys, ⟨hB1, hB2⟩, rfl, gB, hu, hx⟩ := hc
  obtain ⟨z, hz, hzu, f, a, b, rfl⟩ := cache_cell hu hw
  have hyl := upL_len1 m hu
  obtain ⟨v0, hE, hex⟩ := ref_set_rows (cacheAt m w) (cacheAt_wf hok.1 w hw) (hok.2.2.2 w hw) ln hln nxt
  obtain ⟨N, v', hv, q⟩ := hE.callU ap79' (args' := [.agg [.imm f a b], .int .u32 (ln : Int), .int .i64 nxt]) (UpL.cons (upT_agg (UpL.cons hzu UpL.nil)) (UpL.refl _))
  obtain ⟨z', rfl, hz', hzl⟩ := cell_up ((up_of hex).trans hv)
  have q := q N (Nat.le_refl _) st.g [.agg [.imm f a b], .int .u32 (ln : Int), .int .i64 nxt] [] rfl
  have hcut := cell_at hz
  have hiy : w < ys.length := by omega
  have hib : w + 1 ≤ ys.length := by omega
  have hcutx : cut [x, .own B 0 ys.length 1] 0 2 = [x, .own B 0 ys.length 1] := rfl
  have hlf : allLeaf [x, .own B 0 ys.length 1] = true := by
    show ([x, T.own B 0 ys.length 1].all T.leaf) = true
    rw [List.all_cons, List.all_cons, hx.leaf]; rfl
  refine W_cut (fun s => s.s.length = 152 ∧ rho s.s (.tmp 3) = .ptr 0 0 ∧ rho s.s (.tmp 6) = .ptr 2 0 ∧ s.g 0 = some [x, .own B 0 ys.length 1] ∧ s.g 2 = some [.imm true 0 [], .imm true 0 []] ∧ CohAt (PN s) s.g x (.own B 0 ys.length 1) (withC m w (setR (cacheAt m w) ln nxt))) (W_regionN ⟨N, by simp +decide (disch := first | omega | simp +decide [hl]) only [s9, simprocAttr, h1, h3, h5, h11, g0, g1, gB, hiy, hib, hcut, ap79', p79', n79', q, ite_self, hzl, Nat.mul_one]; rfl⟩ ⟨rfl, ?_⟩) ?_
  · refine ⟨?_, ?_, ?_, ?_, ?_, ?_⟩
    iterate 5 (· simp +decide (disch := first | omega | simp +decide [hl]) only [s9, simprocAttr, hl, h3, h6, g0, g2])
    refine CohAt.with (P := fun t => 2 < t ∧ t < st.nx + 14) ⟨hB1, by omega⟩ hu (hx.mono (fun t h => ⟨⟨h.1.1, by have := h.1.2; omega⟩, h.2⟩) (fun _ _ => rfl)) w _ hz' ?_ (fun t ht hne => ?_)
    · simp +decide (disch := first | omega | simp +decide [hl]) only [s9, simprocAttr]
    · simp +decide (disch := first | omega | simp +decide [hl]) only [s9, simprocAttr]
  rintro s ⟨hl, h3, h6, g0, g2, hc⟩
  obtain ⟨v, ids, hv, hf⟩ := coh_frz (g := put1 s.g (2, some [x, .own B 0 ys.length 1])) (hc.coh.mono (P' := fun _ => True) (fun _ _ => trivial) (fun t ht => put1_ne (by have := ht.1; omega))) (s.nx + 2)
  refine W_seqn (W_region (fun k => by simp +decide (disch := first | omega | simp +decide [hl]) only [s9, simprocAttr, h3, h6, g0, g2, hcutx, hlf]; rfl) ⟨rfl, W_ret ⟨by simp, rfl, v, hv, .agg [x, .own B 0 ys.length 1], ids, ?_, hf⟩⟩)
  simp only [resT, resL, resOne, show f56.res = [.cell 6 false 2] from rfl]
  simp +decide (disch := first | omega | simp +decide [hl]) only [s9, simprocAttr, h6]
  try rfl
theorem coh_argsR {P : Nat → Prop} {g : Mem} {x y : T} {m : Coh} (h : CohIn P g x y m) (rest : List T) (hr : frzAll (frz ⟨g, 0⟩ 12) rest = some (rest, [])) :
    ∃ x' y', UpL [memT m, cachT m] [x', y'] ∧ ∃ ids, frzL ⟨g, 0⟩ frzDepth (.agg [x, y] :: rest) = some (.agg [x', y'] :: rest, ids) ∧ ∀ t ∈ ids, P t := by
  obtain ⟨x', y', h1, ids, h2, h3⟩ := coh_args h [] [] ints_nil ints_nil
  refine ⟨x', y', h1, ids, ?_, h3⟩
  unfold frzL at h2 ⊢
  rw [show frzDepth = 12 from rfl] at h2 ⊢
  simp only [frzAll] at h2 ⊢
  split at h2
  · rename_i y us m ts e1 e2
    simp only [Option.some.injEq, Prod.mk.injEq, List.cons.injEq] at h2 e2
    obtain ⟨⟨rfl, _⟩, h4⟩ := h2
    obtain ⟨rfl, rfl⟩ := e2
    simp only [e1, hr]
    rw [h4]
  · cases h2
theorem off_lt {ids : List Nat} {n : Nat} (h : ∀ t ∈ ids, t < n) (p : Nat) (hp : n ≤ p) : List.contains ids p = false := has_off (fun t ht => by have := h t ht; omega)
theorem agg_up {l : List T} (h : ∀ x ∈ l, ∃ k n, x = .int k n) : ∀ v', UpT (.agg l) v' → v' = .agg l := by
  intro v' h'
  obtain ⟨c', rfl, h2⟩ := h'.agg
  rw [upL_ints h2 h]
end Go.Proofs.YtabfinhkoihhfaaGreat.Abs
