/- Words of other seats' texts, as they are used here: Acc5 kG14 kG20 kG21. -/
import Derived.Test.YtabfinhkoihhfaaGreatG18
namespace Go.Proofs.YtabfinhkoihhfaaGreat.Abs
open Go Go.RowKit Fn
set_option linter.unusedVariables false
set_option linter.unusedSimpArgs false
set_option linter.unnecessarySimpa false
set_option maxRecDepth 100000
set_option maxHeartbeats 4000000

theorem up_tupb {u : T} {b : Bool} {v' : T} (h : UpT (.tup [u, .bool b]) v') : ∃ u', v' = .tup [u', .bool b] ∧ UpT u u' := by
  obtain ⟨l, rfl, h2⟩ := h.tup
  simp only [UpL] at h2
  obtain ⟨a, _, rfl, ha, c, _, rfl, hc, rfl⟩ := h2
  rw [hc.bool]
  exact ⟨a, rfl, ha⟩
def wrM (n : Coh) (w addr : Nat) (size v : Int) : Coh := if (writeR (cacheAt n w) addr size v).2 = true then withC n w (writeR (cacheAt n w) addr size v).1 else n
def writeM (m : Coh) (who : Int) (addr : Nat) (size v : Int) : Coh × Bool :=
  if MayP m who addr size then (touchM (wrM (askM m who (addr / 16) 2).1 who.toNat addr size v) who.toNat (addr / 16), (askM m who (addr / 16) 2).2) else (m, false)
theorem ok_wrM {n : Coh} (h : Ok n) (w addr : Nat) (hw : w < n.caches.length) (size v : Int) : Ok (wrM n w addr size v) := by
  unfold wrM
  split
  · exact ok_with h hw (fit_writeR (h.2.2.2 w hw) addr size v)
  · exact h
theorem wrM_len (n : Coh) (w addr : Nat) (size v : Int) : (wrM n w addr size v).caches.length = n.caches.length := by
  unfold wrM
  split
  · exact withC_len _ _ _
  · rfl
theorem ok_writeM {m : Coh} (h : Ok m) (who : Int) (addr : Nat) (ha : addr ≤ 4294967295) (size v : Int) : Ok (writeM m who addr size v).1 := by
  unfold writeM
  split
  · rename_i hm
    have hw : who.toNat < (askM m who (addr / 16) 2).1.caches.length := by rw [ask_len]; have := hm.1.1; have := hm.1.2; omega
    exact ok_touch (ok_wrM (ok_ask h _ _ (by omega) _) _ _ hw _ _) _ _ (by rw [wrM_len]; exact hw)
  · exact h
theorem qCWRITE : ap 51 = some f51 := rfl
theorem rCWRITE : f51.pure = true := rfl
theorem sCWRITE : f51.nat = none := rfl
theorem qRCWRITE : ap 43 = some f43 := rfl
theorem rRCWRITE : f43.pure = true := rfl
theorem sRCWRITE : f43.nat = none := rfl
def bwTail : ACode := match f39.body with | .seq _ (.seq _ (.seq _ (.seq _ (.seq _ c)))) => c | _ => .skip
def rwTail : ACode := match f17.body with | .seq _ (.seq _ (.seq _ (.seq _ (.seq _ (.seq _ c))))) => c | _ => .skip
theorem bus_writeM (m : Coh) (hok : Ok m) (who : Int) (addr : Nat) (ha : addr ≤ 4294967295) (size v : Int) (hv : 0 ≤ v ∧ v ≤ 4294967295) : ∃ u, E ap 39 [.agg [memT m, cachT m], .int .i64 who, .int .u32 (addr : Int), .int .i64 size, .int .u32 v] (.tup [u, .bool (writeM m who addr size v).2]) ∧ UpT (.agg (writeM m who addr size v).1.enc) u := by
  obtain ⟨vv, hE, u, rfl, hu⟩ := E_bodyV (F := f39) (f := 39) (AP := ap) rfl rfl rfl (args := [.agg [memT m, cachT m], .int .i64 who, .int .u32 (addr : Int), .int .i64 size, .int .u32 v]) (P := fun x => ∃ u, x = .tup [u, .bool (writeM m who addr size v).2] ∧ UpT (.agg (writeM m who addr size v).1.enc) u) (by
    generalize hs0 : (_ : List T) ++ List.replicate _ T.undef = s0
    have e0 : s0.length = 54 ∧ rho s0 (.tmp 0) = .agg [memT m, cachT m] ∧ rho s0 (.tmp 1) = .int .i64 who ∧ rho s0 (.tmp 2) = .int .u32 (addr : Int) ∧ rho s0 (.tmp 3) = .int .i64 size ∧ rho s0 (.tmp 4) = .int .u32 v := by subst hs0; exact ⟨rfl, rfl, rfl, rfl, rfl, rfl⟩
    clear hs0
    obtain ⟨hl, h0, h1, h2, h3, hv4⟩ := e0
    have hleaf : allLeaf [memT m, cachT m] = true := rfl
    have hcut : cut [memT m, cachT m] 0 2 = [memT m, cachT m] := rfl
    obtain ⟨N1, q1⟩ := (bus_reached m hok.1 hok.2.1 who addr ha size).call qREA (fun g => rfl)
    have q1 := q1 N1 (Nat.le_refl _)
    refine W_cut (fun st => st.s.length = 54 ∧ rho st.s (.tmp 1) = .int .i64 who ∧ rho st.s (.tmp 2) = .int .u32 (addr : Int) ∧ rho st.s (.tmp 3) = .int .i64 size ∧ rho st.s (.tmp 4) = .int .u32 v ∧ rho st.s (.tmp 5) = .ptr 0 0 ∧ rho st.s (.tmp 10) = .ptr 1 0 ∧ st.g 0 = some [memT m, cachT m] ∧ st.g 1 = some [.imm true 0 [], .imm true 0 []] ∧ st.nx = 3) (W_region (fun k => by simp +decide (disch := first | omega | simp +decide [hl]) only [s9, simprocAttr, h0, hleaf]; rfl) ⟨rfl, ?_⟩) ?_
    · refine ⟨?_, ?_, ?_, ?_, ?_, ?_, ?_, ?_, ?_, rfl⟩ <;> simp +decide (disch := first | omega | simp +decide [hl]) only [s9, simprocAttr, hl, h1, h2, h3, hv4]
    clear hl h0 h1 h2 h3 hv4
    rintro ⟨ss, gg, nx⟩ ⟨hl, h1, h2, h3, hv4, h5, h10, g0, g1, hnx⟩
    simp only at hl h1 h2 h3 hv4 h5 h10 g0 g1 hnx
    subst hnx
    unfold writeM
    by_cases hm : MayP m who addr size
    · rw [decide_eq_true hm] at q1
      rw [if_pos hm]
      obtain ⟨w, rfl⟩ : ∃ w : Nat, who = (w : Int) := ⟨who.toNat, by have := hm.1.1; omega⟩
      have hw : w < m.caches.length := by have := hm.1.2; omega
      rw [Int.toNat_natCast]
      obtain ⟨N2, q2⟩ := (line_of addr ha).call qLOF (fun g => rfl)
      have q2 := q2 N2 (Nat.le_refl _)
      have hln : addr / 16 ≤ 4294967295 := by omega
      obtain ⟨u1, hE1, hu1⟩ := bus_got2 m hok (w : Int) hm.1 (addr / 16) hln 2
      obtain ⟨N3, q3⟩ := hE1.call qGOT (fun g => rfl)
      have q3 := q3 N3 (Nat.le_refl _)
      have hokn := ok_ask hok (w : Int) (addr / 16) hln 2
      have hwn : w < (askM m (w : Int) (addr / 16) 2).1.caches.length := by rw [ask_len]; exact hw
      generalize (askM m (w : Int) (addr / 16) 2).2 = had at *
      generalize (askM m (w : Int) (addr / 16) 2).1 = n at *
      obtain ⟨f1, f2, ys, rfl, hys, hup⟩ := coh_parts hu1
      obtain ⟨z, hz, hzu, f, a, b, rfl⟩ := cache_cell hys hwn
      have hyl := upL_len1 n hys
      have hcz := cell_at hz
      have hw1 : w + 1 ≤ ys.length := by omega
      obtain ⟨uw, hEw, hofw⟩ := bus_write (cacheAt n w) (cacheAt_wf hokn.1 w hwn) (hokn.2.2.2 w hwn) addr ha size v hv
      obtain ⟨N4, v4, hv4u, q4⟩ := hEw.callU qCWRITE (args' := [.agg [.imm f a b], .int .u32 (addr : Int), .int .i64 size, .int .u32 v]) (UpL.cons (upT_agg (UpL.cons hzu UpL.nil)) (UpL.refl _))
      obtain ⟨uw', rfl, huw⟩ := up_tupb hv4u
      obtain ⟨z', rfl, hz', hzl'⟩ := cell_up ((up_of hofw.1).trans huw)
      obtain ⟨fz, nz, cz, rfl⟩ := up_immz hz'
      have hlf : allLeaf [T.imm f1 n.mem.length (n.mem.flatMap u8T), T.imm f2 n.caches.length ys] = true := rfl
      have hcut2 : cut [T.imm f1 n.mem.length (n.mem.flatMap u8T), T.imm f2 n.caches.length ys] 0 2 = [T.imm f1 n.mem.length (n.mem.flatMap u8T), T.imm f2 n.caches.length ys] := rfl
      have hczz : cut [T.imm fz nz cz] 0 1 = [T.imm fz nz cz] := rfl
      refine W_seqn (W_seqn (W_regionN ⟨N1, by simp +decide (disch := first | omega | simp +decide [hl]) only [s9, simprocAttr, h1, h2, h3, h5, g0, hcut, qREA, rREA, sREA, q1]; rfl⟩ ⟨rfl, W_fls (W_skip ⟨rfl, ?_⟩)⟩))
      refine W_cut (fun st => st.s.length = 54 ∧ rho st.s (.tmp 1) = .int .i64 (w : Int) ∧ rho st.s (.tmp 2) = .int .u32 (addr : Int) ∧ rho st.s (.tmp 3) = .int .i64 size ∧ rho st.s (.tmp 4) = .int .u32 v ∧ rho st.s (.tmp 5) = .ptr 0 0 ∧ rho st.s (.tmp 10) = .ptr 1 0 ∧ rho st.s (.tmp 12) = .int .u32 ((addr / 16 : Nat) : Int) ∧ st.g 0 = some [memT m, cachT m] ∧ st.g 1 = some [.imm true 0 [], .imm true 0 []] ∧ st.nx = 12) (W_regionN ⟨N2, by simp +decide (disch := first | omega | simp +decide [hl]) only [s9, simprocAttr, h2, qLOF, rLOF, sLOF, q2]; rfl⟩ ⟨rfl, ?_⟩) ?_
      · refine ⟨?_, ?_, ?_, ?_, ?_, ?_, ?_, ?_, ?_, ?_, rfl⟩ <;> simp +decide (disch := first | omega | simp +decide [hl]) only [s9, simprocAttr, hl, h1, h2, h3, hv4, h5, h10, g0, g1]
      clear hl h1 h2 h3 hv4 h5 h10 g0 g1
      rintro ⟨ss, gg, nx⟩ ⟨hl, h1, h2, h3, hv4, h5, h10, h12, g0, g1, hnx⟩
      simp only at hl h1 h2 h3 hv4 h5 h10 h12 g0 g1 hnx
      subst hnx
      refine W_cut (fun st => st.s.length = 54 ∧ rho st.s (.tmp 1) = .int .i64 (w : Int) ∧ rho st.s (.tmp 2) = .int .u32 (addr : Int) ∧ rho st.s (.tmp 3) = .int .i64 size ∧ rho st.s (.tmp 4) = .int .u32 v ∧ rho st.s (.tmp 5) = .ptr 0 0 ∧ rho st.s (.tmp 10) = .ptr 1 0 ∧ rho st.s (.tmp 12) = .int .u32 ((addr / 16 : Nat) : Int) ∧ rho st.s (.tmp 13) = .bool had ∧ st.g 0 = some [.imm f1 n.mem.length (n.mem.flatMap u8T), .imm f2 n.caches.length ys] ∧ st.g 1 = some [.imm true 0 [], .imm true 0 []] ∧ st.nx = 21) (W_regionN ⟨N3, by simp +decide (disch := first | omega | simp +decide [hl]) only [s9, simprocAttr, h1, h5, h12, g0, hcut, qGOT, rGOT, sGOT, q3, hlf]; rfl⟩ ⟨rfl, ?_⟩) ?_
      · refine ⟨?_, ?_, ?_, ?_, ?_, ?_, ?_, ?_, ?_, ?_, ?_, rfl⟩ <;> simp +decide (disch := first | omega | simp +decide [hl]) only [s9, simprocAttr, hl, h1, h2, h3, hv4, h5, h10, h12, g0, g1]
      clear hl h1 h2 h3 hv4 h5 h10 h12 g0 g1
      rintro ⟨ss, gg, nx⟩ ⟨hl, h1, h2, h3, hv4, h5, h10, h12, hhd, g0, g1, hnx⟩
      simp only at hl h1 h2 h3 hv4 h5 h10 h12 hhd g0 g1 hnx
      subst hnx
      have q4' := q4 N4 (Nat.le_refl _) gg [.agg [.imm f a b], .int .u32 (addr : Int), .int .i64 size, .int .u32 v] [] rfl
      have hokw := ok_wrM hokn w addr hwn size v
      have hwl := wrM_len n w addr size v
      obtain ⟨v5, hE5, hu5⟩ := bus_touched (wrM n w addr size v) hokw w (by rw [hwl]; exact hwn) (addr / 16) hln
      have fin : ∀ (st : St) (g1' g2' : Bool) (zs : List T), UpL (((wrM n w addr size v).caches).flatMap Cache.enc) zs → UpL [memT (wrM n w addr size v), cachT (wrM n w addr size v)] [.imm g1' (wrM n w addr size v).mem.length ((wrM n w addr size v).mem.flatMap u8T), .imm g2' (wrM n w addr size v).caches.length zs] → st.s.length = 54 → rho st.s (.tmp 1) = .int .i64 (w : Int) → rho st.s (.tmp 5) = .ptr 0 0 → rho st.s (.tmp 10) = .ptr 1 0 → rho st.s (.tmp 12) = .int .u32 ((addr / 16 : Nat) : Int) → rho st.s (.tmp 13) = .bool had → st.g 0 = some [.imm g1' (wrM n w addr size v).mem.length ((wrM n w addr size v).mem.flatMap u8T), .imm g2' (wrM n w addr size v).caches.length zs] → st.g 1 = some [.imm true 0 [], .imm true 0 []] → W ap (bwTail) st (fun e st => e.leaves = true ∧ ∃ x, (∃ u, x = .tup [u, .bool had] ∧ UpT (.agg (touchM (wrM n w addr size v) w (addr / 16)).enc) u) ∧ ∃ u ids, resT st.s st.g f39.res = some u ∧ frz ⟨st.g, st.nx⟩ frzDepth u = some (x, ids)) := by
        intro st g1' g2' zs hzs hup2 hl h1 h5 h10 h12 hhd g0 g1
        obtain ⟨N5, v6, hv6, q5⟩ := hE5.callU qTOU (up_tl hup2 [] [.int .i64 (w : Int), .int .u32 ((addr / 16 : Nat) : Int)])
        have hu6 := hu5.trans hv6
        obtain ⟨k1, k3, ws, rfl, _, _⟩ := coh_parts hu6
        have hcut3 : cut [T.imm g1' (wrM n w addr size v).mem.length ((wrM n w addr size v).mem.flatMap u8T), T.imm g2' (wrM n w addr size v).caches.length zs] 0 2 = [T.imm g1' (wrM n w addr size v).mem.length ((wrM n w addr size v).mem.flatMap u8T), T.imm g2' (wrM n w addr size v).caches.length zs] := rfl
        have hlf6 : allLeaf [T.imm k1 (touchM (wrM n w addr size v) w (addr / 16)).mem.length ((touchM (wrM n w addr size v) w (addr / 16)).mem.flatMap u8T), T.imm k3 (touchM (wrM n w addr size v) w (addr / 16)).caches.length ws] = true := rfl
        have q5' := q5 N5 (Nat.le_refl _) st.g [.agg [.imm g1' (wrM n w addr size v).mem.length ((wrM n w addr size v).mem.flatMap u8T), .imm g2' (wrM n w addr size v).caches.length zs], .int .i64 (w : Int), .int .u32 ((addr / 16 : Nat) : Int)] [] rfl
        refine W_seqn (W_regionN ⟨N5, by simp +decide (disch := first | omega | simp +decide [hl]) only [s9, simprocAttr, h1, h5, h10, h12, hhd, g0, g1, hcut3, qTOU, rTOU, sTOU, q5', ite_self, hlf6]; rfl⟩ ⟨rfl, W_ret ⟨rfl, _, ⟨_, rfl, hu6⟩, fin_cb (p := 1) rfl ?_ ?_ ?_⟩⟩)
        · simp +decide (disch := first | omega | simp +decide [hl]) only [s8, simprocAttr, h10]
        · simp +decide (disch := first | omega | simp +decide [hl]) only [s9, simprocAttr]
        · simp +decide (disch := first | omega | simp +decide [hl]) only [s8, simprocAttr, hhd]
      refine W_seqn ?_
      refine W_cut (fun s => s.s.length = 54 ∧ rho s.s (.tmp 1) = .int .i64 (w : Int) ∧ rho s.s (.tmp 5) = .ptr 0 0 ∧ rho s.s (.tmp 10) = .ptr 1 0 ∧ rho s.s (.tmp 12) = .int .u32 ((addr / 16 : Nat) : Int) ∧ rho s.s (.tmp 13) = .bool had ∧ rho s.s (.tmp 14) = .ptr 33 0 ∧ rho s.s (.tmp 15) = .bool (writeR (cacheAt n w) addr size v).2 ∧ s.g 0 = some [.imm f1 n.mem.length (n.mem.flatMap u8T), .imm f2 n.caches.length ys] ∧ s.g 1 = some [.imm true 0 [], .imm true 0 []] ∧ s.g 33 = some [.imm fz nz cz]) (W_regionN ⟨N4, by simp +decide (disch := first | omega | simp +decide [hl]) only [s9, simprocAttr, h1, h2, h3, hv4, h5, g0, hwn, hw1, hcz, qCWRITE, rCWRITE, sCWRITE, q4', ite_self, hzl', Nat.mul_one]; rfl⟩ ⟨rfl, ?_⟩) ?_
      · refine ⟨?_, ?_, ?_, ?_, ?_, ?_, ?_, ?_, ?_, ?_, ?_⟩ <;> simp +decide (disch := first | omega | simp +decide [hl]) only [s9, simprocAttr, hl, h1, h5, h10, h12, hhd, g0, g1]
      clear hl h1 h2 h3 hv4 h5 h10 h12 hhd g0 g1 q4'
      rintro st ⟨hl, h1, h5, h10, h12, hhd, hct, hokk, g0, g1, gc⟩
      by_cases hwr : (writeR (cacheAt n w) addr size v).2 = true
      · rw [hwr] at hokk
        have hwm : wrM n w addr size v = withC n w (writeR (cacheAt n w) addr size v).1 := by unfold wrM; rw [if_pos hwr]
        obtain ⟨v7, hE7, hu7⟩ := bus_with n hokn w hwn _ _ hz'
        obtain ⟨N7, v8, hv8, q7⟩ := hE7.callU qWITH (up_tl hup [] [.int .i64 (w : Int), .agg [.imm fz nz cz]])
        have hu8 := hu7.trans hv8
        rw [← hwm] at hu8
        obtain ⟨k1, k3, zs, rfl, hzs, hup3⟩ := coh_parts hu8
        have hlf8 : allLeaf [T.imm k1 (wrM n w addr size v).mem.length ((wrM n w addr size v).mem.flatMap u8T), T.imm k3 (wrM n w addr size v).caches.length zs] = true := rfl
        have q7' := q7 N7 (Nat.le_refl _) st.g [.agg [.imm f1 n.mem.length (n.mem.flatMap u8T), .imm f2 n.caches.length ys], .int .i64 (w : Int), .agg [.imm fz nz cz]] [] rfl
        refine W_seqn (W_region (fun k => by simp +decide (disch := first | omega | simp +decide [hl]) only [s9, simprocAttr, hokk]; rfl) ⟨rfl, W_tru ?_⟩)
        refine W_regionN ⟨N7, by simp +decide (disch := first | omega | simp +decide [hl]) only [s9, simprocAttr, h1, h5, hct, g0, gc, hcut2, hczz, qWITH, rWITH, sWITH, q7', ite_self, hlf8]; rfl⟩ ⟨rfl, fin _ k1 k3 zs hzs hup3 ?_ ?_ ?_ ?_ ?_ ?_ ?_ ?_⟩
        iterate 6 (· simp +decide (disch := first | omega | simp +decide [hl]) only [s8, simprocAttr, hl, h1, h5, h10, h12, hhd])
        · simp +decide (disch := first | omega | simp +decide [hl]) only [s9, simprocAttr]
        · simp +decide (disch := first | omega | simp +decide [hl]) only [s9, simprocAttr, g1]
      · have hwf : (writeR (cacheAt n w) addr size v).2 = false := by simpa using hwr
        rw [hwf] at hokk
        have hwm : wrM n w addr size v = n := by unfold wrM; rw [if_neg hwr]
        rw [hwm] at fin
        refine W_seqn (W_region (fun k => by simp +decide (disch := first | omega | simp +decide [hl]) only [s9, simprocAttr, hokk]; rfl) ⟨rfl, W_fls (W_skip ⟨rfl, ?_⟩)⟩)
        rw [hwm]
        refine fin _ f1 f2 ys hys hup ?_ ?_ ?_ ?_ ?_ ?_ ?_ ?_
        iterate 6 (· simp +decide (disch := first | omega | simp +decide [hl]) only [s8, simprocAttr, hl, h1, h5, h10, h12, hhd])
        · exact g0
        · exact g1
    · rw [decide_eq_false hm] at q1
      rw [if_neg hm]
      refine W_seq (W_seqn (W_regionN ⟨N1, by simp +decide (disch := first | omega | simp +decide [hl]) only [s9, simprocAttr, h1, h2, h3, h5, g0, hcut, qREA, rREA, sREA, q1]; rfl⟩ ⟨rfl, W_tru ?_⟩))
      refine W_seqn (W_region (fun k => by simp +decide (disch := first | omega | simp +decide [hl]) only [s9, simprocAttr, h5, h10, g0, g1, hcut, hleaf]; rfl) ⟨rfl, W_ret (.inr ⟨by simp, rfl, _, ⟨_, rfl, UpT.refl _⟩, fin_cb (p := 1) rfl ?_ ?_ ?_⟩)⟩)
      · simp +decide (disch := first | omega | simp +decide [hl]) only [s8, simprocAttr, h10]
      · simp +decide (disch := first | omega | simp +decide [hl]) only [s9, simprocAttr]
        try rfl
      · simp +decide (disch := first | omega | simp +decide [hl]) only [s8, simprocAttr])
  exact ⟨u, hE, hu⟩
theorem ref_writeM (m : Coh) (hok : Ok m) (who : Int) (addr : Nat) (ha : addr ≤ 4294967295) (size v : Int) (hv : 0 ≤ v ∧ v ≤ 4294967295) : ∃ u, E ap 17 [.agg [memT m, cachT m], .int .i64 who, .int .u32 (addr : Int), .int .i64 size, .int .u32 v] (.tup [u, .bool (writeM m who addr size v).2]) ∧ UpT (.agg (writeM m who addr size v).1.enc) u := by
  obtain ⟨vv, hE, u, rfl, hu⟩ := E_bodyV (F := f17) (f := 17) (AP := ap) rfl rfl rfl (args := [.agg [memT m, cachT m], .int .i64 who, .int .u32 (addr : Int), .int .i64 size, .int .u32 v]) (P := fun x => ∃ u, x = .tup [u, .bool (writeM m who addr size v).2] ∧ UpT (.agg (writeM m who addr size v).1.enc) u) (by
    generalize hs0 : (_ : List T) ++ List.replicate _ T.undef = s0
    have e0 : s0.length = 55 ∧ rho s0 (.tmp 0) = .agg [memT m, cachT m] ∧ rho s0 (.tmp 1) = .int .i64 who ∧ rho s0 (.tmp 2) = .int .u32 (addr : Int) ∧ rho s0 (.tmp 3) = .int .i64 size ∧ rho s0 (.tmp 4) = .int .u32 v := by subst hs0; exact ⟨rfl, rfl, rfl, rfl, rfl, rfl⟩
    clear hs0
    obtain ⟨hl, h0, h1, h2, h3, hv4⟩ := e0
    have hleaf : allLeaf [memT m, cachT m] = true := rfl
    have hcut : cut [memT m, cachT m] 0 2 = [memT m, cachT m] := rfl
    obtain ⟨N1, q1⟩ := (ref_may m hok.1 hok.2.1 who addr ha size).call qMAY (fun g => rfl)
    have q1 := q1 N1 (Nat.le_refl _)
    refine W_cut (fun st => st.s.length = 55 ∧ rho st.s (.tmp 1) = .int .i64 who ∧ rho st.s (.tmp 2) = .int .u32 (addr : Int) ∧ rho st.s (.tmp 3) = .int .i64 size ∧ rho st.s (.tmp 4) = .int .u32 v ∧ rho st.s (.tmp 5) = .ptr 0 0 ∧ rho st.s (.tmp 10) = .ptr 1 0 ∧ st.g 0 = some [memT m, cachT m] ∧ st.g 1 = some [.imm true 0 [], .imm true 0 []] ∧ st.nx = 3) (W_region (fun k => by simp +decide (disch := first | omega | simp +decide [hl]) only [s9, simprocAttr, h0, hleaf]; rfl) ⟨rfl, ?_⟩) ?_
    · refine ⟨?_, ?_, ?_, ?_, ?_, ?_, ?_, ?_, ?_, rfl⟩ <;> simp +decide (disch := first | omega | simp +decide [hl]) only [s9, simprocAttr, hl, h1, h2, h3, hv4]
    clear hl h0 h1 h2 h3 hv4
    rintro ⟨ss, gg, nx⟩ ⟨hl, h1, h2, h3, hv4, h5, h10, g0, g1, hnx⟩
    simp only at hl h1 h2 h3 hv4 h5 h10 g0 g1 hnx
    subst hnx
    unfold writeM
    by_cases hm : MayP m who addr size
    · rw [decide_eq_true hm] at q1
      rw [if_pos hm]
      obtain ⟨w, rfl⟩ : ∃ w : Nat, who = (w : Int) := ⟨who.toNat, by have := hm.1.1; omega⟩
      have hw : w < m.caches.length := by have := hm.1.2; omega
      rw [Int.toNat_natCast]
      obtain ⟨N2, q2⟩ := (ref_line addr ha).call qRLOF (fun g => rfl)
      have q2 := q2 N2 (Nat.le_refl _)
      have hln : addr / 16 ≤ 4294967295 := by omega
      obtain ⟨u1, hE1, hu1⟩ := ref_ask2 m hok (w : Int) hm.1 (addr / 16) hln 2
      obtain ⟨N3, q3⟩ := hE1.call qASK (fun g => rfl)
      have q3 := q3 N3 (Nat.le_refl _)
      have hokn := ok_ask hok (w : Int) (addr / 16) hln 2
      have hwn : w < (askM m (w : Int) (addr / 16) 2).1.caches.length := by rw [ask_len]; exact hw
      generalize (askM m (w : Int) (addr / 16) 2).2 = had at *
      generalize (askM m (w : Int) (addr / 16) 2).1 = n at *
      obtain ⟨f1, f2, ys, rfl, hys, hup⟩ := coh_parts hu1
      obtain ⟨z, hz, hzu, f, a, b, rfl⟩ := cache_cell hys hwn
      have hyl := upL_len1 n hys
      have hcz := cell_at hz
      have hw1 : w + 1 ≤ ys.length := by omega
      obtain ⟨uw, hEw, hofw⟩ := ref_write (cacheAt n w) (cacheAt_wf hokn.1 w hwn) (hokn.2.2.2 w hwn) addr ha size v hv
      obtain ⟨N4, v4, hv4u, q4⟩ := hEw.callU qRCWRITE (args' := [.agg [.imm f a b], .int .u32 (addr : Int), .int .i64 size, .int .u32 v]) (UpL.cons (upT_agg (UpL.cons hzu UpL.nil)) (UpL.refl _))
      obtain ⟨uw', rfl, huw⟩ := up_tupb hv4u
      obtain ⟨z', rfl, hz', hzl'⟩ := cell_up ((up_of hofw).trans huw)
      obtain ⟨fz, nz, cz, rfl⟩ := up_immz hz'
      have hlf : allLeaf [T.imm f1 n.mem.length (n.mem.flatMap u8T), T.imm f2 n.caches.length ys] = true := rfl
      have hcut2 : cut [T.imm f1 n.mem.length (n.mem.flatMap u8T), T.imm f2 n.caches.length ys] 0 2 = [T.imm f1 n.mem.length (n.mem.flatMap u8T), T.imm f2 n.caches.length ys] := rfl
      have hczz : cut [T.imm fz nz cz] 0 1 = [T.imm fz nz cz] := rfl
      refine W_seqn (W_seqn (W_regionN ⟨N1, by simp +decide (disch := first | omega | simp +decide [hl]) only [s9, simprocAttr, h1, h2, h3, h5, g0, hcut, qMAY, rMAY, sMAY, q1]; rfl⟩ ⟨rfl, W_fls (W_skip ⟨rfl, ?_⟩)⟩))
      refine W_cut (fun st => st.s.length = 55 ∧ rho st.s (.tmp 1) = .int .i64 (w : Int) ∧ rho st.s (.tmp 2) = .int .u32 (addr : Int) ∧ rho st.s (.tmp 3) = .int .i64 size ∧ rho st.s (.tmp 4) = .int .u32 v ∧ rho st.s (.tmp 5) = .ptr 0 0 ∧ rho st.s (.tmp 10) = .ptr 1 0 ∧ rho st.s (.tmp 12) = .int .u32 ((addr / 16 : Nat) : Int) ∧ st.g 0 = some [memT m, cachT m] ∧ st.g 1 = some [.imm true 0 [], .imm true 0 []] ∧ st.nx = 12) (W_regionN ⟨N2, by simp +decide (disch := first | omega | simp +decide [hl]) only [s9, simprocAttr, h2, qRLOF, rRLOF, sRLOF, q2]; rfl⟩ ⟨rfl, ?_⟩) ?_
      · refine ⟨?_, ?_, ?_, ?_, ?_, ?_, ?_, ?_, ?_, ?_, rfl⟩ <;> simp +decide (disch := first | omega | simp +decide [hl]) only [s9, simprocAttr, hl, h1, h2, h3, hv4, h5, h10, g0, g1]
      clear hl h1 h2 h3 hv4 h5 h10 g0 g1
      rintro ⟨ss, gg, nx⟩ ⟨hl, h1, h2, h3, hv4, h5, h10, h12, g0, g1, hnx⟩
      simp only at hl h1 h2 h3 hv4 h5 h10 h12 g0 g1 hnx
      subst hnx
      refine W_cut (fun st => st.s.length = 55 ∧ rho st.s (.tmp 1) = .int .i64 (w : Int) ∧ rho st.s (.tmp 2) = .int .u32 (addr : Int) ∧ rho st.s (.tmp 3) = .int .i64 size ∧ rho st.s (.tmp 4) = .int .u32 v ∧ rho st.s (.tmp 13) = .ptr 19 0 ∧ rho st.s (.tmp 10) = .ptr 1 0 ∧ rho st.s (.tmp 12) = .int .u32 ((addr / 16 : Nat) : Int) ∧ rho st.s (.tmp 14) = .bool had ∧ st.g 19 = some [.imm f1 n.mem.length (n.mem.flatMap u8T), .imm f2 n.caches.length ys] ∧ st.g 1 = some [.imm true 0 [], .imm true 0 []] ∧ st.nx = 22) (W_regionN ⟨N3, by simp +decide (disch := first | omega | simp +decide [hl]) only [s9, simprocAttr, h1, h5, h12, g0, hcut, qASK, rASK, sASK, q3, hlf]; rfl⟩ ⟨rfl, ?_⟩) ?_
      · refine ⟨?_, ?_, ?_, ?_, ?_, ?_, ?_, ?_, ?_, ?_, ?_, rfl⟩ <;> simp +decide (disch := first | omega | simp +decide [hl]) only [s9, simprocAttr, hl, h1, h2, h3, hv4, h5, h10, h12, g0, g1]
      clear hl h1 h2 h3 hv4 h5 h10 h12 g0 g1
      rintro ⟨ss, gg, nx⟩ ⟨hl, h1, h2, h3, hv4, h5, h10, h12, hhd, g0, g1, hnx⟩
      simp only at hl h1 h2 h3 hv4 h5 h10 h12 hhd g0 g1 hnx
      subst hnx
      have q4' := q4 N4 (Nat.le_refl _) gg [.agg [.imm f a b], .int .u32 (addr : Int), .int .i64 size, .int .u32 v] [] rfl
      have hokw := ok_wrM hokn w addr hwn size v
      have hwl := wrM_len n w addr size v
      obtain ⟨v5, hE5, hu5⟩ := ref_touched (wrM n w addr size v) hokw w (by rw [hwl]; exact hwn) (addr / 16) hln
      have fin : ∀ (st : St) (g1' g2' : Bool) (zs : List T), UpL (((wrM n w addr size v).caches).flatMap Cache.enc) zs → UpL [memT (wrM n w addr size v), cachT (wrM n w addr size v)] [.imm g1' (wrM n w addr size v).mem.length ((wrM n w addr size v).mem.flatMap u8T), .imm g2' (wrM n w addr size v).caches.length zs] → st.s.length = 55 → rho st.s (.tmp 1) = .int .i64 (w : Int) → rho st.s (.tmp 13) = .ptr 19 0 → rho st.s (.tmp 10) = .ptr 1 0 → rho st.s (.tmp 12) = .int .u32 ((addr / 16 : Nat) : Int) → rho st.s (.tmp 14) = .bool had → st.g 19 = some [.imm g1' (wrM n w addr size v).mem.length ((wrM n w addr size v).mem.flatMap u8T), .imm g2' (wrM n w addr size v).caches.length zs] → st.g 1 = some [.imm true 0 [], .imm true 0 []] → W ap (rwTail) st (fun e st => e.leaves = true ∧ ∃ x, (∃ u, x = .tup [u, .bool had] ∧ UpT (.agg (touchM (wrM n w addr size v) w (addr / 16)).enc) u) ∧ ∃ u ids, resT st.s st.g f17.res = some u ∧ frz ⟨st.g, st.nx⟩ frzDepth u = some (x, ids)) := by
        intro st g1' g2' zs hzs hup2 hl h1 h5 h10 h12 hhd g0 g1
        obtain ⟨N5, v6, hv6, q5⟩ := hE5.callU qRTOU (up_tl hup2 [] [.int .i64 (w : Int), .int .u32 ((addr / 16 : Nat) : Int)])
        have hu6 := hu5.trans hv6
        obtain ⟨k1, k3, ws, rfl, _, _⟩ := coh_parts hu6
        have hcut3 : cut [T.imm g1' (wrM n w addr size v).mem.length ((wrM n w addr size v).mem.flatMap u8T), T.imm g2' (wrM n w addr size v).caches.length zs] 0 2 = [T.imm g1' (wrM n w addr size v).mem.length ((wrM n w addr size v).mem.flatMap u8T), T.imm g2' (wrM n w addr size v).caches.length zs] := rfl
        have hlf6 : allLeaf [T.imm k1 (touchM (wrM n w addr size v) w (addr / 16)).mem.length ((touchM (wrM n w addr size v) w (addr / 16)).mem.flatMap u8T), T.imm k3 (touchM (wrM n w addr size v) w (addr / 16)).caches.length ws] = true := rfl
        have q5' := q5 N5 (Nat.le_refl _) st.g [.agg [.imm g1' (wrM n w addr size v).mem.length ((wrM n w addr size v).mem.flatMap u8T), .imm g2' (wrM n w addr size v).caches.length zs], .int .i64 (w : Int), .int .u32 ((addr / 16 : Nat) : Int)] [] rfl
        refine W_seqn (W_regionN ⟨N5, by simp +decide (disch := first | omega | simp +decide [hl]) only [s9, simprocAttr, h1, h5, h10, h12, hhd, g0, g1, hcut3, qRTOU, rRTOU, sRTOU, q5', ite_self, hlf6]; rfl⟩ ⟨rfl, W_ret ⟨rfl, _, ⟨_, rfl, hu6⟩, fin_cb (p := 1) rfl ?_ ?_ ?_⟩⟩)
        · simp +decide (disch := first | omega | simp +decide [hl]) only [s8, simprocAttr, h10]
        · simp +decide (disch := first | omega | simp +decide [hl]) only [s9, simprocAttr]
        · simp +decide (disch := first | omega | simp +decide [hl]) only [s8, simprocAttr, hhd]
      skip
      refine W_cut (fun s => s.s.length = 55 ∧ rho s.s (.tmp 1) = .int .i64 (w : Int) ∧ rho s.s (.tmp 13) = .ptr 19 0 ∧ rho s.s (.tmp 10) = .ptr 1 0 ∧ rho s.s (.tmp 12) = .int .u32 ((addr / 16 : Nat) : Int) ∧ rho s.s (.tmp 14) = .bool had ∧ rho s.s (.tmp 15) = .ptr 34 0 ∧ rho s.s (.tmp 16) = .bool (writeR (cacheAt n w) addr size v).2 ∧ s.g 19 = some [.imm f1 n.mem.length (n.mem.flatMap u8T), .imm f2 n.caches.length ys] ∧ s.g 1 = some [.imm true 0 [], .imm true 0 []] ∧ s.g 34 = some [.imm fz nz cz]) (W_regionN ⟨N4, by simp +decide (disch := first | omega | simp +decide [hl]) only [s9, simprocAttr, h1, h2, h3, hv4, h5, g0, hwn, hw1, hcz, qRCWRITE, rRCWRITE, sRCWRITE, q4', ite_self, hzl', Nat.mul_one]; rfl⟩ ⟨rfl, ?_⟩) ?_
      · refine ⟨?_, ?_, ?_, ?_, ?_, ?_, ?_, ?_, ?_, ?_, ?_⟩ <;> simp +decide (disch := first | omega | simp +decide [hl]) only [s9, simprocAttr, hl, h1, h5, h10, h12, hhd, g0, g1]
      clear hl h1 h2 h3 hv4 h5 h10 h12 hhd g0 g1 q4'
      rintro st ⟨hl, h1, h5, h10, h12, hhd, hct, hokk, g0, g1, gc⟩
      by_cases hwr : (writeR (cacheAt n w) addr size v).2 = true
      · rw [hwr] at hokk
        have hwm : wrM n w addr size v = withC n w (writeR (cacheAt n w) addr size v).1 := by unfold wrM; rw [if_pos hwr]
        obtain ⟨v7, hE7, hu7⟩ := ref_with n hokn w hwn _ _ hz'
        obtain ⟨N7, v8, hv8, q7⟩ := hE7.callU qRWITH (up_tl hup [] [.int .i64 (w : Int), .agg [.imm fz nz cz]])
        have hu8 := hu7.trans hv8
        rw [← hwm] at hu8
        obtain ⟨k1, k3, zs, rfl, hzs, hup3⟩ := coh_parts hu8
        have hlf8 : allLeaf [T.imm k1 (wrM n w addr size v).mem.length ((wrM n w addr size v).mem.flatMap u8T), T.imm k3 (wrM n w addr size v).caches.length zs] = true := rfl
        have q7' := q7 N7 (Nat.le_refl _) st.g [.agg [.imm f1 n.mem.length (n.mem.flatMap u8T), .imm f2 n.caches.length ys], .int .i64 (w : Int), .agg [.imm fz nz cz]] [] rfl
        refine W_seqn (W_seqn (W_region (fun k => by simp +decide (disch := first | omega | simp +decide [hl]) only [s9, simprocAttr, hokk]; rfl) ⟨rfl, W_tru ?_⟩))
        refine W_regionN ⟨N7, by simp +decide (disch := first | omega | simp +decide [hl]) only [s9, simprocAttr, h1, h5, hct, g0, gc, hcut2, hczz, qRWITH, rRWITH, sRWITH, q7', ite_self, hlf8]; rfl⟩ ⟨rfl, fin _ k1 k3 zs hzs hup3 ?_ ?_ ?_ ?_ ?_ ?_ ?_ ?_⟩
        iterate 6 (· simp +decide (disch := first | omega | simp +decide [hl]) only [s8, simprocAttr, hl, h1, h5, h10, h12, hhd])
        · simp +decide (disch := first | omega | simp +decide [hl]) only [s9, simprocAttr]
        · simp +decide (disch := first | omega | simp +decide [hl]) only [s9, simprocAttr, g1]
      · have hwf : (writeR (cacheAt n w) addr size v).2 = false := by simpa using hwr
        rw [hwf] at hokk
        have hwm : wrM n w addr size v = n := by unfold wrM; rw [if_neg hwr]
        rw [hwm] at fin
        refine W_seqn (W_seqn (W_region (fun k => by simp +decide (disch := first | omega | simp +decide [hl]) only [s9, simprocAttr, hokk]; rfl) ⟨rfl, W_fls (W_skip ⟨rfl, ?_⟩)⟩))
        rw [hwm]
        refine fin _ f1 f2 ys hys hup ?_ ?_ ?_ ?_ ?_ ?_ ?_ ?_
        iterate 6 (· simp +decide (disch := first | omega | simp +decide [hl]) only [s8, simprocAttr, hl, h1, h5, h10, h12, hhd])
        · exact g0
        · exact g1
    · rw [decide_eq_false hm] at q1
      rw [if_neg hm]
      refine W_seq (W_seqn (W_regionN ⟨N1, by simp +decide (disch := first | omega | simp +decide [hl]) only [s9, simprocAttr, h1, h2, h3, h5, g0, hcut, qMAY, rMAY, sMAY, q1]; rfl⟩ ⟨rfl, W_tru ?_⟩))
      refine W_seqn (W_region (fun k => by simp +decide (disch := first | omega | simp +decide [hl]) only [s9, simprocAttr, h5, h10, g0, g1, hcut, hleaf]; rfl) ⟨rfl, W_ret (.inr ⟨by simp, rfl, _, ⟨_, rfl, UpT.refl _⟩, fin_cb (p := 1) rfl ?_ ?_ ?_⟩)⟩)
      · simp +decide (disch := first | omega | simp +decide [hl]) only [s8, simprocAttr, h10]
      · simp +decide (disch := first | omega | simp +decide [hl]) only [s9, simprocAttr]
        try rfl
      · simp +decide (disch := first | omega | simp +decide [hl]) only [s8, simprocAttr])
  exact ⟨u, hE, hu⟩
def StA (L : List T) (j : Nat) (x : T) (g : Mem) (nx : Nat) : Prop := (j = 0 ∧ x = .imm true 0 []) ∨ ∃ t, t < nx ∧ x = .own t 0 j 1 ∧ g t = some (L.take j)
theorem StA.mono {L : List T} {j : Nat} {x : T} {g g' : Mem} {nx nx' : Nat} (h : StA L j x g nx) (hn : nx ≤ nx') (hg : ∀ t, t < nx → g' t = g t) : StA L j x g' nx' := by
  rcases h with h | ⟨t, h1, h2, h3⟩
  · exact .inl h
  · exact .inr ⟨t, by omega, h2, by rw [hg t h1]; exact h3⟩
theorem piece (l : List Int) (b a z : Nat) (h : a + z ≤ 16) : (((l.drop b).take 16).drop a).take z = (l.drop (b + a)).take z := by
  rw [List.drop_take, List.drop_drop, List.take_take, Nat.min_eq_left (by omega)]
def Lax (m : Coh) (x y : T) : Prop := UpT (.agg m.enc) (.agg [x, y])
theorem lax_strict (m : Coh) : Lax m (memT m) (cachT m) := by unfold Lax; rw [coh_enc]; exact UpT.refl _
theorem lax_frz {m : Coh} {x y : T} (h : Lax m x y) : ∃ f1 n1 c1 f2 n2 c2, x = .imm f1 n1 c1 ∧ y = .imm f2 n2 c2 := by
  obtain ⟨f1, f2, ys, e, _⟩ := coh_parts h
  injection e with e
  injection e with e1 e2
  injection e2 with e2 _
  exact ⟨_, _, _, _, _, _, e1, e2⟩
theorem lax_args {m : Coh} {x y : T} (h : Lax m x y) (rest : List T) : UpL (.agg [memT m, cachT m] :: rest) (.agg [x, y] :: rest) := UpL.cons (by rw [← coh_enc]; exact h) (UpL.refl _)
theorem lax_out {m : Coh} {u : T} (h : UpT (.agg m.enc) u) : ∃ x y, u = .agg [x, y] ∧ Lax m x y := by
  obtain ⟨f1, f2, ys, rfl, _⟩ := coh_parts h
  exact ⟨_, _, rfl, h⟩
theorem lax_leaf {m : Coh} {x y : T} (h : Lax m x y) : allLeaf [x, y] = true := by
  obtain ⟨f1, n1, c1, f2, n2, c2, rfl, rfl⟩ := lax_frz h; rfl
theorem write_lax {m : Coh} (hok : Ok m) {x y : T} (h : Lax m x y) (who : Int) (addr : Nat) (ha : addr ≤ 4294967295) (size v : Int) (hv : 0 ≤ v ∧ v ≤ 4294967295) : ∃ N x' y', Lax (writeM m who addr size v).1 x' y' ∧ ∀ k, N ≤ k → ∀ g, callPure (ev ap k) f39 [.agg [x, y], .int .i64 who, .int .u32 (addr : Int), .int .i64 size, .int .u32 v] g = some ⟨.tup [.agg [x', y'], .bool (writeM m who addr size v).2], [], []⟩ := by
  obtain ⟨u, hE, hu⟩ := bus_writeM m hok who addr ha size v hv
  obtain ⟨v', hE', hu'⟩ := hE.up (lax_args h _)
  obtain ⟨u', rfl, hu2⟩ := up_tupb hu'
  obtain ⟨x', y', rfl, hl⟩ := lax_out (hu.trans hu2)
  obtain ⟨f1, n1, c1, f2, n2, c2, rfl, rfl⟩ := lax_frz h
  obtain ⟨N, q⟩ := hE'.call (F := f39) rfl (fun g => rfl)
  exact ⟨N, x', y', hl, q⟩
end Go.Proofs.YtabfinhkoihhfaaGreat.Abs
