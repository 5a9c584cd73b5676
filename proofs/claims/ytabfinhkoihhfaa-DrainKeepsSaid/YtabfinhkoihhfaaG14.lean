/- Words of other seats' texts, as they are used here: Acc5 bBtouch3 Fine Ages. -/
import Derived.Test.YtabfinhkoihhfaaG13
namespace Go.Proofs.Ytabfinhkoihhfaa.Abs
open Go Go.RowKit Fn
set_option linter.unusedVariables false
set_option linter.unusedSimpArgs false
set_option linter.unnecessarySimpa false
set_option maxRecDepth 100000
set_option maxHeartbeats 4000000

theorem up_tupb {u : T} {b : Bool} {v' : T} (h : UpT (.tup [u, .bool b]) v') : ∃ u', v' = .tup [u', .bool b] ∧ UpT u u' := by
  obtain ⟨l, rfl, h2⟩ := h.tup
  simp only [UpL] at h2
  obtain ⟨a, _, rfl, ha, c, _, rfl, hc, rfl⟩ := h2
  rw [hc.bool]
  exact ⟨a, rfl, ha⟩
def wrM (n : Coh) (w addr : Nat) (size v : Int) : Coh := if (writeR (cacheAt n w) addr size v).2 = true then withC n w (writeR (cacheAt n w) addr size v).1 else n
def writeM (m : Coh) (who : Int) (addr : Nat) (size v : Int) : Coh × Bool :=
  if MayP m who addr size then (touchM (wrM (askM m who (addr / 16) 2).1 who.toNat addr size v) who.toNat (addr / 16), (askM m who (addr / 16) 2).2) else (m, false)
theorem ok_wrM {n : Coh} (h : Ok n) (w addr : Nat) (hw : w < n.caches.length) (size v : Int) : Ok (wrM n w addr size v) := by
  unfold wrM
  split
  · exact ok_with h hw (fit_writeR (h.2.2.2 w hw) addr size v)
  · exact h
theorem wrM_len (n : Coh) (w addr : Nat) (size v : Int) : (wrM n w addr size v).caches.length = n.caches.length := by
  unfold wrM
  split
  · exact withC_len _ _ _
  · rfl
theorem qCWRITE : ap 44 = some f44 := rfl
theorem rCWRITE : f44.pure = true := rfl
theorem sCWRITE : f44.nat = none := rfl
def bwTail : ACode := match f36.body with | .seq _ (.seq _ (.seq _ (.seq _ (.seq _ c)))) => c | _ => .skip
theorem bus_writeM (m : Coh) (hok : Ok m) (who : Int) (addr : Nat) (ha : addr ≤ 4294967295) (size v : Int) (hv : 0 ≤ v ∧ v ≤ 4294967295) : ∃ u, E ap 36 [.agg [memT m, cachT m], .int .i64 who, .int .u32 (addr : Int), .int .i64 size, .int .u32 v] (.tup [u, .bool (writeM m who addr size v).2]) ∧ UpT (.agg (writeM m who addr size v).1.enc) u := by
  obtain ⟨vv, hE, u, rfl, hu⟩ := E_bodyV (F := f36) (f := 36) (AP := ap) rfl rfl rfl (args := [.agg [memT m, cachT m], .int .i64 who, .int .u32 (addr : Int), .int .i64 size, .int .u32 v]) (P := fun x => ∃ u, x = .tup [u, .bool (writeM m who addr size v).2] ∧ UpT (.agg (writeM m who addr size v).1.enc) u) (by
    generalize hs0 : (_ : List T) ++ List.replicate _ T.undef = s0
    have e0 : s0.length = 54 ∧ rho s0 (.tmp 0) = .agg [memT m, cachT m] ∧ rho s0 (.tmp 1) = .int .i64 who ∧ rho s0 (.tmp 2) = .int .u32 (addr : Int) ∧ rho s0 (.tmp 3) = .int .i64 size ∧ rho s0 (.tmp 4) = .int .u32 v := by subst hs0; exact ⟨rfl, rfl, rfl, rfl, rfl, rfl⟩
    clear hs0
    obtain ⟨hl, h0, h1, h2, h3, hv4⟩ := e0
    have hleaf : allLeaf [memT m, cachT m] = true := rfl
    have hcut : cut [memT m, cachT m] 0 2 = [memT m, cachT m] := rfl
    obtain ⟨N1, q1⟩ := (bus_reached m hok.1 hok.2.1 who addr ha size).call qREA (fun g => rfl)
    have q1 := q1 N1 (Nat.le_refl _)
    refine W_cut (fun st => st.s.length = 54 ∧ rho st.s (.tmp 1) = .int .i64 who ∧ rho st.s (.tmp 2) = .int .u32 (addr : Int) ∧ rho st.s (.tmp 3) = .int .i64 size ∧ rho st.s (.tmp 4) = .int .u32 v ∧ rho st.s (.tmp 5) = .ptr 0 0 ∧ rho st.s (.tmp 10) = .ptr 1 0 ∧ st.g 0 = some [memT m, cachT m] ∧ st.g 1 = some [.imm true 0 [], .imm true 0 []] ∧ st.nx = 3) (W_region (fun k => by simp +decide (disch := first | omega | simp +decide only [List.length_set, hl]) only [sa, simprocAttr, hps, h0, hleaf]; rfl) ⟨rfl, ?_⟩) ?_
    · refine ⟨?_, ?_, ?_, ?_, ?_, ?_, ?_, ?_, ?_, rfl⟩ <;> simp +decide (disch := first | omega | simp +decide only [List.length_set, hl]) only [sa, simprocAttr, hps, hl, h1, h2, h3, hv4]
    clear hl h0 h1 h2 h3 hv4
    rintro ⟨ss, gg, nx⟩ ⟨hl, h1, h2, h3, hv4, h5, h10, g0, g1, hnx⟩
    simp only at hl h1 h2 h3 hv4 h5 h10 g0 g1 hnx
    subst hnx
    unfold writeM
    by_cases hm : MayP m who addr size
    · rw [decide_eq_true hm] at q1
      rw [if_pos hm]
      obtain ⟨w, rfl⟩ : ∃ w : Nat, who = (w : Int) := ⟨who.toNat, by have := hm.1.1; omega⟩
      have hw : w < m.caches.length := by have := hm.1.2; omega
      rw [Int.toNat_natCast]
      obtain ⟨N2, q2⟩ := (line_of addr ha).call qLOF (fun g => rfl)
      have q2 := q2 N2 (Nat.le_refl _)
      have hln : addr / 16 ≤ 4294967295 := by omega
      obtain ⟨u1, hE1, hu1⟩ := bus_got2 m hok (w : Int) hm.1 (addr / 16) hln 2
      obtain ⟨N3, q3⟩ := hE1.call qGOT (fun g => rfl)
      have q3 := q3 N3 (Nat.le_refl _)
      have hokn := ok_ask hok (w : Int) (addr / 16) hln 2
      have hwn : w < (askM m (w : Int) (addr / 16) 2).1.caches.length := by rw [ask_len]; exact hw
      generalize (askM m (w : Int) (addr / 16) 2).2 = had at *
      generalize (askM m (w : Int) (addr / 16) 2).1 = n at *
      obtain ⟨f1, f2, ys, rfl, hys, hup⟩ := coh_parts hu1
      obtain ⟨z, hz, hzu, f, a, b, rfl⟩ := cache_cell hys hwn
      have hyl := upL_len1 n hys
      have hcz := cell_at hz
      have hw1 : w + 1 ≤ ys.length := by omega
      obtain ⟨uw, hEw, hofw⟩ := bus_write (cacheAt n w) (cacheAt_wf hokn.1 w hwn) (hokn.2.2.2 w hwn) addr ha size v hv
      obtain ⟨N4, v4, hv4u, q4⟩ := hEw.callU qCWRITE (args' := [.agg [.imm f a b], .int .u32 (addr : Int), .int .i64 size, .int .u32 v]) (UpL.cons (upT_agg (UpL.cons hzu UpL.nil)) (UpL.refl _))
      obtain ⟨uw', rfl, huw⟩ := up_tupb hv4u
      obtain ⟨z', rfl, hz', hzl'⟩ := cell_up ((up_of hofw.1).trans huw)
      obtain ⟨fz, nz, cz, rfl⟩ := up_immz hz'
      have hlf : allLeaf [T.imm f1 n.mem.length (n.mem.flatMap u8T), T.imm f2 n.caches.length ys] = true := rfl
      have hcut2 : cut [T.imm f1 n.mem.length (n.mem.flatMap u8T), T.imm f2 n.caches.length ys] 0 2 = [T.imm f1 n.mem.length (n.mem.flatMap u8T), T.imm f2 n.caches.length ys] := rfl
      have hczz : cut [T.imm fz nz cz] 0 1 = [T.imm fz nz cz] := rfl
      refine W_seqn (W_seqn (W_regionN ⟨N1, by simp +decide (disch := first | omega | simp +decide only [List.length_set, hl]) only [sa, simprocAttr, hps, h1, h2, h3, h5, g0, hcut, qREA, rREA, sREA, q1]; rfl⟩ ⟨rfl, W_fls (W_skip ⟨rfl, ?_⟩)⟩))
      refine W_cut (fun st => st.s.length = 54 ∧ rho st.s (.tmp 1) = .int .i64 (w : Int) ∧ rho st.s (.tmp 2) = .int .u32 (addr : Int) ∧ rho st.s (.tmp 3) = .int .i64 size ∧ rho st.s (.tmp 4) = .int .u32 v ∧ rho st.s (.tmp 5) = .ptr 0 0 ∧ rho st.s (.tmp 10) = .ptr 1 0 ∧ rho st.s (.tmp 12) = .int .u32 ((addr / 16 : Nat) : Int) ∧ st.g 0 = some [memT m, cachT m] ∧ st.g 1 = some [.imm true 0 [], .imm true 0 []] ∧ st.nx = 12) (W_regionN ⟨N2, by simp +decide (disch := first | omega | simp +decide only [List.length_set, hl]) only [sa, simprocAttr, hps, h2, qLOF, rLOF, sLOF, q2]; rfl⟩ ⟨rfl, ?_⟩) ?_
      · refine ⟨?_, ?_, ?_, ?_, ?_, ?_, ?_, ?_, ?_, ?_, rfl⟩ <;> simp +decide (disch := first | omega | simp +decide only [List.length_set, hl]) only [sa, simprocAttr, hps, hl, h1, h2, h3, hv4, h5, h10, g0, g1]
      clear hl h1 h2 h3 hv4 h5 h10 g0 g1
      rintro ⟨ss, gg, nx⟩ ⟨hl, h1, h2, h3, hv4, h5, h10, h12, g0, g1, hnx⟩
      simp only at hl h1 h2 h3 hv4 h5 h10 h12 g0 g1 hnx
      subst hnx
      refine W_cut (fun st => st.s.length = 54 ∧ rho st.s (.tmp 1) = .int .i64 (w : Int) ∧ rho st.s (.tmp 2) = .int .u32 (addr : Int) ∧ rho st.s (.tmp 3) = .int .i64 size ∧ rho st.s (.tmp 4) = .int .u32 v ∧ rho st.s (.tmp 5) = .ptr 0 0 ∧ rho st.s (.tmp 10) = .ptr 1 0 ∧ rho st.s (.tmp 12) = .int .u32 ((addr / 16 : Nat) : Int) ∧ rho st.s (.tmp 13) = .bool had ∧ st.g 0 = some [.imm f1 n.mem.length (n.mem.flatMap u8T), .imm f2 n.caches.length ys] ∧ st.g 1 = some [.imm true 0 [], .imm true 0 []] ∧ st.nx = 21) (W_regionN ⟨N3, by simp +decide (disch := first | omega | simp +decide only [List.length_set, hl]) only [sa, simprocAttr, hps, h1, h5, h12, g0, hcut, qGOT, rGOT, sGOT, q3, hlf]; rfl⟩ ⟨rfl, ?_⟩) ?_
      · refine ⟨?_, ?_, ?_, ?_, ?_, ?_, ?_, ?_, ?_, ?_, ?_, rfl⟩ <;> simp +decide (disch := first | omega | simp +decide only [List.length_set, hl]) only [sa, simprocAttr, hps, hl, h1, h2, h3, hv4, h5, h10, h12, g0, g1]
      clear hl h1 h2 h3 hv4 h5 h10 h12 g0 g1
      rintro ⟨ss, gg, nx⟩ ⟨hl, h1, h2, h3, hv4, h5, h10, h12, hhd, g0, g1, hnx⟩
      simp only at hl h1 h2 h3 hv4 h5 h10 h12 hhd g0 g1 hnx
      subst hnx
      have q4' := q4 N4 (Nat.le_refl _) gg [.agg [.imm f a b], .int .u32 (addr : Int), .int .i64 size, .int .u32 v] [] rfl
      have hokw := ok_wrM hokn w addr hwn size v
      have hwl := wrM_len n w addr size v
      obtain ⟨v5, hE5, hu5⟩ := bus_touched (wrM n w addr size v) hokw w (by rw [hwl]; exact hwn) (addr / 16) hln
      have fin : ∀ (st : St) (g1' g2' : Bool) (zs : List T), UpL (((wrM n w addr size v).caches).flatMap Cache.enc) zs → UpL [memT (wrM n w addr size v), cachT (wrM n w addr size v)] [.imm g1' (wrM n w addr size v).mem.length ((wrM n w addr size v).mem.flatMap u8T), .imm g2' (wrM n w addr size v).caches.length zs] → st.s.length = 54 → rho st.s (.tmp 1) = .int .i64 (w : Int) → rho st.s (.tmp 5) = .ptr 0 0 → rho st.s (.tmp 10) = .ptr 1 0 → rho st.s (.tmp 12) = .int .u32 ((addr / 16 : Nat) : Int) → rho st.s (.tmp 13) = .bool had → st.g 0 = some [.imm g1' (wrM n w addr size v).mem.length ((wrM n w addr size v).mem.flatMap u8T), .imm g2' (wrM n w addr size v).caches.length zs] → st.g 1 = some [.imm true 0 [], .imm true 0 []] → W ap (bwTail) st (fun e st => e.leaves = true ∧ ∃ x, (∃ u, x = .tup [u, .bool had] ∧ UpT (.agg (touchM (wrM n w addr size v) w (addr / 16)).enc) u) ∧ ∃ u ids, resT st.s st.g f36.res = some u ∧ frz ⟨st.g, st.nx⟩ frzDepth u = some (x, ids)) := by
        intro st g1' g2' zs hzs hup2 hl h1 h5 h10 h12 hhd g0 g1
        obtain ⟨N5, v6, hv6, q5⟩ := hE5.callU qTOU (up_tl hup2 [] [.int .i64 (w : Int), .int .u32 ((addr / 16 : Nat) : Int)])
        have hu6 := hu5.trans hv6
        obtain ⟨k1, k3, ws, rfl, _, _⟩ := coh_parts hu6
        have hcut3 : cut [T.imm g1' (wrM n w addr size v).mem.length ((wrM n w addr size v).mem.flatMap u8T), T.imm g2' (wrM n w addr size v).caches.length zs] 0 2 = [T.imm g1' (wrM n w addr size v).mem.length ((wrM n w addr size v).mem.flatMap u8T), T.imm g2' (wrM n w addr size v).caches.length zs] := rfl
        have hlf6 : allLeaf [T.imm k1 (touchM (wrM n w addr size v) w (addr / 16)).mem.length ((touchM (wrM n w addr size v) w (addr / 16)).mem.flatMap u8T), T.imm k3 (touchM (wrM n w addr size v) w (addr / 16)).caches.length ws] = true := rfl
        have q5' := q5 N5 (Nat.le_refl _) st.g [.agg [.imm g1' (wrM n w addr size v).mem.length ((wrM n w addr size v).mem.flatMap u8T), .imm g2' (wrM n w addr size v).caches.length zs], .int .i64 (w : Int), .int .u32 ((addr / 16 : Nat) : Int)] [] rfl
        refine W_seqn (W_regionN ⟨N5, by simp +decide (disch := first | omega | simp +decide only [List.length_set, hl]) only [sa, simprocAttr, hps, h1, h5, h10, h12, hhd, g0, g1, hcut3, qTOU, rTOU, sTOU, q5', ite_self, hlf6]; rfl⟩ ⟨rfl, W_ret ⟨rfl, _, ⟨_, rfl, hu6⟩, fin_cb (p := 1) rfl ?_ ?_ ?_⟩⟩)
        · simp +decide (disch := first | omega | simp +decide only [List.length_set, hl]) only [sa, simprocAttr, h10]
        · simp +decide (disch := first | omega | simp +decide only [List.length_set, hl]) only [sa, simprocAttr, hps]
        · simp +decide (disch := first | omega | simp +decide only [List.length_set, hl]) only [sa, simprocAttr, hhd]
      refine W_seqn ?_
      refine W_cut (fun s => s.s.length = 54 ∧ rho s.s (.tmp 1) = .int .i64 (w : Int) ∧ rho s.s (.tmp 5) = .ptr 0 0 ∧ rho s.s (.tmp 10) = .ptr 1 0 ∧ rho s.s (.tmp 12) = .int .u32 ((addr / 16 : Nat) : Int) ∧ rho s.s (.tmp 13) = .bool had ∧ rho s.s (.tmp 14) = .ptr 33 0 ∧ rho s.s (.tmp 15) = .bool (writeR (cacheAt n w) addr size v).2 ∧ s.g 0 = some [.imm f1 n.mem.length (n.mem.flatMap u8T), .imm f2 n.caches.length ys] ∧ s.g 1 = some [.imm true 0 [], .imm true 0 []] ∧ s.g 33 = some [.imm fz nz cz]) (W_regionN ⟨N4, by simp +decide (disch := first | omega | simp +decide only [List.length_set, hl]) only [sa, simprocAttr, hps, h1, h2, h3, hv4, h5, g0, hwn, hw1, hcz, qCWRITE, rCWRITE, sCWRITE, q4', ite_self, hzl', Nat.mul_one]; rfl⟩ ⟨rfl, ?_⟩) ?_
      · refine ⟨?_, ?_, ?_, ?_, ?_, ?_, ?_, ?_, ?_, ?_, ?_⟩ <;> simp +decide (disch := first | omega | simp +decide only [List.length_set, hl]) only [sa, simprocAttr, hps, hl, h1, h5, h10, h12, hhd, g0, g1]
      clear hl h1 h2 h3 hv4 h5 h10 h12 hhd g0 g1 q4'
      rintro st ⟨hl, h1, h5, h10, h12, hhd, hct, hokk, g0, g1, gc⟩
      by_cases hwr : (writeR (cacheAt n w) addr size v).2 = true
      · rw [hwr] at hokk
        have hwm : wrM n w addr size v = withC n w (writeR (cacheAt n w) addr size v).1 := by unfold wrM; rw [if_pos hwr]
        obtain ⟨v7, hE7, hu7⟩ := bus_with n hokn w hwn _ _ hz'
        obtain ⟨N7, v8, hv8, q7⟩ := hE7.callU qWITH (up_tl hup [] [.int .i64 (w : Int), .agg [.imm fz nz cz]])
        have hu8 := hu7.trans hv8
        rw [← hwm] at hu8
        obtain ⟨k1, k3, zs, rfl, hzs, hup3⟩ := coh_parts hu8
        have hlf8 : allLeaf [T.imm k1 (wrM n w addr size v).mem.length ((wrM n w addr size v).mem.flatMap u8T), T.imm k3 (wrM n w addr size v).caches.length zs] = true := rfl
        have q7' := q7 N7 (Nat.le_refl _) st.g [.agg [.imm f1 n.mem.length (n.mem.flatMap u8T), .imm f2 n.caches.length ys], .int .i64 (w : Int), .agg [.imm fz nz cz]] [] rfl
        refine W_seqn (W_region (fun k => by simp +decide (disch := first | omega | simp +decide only [List.length_set, hl]) only [sa, simprocAttr, hps, hokk]; rfl) ⟨rfl, W_tru ?_⟩)
        refine W_regionN ⟨N7, by simp +decide (disch := first | omega | simp +decide only [List.length_set, hl]) only [sa, simprocAttr, hps, h1, h5, hct, g0, gc, hcut2, hczz, qWITH, rWITH, sWITH, q7', ite_self, hlf8]; rfl⟩ ⟨rfl, fin _ k1 k3 zs hzs hup3 ?_ ?_ ?_ ?_ ?_ ?_ ?_ ?_⟩
        iterate 6 (· simp +decide (disch := first | omega | simp +decide only [List.length_set, hl]) only [sa, simprocAttr, hl, h1, h5, h10, h12, hhd])
        · simp +decide (disch := first | omega | simp +decide only [List.length_set, hl]) only [sa, simprocAttr, hps]
        · simp +decide (disch := first | omega | simp +decide only [List.length_set, hl]) only [sa, simprocAttr, hps, g1]
      · have hwf : (writeR (cacheAt n w) addr size v).2 = false := by simpa using hwr
        rw [hwf] at hokk
        have hwm : wrM n w addr size v = n := by unfold wrM; rw [if_neg hwr]
        rw [hwm] at fin
        refine W_seqn (W_region (fun k => by simp +decide (disch := first | omega | simp +decide only [List.length_set, hl]) only [sa, simprocAttr, hps, hokk]; rfl) ⟨rfl, W_fls (W_skip ⟨rfl, ?_⟩)⟩)
        rw [hwm]
        refine fin _ f1 f2 ys hys hup ?_ ?_ ?_ ?_ ?_ ?_ ?_ ?_
        iterate 6 (· simp +decide (disch := first | omega | simp +decide only [List.length_set, hl]) only [sa, simprocAttr, hl, h1, h5, h10, h12, hhd])
        · exact g0
        · exact g1
    · rw [decide_eq_false hm] at q1
      rw [if_neg hm]
      refine W_seq (W_seqn (W_regionN ⟨N1, by simp +decide (disch := first | omega | simp +decide only [List.length_set, hl]) only [sa, simprocAttr, hps, h1, h2, h3, h5, g0, hcut, qREA, rREA, sREA, q1]; rfl⟩ ⟨rfl, W_tru ?_⟩))
      refine W_seqn (W_region (fun k => by simp +decide (disch := first | omega | simp +decide only [List.length_set, hl]) only [sa, simprocAttr, hps, h5, h10, g0, g1, hcut, hleaf]; rfl) ⟨rfl, W_ret (.inr ⟨by simp, rfl, _, ⟨_, rfl, UpT.refl _⟩, fin_cb (p := 1) rfl ?_ ?_ ?_⟩)⟩)
      · simp +decide (disch := first | omega | simp +decide only [List.length_set, hl]) only [sa, simprocAttr, h10]
      · simp +decide (disch := first | omega | simp +decide only [List.length_set, hl]) only [sa, simprocAttr, hps]
        try rfl
      · simp +decide (disch := first | omega | simp +decide only [List.length_set, hl]) only [sa, simprocAttr])
  exact ⟨u, hE, hu⟩
theorem bump_all (a : Int) (l : List Way) : bumpK a l.length l = l.map (up a) := by simp [bumpK]
def FineK (c : Cache) (s : Nat) (l : List Way) (k : Nat) : Prop :=
  0 ≤ (wayN l k).age ∧ (wayN l k).age < l.length ∧ (∀ j, j < k → (wayN l j).age ≠ (wayN l k).age) ∧ 0 ≤ (wayN l k).state ∧ (wayN l k).state ≤ 3 ∧ ((wayN l k).state = 0 → wayN l k = aged zeroW (wayN l k).age) ∧ ((wayN l k).state ≠ 0 → seti c (wayN l k).tag.toNat = s ∧ find c (wayN l k).tag.toNat = some k)
def FineP (c : Cache) (s : Nat) (l : List Way) : Prop := 1 ≤ l.length ∧ l.length ≤ 4 ∧ ∀ k, k < l.length → FineK c s l k
theorem eqL_asInt : ∀ x y : List T, eqL x y = true → x.map T.asInt = y.map T.asInt ∨ (∃ z ∈ x, ∀ k n, z ≠ .int k n)
  | [], [], _ => .inl rfl
  | a :: x, b :: y, h => by
    rw [eqL, Bool.and_eq_true] at h
    rcases eqL_asInt x y h.2 with h2 | ⟨z, hz, h2⟩
    · by_cases ha : ∃ k n, a = .int k n
      · obtain ⟨k, n, rfl⟩ := ha
        cases b <;> first | (have h1 := h.1; simp only [eq1, beq_iff_eq] at h1; subst h1; exact .inl (by simp only [List.map_cons, h2, T.asInt]); done) | (exact absurd h.1 (by simp [eq1]))
      · exact .inr ⟨a, List.mem_cons_self .., fun k n e => ha ⟨k, n, e⟩⟩
    · exact .inr ⟨z, List.mem_cons_of_mem _ hz, h2⟩
  | [], _ :: _, h => by simp [eqL] at h
  | _ :: _, [], h => by simp [eqL] at h
theorem dataT_asInt (l : List Int) : (dataT l).map T.asInt = l.map some := by rw [dataT_map, List.map_map]; rfl
theorem map_some_inj : ∀ {x y : List Int}, x.map some = y.map some → x = y
  | [], [], _ => rfl
  | a :: x, b :: y, h => by simp at h; rw [h.1, map_some_inj (x := x) (y := y) (by simpa using h.2)]
  | [], _ :: _, h => by simp at h
  | _ :: _, [], h => by simp at h
theorem fnd_first (l : List Way) (ln : Nat) : ∀ m k j, fnd l ln k m = some j → isAt ln (wayN l j) = true ∧ k ≤ j ∧ ∀ i, k ≤ i → i < j → isAt ln (wayN l i) = false
  | 0, _, _, h => by cases h
  | m + 1, k, j, h => by
    rw [fnd] at h
    by_cases hb : isAt ln ((l[k]?).getD default) = true
    · rw [if_pos hb] at h
      obtain rfl := Option.some.inj h
      exact ⟨hb, Nat.le_refl _, fun i h1 h2 => by omega⟩
    · rw [if_neg hb] at h
      obtain ⟨h1, h2, h3⟩ := fnd_first l ln m (k + 1) j h
      refine ⟨h1, by omega, fun i hi1 hi2 => ?_⟩
      by_cases hik : i = k
      · subst hik; exact (Bool.not_eq_true _).mp hb
      · exact h3 i (by omega) hi2
theorem fnd_has (l : List Way) (ln : Nat) : ∀ m k i, k ≤ i → i < k + m → isAt ln (wayN l i) = true → ∃ j, fnd l ln k m = some j
  | 0, _, _, h1, h2, _ => by omega
  | m + 1, k, i, h1, h2, h => by
    rw [fnd]
    by_cases hb : isAt ln ((l[k]?).getD default) = true
    · exact ⟨k, if_pos hb⟩
    · rw [if_neg hb]
      refine fnd_has l ln m (k + 1) i ?_ (by omega) h
      by_cases hik : i = k
      · subst hik; exact absurd h hb
      · omega
theorem bfalse {P : Prop} (h : ¬ P) : (false = true ↔ P) := ⟨fun e => (by cases e), fun e => absurd e h⟩
theorem btrue {P : Prop} (h : P) : (true = true ↔ P) := ⟨fun _ => h, fun _ => rfl⟩
theorem fin_bool {F : AFun} {t : Nat} {b : Bool} {P : Bool → Prop} (hF : F.res = [.tmp t]) (hP : P b) {s : List T} {g : Mem} {nx : Nat} (h : rho s (.tmp t) = .bool b) : ∃ v, (∃ b, v = .bool b ∧ P b) ∧ ∃ u ids, resT s g F.res = some u ∧ frz ⟨g, nx⟩ frzDepth u = some (v, ids) :=
  ⟨.bool b, ⟨b, rfl, hP⟩, .bool b, [], by rw [hF]; simp only [resT, resL, resOne, h], rfl⟩
def cntA (l : List Way) (a : Int) : Nat → Nat
  | 0 => 0
  | k + 1 => cntA l a k + if (wayN l k).age = a then 1 else 0
theorem cntA_le (l : List Way) (a : Int) : ∀ k, cntA l a k ≤ k
  | 0 => Nat.le_refl _
  | k + 1 => by have := cntA_le l a k; rw [cntA]; split <;> omega
def AgesP (l : List Way) : Prop := ∀ a : Nat, a < l.length → cntA l (a : Int) l.length = 1
def agesOut : ACode := match f38.body with | .seq _ (.seq _ (.seq (.seq _ (.block _ (.loop c))) _)) => c | _ => .skip
def agesIn : ACode := match agesOut with | .seq _ (.seq (.block _ (.seq _ (.seq (.seq _ (.block _ (.loop c))) _))) _) => c | _ => .skip
theorem ages_in (f : Bool) (l : List Way) (hw : ∀ w ∈ l, w.wf) (hlm : l.length ≤ 1000) (a : Nat) (Q : AExit → St → Prop)
    (hQe : ∀ st : St, st.s.length = 37 → rho st.s (.tmp 5) = .imm f l.length (l.flatMap Way.enc) → rho st.s (.tmp 6) = .int .i64 (a : Int) → rho st.s (.tmp 7) = .int .i64 (cntA l (a : Int) l.length : Int) → Q (.exit 2) st) :
    ∀ (m : Nat) (st : St), (∃ k : Nat, st.s.length = 37 ∧ rho st.s (.tmp 5) = .imm f l.length (l.flatMap Way.enc) ∧ rho st.s (.tmp 6) = .int .i64 (a : Int) ∧ rho st.s (.tmp 7) = .int .i64 (cntA l (a : Int) k : Int) ∧ rho st.s (.tmp 8) = .int .i64 (k : Int) ∧ k ≤ l.length ∧ m = l.length - k) → W ap (.loop agesIn) st Q := by
  refine W_loop _ ?_
  rintro m st ⟨k, hl, h5, h6, h7, h8, hk, hm⟩
  by_cases hend : k = l.length
  · have hlt : decide ((k : Int) < (l.length : Int)) = false := decide_eq_false (by omega)
    refine W_seq (W_seqn (W_region (fun k => by simp +decide (disch := first | omega | simp +decide only [List.length_set, hl]) only [sa, simprocAttr, h5, h8, hlt]; rfl) ⟨rfl, W_false (by simp +decide (disch := first | omega | simp +decide only [List.length_set, hl]) only [sa, simprocAttr] <;> rfl) (W_exit ?_)⟩))
    refine (.inr ⟨by simp, .inr ⟨by simp, hQe _ ?_ ?_ ?_ ?_⟩⟩)
    rotate_right 1
    · rw [← hend]
      simp +decide (disch := first | omega | simp +decide only [List.length_set, hl]) only [sa, simprocAttr, h7]
    all_goals simp +decide (disch := first | omega | simp +decide only [List.length_set, hl]) only [sa, simprocAttr, hl, h5, h6]
  have hlt : decide ((k : Int) < (l.length : Int)) = true := decide_eq_true (by omega)
  have hkl : k < l.length := by omega
  have hw2 : IntKind.i64.wrap ((k : Int) + 1) = ((k + 1 : Nat) : Int) := by rw [wrap_id (by omega)]; omega
  have hcle := cntA_le l (a : Int) k
  have hw3 : IntKind.i64.wrap ((cntA l (a : Int) k : Int) + 1) = ((cntA l (a : Int) k + 1 : Nat) : Int) := by rw [wrap_id (by omega)]; omega
  have hsucc : cntA l (a : Int) (k + 1) = cntA l (a : Int) k + if (wayN l k).age = (a : Int) then 1 else 0 := rfl
  have hcl := enc_len l hw
  have hag := age_at l hw k hkl
  have hb2 : k * 19 + 19 ≤ l.length * 19 := by omega
  have hb3 : k * 19 + 18 + 1 ≤ l.length * 19 := by omega
  generalize l.flatMap Way.enc = ws at *
  refine W_seqn (W_seqn (W_region (fun k => by simp +decide (disch := first | omega | simp +decide only [List.length_set, hl]) only [sa, simprocAttr, h5, h8, hlt]; rfl) ⟨rfl, W_true (by simp +decide (disch := first | omega | simp +decide only [List.length_set, hl]) only [sa, simprocAttr] <;> rfl) (W_skip ⟨rfl, ?_⟩)⟩))
  by_cases he : (wayN l k).age = (a : Int)
  · have e1 : ((wayN l k).age == (a : Int)) = true := by simp [he]
    rw [if_pos he] at hsucc
    refine W_seqn (W_block (W_seqn (W_region (fun k => by simp +decide (disch := first | omega | simp +decide only [List.length_set, hl]) only [sa, simprocAttr, h5, h6, h8, hkl, hcl, hb2, hb3, hag, e1]; rfl) ⟨rfl, W_true (by simp +decide (disch := first | omega | simp +decide only [List.length_set, hl]) only [sa, simprocAttr] <;> rfl) ?_⟩)))
    refine W_region (fun k => by simp +decide (disch := first | omega | simp +decide only [List.length_set, hl]) only [sa, simprocAttr, h7, hw3]; rfl) (.inr (.inl ⟨by simp, rfl, ?_⟩))
    refine W_region (fun k => by simp +decide (disch := first | omega | simp +decide only [List.length_set, hl]) only [sa, simprocAttr, h8, hw2]; rfl) ?_
    refine (.inl ⟨rfl, l.length - (k + 1), by omega, k + 1, ?_, ?_, ?_, ?_, ?_, by omega, rfl⟩)
    all_goals simp +decide (disch := first | omega | simp +decide only [List.length_set, hl]) only [sa, simprocAttr, hl, h5, h6, hsucc]
  · have e1 : ((wayN l k).age == (a : Int)) = false := beq_eq_false_iff_ne.mpr he
    rw [if_neg he, Nat.add_zero] at hsucc
    refine W_seqn (W_block (W_seqn (W_region (fun k => by simp +decide (disch := first | omega | simp +decide only [List.length_set, hl]) only [sa, simprocAttr, h5, h6, h8, hkl, hcl, hb2, hb3, hag, e1]; rfl) ⟨rfl, W_false (by simp +decide (disch := first | omega | simp +decide only [List.length_set, hl]) only [sa, simprocAttr] <;> rfl) (W_skip (.inr (.inl ⟨by simp, rfl, ?_⟩)))⟩)))
    refine W_region (fun k => by simp +decide (disch := first | omega | simp +decide only [List.length_set, hl]) only [sa, simprocAttr, h8, hw2]; rfl) ?_
    refine (.inl ⟨rfl, l.length - (k + 1), by omega, k + 1, ?_, ?_, ?_, ?_, ?_, by omega, rfl⟩)
    all_goals simp +decide (disch := first | omega | simp +decide only [List.length_set, hl]) only [sa, simprocAttr, hl, h5, h6, h7, hsucc]
theorem ages_out (f : Bool) (l : List Way) (hw : ∀ w ∈ l, w.wf) (hlm : l.length ≤ 1000) (Q : AExit → St → Prop)
    (hQr : ∀ st : St, rho st.s (.tmp 4) = .bool false → ¬ AgesP l → Q .ret st) (hQe : ∀ st : St, st.s.length = 37 → AgesP l → Q (.exit 0) st) :
    ∀ (m : Nat) (st : St), (∃ a : Nat, st.s.length = 37 ∧ rho st.s (.tmp 5) = .imm f l.length (l.flatMap Way.enc) ∧ rho st.s (.tmp 6) = .int .i64 (a : Int) ∧ a ≤ l.length ∧ m = l.length - a ∧ (∀ j, j < a → cntA l (j : Int) l.length = 1)) → W ap (.loop agesOut) st Q := by
  refine W_loop _ ?_
  rintro m st ⟨a, hl, h5, h6, ha, hm, hall⟩
  by_cases hend : a = l.length
  · have hlt : decide ((a : Int) < (l.length : Int)) = false := decide_eq_false (by omega)
    refine W_seq (W_seqn (W_region (fun k => by simp +decide (disch := first | omega | simp +decide only [List.length_set, hl]) only [sa, simprocAttr, h5, h6, hlt]; rfl) ⟨rfl, W_false (by simp +decide (disch := first | omega | simp +decide only [List.length_set, hl]) only [sa, simprocAttr] <;> rfl) (W_exit ?_)⟩))
    refine (.inr ⟨by simp, .inr ⟨by simp, hQe _ ?_ (fun j hj => hall j (by omega))⟩⟩)
    simp +decide (disch := first | omega | simp +decide only [List.length_set, hl]) only [sa, simprocAttr, hl]
  have hlt : decide ((a : Int) < (l.length : Int)) = true := decide_eq_true (by omega)
  have hal : a < l.length := by omega
  have hw2 : IntKind.i64.wrap ((a : Int) + 1) = ((a + 1 : Nat) : Int) := by rw [wrap_id (by omega)]; omega
  refine W_seqn (W_seqn (W_region (fun k => by simp +decide (disch := first | omega | simp +decide only [List.length_set, hl]) only [sa, simprocAttr, h5, h6, hlt]; rfl) ⟨rfl, W_true (by simp +decide (disch := first | omega | simp +decide only [List.length_set, hl]) only [sa, simprocAttr] <;> rfl) (W_skip ⟨rfl, ?_⟩)⟩))
  refine W_seq (W_block ?_)
  refine W_seqn (W_region (fun k => by simp +decide (disch := first | omega | simp +decide only [List.length_set, hl]) only [sa, simprocAttr]; rfl) ⟨rfl, ?_⟩)
  refine W_seqn (W_seqn (W_region (fun k => by simp +decide (disch := first | omega | simp +decide only [List.length_set, hl]) only [sa, simprocAttr]; rfl) ⟨rfl, W_block ?_⟩))
  refine ages_in f l hw hlm a _ (fun st hst h5 h6 h7 => ?_) (l.length - 0) _ ⟨0, ?_, ?_, ?_, ?_, ?_, by omega, rfl⟩
  · have hl := hst
    refine .inl ⟨rfl, rfl, ?_⟩
    by_cases h1 : cntA l (a : Int) l.length = 1
    · have e1 : ((cntA l (a : Int) l.length : Int) != 1) = false := by simp [h1]
      refine W_seqn (W_region (fun k => by simp +decide (disch := first | omega | simp +decide only [List.length_set, hl]) only [sa, simprocAttr, h7, e1]; rfl) ⟨rfl, W_false (by simp +decide (disch := first | omega | simp +decide only [List.length_set, hl]) only [sa, simprocAttr] <;> rfl) (W_skip (.inr (.inl ⟨by simp, .inl ⟨rfl, ?_⟩⟩)))⟩)
      refine W_region (fun k => by simp +decide (disch := first | omega | simp +decide only [List.length_set, hl]) only [sa, simprocAttr, h6, hw2]; rfl) ?_
      refine (.inl ⟨rfl, l.length - (a + 1), by omega, a + 1, ?_, ?_, ?_, by omega, rfl, fun j hj => ?_⟩)
      rotate_right 1
      · by_cases hja : j = a
        · subst hja; exact h1
        · exact hall j (by omega)
      all_goals simp +decide (disch := first | omega | simp +decide only [List.length_set, hl]) only [sa, simprocAttr, hl, h5]
    · have e1 : ((cntA l (a : Int) l.length : Int) != 1) = true := by simp; omega
      refine W_seqn (W_region (fun k => by simp +decide (disch := first | omega | simp +decide only [List.length_set, hl]) only [sa, simprocAttr, h7, e1]; rfl) ⟨rfl, W_true (by simp +decide (disch := first | omega | simp +decide only [List.length_set, hl]) only [sa, simprocAttr] <;> rfl) ?_⟩)
      refine W_seqn (W_region (fun k => by simp +decide (disch := first | omega | simp +decide only [List.length_set, hl]) only [sa, simprocAttr]; rfl) ⟨rfl, W_ret ?_⟩)
      simp only [reduceCtorEq, false_and, false_or, or_false, exists_false, exists_const, ne_eq, not_false_eq_true, true_and, implies_true]
      refine hQr _ ?_ (fun h => h1 (h a hal))
      simp +decide (disch := first | omega | simp +decide only [List.length_set, hl]) only [sa, simprocAttr]
  all_goals first | (simp +decide (disch := first | omega | simp +decide only [List.length_set, hl]) only [sa, simprocAttr, hl, h5, h6]; done) | (simp +decide (disch := first | omega | simp +decide only [List.length_set, hl]) only [sa, simprocAttr, hl, h5, h6]; rfl)
theorem ref_ages (c : Cache) (hc : c.wf) (s : Nat) (hs : s < c.sets.length) (hlm : (row c s).length ≤ 1000) : ∃ v, E ap 38 [.agg [setsT c], .int .i64 (s : Int)] v ∧ ∃ b, v = .bool b ∧ (b = true ↔ AgesP (row c s)) := by
  refine E_bodyV (F := f38) rfl rfl rfl (P := fun v => ∃ b, v = .bool b ∧ (b = true ↔ AgesP (row c s))) ?_
  generalize hs0 : (_ : List T) ++ List.replicate _ T.undef = s0
  have e0 : s0.length = 37 ∧ rho s0 (.tmp 0) = .agg [setsT c] ∧ rho s0 (.tmp 1) = .int .i64 (s : Int) := by subst hs0; exact ⟨rfl, rfl, rfl⟩
  clear hs0
  obtain ⟨hl, h0, h1⟩ := e0
  have hleaf : allLeaf [setsT c] = true := rfl
  have hsc : setsT c = .imm false c.sets.length (c.sets.flatMap (fun l => [rowT l])) := rfl
  have hrl := rows_len c
  have hrg := rows_get c s hs
  rw [show rowT (row c s) = .imm false (row c s).length ((row c s).flatMap Way.enc) from rfl] at hrg
  have hb : s * 1 + 1 ≤ c.sets.length := by omega
  have hw := (row_wf hc s hs).2
  refine W_seqn (W_region (fun k => by simp +decide (disch := first | omega | simp +decide only [List.length_set, hl]) only [sa, simprocAttr, hps, h0, hleaf]; rfl) ⟨rfl, ?_⟩)
  refine W_seqn (W_region (fun k => by simp +decide (disch := first | omega | simp +decide only [List.length_set, hl]) only [sa, simprocAttr, hps, h1, hsc, hrl, hs, hb, hrg]; rfl) ⟨rfl, ?_⟩)
  refine W_seq (W_seqn (W_region (fun k => by simp +decide (disch := first | omega | simp +decide only [List.length_set, hl]) only [sa, simprocAttr, hps]; rfl) ⟨rfl, W_block ?_⟩))
  refine ages_out false (row c s) hw hlm _ (fun st h4 hno => ?_) (fun st hst hall => ?_) ((row c s).length - 0) _ ⟨0, ?_, ?_, ?_, by omega, rfl, fun j hj => by omega⟩
  · simp only [reduceCtorEq, false_and, false_or, or_false, exists_false, exists_const, ne_eq, not_false_eq_true, true_and, implies_true]
    exact ⟨rfl, fin_bool (F := f38) (b := false) (P := fun b => b = true ↔ AgesP (row c s)) rfl (bfalse hno) h4⟩
  · have hl := hst
    refine .inl ⟨rfl, .inl ⟨rfl, W_seqn (W_region (fun k => by simp +decide (disch := first | omega | simp +decide only [List.length_set, hl]) only [sa, simprocAttr]; rfl) ⟨rfl, W_ret ?_⟩)⟩⟩
    refine ⟨rfl, fin_bool (F := f38) (b := true) (P := fun b => b = true ↔ AgesP (row c s)) rfl (btrue hall) ?_⟩
    simp +decide (disch := first | omega | simp +decide only [List.length_set, hl]) only [sa, simprocAttr]
  all_goals first | (simp +decide (disch := first | omega | simp +decide only [List.length_set, hl]) only [sa, simprocAttr, hps, hl]; done) | (simp +decide (disch := first | omega | simp +decide only [List.length_set, hl]) only [sa, simprocAttr, hps, hl]; rfl)
end Go.Proofs.Ytabfinhkoihhfaa.Abs
