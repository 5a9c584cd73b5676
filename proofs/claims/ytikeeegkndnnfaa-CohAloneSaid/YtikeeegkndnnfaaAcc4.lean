/- Reads: both functions' walks. -/
import Derived.Test.YtikeeegkndnnfaaAcc3
namespace Go.Proofs.Ytikeeegkndnnfaa.Abs
open Go Go.RowKit Fn
set_option linter.unusedVariables false
set_option linter.unusedSimpArgs false
set_option linter.unnecessarySimpa false
set_option maxRecDepth 100000
set_option maxHeartbeats 4000000

def rdV (c : Cache) (addr : Nat) (size : Int) : Int := match readK c addr size with
  | some k => val (bytesAt (wayN (row c (seti c (addr / 16))) k) (addr % 16) size.toNat)
  | none => 0
def rdB (c : Cache) (addr : Nat) (size : Int) : Bool := match readK c addr size with
  | some _ => true
  | none => false
theorem readT_is (c : Cache) (addr : Nat) (size : Int) : readT c addr size = .tup [.int .u32 (rdV c addr size), .bool (rdB c addr size)] := by
  unfold readT rdV rdB
  cases readK c addr size <;> rfl
theorem tup_ib {v : Int} {b : Bool} : ∀ v', UpT (.tup [.int .u32 v, .bool b]) v' → v' = .tup [.int .u32 v, .bool b] := by
  intro v' h
  obtain ⟨l, rfl, h2⟩ := h.tup
  simp only [UpL] at h2
  obtain ⟨a, _, rfl, ha, c, _, rfl, hc, rfl⟩ := h2
  rw [ha.int, hc.bool]
def readM (m : Coh) (who : Int) (addr : Nat) (size : Int) : Int × Coh × Bool :=
  if MayP m who addr size then (rdV (cacheAt (askM m who (addr / 16) 1).1 who.toNat) addr size, touchM (askM m who (addr / 16) 1).1 who.toNat (addr / 16), (askM m who (addr / 16) 1).2) else (0, m, false)
theorem ok_readM {m : Coh} (h : Ok m) (who : Int) (addr : Nat) (ha : addr ≤ 4294967295) (size : Int) : Ok (readM m who addr size).2.1 := by
  unfold readM
  split
  · rename_i hm
    refine ok_touch (ok_ask h _ _ (by omega) _) _ _ ?_
    rw [ask_len]
    have := hm.1.1; have := hm.1.2; omega
  · exact h
theorem qLOF : ap 34 = some f34 := rfl
theorem rLOF : f34.pure = true := rfl
theorem sLOF : f34.nat = none := rfl
theorem qREA : ap 33 = some f33 := rfl
theorem rREA : f33.pure = true := rfl
theorem sREA : f33.nat = none := rfl
theorem qGOT : ap 35 = some f35 := rfl
theorem rGOT : f35.pure = true := rfl
theorem sGOT : f35.nat = none := rfl
theorem qCREAD : ap 39 = some f39 := rfl
theorem rCREAD : f39.pure = true := rfl
theorem sCREAD : f39.nat = none := rfl
theorem qTOU : ap 38 = some f38 := rfl
theorem rTOU : f38.pure = true := rfl
theorem sTOU : f38.nat = none := rfl
theorem bus_readM (m : Coh) (hok : Ok m) (who : Int) (addr : Nat) (ha : addr ≤ 4294967295) (size : Int) : ∃ u, E ap 16 [.agg [memT m, cachT m], .int .i64 who, .int .u32 (addr : Int), .int .i64 size] (.tup [.int .u32 (readM m who addr size).1, u, .bool (readM m who addr size).2.2]) ∧ UpT (.agg (readM m who addr size).2.1.enc) u := by
  obtain ⟨v, hE, u, rfl, hu⟩ := E_bodyV (F := f16) (f := 16) (AP := ap) rfl rfl rfl (args := [.agg [memT m, cachT m], .int .i64 who, .int .u32 (addr : Int), .int .i64 size]) (P := fun v => ∃ u, v = .tup [.int .u32 (readM m who addr size).1, u, .bool (readM m who addr size).2.2] ∧ UpT (.agg (readM m who addr size).2.1.enc) u) (by
    generalize hs0 : (_ : List T) ++ List.replicate _ T.undef = s0
    have e0 : s0.length = 48 ∧ rho s0 (.tmp 0) = .agg [memT m, cachT m] ∧ rho s0 (.tmp 1) = .int .i64 who ∧ rho s0 (.tmp 2) = .int .u32 (addr : Int) ∧ rho s0 (.tmp 3) = .int .i64 size := by subst hs0; exact ⟨rfl, rfl, rfl, rfl, rfl⟩
    clear hs0
    obtain ⟨hl, h0, h1, h2, h3⟩ := e0
    have hleaf : allLeaf [memT m, cachT m] = true := rfl
    have hcut : cut [memT m, cachT m] 0 2 = [memT m, cachT m] := rfl
    obtain ⟨N1, q1⟩ := (bus_reached m hok.1 hok.2.1 who addr ha size).call qREA (fun g => rfl)
    have q1 := q1 N1 (Nat.le_refl _)
    refine W_cut (fun st => st.s.length = 48 ∧ rho st.s (.tmp 1) = .int .i64 who ∧ rho st.s (.tmp 2) = .int .u32 (addr : Int) ∧ rho st.s (.tmp 3) = .int .i64 size ∧ rho st.s (.tmp 4) = .ptr 0 0 ∧ rho st.s (.tmp 9) = .ptr 2 0 ∧ st.g 0 = some [memT m, cachT m] ∧ st.g 2 = some [.imm true 0 [], .imm true 0 []] ∧ st.nx = 4) (W_region (fun k => by simp (decide := true) (disch := first | omega | simp (decide := true) only [List.length_set, hl]) only [sims, autos, simprocAttr, hps, h0, hleaf]; rfl) ⟨rfl, ?_⟩) ?_
    · refine ⟨?_, ?_, ?_, ?_, ?_, ?_, ?_, ?_, rfl⟩ <;> simp (decide := true) (disch := first | omega | simp (decide := true) only [List.length_set, hl]) only [sims, autos, simprocAttr, hps, hl, h1, h2, h3]
    clear hl h0 h1 h2 h3
    rintro ⟨ss, gg, nx⟩ ⟨hl, h1, h2, h3, h4, h9, g0, g2, hnx⟩
    simp only at hl h1 h2 h3 h4 h9 g0 g2 hnx
    subst hnx
    unfold readM
    by_cases hm : MayP m who addr size
    · rw [decide_eq_true hm] at q1
      rw [if_pos hm]
      obtain ⟨w, rfl⟩ : ∃ w : Nat, who = (w : Int) := ⟨who.toNat, by have := hm.1.1; omega⟩
      have hw : w < m.caches.length := by have := hm.1.2; omega
      rw [Int.toNat_natCast]
      obtain ⟨N2, q2⟩ := (line_of addr ha).call qLOF (fun g => rfl)
      have q2 := q2 N2 (Nat.le_refl _)
      have hln : addr / 16 ≤ 4294967295 := by omega
      obtain ⟨u1, hE1, hu1⟩ := bus_got2 m hok (w : Int) hm.1 (addr / 16) hln 1
      obtain ⟨N3, q3⟩ := hE1.call qGOT (fun g => rfl)
      have q3 := q3 N3 (Nat.le_refl _)
      have hokn := ok_ask hok (w : Int) (addr / 16) hln 1
      have hwn : w < (askM m (w : Int) (addr / 16) 1).1.caches.length := by rw [ask_len]; exact hw
      generalize (askM m (w : Int) (addr / 16) 1).2 = had at *
      generalize (askM m (w : Int) (addr / 16) 1).1 = n at *
      obtain ⟨f1, f2, ys, rfl, hys, hup⟩ := coh_parts hu1
      obtain ⟨z, hz, hzu, f, a, b, rfl⟩ := cache_cell hys hwn
      have hyl := upL_len1 n hys
      have hcz := cell_at hz
      have hw1 : w + 1 ≤ ys.length := by omega
      obtain ⟨N4, q4⟩ := ((readT_is (cacheAt n w) addr size) ▸ bus_read (cacheAt n w) (cacheAt_wf hokn.1 w hwn) addr ha size).callF qCREAD (args' := [.agg [.imm f a b], .int .u32 (addr : Int), .int .i64 size]) (UpL.cons (upT_agg (UpL.cons hzu UpL.nil)) (UpL.refl _)) tup_ib rfl
      obtain ⟨v5, hE5, hu5⟩ := bus_touched n hokn w hwn (addr / 16) hln
      obtain ⟨N5, v6, hv6, q5⟩ := hE5.callU qTOU (up_tl hup [] [.int .i64 (w : Int), .int .u32 ((addr / 16 : Nat) : Int)])
      have hu6 := hu5.trans hv6
      obtain ⟨g1, g3, zs, rfl, _, _⟩ := coh_parts hu6
      have hlf : allLeaf [T.imm f1 n.mem.length (n.mem.flatMap u8T), T.imm f2 n.caches.length ys] = true := rfl
      have hcut2 : cut [T.imm f1 n.mem.length (n.mem.flatMap u8T), T.imm f2 n.caches.length ys] 0 2 = [T.imm f1 n.mem.length (n.mem.flatMap u8T), T.imm f2 n.caches.length ys] := rfl
      have hlf6 : allLeaf [T.imm g1 (touchM n w (addr / 16)).mem.length ((touchM n w (addr / 16)).mem.flatMap u8T), T.imm g3 (touchM n w (addr / 16)).caches.length zs] = true := rfl
      refine W_seqn (W_seqn (W_regionN ⟨N1, by simp (decide := true) (disch := first | omega | simp (decide := true) only [List.length_set, hl]) only [sims, autos, simprocAttr, hps, h1, h2, h3, h4, g0, hcut, qREA, rREA, sREA, q1]; rfl⟩ ⟨rfl, W_fls (W_skip ⟨rfl, ?_⟩)⟩))
      refine W_cut (fun st => st.s.length = 48 ∧ rho st.s (.tmp 1) = .int .i64 (w : Int) ∧ rho st.s (.tmp 2) = .int .u32 (addr : Int) ∧ rho st.s (.tmp 3) = .int .i64 size ∧ rho st.s (.tmp 4) = .ptr 0 0 ∧ rho st.s (.tmp 9) = .ptr 2 0 ∧ rho st.s (.tmp 11) = .int .u32 ((addr / 16 : Nat) : Int) ∧ st.g 0 = some [memT m, cachT m] ∧ st.g 2 = some [.imm true 0 [], .imm true 0 []] ∧ st.nx = 13) (W_regionN ⟨N2, by simp (decide := true) (disch := first | omega | simp (decide := true) only [List.length_set, hl]) only [sims, autos, simprocAttr, hps, h2, qLOF, rLOF, sLOF, q2]; rfl⟩ ⟨rfl, ?_⟩) ?_
      · refine ⟨?_, ?_, ?_, ?_, ?_, ?_, ?_, ?_, ?_, rfl⟩ <;> simp (decide := true) (disch := first | omega | simp (decide := true) only [List.length_set, hl]) only [sims, autos, simprocAttr, hps, hl, h1, h2, h3, h4, h9, g0, g2]
      clear hl h1 h2 h3 h4 h9 g0 g2
      rintro ⟨ss, gg, nx⟩ ⟨hl, h1, h2, h3, h4, h9, h11, g0, g2, hnx⟩
      simp only at hl h1 h2 h3 h4 h9 h11 g0 g2 hnx
      subst hnx
      refine W_cut (fun st => st.s.length = 48 ∧ rho st.s (.tmp 1) = .int .i64 (w : Int) ∧ rho st.s (.tmp 2) = .int .u32 (addr : Int) ∧ rho st.s (.tmp 3) = .int .i64 size ∧ rho st.s (.tmp 4) = .ptr 0 0 ∧ rho st.s (.tmp 9) = .ptr 2 0 ∧ rho st.s (.tmp 11) = .int .u32 ((addr / 16 : Nat) : Int) ∧ rho st.s (.tmp 12) = .bool had ∧ st.g 0 = some [.imm f1 n.mem.length (n.mem.flatMap u8T), .imm f2 n.caches.length ys] ∧ st.g 2 = some [.imm true 0 [], .imm true 0 []]) (W_regionN ⟨N3, by simp (decide := true) (disch := first | omega | simp (decide := true) only [List.length_set, hl]) only [sims, autos, simprocAttr, hps, h1, h4, h11, g0, hcut, qGOT, rGOT, sGOT, q3, hlf]; rfl⟩ ⟨rfl, ?_⟩) ?_
      · refine ⟨?_, ?_, ?_, ?_, ?_, ?_, ?_, ?_, ?_, ?_⟩ <;> simp (decide := true) (disch := first | omega | simp (decide := true) only [List.length_set, hl]) only [sims, autos, simprocAttr, hps, hl, h1, h2, h3, h4, h9, h11, g0, g2]
      clear hl h1 h2 h3 h4 h9 h11 g0 g2
      rintro st ⟨hl, h1, h2, h3, h4, h9, h11, h12, g0, g2⟩
      have q4' := q4 N4 (Nat.le_refl _) st.g [.agg [.imm f a b], .int .u32 (addr : Int), .int .i64 size] [] rfl
      refine W_cut (fun s => s.s.length = 48 ∧ rho s.s (.tmp 1) = .int .i64 (w : Int) ∧ rho s.s (.tmp 4) = .ptr 0 0 ∧ rho s.s (.tmp 9) = .ptr 2 0 ∧ rho s.s (.tmp 11) = .int .u32 ((addr / 16 : Nat) : Int) ∧ rho s.s (.tmp 12) = .bool had ∧ rho s.s (.tmp 13) = .int .u32 (rdV (cacheAt n w) addr size) ∧ s.g 0 = some [.imm f1 n.mem.length (n.mem.flatMap u8T), .imm f2 n.caches.length ys] ∧ s.g 2 = some [.imm true 0 [], .imm true 0 []]) (W_regionN ⟨N4, by simp (decide := true) (disch := first | omega | simp (decide := true) only [List.length_set, hl]) only [sims, autos, simprocAttr, hps, h1, h2, h3, h4, g0, hwn, hw1, hcz, qCREAD, rCREAD, sCREAD, q4', Nat.mul_one]; rfl⟩ ⟨rfl, ?_⟩) ?_
      · refine ⟨?_, ?_, ?_, ?_, ?_, ?_, ?_, ?_, ?_⟩ <;> simp (decide := true) (disch := first | omega | simp (decide := true) only [List.length_set, hl]) only [sims, autos, simprocAttr, hps, hl, h1, h4, h9, h11, h12, g0, g2]
      clear hl h1 h2 h3 h4 h9 h11 h12 g0 g2 q4'
      rintro st ⟨hl, h1, h4, h9, h11, h12, h13, g0, g2⟩
      have q5' := q5 N5 (Nat.le_refl _) st.g [.agg [.imm f1 n.mem.length (n.mem.flatMap u8T), .imm f2 n.caches.length ys], .int .i64 (w : Int), .int .u32 ((addr / 16 : Nat) : Int)] [] rfl
      refine W_seqn (W_regionN ⟨N5, by simp (decide := true) (disch := first | omega | simp (decide := true) only [List.length_set, hl]) only [sims, autos, simprocAttr, hps, h1, h4, h9, h11, h12, h13, g0, g2, hcut2, qTOU, rTOU, sTOU, q5', ite_self, hlf6]; rfl⟩ ⟨rfl, W_ret ⟨rfl, _, ⟨_, rfl, hu6⟩, fin_vcb (p := 2) rfl ?_ ?_ ?_ ?_⟩⟩)
      · simp (decide := true) (disch := first | omega | simp (decide := true) only [List.length_set, hl]) only [sims, autos, simprocAttr, h13]
      · simp (decide := true) (disch := first | omega | simp (decide := true) only [List.length_set, hl]) only [sims, autos, simprocAttr, h9]
      · simp (decide := true) (disch := first | omega | simp (decide := true) only [List.length_set, hl]) only [sims, autos, simprocAttr, hps]
      · simp (decide := true) (disch := first | omega | simp (decide := true) only [List.length_set, hl]) only [sims, autos, simprocAttr, h12]
    · rw [decide_eq_false hm] at q1
      rw [if_neg hm]
      refine W_seq (W_seqn (W_regionN ⟨N1, by simp (decide := true) (disch := first | omega | simp (decide := true) only [List.length_set, hl]) only [sims, autos, simprocAttr, hps, h1, h2, h3, h4, g0, hcut, qREA, rREA, sREA, q1]; rfl⟩ ⟨rfl, W_tru ?_⟩))
      refine W_seqn (W_region (fun k => by simp (decide := true) (disch := first | omega | simp (decide := true) only [List.length_set, hl]) only [sims, autos, simprocAttr, hps, h4, h9, g0, g2, hcut, hleaf]; rfl) ⟨rfl, W_ret (.inr ⟨by simp, rfl, _, ⟨_, rfl, UpT.refl _⟩, fin_vcb (p := 2) rfl ?_ ?_ ?_ ?_⟩)⟩)
      · simp (decide := true) (disch := first | omega | simp (decide := true) only [List.length_set, hl]) only [sims, autos, simprocAttr]
      · simp (decide := true) (disch := first | omega | simp (decide := true) only [List.length_set, hl]) only [sims, autos, simprocAttr, h9]
      · simp (decide := true) (disch := first | omega | simp (decide := true) only [List.length_set, hl]) only [sims, autos, simprocAttr, hps]
        try rfl
      · simp (decide := true) (disch := first | omega | simp (decide := true) only [List.length_set, hl]) only [sims, autos, simprocAttr])
  exact ⟨u, hE, hu⟩
end Go.Proofs.Ytikeeegkndnnfaa.Abs
