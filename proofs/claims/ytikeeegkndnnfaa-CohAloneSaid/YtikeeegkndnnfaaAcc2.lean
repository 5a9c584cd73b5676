/- Memory behind what a cache asks: both functions' walks. -/
import Derived.Test.YtikeeegkndnnfaaAcc1
namespace Go.Proofs.Ytikeeegkndnnfaa.Abs
open Go Go.RowKit Fn
set_option linter.unusedVariables false
set_option linter.unusedSimpArgs false
set_option linter.unnecessarySimpa false
set_option maxRecDepth 100000
set_option maxHeartbeats 4000000

theorem coh_parts {m : Coh} {v : T} (h : UpT (.agg m.enc) v) : ∃ f1 f2 ys, v = .agg [.imm f1 m.mem.length (m.mem.flatMap u8T), .imm f2 m.caches.length ys] ∧ UpL (m.caches.flatMap Cache.enc) ys ∧ UpL [memT m, cachT m] [.imm f1 m.mem.length (m.mem.flatMap u8T), .imm f2 m.caches.length ys] := by
  obtain ⟨l, rfl, h2⟩ := h.agg
  rw [coh_enc] at h2
  have h3 := h2
  simp only [UpL] at h2
  obtain ⟨a, _, rfl, ha, b, _, rfl, hb, rfl⟩ := h2
  obtain ⟨f1, c1, rfl, _, hc1⟩ := UpT.imm (f := false) (n := m.mem.length) (c := m.mem.flatMap u8T) ha
  obtain ⟨f2, c2, rfl, _, hc2⟩ := UpT.imm (f := false) (n := m.caches.length) (c := m.caches.flatMap Cache.enc) hb
  obtain rfl := upL_ints hc1 (u8_ints _)
  exact ⟨f1, f2, c2, rfl, hc2, h3⟩
theorem fin_cb {F : AFun} {t1 t2 p : Nat} {f1 f2 b : Bool} {n1 n2 : Nat} {c1 c2 : List T} (hF : F.res = [.cell t1 false 2, .tmp t2]) {s : List T} {g : Mem} {nx : Nat} (h1 : rho s (.tmp t1) = .ptr p 0) (g1 : g p = some [.imm f1 n1 c1, .imm f2 n2 c2]) (h2 : rho s (.tmp t2) = .bool b) : ∃ u ids, resT s g F.res = some u ∧ frz ⟨g, nx⟩ frzDepth u = some (.tup [.agg [.imm f1 n1 c1, .imm f2 n2 c2], .bool b], ids) := by
  have hcut : cut [T.imm f1 n1 c1, T.imm f2 n2 c2] 0 2 = [T.imm f1 n1 c1, T.imm f2 n2 c2] := rfl
  have hl : s.length = s.length := rfl
  refine ⟨.tup [.agg [.imm f1 n1 c1, .imm f2 n2 c2], .bool b], [], ?_, rfl⟩
  rw [hF]
  simp only [resT, resL, resOne]
  simp (decide := true) (disch := first | omega | simp (decide := true) only [List.length_set, hl]) only [sims, autos, simprocAttr, hps, h1, g1, h2, hcut]
theorem fin_vcb {F : AFun} {t0 t1 t2 p : Nat} {v : Int} {f1 f2 b : Bool} {n1 n2 : Nat} {c1 c2 : List T} (hF : F.res = [.tmp t0, .cell t1 false 2, .tmp t2]) {s : List T} {g : Mem} {nx : Nat} (h0 : rho s (.tmp t0) = .int .u32 v) (h1 : rho s (.tmp t1) = .ptr p 0) (g1 : g p = some [.imm f1 n1 c1, .imm f2 n2 c2]) (h2 : rho s (.tmp t2) = .bool b) : ∃ u ids, resT s g F.res = some u ∧ frz ⟨g, nx⟩ frzDepth u = some (.tup [.int .u32 v, .agg [.imm f1 n1 c1, .imm f2 n2 c2], .bool b], ids) := by
  have hcut : cut [T.imm f1 n1 c1, T.imm f2 n2 c2] 0 2 = [T.imm f1 n1 c1, T.imm f2 n2 c2] := rfl
  have hl : s.length = s.length := rfl
  refine ⟨.tup [.int .u32 v, .agg [.imm f1 n1 c1, .imm f2 n2 c2], .bool b], [], ?_, rfl⟩
  rw [hF]
  simp only [resT, resL, resOne]
  simp (decide := true) (disch := first | omega | simp (decide := true) only [List.length_set, hl]) only [sims, autos, simprocAttr, hps, h0, h1, g1, h2, hcut]
def askK (m : Coh) (who : Int) (ln : Nat) (a : Int) : Int := askv (stateOf m who ln) a
def askM (m : Coh) (who : Int) (ln : Nat) (a : Int) : Coh × Bool := if askK m who ln a = 0 then (m, true) else (doM m who (askK m who ln a) ln, false)
def touchM (m : Coh) (w ln : Nat) : Coh := match find (cacheAt m w) ln with
  | some k => withC m w (touchR (cacheAt m w).sets (seti (cacheAt m w) ln : Int) (k : Int))
  | none => m
theorem ok_ask {m : Coh} (h : Ok m) (who : Int) (ln : Nat) (hln : ln ≤ 4294967295) (a : Int) : Ok (askM m who ln a).1 := by
  unfold askM
  split
  · exact h
  · exact ok_do h who _ ln hln
theorem doGot_len (m : Coh) (who kind : Int) (ln : Nat) : (doGot m who kind ln).caches.length = m.caches.length := by
  unfold doGot
  split
  · exact withC_len _ _ _
  · rw [backM_caches]; exact withC_len _ _ _
theorem doM_len (m : Coh) (who kind : Int) (ln : Nat) : (doM m who kind ln).caches.length = m.caches.length := by
  unfold doM
  split
  · rw [doGot_len, (snoopN_len who kind ln m m.caches.length).1]
  · rfl
theorem ask_len (m : Coh) (who : Int) (ln : Nat) (a : Int) : (askM m who ln a).1.caches.length = m.caches.length := by
  unfold askM
  split
  · rfl
  · exact doM_len _ _ _ _
theorem ok_touch {m : Coh} (h : Ok m) (w ln : Nat) (hw : w < m.caches.length) : Ok (touchM m w ln) := by
  unfold touchM
  split
  · exact ok_with h hw (fit_touch (h.2.2.2 w hw) _ _)
  · exact h
theorem qWANT : ap 52 = some f52 := rfl
theorem rWANT : f52.pure = true := rfl
theorem sWANT : f52.nat = none := rfl
theorem qDO : ap 53 = some f53 := rfl
theorem rDO : f53.pure = true := rfl
theorem sDO : f53.nat = none := rfl
theorem qFIND : ap 58 = some f58 := rfl
theorem rFIND : f58.pure = true := rfl
theorem sFIND : f58.nat = none := rfl
theorem qTOUCH : ap 59 = some f59 := rfl
theorem rTOUCH : f59.pure = true := rfl
theorem sTOUCH : f59.nat = none := rfl
theorem bus_got2 (m : Coh) (hok : Ok m) (who : Int) (hw : has m who) (ln : Nat) (hln : ln ≤ 4294967295) (a : Int) : ∃ u, E ap 35 [.agg [memT m, cachT m], .int .i64 who, .int .u32 (ln : Int), .int .i64 a] (.tup [u, .bool (askM m who ln a).2]) ∧ UpT (.agg (askM m who ln a).1.enc) u := by
  obtain ⟨v, hE, u, rfl, hu⟩ := E_bodyV (F := f35) (f := 35) (AP := ap) rfl rfl rfl (args := [.agg [memT m, cachT m], .int .i64 who, .int .u32 (ln : Int), .int .i64 a]) (P := fun v => ∃ u, v = .tup [u, .bool (askM m who ln a).2] ∧ UpT (.agg (askM m who ln a).1.enc) u) (by
    generalize hs0 : (_ : List T) ++ List.replicate _ T.undef = s0
    have e0 : s0.length = 24 ∧ rho s0 (.tmp 0) = .agg [memT m, cachT m] ∧ rho s0 (.tmp 1) = .int .i64 who ∧ rho s0 (.tmp 2) = .int .u32 (ln : Int) ∧ rho s0 (.tmp 3) = .int .i64 a := by subst hs0; exact ⟨rfl, rfl, rfl, rfl, rfl⟩
    clear hs0
    obtain ⟨hl, h0, h1, h2, h3⟩ := e0
    have hleaf : allLeaf [memT m, cachT m] = true := rfl
    have hcut : cut [memT m, cachT m] 0 2 = [memT m, cachT m] := rfl
    obtain ⟨N1, q1⟩ := (bus_want m hok.1 who ln a hln).call qWANT (fun g => rfl)
    have hwt : wantT m who ln a = .agg [.int .i64 (askK m who ln a), .int .u32 (ln : Int)] := by unfold wantT; rw [if_pos hw]; rfl
    rw [hwt] at q1
    have hcr : ∀ k : Int, cut [T.int .i64 k, T.int .u32 (ln : Int)] 0 2 = [T.int .i64 k, T.int .u32 (ln : Int)] := fun _ => rfl
    have hlr : ∀ k : Int, allLeaf [T.int .i64 k, T.int .u32 (ln : Int)] = true := fun _ => rfl
    have q1 := q1 N1 (Nat.le_refl _)
    refine W_cut (fun st => st.s.length = 24 ∧ rho st.s (.tmp 1) = .int .i64 who ∧ rho st.s (.tmp 2) = .int .u32 (ln : Int) ∧ rho st.s (.tmp 3) = .int .i64 a ∧ rho st.s (.tmp 4) = .ptr 0 0 ∧ rho st.s (.tmp 8) = .ptr 1 0 ∧ st.g 0 = some [memT m, cachT m] ∧ st.g 1 = some [.imm true 0 [], .imm true 0 []] ∧ st.nx = 3) (W_region (fun k => by simp (decide := true) (disch := first | omega | simp (decide := true) only [List.length_set, hl]) only [sims, autos, simprocAttr, hps, h0, hleaf]; rfl) ⟨rfl, ?_⟩) ?_
    · refine ⟨?_, ?_, ?_, ?_, ?_, ?_, ?_, ?_, rfl⟩ <;> simp (decide := true) (disch := first | omega | simp (decide := true) only [List.length_set, hl]) only [sims, autos, simprocAttr, hps, hl, h1, h2, h3]
    clear hl h0 h1 h2 h3
    rintro ⟨ss, gg, nx⟩ ⟨hl, h1, h2, h3, h4, h8, g0, g1, hnx⟩
    simp only at hl h1 h2 h3 h4 h8 g0 g1 hnx
    subst hnx
    refine W_cut (fun st => st.s.length = 24 ∧ rho st.s (.tmp 1) = .int .i64 who ∧ rho st.s (.tmp 4) = .ptr 0 0 ∧ rho st.s (.tmp 8) = .ptr 1 0 ∧ rho st.s (.tmp 10) = .ptr 8 0 ∧ st.g 0 = some [memT m, cachT m] ∧ st.g 1 = some [.imm true 0 [], .imm true 0 []] ∧ st.g 8 = some [.int .i64 (askK m who ln a), .int .u32 (ln : Int)]) (W_regionN ⟨N1, by simp (decide := true) (disch := first | omega | simp (decide := true) only [List.length_set, hl]) only [sims, autos, simprocAttr, hps, h1, h2, h3, h4, g0, hcut, qWANT, rWANT, sWANT, q1, hlr]; rfl⟩ ⟨rfl, ?_⟩) ?_
    · refine ⟨?_, ?_, ?_, ?_, ?_, ?_, ?_, ?_⟩ <;> simp (decide := true) (disch := first | omega | simp (decide := true) only [List.length_set, hl]) only [sims, autos, simprocAttr, hps, hl, h1, h4, h8, g0, g1]
    clear hl h1 h2 h3 h4 h8 g0 g1
    rintro st ⟨hl, h1, h4, h8, h10, g0, g1, g8⟩
    unfold askM
    by_cases hk : askK m who ln a = 0
    · have hd : (askK m who ln a == 0) = true := by rw [hk]; rfl
      rw [if_pos hk]
      refine W_seq (W_seqn (W_region (fun k => by simp (decide := true) (disch := first | omega | simp (decide := true) only [List.length_set, hl]) only [sims, autos, simprocAttr, hps, h10, g8, hd]; rfl) ⟨rfl, W_tru ?_⟩))
      refine W_seqn (W_region (fun k => by simp (decide := true) (disch := first | omega | simp (decide := true) only [List.length_set, hl]) only [sims, autos, simprocAttr, hps, h4, h8, g0, g1, hcut, hleaf]; rfl) ⟨rfl, W_ret (.inr ⟨by simp, rfl, _, ⟨_, rfl, UpT.refl _⟩, fin_cb (p := 1) rfl ?_ ?_ ?_⟩)⟩)
      · simp (decide := true) (disch := first | omega | simp (decide := true) only [List.length_set, hl]) only [sims, autos, simprocAttr, h8]
      · simp (decide := true) (disch := first | omega | simp (decide := true) only [List.length_set, hl]) only [sims, autos, simprocAttr, hps]
        try rfl
      · simp (decide := true) (disch := first | omega | simp (decide := true) only [List.length_set, hl]) only [sims, autos, simprocAttr]
    · have hd : (askK m who ln a == 0) = false := by simpa using hk
      rw [if_neg hk]
      obtain ⟨v, hE2, hv⟩ := bus_do m hok who (askK m who ln a) ln hln
      obtain ⟨f1, f2, ys, rfl, hys, hup⟩ := coh_parts hv
      obtain ⟨N2, q2⟩ := hE2.call qDO (fun g => rfl)
      have q2 := q2 N2 (Nat.le_refl _)
      have hl2 : allLeaf [T.imm f1 (doM m who (askK m who ln a) ln).mem.length ((doM m who (askK m who ln a) ln).mem.flatMap u8T), T.imm f2 (doM m who (askK m who ln a) ln).caches.length ys] = true := rfl
      refine W_seqn (W_seqn (W_region (fun k => by simp (decide := true) (disch := first | omega | simp (decide := true) only [List.length_set, hl]) only [sims, autos, simprocAttr, hps, h10, g8, hd]; rfl) ⟨rfl, W_fls (W_skip ⟨rfl, ?_⟩)⟩))
      refine W_seqn (W_regionN ⟨N2, by simp (decide := true) (disch := first | omega | simp (decide := true) only [List.length_set, hl]) only [sims, autos, simprocAttr, hps, h1, h4, h8, h10, g0, g1, g8, hcut, hcr, hl2, qDO, rDO, sDO, q2]; rfl⟩ ⟨rfl, W_ret ⟨rfl, _, ⟨_, rfl, hv⟩, fin_cb (p := 1) rfl ?_ ?_ ?_⟩⟩)
      · simp (decide := true) (disch := first | omega | simp (decide := true) only [List.length_set, hl]) only [sims, autos, simprocAttr, h8]
      · simp (decide := true) (disch := first | omega | simp (decide := true) only [List.length_set, hl]) only [sims, autos, simprocAttr, hps]
      · simp (decide := true) (disch := first | omega | simp (decide := true) only [List.length_set, hl]) only [sims, autos, simprocAttr])
  exact ⟨u, hE, hu⟩
end Go.Proofs.Ytikeeegkndnnfaa.Abs
