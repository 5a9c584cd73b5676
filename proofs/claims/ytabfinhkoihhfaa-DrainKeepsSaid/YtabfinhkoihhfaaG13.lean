/- Words of other seats' texts, as they are used here: Acc1 Acc2 Acc3 Acc4. -/
import Derived.Test.YtabfinhkoihhfaaG12
namespace Go.Proofs.Ytabfinhkoihhfaa.Abs
open Go Go.RowKit Fn
set_option linter.unusedVariables false
set_option linter.unusedSimpArgs false
set_option linter.unnecessarySimpa false
set_option maxRecDepth 100000
set_option maxHeartbeats 4000000

def MayP (m : Coh) (who : Int) (addr : Nat) (size : Int) : Prop := has m who ∧ (size = 1 ∨ size = 2 ∨ size = 4) ∧ ((addr % 16 : Nat) : Int) + size ≤ 16 ∧ (addr : Int) + size ≤ (m.mem.length : Int)
instance (m : Coh) (who : Int) (addr : Nat) (size : Int) : Decidable (MayP m who addr size) := by unfold MayP; infer_instance
theorem bus_check (m : Coh) (hml : m.mem.length ≤ 4096) (addr : Nat) (ha : addr ≤ 4294967295) (size : Int) (hs : size = 1 ∨ size = 2 ∨ size = 4) : E ap 49 [memT m, .int .u32 (addr : Int), .int .i64 size] (.int .i64 (if (addr : Int) + size ≤ (m.mem.length : Int) then 0 else 9)) := by
  refine E_body (F := f49) rfl rfl rfl ?_
  generalize hs0 : (_ : List T) ++ List.replicate _ T.undef = s0
  have e0 : s0.length = 28 ∧ rho s0 (.tmp 0) = memT m ∧ rho s0 (.tmp 1) = .int .u32 (addr : Int) ∧ rho s0 (.tmp 2) = .int .i64 size := by subst hs0; exact ⟨rfl, rfl, rfl, rfl⟩
  clear hs0
  obtain ⟨hl, h0, h1, h2⟩ := e0
  have hmm : memT m = .imm false m.mem.length (m.mem.flatMap u8T) := rfl
  have w1 : IntKind.u64.wrap (addr : Int) = (addr : Int) := by rw [wrap_u64]; omega
  have w2 : IntKind.u64.wrap size = size := by rw [wrap_u64]; omega
  have w3 : IntKind.u64.wrap ((addr : Int) + size) = (addr : Int) + size := by rw [wrap_u64]; omega
  have w4 : IntKind.u64.wrap (m.mem.length : Int) = (m.mem.length : Int) := by rw [wrap_u64]; omega
  refine W_seqn (W_region (fun k => by simp +decide (disch := first | omega | simp +decide only [List.length_set, hl]) only [sa, simprocAttr, hps]; rfl) ⟨rfl, ?_⟩)
  by_cases hin : (addr : Int) + size ≤ (m.mem.length : Int)
  · have hd : decide ((addr : Int) + size > (m.mem.length : Int)) = false := decide_eq_false (by omega)
    rw [if_pos hin]
    refine W_seqn (W_cut (fun s => s.s.length = 28 ∧ rho s.s (.tmp 27) = .bool false) ?_ (fun s hs => W_false hs.2 (W_skip ⟨rfl, ?_⟩)))
    · rcases hs with rfl | rfl | rfl <;> (refine W_region (fun k => by simp +decide (disch := first | omega | simp +decide only [List.length_set, hl]) only [sa, simprocAttr, hps, h0, h1, h2, hmm, w1, w2, w3, w4, hd]; rfl) ⟨rfl, ?_, ?_⟩ <;> simp +decide (disch := first | omega | simp +decide only [List.length_set, hl]) only [sa, simprocAttr, hl])
    · have hl := hs.1
      refine W_seqn (W_region (fun k => by simp +decide (disch := first | omega | simp +decide only [List.length_set, hl]) only [sa, simprocAttr, hps]; rfl) ⟨rfl, W_ret ?_⟩)
      refine fin_of (F := f49) rfl (fun _ => rfl) ?_
      simp +decide (disch := first | omega | simp +decide only [List.length_set, hl]) only [sa, simprocAttr]
  · have hd : decide ((addr : Int) + size > (m.mem.length : Int)) = true := decide_eq_true (by omega)
    rw [if_neg hin]
    refine W_seq (W_cut (fun s => s.s.length = 28 ∧ rho s.s (.tmp 27) = .bool true) ?_ (fun s hs => W_true hs.2 ?_))
    · rcases hs with rfl | rfl | rfl <;> (refine W_region (fun k => by simp +decide (disch := first | omega | simp +decide only [List.length_set, hl]) only [sa, simprocAttr, hps, h0, h1, h2, hmm, w1, w2, w3, w4, hd]; rfl) ⟨rfl, ?_, ?_⟩ <;> simp +decide (disch := first | omega | simp +decide only [List.length_set, hl]) only [sa, simprocAttr, hl])
    · have hl := hs.1
      refine W_seqn (W_region (fun k => by simp +decide (disch := first | omega | simp +decide only [List.length_set, hl]) only [sa, simprocAttr, hps]; rfl) ⟨rfl, W_ret ?_⟩)
      refine .inr ⟨by simp, ?_⟩
      refine fin_of (F := f49) rfl (fun _ => rfl) ?_
      simp +decide (disch := first | omega | simp +decide only [List.length_set, hl]) only [sa, simprocAttr]
theorem ref_check (m : Coh) (hml : m.mem.length ≤ 4096) (addr : Nat) (ha : addr ≤ 4294967295) (size : Int) (hs : size = 1 ∨ size = 2 ∨ size = 4) : E ap 17 [memT m, .int .u32 (addr : Int), .int .i64 size] (.int .i64 (if (addr : Int) + size ≤ (m.mem.length : Int) then 0 else 9)) := by
  refine E_body (F := f17) rfl rfl rfl ?_
  generalize hs0 : (_ : List T) ++ List.replicate _ T.undef = s0
  have e0 : s0.length = 26 ∧ rho s0 (.tmp 0) = memT m ∧ rho s0 (.tmp 1) = .int .u32 (addr : Int) ∧ rho s0 (.tmp 2) = .int .i64 size := by subst hs0; exact ⟨rfl, rfl, rfl, rfl⟩
  clear hs0
  obtain ⟨hl, h0, h1, h2⟩ := e0
  have hmm : memT m = .imm false m.mem.length (m.mem.flatMap u8T) := rfl
  have w1 : IntKind.i64.wrap (addr : Int) = (addr : Int) := wrap_id (by omega)
  have w3 : IntKind.i64.wrap ((addr : Int) + size) = (addr : Int) + size := wrap_id (by omega)
  refine W_seqn (W_region (fun k => by simp +decide (disch := first | omega | simp +decide only [List.length_set, hl]) only [sa, simprocAttr, hps]; rfl) ⟨rfl, ?_⟩)
  by_cases hin : (addr : Int) + size ≤ (m.mem.length : Int)
  · have hd : decide ((addr : Int) + size ≤ (m.mem.length : Int)) = true := decide_eq_true hin
    rw [if_pos hin]
    refine W_seq (W_cut (fun s => s.s.length = 26 ∧ rho s.s (.tmp 25) = .bool true) ?_ (fun s hs => W_true hs.2 ?_))
    · rcases hs with rfl | rfl | rfl <;> (refine W_region (fun k => by simp +decide (disch := first | omega | simp +decide only [List.length_set, hl]) only [sa, simprocAttr, hps, h0, h1, h2, hmm, w1, w3, hd]; rfl) ⟨rfl, ?_, ?_⟩ <;> simp +decide (disch := first | omega | simp +decide only [List.length_set, hl]) only [sa, simprocAttr, hl])
    · have hl := hs.1
      refine W_seqn (W_region (fun k => by simp +decide (disch := first | omega | simp +decide only [List.length_set, hl]) only [sa, simprocAttr, hps]; rfl) ⟨rfl, W_ret ?_⟩)
      refine .inr ⟨by simp, ?_⟩
      refine fin_of (F := f17) rfl (fun _ => rfl) ?_
      simp +decide (disch := first | omega | simp +decide only [List.length_set, hl]) only [sa, simprocAttr]
  · have hd : decide ((addr : Int) + size ≤ (m.mem.length : Int)) = false := decide_eq_false hin
    rw [if_neg hin]
    refine W_seqn (W_cut (fun s => s.s.length = 26 ∧ rho s.s (.tmp 25) = .bool false) ?_ (fun s hs => W_false hs.2 (W_skip ⟨rfl, ?_⟩)))
    · rcases hs with rfl | rfl | rfl <;> (refine W_region (fun k => by simp +decide (disch := first | omega | simp +decide only [List.length_set, hl]) only [sa, simprocAttr, hps, h0, h1, h2, hmm, w1, w3, hd]; rfl) ⟨rfl, ?_, ?_⟩ <;> simp +decide (disch := first | omega | simp +decide only [List.length_set, hl]) only [sa, simprocAttr, hl])
    · have hl := hs.1
      refine W_seqn (W_region (fun k => by simp +decide (disch := first | omega | simp +decide only [List.length_set, hl]) only [sa, simprocAttr, hps]; rfl) ⟨rfl, W_ret ?_⟩)
      refine fin_of (F := f17) rfl (fun _ => rfl) ?_
      simp +decide (disch := first | omega | simp +decide only [List.length_set, hl]) only [sa, simprocAttr]
theorem qCHK : ap 49 = some f49 := rfl
theorem rCHK : f49.pure = true := rfl
theorem sCHK : f49.nat = none := rfl
theorem bus_reached (m : Coh) (hm : m.wf) (hml : m.mem.length ≤ 4096) (who : Int) (addr : Nat) (ha : addr ≤ 4294967295) (size : Int) : E ap 42 [.agg [memT m, cachT m], .int .i64 who, .int .u32 (addr : Int), .int .i64 size] (.bool (decide (MayP m who addr size))) := by
  refine E_body (F := f42) rfl rfl rfl ?_
  generalize hs0 : (_ : List T) ++ List.replicate _ T.undef = s0
  have e0 : s0.length = 44 ∧ rho s0 (.tmp 0) = .agg [memT m, cachT m] ∧ rho s0 (.tmp 1) = .int .i64 who ∧ rho s0 (.tmp 2) = .int .u32 (addr : Int) ∧ rho s0 (.tmp 3) = .int .i64 size := by subst hs0; exact ⟨rfl, rfl, rfl, rfl, rfl⟩
  clear hs0
  obtain ⟨hl, h0, h1, h2, h3⟩ := e0
  have hleaf : allLeaf [memT m, cachT m] = true := rfl
  have hcc : cachT m = .imm false m.caches.length (m.caches.flatMap Cache.enc) := rfl
  refine W_cut (fun st => st.s.length = 44 ∧ rho st.s (.tmp 1) = .int .i64 who ∧ rho st.s (.tmp 2) = .int .u32 (addr : Int) ∧ rho st.s (.tmp 3) = .int .i64 size ∧ rho st.s (.tmp 4) = .ptr 0 0 ∧ st.g 0 = some [memT m, cachT m]) (W_region (fun k => by simp +decide (disch := first | omega | simp +decide only [List.length_set, hl]) only [sa, simprocAttr, hps, h0, hleaf]; rfl) ⟨rfl, ?_⟩) ?_
  · refine ⟨?_, ?_, ?_, ?_, ?_, ?_⟩ <;> simp +decide (disch := first | omega | simp +decide only [List.length_set, hl]) only [sa, simprocAttr, hps, hl, h1, h2, h3]
  clear hl h0 h1 h2 h3
  rintro st ⟨hl, h1, h2, h3, h4, g0⟩
  have bad : ∀ z : St, z.s.length = 44 → ¬ MayP m who addr size → W ap (.seq (.region [⟨some 8, .mv (.con (.bool false)), none⟩] []) .ret) z (fun e s => (e = .normal ∧ False) ∨ (e ≠ .normal ∧ (e.leaves = true ∧ ∃ u ids, resT s.s s.g f42.res = some u ∧ frz ⟨s.g, s.nx⟩ frzDepth u = some (.bool (decide (MayP m who addr size)), ids)))) := by
    intro z hl hn
    rw [decide_eq_false hn]
    refine W_seqn (W_region (fun k => by simp +decide (disch := first | omega | simp +decide only [List.length_set, hl]) only [sa, simprocAttr, hps]; rfl) ⟨rfl, W_ret (.inr ⟨by simp, ?_⟩)⟩)
    refine fin_of (F := f42) rfl (fun _ => rfl) ?_
    simp +decide (disch := first | omega | simp +decide only [List.length_set, hl]) only [sa, simprocAttr]
  by_cases c1 : who < 0
  · have d1 : decide (who < 0) = true := decide_eq_true c1
    refine W_seq (W_seqn (W_region (fun k => by simp +decide (disch := first | omega | simp +decide only [List.length_set, hl]) only [sa, simprocAttr, hps, h1, d1]; rfl) ⟨rfl, W_tru ((bad _ ?_ (fun h => by have := h.1.1; omega)).mono (fun e s h => h.elim (fun h => h.2.elim) .inr))⟩))
    simp +decide (disch := first | omega | simp +decide only [List.length_set, hl]) only [sa, simprocAttr, hl]
  have d1 : decide (who < 0) = false := decide_eq_false c1
  by_cases c2 : who ≥ (m.caches.length : Int)
  · have d2 : decide (who ≥ (m.caches.length : Int)) = true := decide_eq_true c2
    refine W_seq (W_seqn (W_region (fun k => by simp +decide (disch := first | omega | simp +decide only [List.length_set, hl]) only [sa, simprocAttr, hps, h1, h4, g0, hcc, d1, d2]; rfl) ⟨rfl, W_tru ((bad _ ?_ (fun h => by have := h.1.2; omega)).mono (fun e s h => h.elim (fun h => h.2.elim) .inr))⟩))
    simp +decide (disch := first | omega | simp +decide only [List.length_set, hl]) only [sa, simprocAttr, hl]
  have d2 : decide (who ≥ (m.caches.length : Int)) = false := decide_eq_false c2
  by_cases c3 : size = 1 ∨ size = 2 ∨ size = 4
  · refine W_seqn (W_cut (fun s => s.s.length = 44 ∧ rho s.s (.tmp 29) = .bool false ∧ rho s.s (.tmp 2) = .int .u32 (addr : Int) ∧ rho s.s (.tmp 3) = .int .i64 size ∧ rho s.s (.tmp 4) = .ptr 0 0 ∧ s.g 0 = some [memT m, cachT m]) ?_ (fun s hs => W_false hs.2.1 (W_skip ⟨rfl, ?_⟩)))
    · rw [hcc] at g0
      rcases c3 with rfl | rfl | rfl <;> (refine W_region (fun k => by simp +decide (disch := first | omega | simp +decide only [List.length_set, hl]) only [sa, simprocAttr, hps, h1, h3, h4, g0, d1, d2]; rfl) ⟨rfl, ?_, ?_, ?_, ?_, ?_, ?_⟩ <;> simp +decide (disch := first | omega | simp +decide only [List.length_set, hl]) only [sa, simprocAttr, hps, hl, h2, h3, h4, g0, hcc])
    obtain ⟨hl, _, h2, h3, h4, g0⟩ := hs
    obtain ⟨N, q⟩ := (bus_check m hml addr ha size c3).call qCHK (fun g => rfl)
    have q := q N (Nat.le_refl _)
    have w0 : (addr : Int).tmod 16 = ((addr % 16 : Nat) : Int) := by rw [Int.tmod_eq_emod_of_nonneg (by omega)]; omega
    have w1 : IntKind.i64.wrap ((addr % 16 : Nat) : Int) = ((addr % 16 : Nat) : Int) := wrap_id (by omega)
    have w2 : IntKind.i64.wrap (((addr % 16 : Nat) : Int) + size) = ((addr % 16 : Nat) : Int) + size := wrap_id (by omega)
    by_cases c4 : ((addr % 16 : Nat) : Int) + size ≤ 16
    · have d4 : decide (((addr % 16 : Nat) : Int) + size ≤ 16) = true := decide_eq_true c4
      have hres : ((if (addr : Int) + size ≤ (m.mem.length : Int) then (0 : Int) else 9) == 0) = decide (MayP m who addr size) := by
        by_cases c5 : (addr : Int) + size ≤ (m.mem.length : Int)
        · rw [if_pos c5, decide_eq_true (show MayP m who addr size from ⟨⟨by omega, by omega⟩, c3, c4, c5⟩)]; rfl
        · rw [if_neg c5, decide_eq_false (fun h : MayP m who addr size => c5 h.2.2.2)]; rfl
      refine W_seqn (W_regionN ⟨N, by simp +decide (disch := first | omega | simp +decide only [List.length_set, hl]) only [sa, simprocAttr, hps, h2, h3, h4, g0, w0, w1, w2, d4, qCHK, rCHK, sCHK, q, hres]; rfl⟩ ⟨rfl, W_ret ?_⟩)
      refine fin_of (F := f42) rfl (fun _ => rfl) ?_
      simp +decide (disch := first | omega | simp +decide only [List.length_set, hl]) only [sa, simprocAttr]
    · have d4 : decide (((addr % 16 : Nat) : Int) + size ≤ 16) = false := decide_eq_false c4
      rw [decide_eq_false (fun h : MayP m who addr size => c4 h.2.2.1)]
      refine W_seqn (W_region (fun k => by simp +decide (disch := first | omega | simp +decide only [List.length_set, hl]) only [sa, simprocAttr, hps, h2, h3, w0, w1, w2, d4]; rfl) ⟨rfl, W_ret ?_⟩)
      refine fin_of (F := f42) rfl (fun _ => rfl) ?_
      simp +decide (disch := first | omega | simp +decide only [List.length_set, hl]) only [sa, simprocAttr]
  · have k1 : (size != 1) = true := by simp; omega
    have k2 : (size != 2) = true := by simp; omega
    have k3 : (size != 4) = true := by simp; omega
    rw [hcc] at g0
    refine W_seq (W_seqn (W_region (fun k => by simp +decide (disch := first | omega | simp +decide only [List.length_set, hl]) only [sa, simprocAttr, hps, h1, h3, h4, g0, d1, d2, k1, k2, k3]; rfl) ⟨rfl, W_tru ((bad _ ?_ (fun h => c3 h.2.1)).mono (fun e s h => h.elim (fun h => h.2.elim) .inr))⟩))
    simp +decide (disch := first | omega | simp +decide only [List.length_set, hl]) only [sa, simprocAttr, hl]
theorem coh_parts {m : Coh} {v : T} (h : UpT (.agg m.enc) v) : ∃ f1 f2 ys, v = .agg [.imm f1 m.mem.length (m.mem.flatMap u8T), .imm f2 m.caches.length ys] ∧ UpL (m.caches.flatMap Cache.enc) ys ∧ UpL [memT m, cachT m] [.imm f1 m.mem.length (m.mem.flatMap u8T), .imm f2 m.caches.length ys] := by
  obtain ⟨l, rfl, h2⟩ := h.agg
  rw [coh_enc] at h2
  have h3 := h2
  simp only [UpL] at h2
  obtain ⟨a, _, rfl, ha, b, _, rfl, hb, rfl⟩ := h2
  obtain ⟨f1, c1, rfl, _, hc1⟩ := UpT.imm (f := false) (n := m.mem.length) (c := m.mem.flatMap u8T) ha
  obtain ⟨f2, c2, rfl, _, hc2⟩ := UpT.imm (f := false) (n := m.caches.length) (c := m.caches.flatMap Cache.enc) hb
  obtain rfl := upL_ints hc1 (u8_ints _)
  exact ⟨f1, f2, c2, rfl, hc2, h3⟩
theorem fin_cb {F : AFun} {t1 t2 p : Nat} {f1 f2 b : Bool} {n1 n2 : Nat} {c1 c2 : List T} (hF : F.res = [.cell t1 false 2, .tmp t2]) {s : List T} {g : Mem} {nx : Nat} (h1 : rho s (.tmp t1) = .ptr p 0) (g1 : g p = some [.imm f1 n1 c1, .imm f2 n2 c2]) (h2 : rho s (.tmp t2) = .bool b) : ∃ u ids, resT s g F.res = some u ∧ frz ⟨g, nx⟩ frzDepth u = some (.tup [.agg [.imm f1 n1 c1, .imm f2 n2 c2], .bool b], ids) := by
  have hcut : cut [T.imm f1 n1 c1, T.imm f2 n2 c2] 0 2 = [T.imm f1 n1 c1, T.imm f2 n2 c2] := rfl
  have hl : s.length = s.length := rfl
  refine ⟨.tup [.agg [.imm f1 n1 c1, .imm f2 n2 c2], .bool b], [], ?_, rfl⟩
  rw [hF]
  simp only [resT, resL, resOne]
  simp +decide (disch := first | omega | simp +decide only [List.length_set, hl]) only [sa, simprocAttr, hps, h1, g1, h2, hcut]
def askK (m : Coh) (who : Int) (ln : Nat) (a : Int) : Int := askv (stateOf m who ln) a
def askM (m : Coh) (who : Int) (ln : Nat) (a : Int) : Coh × Bool := if askK m who ln a = 0 then (m, true) else (doM m who (askK m who ln a) ln, false)
def touchM (m : Coh) (w ln : Nat) : Coh := match find (cacheAt m w) ln with
  | some k => withC m w (touchR (cacheAt m w).sets (seti (cacheAt m w) ln : Int) (k : Int))
  | none => m
theorem ok_ask {m : Coh} (h : Ok m) (who : Int) (ln : Nat) (hln : ln ≤ 4294967295) (a : Int) : Ok (askM m who ln a).1 := by
  unfold askM
  split
  · exact h
  · exact ok_do h who _ ln hln
theorem doGot_len (m : Coh) (who kind : Int) (ln : Nat) : (doGot m who kind ln).caches.length = m.caches.length := by
  unfold doGot
  split
  · exact withC_len _ _ _
  · rw [backM_caches]; exact withC_len _ _ _
theorem doM_len (m : Coh) (who kind : Int) (ln : Nat) : (doM m who kind ln).caches.length = m.caches.length := by
  unfold doM
  split
  · rw [doGot_len, (snoopN_len who kind ln m m.caches.length).1]
  · rfl
theorem ask_len (m : Coh) (who : Int) (ln : Nat) (a : Int) : (askM m who ln a).1.caches.length = m.caches.length := by
  unfold askM
  split
  · rfl
  · exact doM_len _ _ _ _
theorem touchM_len (m : Coh) (w ln : Nat) : (touchM m w ln).caches.length = m.caches.length := by
  unfold touchM
  split
  · exact withC_len _ _ _
  · rfl
theorem ok_touch {m : Coh} (h : Ok m) (w ln : Nat) (hw : w < m.caches.length) : Ok (touchM m w ln) := by
  unfold touchM
  split
  · exact ok_with h hw (fit_touch (h.2.2.2 w hw) _ _)
  · exact h
theorem qWANT : ap 50 = some f50 := rfl
theorem rWANT : f50.pure = true := rfl
theorem sWANT : f50.nat = none := rfl
theorem qDO : ap 51 = some f51 := rfl
theorem rDO : f51.pure = true := rfl
theorem sDO : f51.nat = none := rfl
theorem qFIND : ap 56 = some f56 := rfl
theorem rFIND : f56.pure = true := rfl
theorem sFIND : f56.nat = none := rfl
theorem qTOUCH : ap 57 = some f57 := rfl
theorem rTOUCH : f57.pure = true := rfl
theorem sTOUCH : f57.nat = none := rfl
theorem bus_got2 (m : Coh) (hok : Ok m) (who : Int) (hw : has m who) (ln : Nat) (hln : ln ≤ 4294967295) (a : Int) : ∃ u, E ap 43 [.agg [memT m, cachT m], .int .i64 who, .int .u32 (ln : Int), .int .i64 a] (.tup [u, .bool (askM m who ln a).2]) ∧ UpT (.agg (askM m who ln a).1.enc) u := by
  obtain ⟨v, hE, u, rfl, hu⟩ := E_bodyV (F := f43) (f := 43) (AP := ap) rfl rfl rfl (args := [.agg [memT m, cachT m], .int .i64 who, .int .u32 (ln : Int), .int .i64 a]) (P := fun v => ∃ u, v = .tup [u, .bool (askM m who ln a).2] ∧ UpT (.agg (askM m who ln a).1.enc) u) (by
    generalize hs0 : (_ : List T) ++ List.replicate _ T.undef = s0
    have e0 : s0.length = 24 ∧ rho s0 (.tmp 0) = .agg [memT m, cachT m] ∧ rho s0 (.tmp 1) = .int .i64 who ∧ rho s0 (.tmp 2) = .int .u32 (ln : Int) ∧ rho s0 (.tmp 3) = .int .i64 a := by subst hs0; exact ⟨rfl, rfl, rfl, rfl, rfl⟩
    clear hs0
    obtain ⟨hl, h0, h1, h2, h3⟩ := e0
    have hleaf : allLeaf [memT m, cachT m] = true := rfl
    have hcut : cut [memT m, cachT m] 0 2 = [memT m, cachT m] := rfl
    obtain ⟨N1, q1⟩ := (bus_want m hok.1 who ln a hln).call qWANT (fun g => rfl)
    have hwt : wantT m who ln a = .agg [.int .i64 (askK m who ln a), .int .u32 (ln : Int)] := by unfold wantT; rw [if_pos hw]; rfl
    rw [hwt] at q1
    have hcr : ∀ k : Int, cut [T.int .i64 k, T.int .u32 (ln : Int)] 0 2 = [T.int .i64 k, T.int .u32 (ln : Int)] := fun _ => rfl
    have hlr : ∀ k : Int, allLeaf [T.int .i64 k, T.int .u32 (ln : Int)] = true := fun _ => rfl
    have q1 := q1 N1 (Nat.le_refl _)
    refine W_cut (fun st => st.s.length = 24 ∧ rho st.s (.tmp 1) = .int .i64 who ∧ rho st.s (.tmp 2) = .int .u32 (ln : Int) ∧ rho st.s (.tmp 3) = .int .i64 a ∧ rho st.s (.tmp 4) = .ptr 0 0 ∧ rho st.s (.tmp 8) = .ptr 1 0 ∧ st.g 0 = some [memT m, cachT m] ∧ st.g 1 = some [.imm true 0 [], .imm true 0 []] ∧ st.nx = 3) (W_region (fun k => by simp +decide (disch := first | omega | simp +decide only [List.length_set, hl]) only [sa, simprocAttr, hps, h0, hleaf]; rfl) ⟨rfl, ?_⟩) ?_
    · refine ⟨?_, ?_, ?_, ?_, ?_, ?_, ?_, ?_, rfl⟩ <;> simp +decide (disch := first | omega | simp +decide only [List.length_set, hl]) only [sa, simprocAttr, hps, hl, h1, h2, h3]
    clear hl h0 h1 h2 h3
    rintro ⟨ss, gg, nx⟩ ⟨hl, h1, h2, h3, h4, h8, g0, g1, hnx⟩
    simp only at hl h1 h2 h3 h4 h8 g0 g1 hnx
    subst hnx
    refine W_cut (fun st => st.s.length = 24 ∧ rho st.s (.tmp 1) = .int .i64 who ∧ rho st.s (.tmp 4) = .ptr 0 0 ∧ rho st.s (.tmp 8) = .ptr 1 0 ∧ rho st.s (.tmp 10) = .ptr 8 0 ∧ st.g 0 = some [memT m, cachT m] ∧ st.g 1 = some [.imm true 0 [], .imm true 0 []] ∧ st.g 8 = some [.int .i64 (askK m who ln a), .int .u32 (ln : Int)]) (W_regionN ⟨N1, by simp +decide (disch := first | omega | simp +decide only [List.length_set, hl]) only [sa, simprocAttr, hps, h1, h2, h3, h4, g0, hcut, qWANT, rWANT, sWANT, q1, hlr]; rfl⟩ ⟨rfl, ?_⟩) ?_
    · refine ⟨?_, ?_, ?_, ?_, ?_, ?_, ?_, ?_⟩ <;> simp +decide (disch := first | omega | simp +decide only [List.length_set, hl]) only [sa, simprocAttr, hps, hl, h1, h4, h8, g0, g1]
    clear hl h1 h2 h3 h4 h8 g0 g1
    rintro st ⟨hl, h1, h4, h8, h10, g0, g1, g8⟩
    unfold askM
    by_cases hk : askK m who ln a = 0
    · have hd : (askK m who ln a == 0) = true := by rw [hk]; rfl
      rw [if_pos hk]
      refine W_seq (W_seqn (W_region (fun k => by simp +decide (disch := first | omega | simp +decide only [List.length_set, hl]) only [sa, simprocAttr, hps, h10, g8, hd]; rfl) ⟨rfl, W_tru ?_⟩))
      refine W_seqn (W_region (fun k => by simp +decide (disch := first | omega | simp +decide only [List.length_set, hl]) only [sa, simprocAttr, hps, h4, h8, g0, g1, hcut, hleaf]; rfl) ⟨rfl, W_ret (.inr ⟨by simp, rfl, _, ⟨_, rfl, UpT.refl _⟩, fin_cb (p := 1) rfl ?_ ?_ ?_⟩)⟩)
      · simp +decide (disch := first | omega | simp +decide only [List.length_set, hl]) only [sa, simprocAttr, h8]
      · simp +decide (disch := first | omega | simp +decide only [List.length_set, hl]) only [sa, simprocAttr, hps]
        try rfl
      · simp +decide (disch := first | omega | simp +decide only [List.length_set, hl]) only [sa, simprocAttr]
    · have hd : (askK m who ln a == 0) = false := by simpa using hk
      rw [if_neg hk]
      obtain ⟨v, hE2, hv⟩ := bus_do m hok who (askK m who ln a) ln hln
      obtain ⟨f1, f2, ys, rfl, hys, hup⟩ := coh_parts hv
      obtain ⟨N2, q2⟩ := hE2.call qDO (fun g => rfl)
      have q2 := q2 N2 (Nat.le_refl _)
      have hl2 : allLeaf [T.imm f1 (doM m who (askK m who ln a) ln).mem.length ((doM m who (askK m who ln a) ln).mem.flatMap u8T), T.imm f2 (doM m who (askK m who ln a) ln).caches.length ys] = true := rfl
      refine W_seqn (W_seqn (W_region (fun k => by simp +decide (disch := first | omega | simp +decide only [List.length_set, hl]) only [sa, simprocAttr, hps, h10, g8, hd]; rfl) ⟨rfl, W_fls (W_skip ⟨rfl, ?_⟩)⟩))
      refine W_seqn (W_regionN ⟨N2, by simp +decide (disch := first | omega | simp +decide only [List.length_set, hl]) only [sa, simprocAttr, hps, h1, h4, h8, h10, g0, g1, g8, hcut, hcr, hl2, qDO, rDO, sDO, q2]; rfl⟩ ⟨rfl, W_ret ⟨rfl, _, ⟨_, rfl, hv⟩, fin_cb (p := 1) rfl ?_ ?_ ?_⟩⟩)
      · simp +decide (disch := first | omega | simp +decide only [List.length_set, hl]) only [sa, simprocAttr, h8]
      · simp +decide (disch := first | omega | simp +decide only [List.length_set, hl]) only [sa, simprocAttr, hps]
      · simp +decide (disch := first | omega | simp +decide only [List.length_set, hl]) only [sa, simprocAttr])
  exact ⟨u, hE, hu⟩
theorem nCLONE : f55.nat = some (1, 24) := rfl
theorem qCLONE : ap 55 = some f55 := rfl
theorem up_immz {R : List (List Way)} {z : T} (hz : UpT (setsT ⟨R⟩) z) : ∃ f n c, z = .imm f n c := by
  obtain ⟨f', c', e, _⟩ := UpT.imm (f := false) (n := R.length) (c := R.flatMap (fun l => [rowT l])) hz
  exact ⟨_, _, _, e⟩
theorem fin_coh {F : AFun} {t p : Nat} {x y : T} {m : Coh} {P : Nat → Prop} {s : St} (hF : F.res = [.cell t false 2]) (h : rho s.s (.tmp t) = .ptr p 0) (g : s.g p = some [x, y]) (hc : CohIn P s.g x y m) : AExit.ret.leaves = true ∧ ∃ v, UpT (.agg m.enc) v ∧ ∃ u ids, resT s.s s.g F.res = some u ∧ frz ⟨s.g, s.nx⟩ frzDepth u = some (v, ids) := by
  obtain ⟨v, ids, hv, hf⟩ := coh_frz hc s.nx
  have hcut : cut [x, y] 0 2 = [x, y] := rfl
  have hl : s.s.length = s.s.length := rfl
  refine ⟨rfl, v, hv, .agg [x, y], ids, ?_, hf⟩
  simp only [resT, resL, resOne, hF]
  simp +decide (disch := first | omega | simp +decide only [List.length_set, hl]) only [sa, simprocAttr, hps, h, g, hcut]
theorem bus_with (m : Coh) (hok : Ok m) (w : Nat) (hw : w < m.caches.length) (R : List (List Way)) (z : T) (hz : UpT (setsT ⟨R⟩) z) : ∃ v, E ap 45 [.agg [memT m, cachT m], .int .i64 (w : Int), .agg [z]] v ∧ UpT (.agg (withC m w R).enc) v := by
  refine E_bodyV (F := f45) rfl rfl rfl (P := fun v => UpT (.agg (withC m w R).enc) v) ?_
  generalize hs0 : (_ : List T) ++ List.replicate _ T.undef = s0
  have e0 : s0.length = 17 ∧ rho s0 (.tmp 0) = .agg [memT m, cachT m] ∧ rho s0 (.tmp 1) = .int .i64 (w : Int) ∧ rho s0 (.tmp 2) = .agg [z] := by subst hs0; exact ⟨rfl, rfl, rfl, rfl⟩
  clear hs0
  obtain ⟨hl, h0, h1, h2⟩ := e0
  have hm4 := hok.2.2.1
  have hen := enc_set m.caches w ⟨R⟩
  have hCl := caches_len' m
  have hCf : allLeaf (m.caches.flatMap Cache.enc) = true := flat_leaf (f := Cache.enc) (fun _ => rfl) _
  have hcc : cachT m = .imm false m.caches.length (m.caches.flatMap Cache.enc) := rfl
  have hleaf : allLeaf [memT m, .imm false m.caches.length (m.caches.flatMap Cache.enc)] = true := rfl
  rw [hcc] at h0
  have hup : UpL ((m.caches.flatMap Cache.enc).set w (setsT ⟨R⟩)) ((m.caches.flatMap Cache.enc).set w z) := (UpL.refl _).set w hz
  rw [← hen] at hup
  obtain ⟨f, n, c, rfl⟩ := up_immz hz
  have hzl : allLeaf [T.imm f n c] = true := rfl
  have hcz : cut [T.imm f n c] 0 1 = [T.imm f n c] := rfl
  generalize T.imm f n c = z at *
  generalize m.caches.flatMap Cache.enc = C at *
  generalize hK : m.caches.length = K at *
  have hz0 : (K = 0) = False := eq_false (by omega)
  have hr1 : K * 24 ≤ 549755813888 := by omega
  have hr2 : K ≤ 549755813888 := by omega
  have hb1 : (K = K * 1) = True := by simp
  have hw1 : w + 1 ≤ K := by omega
  have hll : ∀ (x : T) (a b c d : Nat), x.leaf = true → allLeaf [x, .own a b c d] = true := fun x a b c d h => by
    show ([x, T.own a b c d].all T.leaf) = true
    rw [List.all_cons, List.all_cons, h]; rfl
  have hlm := hll (memT m) 5 0 K 1 rfl
  have hcut2 : cut [memT m, T.own 5 0 K 1] 0 2 = [memT m, T.own 5 0 K 1] := rfl
  refine W_cut (fun st => st.s.length = 17 ∧ rho st.s (.tmp 1) = .int .i64 (w : Int) ∧ rho st.s (.tmp 3) = .ptr 0 0 ∧ rho st.s (.tmp 5) = .ptr 1 0 ∧ rho st.s (.tmp 6) = .ptr 2 0 ∧ st.g 0 = some [memT m, .imm false K C] ∧ st.g 1 = some [z] ∧ st.g 2 = some [.imm true 0 [], .imm true 0 []] ∧ st.nx = 3) (W_region (fun k => by simp +decide (disch := first | omega | simp +decide only [List.length_set, hl]) only [sa, simprocAttr, hps, h0, h2, hleaf, hzl]; rfl) ⟨rfl, ?_⟩) ?_
  · refine ⟨?_, ?_, ?_, ?_, ?_, ?_, ?_, ?_, rfl⟩ <;> simp +decide (disch := first | omega | simp +decide only [List.length_set, hl]) only [sa, simprocAttr, hps, hl, h1]
  clear hl h0 h1 h2
  rintro ⟨ss, gg, nx⟩ ⟨hl, h1, h3, h5, h6, g0, g1, g2, hnx⟩
  simp only at hl h1 h3 h5 h6 g0 g1 g2 hnx
  subst hnx
  refine W_cut (fun st => st.s.length = 17 ∧ rho st.s (.tmp 1) = .int .i64 (w : Int) ∧ rho st.s (.tmp 3) = .ptr 0 0 ∧ rho st.s (.tmp 5) = .ptr 1 0 ∧ rho st.s (.tmp 6) = .ptr 2 0 ∧ st.g 0 = some [memT m, .own 5 0 K 1] ∧ st.g 1 = some [z] ∧ st.g 2 = some [.imm true 0 [], .imm true 0 []] ∧ st.g 5 = some C) (W_region (fun k => by simp +decide (disch := first | omega | simp +decide only [List.length_set, hl]) only [sa, simprocAttr, hps, h3, g0, qCLONE, nCLONE, cloneRes, cellsOf, hCl, hCf, hz0, hr1, hr2, hb1]; rfl) ⟨rfl, ?_⟩) ?_
  · refine ⟨?_, ?_, ?_, ?_, ?_, ?_, ?_, ?_, ?_⟩ <;> simp +decide (disch := first | omega | simp +decide only [List.length_set, hl]) only [sa, simprocAttr, hps, hl, h1, h3, h5, h6, g1, g2]
  clear hl h1 h3 h5 h6 g0 g1 g2
  rintro st ⟨hl, h1, h3, h5, h6, g0, g1, g2, g5⟩
  refine W_cut (fun st => st.s.length = 17 ∧ rho st.s (.tmp 3) = .ptr 0 0 ∧ rho st.s (.tmp 6) = .ptr 2 0 ∧ st.g 0 = some [memT m, .own 5 0 K 1] ∧ st.g 2 = some [.imm true 0 [], .imm true 0 []] ∧ st.g 5 = some (C.set w z)) (W_region (fun k => by simp +decide (disch := first | omega | simp +decide only [List.length_set, hl]) only [sa, simprocAttr, hps, h1, h3, h5, g0, g1, g5, hcz, hw, hCl, hw1, hzl, Nat.mul_one]; rfl) ⟨rfl, ?_⟩) ?_
  · refine ⟨?_, ?_, ?_, ?_, ?_, ?_⟩ <;> simp +decide (disch := first | omega | simp +decide only [List.length_set, hl]) only [sa, simprocAttr, hps, hl, h3, h6, g0, g2]
  clear hl h1 h3 h5 h6 g0 g1 g2 g5
  rintro st ⟨hl, h3, h6, g0, g2, g5⟩
  refine W_seqn (W_region (fun k => by simp +decide (disch := first | omega | simp +decide only [List.length_set, hl]) only [sa, simprocAttr, hps, h3, h6, g0, g2, hcut2, hlm]; rfl) ⟨rfl, W_ret (fin_coh (P := fun t => t = 5) (p := 2) (x := memT m) (y := .own 5 0 K 1) rfl ?_ ?_ ⟨.inl ⟨false, memT_is m⟩, C.set w z, hup, .inr ⟨5, rfl, by rw [List.length_set, hCl], ?_⟩⟩)⟩)
  · simp +decide (disch := first | omega | simp +decide only [List.length_set, hl]) only [sa, simprocAttr, h6]
  · simp +decide (disch := first | omega | simp +decide only [List.length_set, hl]) only [sa, simprocAttr, hps]
  · simp +decide (disch := first | omega | simp +decide only [List.length_set, hl]) only [sa, simprocAttr, hps, g5]
theorem qWITH : ap 45 = some f45 := rfl
theorem rWITH : f45.pure = true := rfl
theorem sWITH : f45.nat = none := rfl
theorem bus_touched (m : Coh) (hok : Ok m) (w : Nat) (hw : w < m.caches.length) (ln : Nat) (hln : ln ≤ 4294967295) : ∃ v, E ap 46 [.agg [memT m, cachT m], .int .i64 (w : Int), .int .u32 (ln : Int)] v ∧ UpT (.agg (touchM m w ln).enc) v := by
  refine E_bodyV (F := f46) rfl rfl rfl (P := fun v => UpT (.agg (touchM m w ln).enc) v) ?_
  generalize hs0 : (_ : List T) ++ List.replicate _ T.undef = s0
  have e0 : s0.length = 33 ∧ rho s0 (.tmp 0) = .agg [memT m, cachT m] ∧ rho s0 (.tmp 1) = .int .i64 (w : Int) ∧ rho s0 (.tmp 2) = .int .u32 (ln : Int) := by subst hs0; exact ⟨rfl, rfl, rfl, rfl⟩
  clear hs0
  obtain ⟨hl, h0, h1, h2⟩ := e0
  have hleaf : allLeaf [memT m, cachT m] = true := rfl
  have hcut : cut [memT m, cachT m] 0 2 = [memT m, cachT m] := rfl
  have hcc : cachT m = .imm false m.caches.length (m.caches.flatMap Cache.enc) := rfl
  have hcl := caches_len' m
  have hg := caches_get m w hw
  rw [Nat.mul_one] at hg
  have hcu := cell_at hg
  have hb1 : w + 1 ≤ (m.caches.flatMap Cache.enc).length := by omega
  have hwf := cacheAt_wf hok.1 w hw
  obtain ⟨N1, q1⟩ := (bus_find (cacheAt m w) hwf ln hln).call qFIND (fun g => rfl)
  have q1 := q1 N1 (Nat.le_refl _)
  have hzl : allLeaf [setsT (cacheAt m w)] = true := rfl
  have hcz : cut [setsT (cacheAt m w)] 0 1 = [setsT (cacheAt m w)] := rfl
  refine W_cut (fun st => st.s.length = 33 ∧ rho st.s (.tmp 1) = .int .i64 (w : Int) ∧ rho st.s (.tmp 2) = .int .u32 (ln : Int) ∧ rho st.s (.tmp 3) = .ptr 0 0 ∧ rho st.s (.tmp 6) = .ptr 1 0 ∧ st.g 0 = some [memT m, cachT m] ∧ st.g 1 = some [.imm true 0 [], .imm true 0 []] ∧ st.nx = 2) (W_region (fun k => by simp +decide (disch := first | omega | simp +decide only [List.length_set, hl]) only [sa, simprocAttr, hps, h0, hleaf]; rfl) ⟨rfl, ?_⟩) ?_
  · refine ⟨?_, ?_, ?_, ?_, ?_, ?_, ?_, rfl⟩ <;> simp +decide (disch := first | omega | simp +decide only [List.length_set, hl]) only [sa, simprocAttr, hps, hl, h1, h2]
  clear hl h0 h1 h2
  rintro ⟨ss, gg, nx⟩ ⟨hl, h1, h2, h3, h6, g0, g1, hnx⟩
  simp only at hl h1 h2 h3 h6 g0 g1 hnx
  subst hnx
  rw [hcc] at g0 hleaf hcut
  refine W_cut (fun st => st.s.length = 33 ∧ rho st.s (.tmp 1) = .int .i64 (w : Int) ∧ rho st.s (.tmp 2) = .int .u32 (ln : Int) ∧ rho st.s (.tmp 3) = .ptr 0 0 ∧ rho st.s (.tmp 6) = .ptr 1 0 ∧ rho st.s (.tmp 7) = .ptr 7 0 ∧ st.g 0 = some [memT m, .imm false m.caches.length (m.caches.flatMap Cache.enc)] ∧ st.g 1 = some [.imm true 0 [], .imm true 0 []] ∧ st.g 7 = some [setsT (cacheAt m w)]) (W_region (fun k => by simp +decide (disch := first | omega | simp +decide only [List.length_set, hl]) only [sa, simprocAttr, hps, h1, h3, g0, hw, hb1, hcu, hzl, Nat.mul_one]; rfl) ⟨rfl, ?_⟩) ?_
  · refine ⟨?_, ?_, ?_, ?_, ?_, ?_, ?_, ?_, ?_⟩ <;> simp +decide (disch := first | omega | simp +decide only [List.length_set, hl]) only [sa, simprocAttr, hps, hl, h1, h2, h3, h6, g0, g1]
  clear hl h1 h2 h3 h6 g0 g1
  rintro st ⟨hl, h1, h2, h3, h6, h7, g0, g1, g7⟩
  cases hf : find (cacheAt m w) ln with
  | none =>
    have ht : findT (cacheAt m w) ln = .tup [.int .i64 0, .int .i64 0, .bool false] := by unfold findT; rw [hf]
    rw [ht] at q1
    have htm : touchM m w ln = m := by unfold touchM; rw [hf]
    rw [htm]
    refine W_cut (fun st => st.s.length = 33 ∧ rho st.s (.tmp 1) = .int .i64 (w : Int) ∧ rho st.s (.tmp 3) = .ptr 0 0 ∧ rho st.s (.tmp 6) = .ptr 1 0 ∧ rho st.s (.tmp 7) = .ptr 7 0 ∧ rho st.s (.tmp 8) = .int .i64 0 ∧ rho st.s (.tmp 9) = .int .i64 0 ∧ rho st.s (.tmp 10) = .bool false ∧ st.g 0 = some [memT m, .imm false m.caches.length (m.caches.flatMap Cache.enc)] ∧ st.g 1 = some [.imm true 0 [], .imm true 0 []] ∧ st.g 7 = some [setsT (cacheAt m w)]) (W_regionN ⟨N1, by simp +decide (disch := first | omega | simp +decide only [List.length_set, hl]) only [sa, simprocAttr, hps, h2, h7, g7, hcz, qFIND, rFIND, sFIND, q1]; rfl⟩ ⟨rfl, ?_⟩) ?_
    · refine ⟨?_, ?_, ?_, ?_, ?_, ?_, ?_, ?_, ?_, ?_, ?_⟩ <;> simp +decide (disch := first | omega | simp +decide only [List.length_set, hl]) only [sa, simprocAttr, hps, hl, h1, h3, h6, h7, g0, g1, g7]
    clear hl h1 h2 h3 h6 h7 g0 g1 g7
    rintro st ⟨hl, h1, h3, h6, h7, h8, h9, h10, g0, g1, g7⟩
    refine W_seq (W_seqn (W_region (fun k => by simp +decide (disch := first | omega | simp +decide only [List.length_set, hl]) only [sa, simprocAttr, hps, h10]; rfl) ⟨rfl, W_tru ?_⟩))
    refine W_seqn (W_region (fun k => by simp +decide (disch := first | omega | simp +decide only [List.length_set, hl]) only [sa, simprocAttr, hps, h3, h6, g0, g1, hcut, hleaf]; rfl) ⟨rfl, W_ret (.inr ⟨by simp, fin_coh (P := fun _ => True) (p := 1) rfl ?_ ?_ (coh_imm _ _ m)⟩)⟩)
    · simp +decide (disch := first | omega | simp +decide only [List.length_set, hl]) only [sa, simprocAttr, h6]
    · simp +decide (disch := first | omega | simp +decide only [List.length_set, hl]) only [sa, simprocAttr, hps]
      try rfl
  | some k =>
    have ht : findT (cacheAt m w) ln = .tup [.int .i64 (seti (cacheAt m w) ln : Int), .int .i64 (k : Int), .bool true] := by unfold findT; rw [hf]
    rw [ht] at q1
    have htm : touchM m w ln = withC m w (touchR (cacheAt m w).sets (seti (cacheAt m w) ln : Int) (k : Int)) := by unfold touchM; rw [hf]
    rw [htm]
    obtain ⟨v1, hE1, z', rfl, hz', hzl'⟩ : ∃ v1, E ap 57 [.agg [setsT (cacheAt m w)], .int .i64 (seti (cacheAt m w) ln : Int), .int .i64 (k : Int)] v1 ∧ ∃ z', v1 = .agg [z'] ∧ UpT (setsT ⟨touchR (cacheAt m w).sets (seti (cacheAt m w) ln : Int) (k : Int)⟩) z' ∧ allLeaf [z'] = true := (touchX (hok.2.2.2 w hw) (ex_sets (cacheAt m w)) (seti (cacheAt m w) ln : Int) (k : Int)).elim fun v h => ⟨v, h.1, cell_up (up_of h.2.of)⟩
    obtain ⟨f, n, c, rfl⟩ := up_immz hz'
    obtain ⟨v2, hE2, hv2⟩ := bus_with m hok w hw _ _ hz'
    obtain ⟨N2, q2⟩ := hE1.call qTOUCH (fun g => rfl)
    obtain ⟨N3, q3⟩ := hE2.call qWITH (fun g => rfl)
    have q2 := q2 (N2 + N3) (by omega)
    have q3 := q3 (N2 + N3) (by omega)
    rw [hcc] at q3
    obtain ⟨f1, f2, ys, rfl, hys, hup⟩ := coh_parts hv2
    have hl2 : allLeaf [T.imm f1 (withC m w (touchR (cacheAt m w).sets (seti (cacheAt m w) ln : Int) (k : Int))).mem.length ((withC m w (touchR (cacheAt m w).sets (seti (cacheAt m w) ln : Int) (k : Int))).mem.flatMap u8T), T.imm f2 (withC m w (touchR (cacheAt m w).sets (seti (cacheAt m w) ln : Int) (k : Int))).caches.length ys] = true := rfl
    have hci : ∀ (P : Nat → Prop) (g : Mem), CohIn P g (T.imm f1 (withC m w (touchR (cacheAt m w).sets (seti (cacheAt m w) ln : Int) (k : Int))).mem.length ((withC m w (touchR (cacheAt m w).sets (seti (cacheAt m w) ln : Int) (k : Int))).mem.flatMap u8T)) (T.imm f2 (withC m w (touchR (cacheAt m w).sets (seti (cacheAt m w) ln : Int) (k : Int))).caches.length ys) (withC m w (touchR (cacheAt m w).sets (seti (cacheAt m w) ln : Int) (k : Int))) := fun P g => ⟨.inl ⟨f1, by rw [u8_len]⟩, ys, hys, .inl ⟨f2, by rw [upL_len1 _ hys]⟩⟩
    refine W_cut (fun st => st.s.length = 33 ∧ rho st.s (.tmp 1) = .int .i64 (w : Int) ∧ rho st.s (.tmp 3) = .ptr 0 0 ∧ rho st.s (.tmp 6) = .ptr 1 0 ∧ rho st.s (.tmp 7) = .ptr 7 0 ∧ rho st.s (.tmp 8) = .int .i64 (seti (cacheAt m w) ln : Int) ∧ rho st.s (.tmp 9) = .int .i64 (k : Int) ∧ rho st.s (.tmp 10) = .bool true ∧ st.g 0 = some [memT m, .imm false m.caches.length (m.caches.flatMap Cache.enc)] ∧ st.g 1 = some [.imm true 0 [], .imm true 0 []] ∧ st.g 7 = some [setsT (cacheAt m w)]) (W_regionN ⟨N1, by simp +decide (disch := first | omega | simp +decide only [List.length_set, hl]) only [sa, simprocAttr, hps, h2, h7, g7, hcz, qFIND, rFIND, sFIND, q1]; rfl⟩ ⟨rfl, ?_⟩) ?_
    · refine ⟨?_, ?_, ?_, ?_, ?_, ?_, ?_, ?_, ?_, ?_, ?_⟩ <;> simp +decide (disch := first | omega | simp +decide only [List.length_set, hl]) only [sa, simprocAttr, hps, hl, h1, h3, h6, h7, g0, g1, g7]
    clear hl h1 h2 h3 h6 h7 g0 g1 g7
    rintro st ⟨hl, h1, h3, h6, h7, h8, h9, h10, g0, g1, g7⟩
    refine W_seqn (W_seqn (W_region (fun k => by simp +decide (disch := first | omega | simp +decide only [List.length_set, hl]) only [sa, simprocAttr, hps, h10]; rfl) ⟨rfl, W_fls (W_skip ⟨rfl, ?_⟩)⟩))
    refine W_seqn (W_regionN ⟨N2 + N3, by simp +decide (disch := first | omega | simp +decide only [List.length_set, hl]) only [sa, simprocAttr, hps, h1, h3, h6, h7, h8, h9, g0, g1, g7, hcut, hcz, hw, hb1, hcu, hzl, qTOUCH, rTOUCH, sTOUCH, q2, qWITH, rWITH, sWITH, q3, hl2, Nat.mul_one]; rfl⟩ ⟨rfl, W_ret (fin_coh (P := fun _ => True) (p := 1) rfl ?_ ?_ (hci _ _))⟩)
    · simp +decide (disch := first | omega | simp +decide only [List.length_set, hl]) only [sa, simprocAttr, h6]
    · simp +decide (disch := first | omega | simp +decide only [List.length_set, hl]) only [sa, simprocAttr, hps]
theorem qLOF : ap 37 = some f37 := rfl
theorem rLOF : f37.pure = true := rfl
theorem sLOF : f37.nat = none := rfl
theorem qREA : ap 42 = some f42 := rfl
theorem rREA : f42.pure = true := rfl
theorem sREA : f42.nat = none := rfl
theorem qGOT : ap 43 = some f43 := rfl
theorem rGOT : f43.pure = true := rfl
theorem sGOT : f43.nat = none := rfl
theorem qTOU : ap 46 = some f46 := rfl
theorem rTOU : f46.pure = true := rfl
theorem sTOU : f46.nat = none := rfl
end Go.Proofs.Ytabfinhkoihhfaa.Abs
