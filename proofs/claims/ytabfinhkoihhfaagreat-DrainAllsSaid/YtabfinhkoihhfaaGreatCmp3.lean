/- The parts of a core held against one another. -/
import Derived.Test.YtabfinhkoihhfaaGreatCmp2
namespace Go.Proofs.YtabfinhkoihhfaaGreat.Abs
open Go Go.RowKit Fn
set_option linter.unusedVariables false
set_option linter.unusedSimpArgs false
set_option linter.unnecessarySimpa false
set_option maxRecDepth 100000
set_option maxHeartbeats 4000000

theorem aC19 : ap 19 = some f19 := rfl
theorem pC19 : f19.pure = true := rfl
theorem nC19 : f19.nat = none := rfl
theorem aC20 : ap 20 = some f20 := rfl
theorem pC20 : f20.pure = true := rfl
theorem nC20 : f20.nat = none := rfl
theorem aC46 : ap 46 = some f46 := rfl
theorem pC46 : f46.pure = true := rfl
theorem nC46 : f46.nat = none := rfl
theorem aC47 : ap 47 = some f47 := rfl
theorem pC47 : f47.pure = true := rfl
theorem nC47 : f47.nat = none := rfl
theorem aC48 : ap 48 = some f48 := rfl
theorem pC48 : f48.pure = true := rfl
theorem nC48 : f48.nat = none := rfl
theorem aC61 : ap 61 = some f61 := rfl
theorem pC61 : f61.pure = true := rfl
theorem nC61 : f61.nat = none := rfl
theorem same_free (p : Free) (h : p.wf) : E ap 47 [.agg p.enc, .agg p.enc] (.bool true) := by
  obtain ⟨⟨h1, _⟩, _⟩ := h
  obtain ⟨N, q⟩ := (cmp_i64s h1 false false).call aC61 (fun g => rfl)
  have q := q N (Nat.le_refl _)
  refine E_body (F := f47) rfl rfl rfl ?_
  rw [show p.enc = [.imm false p.ring.length (p.ring.flatMap (fun n => [T.int .i64 n])), .int .i64 p.head, .int .i64 p.n] from rfl]
  generalize p.ring.flatMap (fun n => [T.int .i64 n]) = c1 at *
  generalize hs0 : (_ : List T) ++ List.replicate _ T.undef = s0
  have e0 : s0.length = 24 ∧ rho s0 (.tmp 0) = .agg [.imm false p.ring.length c1, .int .i64 p.head, .int .i64 p.n] ∧ rho s0 (.tmp 1) = .agg [.imm false p.ring.length c1, .int .i64 p.head, .int .i64 p.n] := by subst hs0; exact ⟨rfl, rfl, rfl⟩
  clear hs0
  obtain ⟨hl, h0, h1⟩ := e0
  have hleaf : allLeaf [.imm false p.ring.length c1, .int .i64 p.head, .int .i64 p.n] = true := rfl
  have e1 : (p.head == p.head) = true := by simp
  have e2 : (p.n == p.n) = true := by simp
  refine W_cutC (fun t => t.s.length = 24 ∧ rho t.s (.tmp 2) = .ptr 0 0 ∧ rho t.s (.tmp 3) = .ptr 1 0 ∧ t.g 0 = some [.imm false p.ring.length c1, .int .i64 p.head, .int .i64 p.n] ∧ t.g 1 = some [.imm false p.ring.length c1, .int .i64 p.head, .int .i64 p.n]) (W_region (fun k => by simp +decide (disch := first | omega | simp +decide [hl]) only [s9, simprocAttr, h0, h1, hleaf]; rfl) ⟨rfl, ?_⟩) ?_
  · refine ⟨?_, ?_, ?_, ?_, ?_⟩ <;> simp +decide (disch := first | omega | simp +decide [hl]) only [s9, simprocAttr, hl]
  rintro st ⟨hl, h2, h3, g0, g1⟩
  refine W_seqn (W_regionN ⟨N, by simp +decide (disch := first | omega | simp +decide [hl]) only [s9, simprocAttr, h2, h3, g0, g1, e1, e2, aC61, pC61, nC61, q]; rfl⟩ ⟨rfl, W_ret ?_⟩)
  refine fin_of (F := f47) rfl (fun _ => rfl) ?_
  simp +decide (disch := first | omega | simp +decide [hl]) only [s9, simprocAttr]
theorem same_phys (p : Phys) (h : p.wf) : E ap 25 [.agg p.enc, .agg p.enc] (.bool true) := by
  obtain ⟨⟨h1, _⟩, h2, _⟩ := h
  obtain ⟨N1, q1⟩ := (cmp_words h1 false false).call aC20 (fun g => rfl)
  obtain ⟨N2, q2⟩ := (cmp_bits h2 false false).call aC48 (fun g => rfl)
  have q1 := q1 (N1 + N2) (by omega)
  have q2 := q2 (N1 + N2) (by omega)
  refine E_body (F := f25) rfl rfl rfl ?_
  rw [show p.enc = [.imm false p.val.length (p.val.flatMap (fun n => [T.int .u32 n])), .imm false p.ready.length (p.ready.flatMap (fun b => [T.bool b]))] from rfl]
  generalize p.val.flatMap (fun n => [T.int .u32 n]) = c1 at *
  generalize p.ready.flatMap (fun b => [T.bool b]) = c2 at *
  generalize hs0 : (_ : List T) ++ List.replicate _ T.undef = s0
  have e0 : s0.length = 17 ∧ rho s0 (.tmp 0) = .agg [.imm false p.val.length c1, .imm false p.ready.length c2] ∧ rho s0 (.tmp 1) = .agg [.imm false p.val.length c1, .imm false p.ready.length c2] := by subst hs0; exact ⟨rfl, rfl, rfl⟩
  clear hs0
  obtain ⟨hl, h0, h1⟩ := e0
  have hleaf : allLeaf [.imm false p.val.length c1, .imm false p.ready.length c2] = true := rfl
  refine W_cutC (fun t => t.s.length = 17 ∧ rho t.s (.tmp 2) = .ptr 0 0 ∧ rho t.s (.tmp 3) = .ptr 1 0 ∧ t.g 0 = some [.imm false p.val.length c1, .imm false p.ready.length c2] ∧ t.g 1 = some [.imm false p.val.length c1, .imm false p.ready.length c2]) (W_region (fun k => by simp +decide (disch := first | omega | simp +decide [hl]) only [s9, simprocAttr, h0, h1, hleaf]; rfl) ⟨rfl, ?_⟩) ?_
  · refine ⟨?_, ?_, ?_, ?_, ?_⟩ <;> simp +decide (disch := first | omega | simp +decide [hl]) only [s9, simprocAttr, hl]
  rintro st ⟨hl, h2, h3, g0, g1⟩
  refine W_seqn (W_regionN ⟨N1 + N2, by simp +decide (disch := first | omega | simp +decide [hl]) only [s9, simprocAttr, h2, h3, g0, g1, aC20, pC20, nC20, aC48, pC48, nC48, q1, q2]; rfl⟩ ⟨rfl, W_ret ?_⟩)
  refine fin_of (F := f25) rfl (fun _ => rfl) ?_
  simp +decide (disch := first | omega | simp +decide [hl]) only [s9, simprocAttr]
theorem same_pred (p : Pred) (h : p.wf) : E ap 21 [.agg p.enc, .agg p.enc] (.bool true) := by
  obtain ⟨_, ⟨h1, _⟩, h2, _, ⟨h3, _⟩, _⟩ := h
  obtain ⟨N1, q1⟩ := (cmp_bytes h1 false false).call aC19 (fun g => rfl)
  obtain ⟨N2, q2⟩ := (cmp_btbs h2 false false).call aC46 (fun g => rfl)
  obtain ⟨N3, q3⟩ := (cmp_words h3 false false).call aC20 (fun g => rfl)
  have q1 := q1 (N1 + N2 + N3) (by omega)
  have q2 := q2 (N1 + N2 + N3) (by omega)
  have q3 := q3 (N1 + N2 + N3) (by omega)
  refine E_body (F := f21) rfl rfl rfl ?_
  generalize hx : p.enc = xs
  have hxs : xs = [.int .u32 p.hist, .imm false p.table.length (p.table.flatMap (fun n => [T.int .u8 n])), .imm false p.btb.length (p.btb.flatMap Btb.enc), .int .i64 p.next, .imm false p.ras.length (p.ras.flatMap (fun n => [T.int .u32 n])), .int .i64 p.top] := hx.symm
  have hleaf : allLeaf xs = true := by rw [hxs]; rfl
  have hxl : xs.length = 6 := by rw [hxs]; rfl
  have x0 : xs[0]? = some (.int .u32 p.hist) := by rw [hxs]; rfl
  have x1 : xs[1]? = some (.imm false p.table.length (p.table.flatMap (fun n => [T.int .u8 n]))) := by rw [hxs]; rfl
  have x2 : xs[2]? = some (.imm false p.btb.length (p.btb.flatMap Btb.enc)) := by rw [hxs]; rfl
  have x3 : xs[3]? = some (.int .i64 p.next) := by rw [hxs]; rfl
  have x4 : xs[4]? = some (.imm false p.ras.length (p.ras.flatMap (fun n => [T.int .u32 n]))) := by rw [hxs]; rfl
  have x5 : xs[5]? = some (.int .i64 p.top) := by rw [hxs]; rfl
  clear hxs hx
  generalize p.table.flatMap (fun n => [T.int .u8 n]) = c1 at *
  generalize p.btb.flatMap Btb.enc = c2 at *
  generalize p.ras.flatMap (fun n => [T.int .u32 n]) = c3 at *
  generalize hs0 : (_ : List T) ++ List.replicate _ T.undef = s0
  have e0 : s0.length = 45 ∧ rho s0 (.tmp 0) = .agg xs ∧ rho s0 (.tmp 1) = .agg xs := by subst hs0; exact ⟨rfl, rfl, rfl⟩
  clear hs0
  obtain ⟨hl, h0, h1⟩ := e0
  have e1 : (p.hist == p.hist) = true := by simp
  have e2 : (p.next == p.next) = true := by simp
  have e3 : (p.top == p.top) = true := by simp
  refine W_cutC (fun t => t.s.length = 45 ∧ rho t.s (.tmp 2) = .ptr 0 0 ∧ rho t.s (.tmp 3) = .ptr 1 0 ∧ t.g 0 = some xs ∧ t.g 1 = some xs) (W_region (fun k => by simp +decide (disch := first | omega | simp +decide [hl]) only [s9, simprocAttr, h0, h1, hleaf]; rfl) ⟨rfl, ?_⟩) ?_
  · refine ⟨?_, ?_, ?_, ?_, ?_⟩ <;> simp +decide (disch := first | omega | simp +decide [hl]) only [s9, simprocAttr, hl]
  rintro st ⟨hl, h2, h3, g0, g1⟩
  refine W_seqn (W_regionN ⟨N1 + N2 + N3, by simp +decide (disch := first | omega | simp +decide [hl]) only [s9, simprocAttr, h2, h3, g0, g1, hxl, x0, x1, x2, x3, x4, x5, e1, e2, e3, aC19, pC19, nC19, aC46, pC46, nC46, aC20, pC20, nC20, q1, q2, q3]; rfl⟩ ⟨rfl, W_ret ?_⟩)
  refine fin_of (F := f21) rfl (fun _ => rfl) ?_
  simp +decide (disch := first | omega | simp +decide [hl]) only [s9, simprocAttr]
end Go.Proofs.YtabfinhkoihhfaaGreat.Abs
