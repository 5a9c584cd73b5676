/- May a set be? The program's question, whole; the given ages. -/
import Derived.Test.YtikeeegkndnnfaaFine
namespace Go.Proofs.Ytikeeegkndnnfaa.Abs
open Go Go.RowKit Fn
set_option linter.unusedVariables false
set_option linter.unusedSimpArgs false
set_option linter.unnecessarySimpa false
set_option maxRecDepth 100000
set_option maxHeartbeats 4000000

theorem bfalse {P : Prop} (h : ¬ P) : (false = true ↔ P) := ⟨fun e => (by cases e), fun e => absurd e h⟩
theorem btrue {P : Prop} (h : P) : (true = true ↔ P) := ⟨fun _ => h, fun _ => rfl⟩
theorem fin_bool {F : AFun} {t : Nat} {b : Bool} {P : Bool → Prop} (hF : F.res = [.tmp t]) (hP : P b) {s : List T} {g : Mem} {nx : Nat} (h : rho s (.tmp t) = .bool b) : ∃ v, (∃ b, v = .bool b ∧ P b) ∧ ∃ u ids, resT s g F.res = some u ∧ frz ⟨g, nx⟩ frzDepth u = some (v, ids) :=
  ⟨.bool b, ⟨b, rfl, hP⟩, .bool b, [], by rw [hF]; simp only [resT, resL, resOne, h], rfl⟩
theorem bus_fine (c : Cache) (hc : c.wf) (s : Nat) (hs : s < c.sets.length) (hlm : (row c s).length ≤ 1000) : ∃ v, E ap 48 [.agg [setsT c], .int .i64 (s : Int)] v ∧ ∃ b, v = .bool b ∧ (b = true ↔ FineP c s (row c s)) := by
  refine E_bodyV (F := f48) rfl rfl rfl (P := fun v => ∃ b, v = .bool b ∧ (b = true ↔ FineP c s (row c s))) ?_
  generalize hs0 : (_ : List T) ++ List.replicate _ T.undef = s0
  have e0 : s0.length = 99 ∧ rho s0 (.tmp 0) = .agg [setsT c] ∧ rho s0 (.tmp 1) = .int .i64 (s : Int) := by subst hs0; exact ⟨rfl, rfl, rfl⟩
  clear hs0
  obtain ⟨hl, h0, h1⟩ := e0
  have hleaf : allLeaf [setsT c] = true := rfl
  have hsc : setsT c = .imm false c.sets.length (c.sets.flatMap (fun l => [rowT l])) := rfl
  have hrl := rows_len c
  have hrg := rows_get c s hs
  rw [show rowT (row c s) = .imm false (row c s).length ((row c s).flatMap Way.enc) from rfl] at hrg
  have hb : s * 1 + 1 ≤ c.sets.length := by omega
  have hdef : FineP c s (row c s) = (1 ≤ (row c s).length ∧ (row c s).length ≤ 4 ∧ ∀ k, k < (row c s).length → FineK c s (row c s) k) := rfl
  have hloop := fine_loop c hc s hs false (row c s) rfl hlm
  have hsz := seen_zero (row c s)
  generalize hL : row c s = l at *
  generalize c.sets.flatMap (fun l => [rowT l]) = rows at *
  refine W_seqn (W_region (fun k => by simp (decide := true) (disch := first | omega | simp (decide := true) only [List.length_set, hl]) only [sims, autos, simprocAttr, hps, h0, hleaf]; rfl) ⟨rfl, ?_⟩)
  refine W_seqn (W_region (fun k => by simp (decide := true) (disch := first | omega | simp (decide := true) only [List.length_set, hl]) only [sims, autos, simprocAttr, hps, h1, hsc, hrl, hs, hb, hrg]; rfl) ⟨rfl, ?_⟩)
  by_cases ha : (l.length : Int) < 1
  · have d1 : decide ((l.length : Int) < 1) = true := decide_eq_true ha
    refine W_seq (W_seqn (W_region (fun k => by simp (decide := true) (disch := first | omega | simp (decide := true) only [List.length_set, hl]) only [sims, autos, simprocAttr, hps, d1]; rfl) ⟨rfl, W_true (by simp (decide := true) (disch := first | omega | simp (decide := true) only [List.length_set, hl]) only [sims, autos, simprocAttr] <;> rfl) ?_⟩))
    refine W_seqn (W_region (fun k => by simp (decide := true) (disch := first | omega | simp (decide := true) only [List.length_set, hl]) only [sims, autos, simprocAttr]; rfl) ⟨rfl, W_ret ?_⟩)
    simp only [reduceCtorEq, false_and, false_or, or_false, exists_false, exists_const, ne_eq, not_false_eq_true, true_and, implies_true]
    refine ⟨rfl, fin_bool (F := f48) (b := false) (P := fun b => b = true ↔ FineP c s l) rfl (bfalse (fun h => by rw [hdef] at h; omega)) ?_⟩
    simp (decide := true) (disch := first | omega | simp (decide := true) only [List.length_set, hl]) only [sims, autos, simprocAttr]
  have d1 : decide ((l.length : Int) < 1) = false := decide_eq_false ha
  by_cases ha2 : (l.length : Int) > 4
  · have d2 : decide ((l.length : Int) > 4) = true := decide_eq_true ha2
    refine W_seq (W_seqn (W_region (fun k => by simp (decide := true) (disch := first | omega | simp (decide := true) only [List.length_set, hl]) only [sims, autos, simprocAttr, hps, d1, d2]; rfl) ⟨rfl, W_true (by simp (decide := true) (disch := first | omega | simp (decide := true) only [List.length_set, hl]) only [sims, autos, simprocAttr] <;> rfl) ?_⟩))
    refine W_seqn (W_region (fun k => by simp (decide := true) (disch := first | omega | simp (decide := true) only [List.length_set, hl]) only [sims, autos, simprocAttr]; rfl) ⟨rfl, W_ret ?_⟩)
    simp only [reduceCtorEq, false_and, false_or, or_false, exists_false, exists_const, ne_eq, not_false_eq_true, true_and, implies_true]
    refine ⟨rfl, fin_bool (F := f48) (b := false) (P := fun b => b = true ↔ FineP c s l) rfl (bfalse (fun h => by rw [hdef] at h; omega)) ?_⟩
    simp (decide := true) (disch := first | omega | simp (decide := true) only [List.length_set, hl]) only [sims, autos, simprocAttr]
  have d2 : decide ((l.length : Int) > 4) = false := decide_eq_false ha2
  have hr1 : l.length * 1 ≤ 549755813888 := by omega
  have hr2 : l.length ≤ 549755813888 := by omega
  have hnn : l.length ≤ l.length := Nat.le_refl _
  have hbl : allLeaf [T.bool false] = true := rfl
  refine W_seqn (W_seqn (W_region (fun k => by simp (decide := true) (disch := first | omega | simp (decide := true) only [List.length_set, hl]) only [sims, autos, simprocAttr, hps, d1, d2]; rfl) ⟨rfl, W_false (by simp (decide := true) (disch := first | omega | simp (decide := true) only [List.length_set, hl]) only [sims, autos, simprocAttr] <;> rfl) (W_skip ⟨rfl, ?_⟩)⟩))
  refine W_seqn (W_region (fun k => by simp (decide := true) (disch := first | omega | simp (decide := true) only [List.length_set, hl]) only [sims, autos, simprocAttr, hps, hr1, hr2, hnn, hbl, hsz]; rfl) ⟨rfl, ?_⟩)
  refine W_seq (W_seqn (W_region (fun k => by simp (decide := true) (disch := first | omega | simp (decide := true) only [List.length_set, hl]) only [sims, autos, simprocAttr, hps]; rfl) ⟨rfl, W_block ?_⟩))
  refine hloop _ (fun st h4 hno => ?_) (fun st hst hall => ?_) (l.length - 0) _ ⟨0, ⟨?_, ?_, ?_, ?_, ?_, ?_, ?_, ?_, ?_⟩, ?_, ?_, by omega, rfl, fun j hj => by omega⟩
  · simp only [reduceCtorEq, false_and, false_or, or_false, exists_false, exists_const, ne_eq, not_false_eq_true, true_and, implies_true]
    exact ⟨rfl, fin_bool (F := f48) (b := false) (P := fun b => b = true ↔ FineP c s l) rfl (bfalse (fun h => hno h.2.2)) h4⟩
  · have hl := hst
    refine .inl ⟨rfl, .inl ⟨rfl, W_seqn (W_region (fun k => by simp (decide := true) (disch := first | omega | simp (decide := true) only [List.length_set, hl]) only [sims, autos, simprocAttr]; rfl) ⟨rfl, W_ret ?_⟩)⟩⟩
    refine ⟨rfl, fin_bool (F := f48) (b := true) (P := fun b => b = true ↔ FineP c s l) rfl (btrue ⟨by omega, by omega, hall⟩) ?_⟩
    simp (decide := true) (disch := first | omega | simp (decide := true) only [List.length_set, hl]) only [sims, autos, simprocAttr]
  rotate_left 8
  · show 19 ≤ 0 + 2 + 6 + 8 + 4 + 3; omega
  all_goals first | (simp (decide := true) (disch := first | omega | simp (decide := true) only [List.length_set, hl]) only [sims, autos, simprocAttr, hps, hl, h1]; done) | (simp (decide := true) (disch := first | omega | simp (decide := true) only [List.length_set, hl]) only [sims, autos, simprocAttr, hps, hl, h1, hsc]; done) | (simp (decide := true) (disch := first | omega | simp (decide := true) only [List.length_set, hl]) only [sims, autos, simprocAttr, hps, hl, h1]; rfl)
/-- How often an age is among the first k. -/
def cntA (l : List Way) (a : Int) : Nat → Nat
  | 0 => 0
  | k + 1 => cntA l a k + if (wayN l k).age = a then 1 else 0
def AgesP (l : List Way) : Prop := ∀ a : Nat, a < l.length → cntA l (a : Int) l.length = 1
end Go.Proofs.Ytikeeegkndnnfaa.Abs
