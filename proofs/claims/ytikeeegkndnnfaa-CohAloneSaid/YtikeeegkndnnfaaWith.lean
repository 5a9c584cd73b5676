/- Ways are one with themselves: what the comparison of caches needs. -/
import Derived.Test.YtikeeegkndnnfaaBvict2
namespace Go.Proofs.Ytikeeegkndnnfaa.Abs
open Go Go.RowKit Fn
set_option linter.unusedVariables false
set_option linter.unusedSimpArgs false
set_option linter.unnecessarySimpa false
set_option maxRecDepth 100000
set_option maxHeartbeats 4000000

theorem conf_u8 : ∀ (d : List Int) (ks : List (Option IntKind)) (xs : List T), (∀ y ∈ d, (Lit.int .u8 y).wf = true) → conf (List.replicate d.length (some .u8) ++ ks) (d.flatMap (fun n => [T.int .u8 n]) ++ xs) = conf ks xs
  | [], ks, xs, _ => by simp
  | y :: d, ks, xs, h => by
    have hy := wf_u8 (h y (List.mem_cons_self ..))
    have e : conf1 (some .u8) (.int .u8 y) = (true && (decide ((0 : Int) ≤ y) && decide (y ≤ 2 ^ 8 - 1))) := rfl
    rw [List.length_cons, List.replicate_succ, List.flatMap_cons, List.cons_append, List.append_assoc, List.singleton_append, conf, conf_u8 d ks xs (fun z hz => h z (List.mem_cons_of_mem _ hz)), e, decide_eq_true (by omega), decide_eq_true (by omega)]
    try rfl
theorem eqL_ints : ∀ l : List T, (∀ x ∈ l, ∃ k n, x = .int k n) → eqL l l = true
  | [], _ => rfl
  | x :: l, h => by
    obtain ⟨k, n, rfl⟩ := h x (List.mem_cons_self ..)
    have e : eq1 (.int k n) (.int k n) = true := by simp [eq1]
    rw [eqL, e, eqL_ints l (fun y hy => h y (List.mem_cons_of_mem _ hy))]; rfl
theorem eq_way (w : Way) : eqL w.enc w.enc = true := eqL_ints _ (way_ints w)
theorem conf_way (w : Way) (h : w.wf) : conf [some .i64, some .u32, some .u8, some .u8, some .u8, some .u8, some .u8, some .u8, some .u8, some .u8, some .u8, some .u8, some .u8, some .u8, some .u8, some .u8, some .u8, some .u8, some .i64] w.enc = true := by
  have h1 := wf_i64 h.1
  have h2 := wf_u32 h.2.1
  have h3 := wf_i64 h.2.2.2
  have hd := conf_u8 w.data [some .i64] [T.int .i64 w.age] h.2.2.1.2
  rw [h.2.2.1.1] at hd
  have e1 : conf1 (some .i64) (.int .i64 w.state) = (true && (decide (-(2 ^ 63) ≤ w.state) && decide (w.state ≤ 2 ^ 63 - 1))) := rfl
  have e2 : conf1 (some .u32) (.int .u32 w.tag) = (true && (decide ((0 : Int) ≤ w.tag) && decide (w.tag ≤ 2 ^ 32 - 1))) := rfl
  have e3 : conf [some .i64] [T.int .i64 w.age] = ((true && (decide (-(2 ^ 63) ≤ w.age) && decide (w.age ≤ 2 ^ 63 - 1))) && true) := rfl
  have e4 : w.enc = T.int .i64 w.state :: T.int .u32 w.tag :: (w.data.flatMap (fun n => [T.int .u8 n]) ++ [T.int .i64 w.age]) := rfl
  rw [e4, conf, conf]
  have e5 : conf [some .u8, some .u8, some .u8, some .u8, some .u8, some .u8, some .u8, some .u8, some .u8, some .u8, some .u8, some .u8, some .u8, some .u8, some .u8, some .u8, some .i64] (w.data.flatMap (fun n => [T.int .u8 n]) ++ [T.int .i64 w.age]) = conf [some .i64] [T.int .i64 w.age] := hd
  rw [e5, e1, e2, e3, decide_eq_true (by omega), decide_eq_true (by omega), decide_eq_true (by omega), decide_eq_true (by omega), decide_eq_true (by omega), decide_eq_true (by omega)]
  try rfl

set_option maxHeartbeats 4000000
/-- A tree of rows, whatever is known of their capacities. -/
def Tells (xs : List T) (R : List (List Way)) : Prop := xs.length = R.length ∧ ∀ i (h : i < R.length), ∃ f, xs[i * 1]? = some (.imm f R[i].length (R[i].flatMap Way.enc))
theorem ap76 : ap 76 = some f76 := rfl
theorem n76 : f76.nat = some (1, 24) := rfl
theorem ap77 : ap 77 = some f77 := rfl
theorem n77 : f77.nat = some (19, 40) := rfl
theorem ap55 : ap 55 = some f55 := rfl
theorem p55 : f55.pure = false := rfl
theorem n55 : f55.nat = none := rfl
theorem tells_leaf {xs : List T} {R : List (List Way)} (h : Tells xs R) : allLeaf xs = true := by
  unfold allLeaf
  rw [List.all_eq_true]
  intro x hx
  obtain ⟨i, hi, rfl⟩ := List.getElem_of_mem hx
  obtain ⟨f, hf⟩ := h.2 i (by rw [← h.1]; exact hi)
  rw [Nat.mul_one, List.getElem?_eq_getElem hi] at hf
  rw [Option.some.inj hf]; rfl
/-- What 'with' leaves: the rows in new memory A, row i in new memory B. -/
def Withed (g : Mem) (nx : Nat) (n i wl : Nat) (xs ws : List T) (A B : Nat) (g' : Mem) (nx' : Nat) : Prop :=
  g' A = some (xs.set i (.own B 0 wl 19)) ∧ g' B = some ws ∧ nx ≤ A ∧ A < B ∧ B < nx' ∧ (∀ t, t < nx → g' t = g t)
theorem with_run (fx : Bool) (n : Nat) (xs : List T) (hxl : xs.length = n) (hxf : allLeaf xs = true) (hn : n ≤ 1000) (i : Nat) (hi : i < n) (f : Bool) (wl : Nat) (ws : List T) (hxi : xs[i * 1]? = some (.imm f wl ws)) (hwl : ws.length = wl * 19) (hwf : allLeaf ws = true) (hw0 : 0 < wl) (hw1 : wl ≤ 1000) (g : Mem) (nx : Nat) :
    ∃ N g' nx', (∀ k, N ≤ k → runBody (ev ap k) f55 [.agg [.imm fx n xs], .int .i64 (i : Int)] g nx = some (.agg [.own (nx + 2 + 2) 0 n 1], g', nx')) ∧ Withed g nx n i wl xs ws (nx + 2 + 2) (nx + 2 + 6 + 8) g' nx' := by
  refine EI_body (P := Withed g nx n i wl xs ws (nx + 2 + 2) (nx + 2 + 6 + 8)) ?_
  generalize hs0 : (_ : List T) ++ List.replicate _ T.undef = s0
  have e0 : s0.length = 21 ∧ rho s0 (.tmp 0) = .agg [.imm fx n xs] ∧ rho s0 (.tmp 1) = .int .i64 (i : Int) := by subst hs0; exact ⟨rfl, rfl, rfl⟩
  clear hs0
  obtain ⟨hl, h0, h1⟩ := e0
  have hleaf : allLeaf [T.imm fx n xs] = true := rfl
  have hn0 : (n = 0) = False := by simp; omega
  have hw00 : (wl = 0) = False := by simp; omega
  have hxl1 : (n = n * 1) = True := by simp
  have hr1 : n * 24 ≤ 549755813888 := by omega
  have hr2 : n ≤ 549755813888 := by omega
  have hr3 : wl * 40 ≤ 549755813888 := by omega
  have hr4 : wl ≤ 549755813888 := by omega
  have hb : i * 1 + 1 ≤ n := by omega
  have hi1 : 0 + i * 1 = i := by omega
  have hb2 : i + 1 ≤ n := by omega
  refine W_seqn (W_region (fun k => by simp (decide := true) (disch := first | omega | simp (decide := true) only [List.length_set, hl]) only [sims, autos, simprocAttr, hps, h0, hleaf]; rfl) ⟨rfl, ?_⟩)
  refine W_seqn (W_region (fun k => by simp (decide := true) (disch := first | omega | simp (decide := true) only [List.length_set, hl]) only [sims, autos, simprocAttr, hps, h0, ap76, n76, cloneRes, cellsOf, hxl, hxl1, hxf, hn0, hr1, hr2]; rfl) ⟨rfl, ?_⟩)
  refine W_seqn (W_region (fun k => by simp (decide := true) (disch := first | omega | simp (decide := true) only [List.length_set, hl]) only [sims, autos, simprocAttr, hps, h1, ap77, n77, cloneRes, cellsOf, hxl, hwl, hwf, hw00, hr3, hr4, hi, hb, hxi, hi1, hb2]; rfl) ⟨rfl, ?_⟩)
  refine W_seqn (W_region (fun k => by simp (decide := true) (disch := first | omega | simp (decide := true) only [List.length_set, hl]) only [sims, autos, simprocAttr, hps]; rfl) ⟨rfl, ?_⟩)
  refine W_ret ⟨rfl, ?_, ?_⟩
  · simp only [resT, resL, resOne, show f55.res = [.cell 4 false 1] from rfl]
    simp (decide := true) (disch := first | omega | simp (decide := true) only [List.length_set, hl]) only [sims, autos, simprocAttr, hps]
    try rfl
  · refine ⟨?_, ?_, ?_, ?_, ?_, ?_⟩
    · simp (decide := true) (disch := first | omega | simp (decide := true) only [List.length_set, hl]) only [sims, autos, simprocAttr, hps]
    · simp (decide := true) (disch := first | omega | simp (decide := true) only [List.length_set, hl]) only [sims, autos, simprocAttr, hps]
    · omega
    · omega
    · show nx + 2 + 6 + 8 < nx + 2 + 6 + 11 + 2; omega
    · intro t ht
      simp (decide := true) (disch := first | omega | simp (decide := true) only [List.length_set, hl]) only [sims, autos, simprocAttr, hps]
end Go.Proofs.Ytikeeegkndnnfaa.Abs
