/- Words of other seats' texts, as they are used here: Rw. -/
import Derived.Test.YtabfinhkoihhfaaGreatG15
namespace Go.Proofs.YtabfinhkoihhfaaGreat.Abs
open Go Go.RowKit Fn
set_option linter.unusedVariables false
set_option linter.unusedSimpArgs false
set_option linter.unnecessarySimpa false
set_option maxRecDepth 100000
set_option maxHeartbeats 4000000

theorem ap67 : ap 67 = some f67 := rfl
theorem p67 : f67.pure = true := rfl
theorem n67 : f67.nat = none := rfl
theorem ap98 : ap 98 = some f98 := rfl
theorem p98 : f98.pure = true := rfl
theorem n98 : f98.nat = none := rfl
theorem ap40 : ap 40 = some f40 := rfl
theorem p40 : f40.pure = true := rfl
theorem n40 : f40.nat = none := rfl
def Byte (b : Int) : Prop := 0 ≤ b ∧ b ≤ 255
theorem ap65 : ap 65 = some f65 := rfl
theorem p65 : f65.pure = true := rfl
theorem n65 : f65.nat = none := rfl
theorem ap58 : ap 58 = some f58 := rfl
theorem p58 : f58.pure = true := rfl
theorem n58 : f58.nat = none := rfl
def Okay (addr : Nat) (size : Int) : Prop := (size = 1 ∨ size = 2 ∨ size = 4) ∧ ((addr % 16 : Nat) : Int) + size ≤ 16
instance (addr : Nat) (size : Int) : Decidable (Okay addr size) := by unfold Okay; infer_instance
def placeT (c : Cache) (addr : Nat) (size : Int) : T :=
  if Okay addr size then match find c (addr / 16) with
    | some k => .tup [.int .i64 (seti c (addr / 16) : Int), .int .i64 (k : Int), .int .i64 ((addr % 16 : Nat) : Int), .bool true]
    | none => .tup [.int .i64 0, .int .i64 0, .int .i64 ((addr % 16 : Nat) : Int), .bool false]
  else .tup [.int .i64 0, .int .i64 0, .int .i64 0, .bool false]
theorem fin_of4 {F : AFun} {t1 t2 t3 t4 : Nat} {a b c d : T} (hF : F.res = [.tmp t1, .tmp t2, .tmp t3, .tmp t4]) (hv : ∀ h : Hp, frz h frzDepth (.tup [a, b, c, d]) = some (.tup [a, b, c, d], [])) {s : List T} {g : Mem} {nx : Nat} (h1 : rho s (.tmp t1) = a) (h2 : rho s (.tmp t2) = b) (h3 : rho s (.tmp t3) = c) (h4 : rho s (.tmp t4) = d) : AExit.ret.leaves = true ∧ ∃ u ids, resT s g F.res = some u ∧ frz ⟨g, nx⟩ frzDepth u = some (.tup [a, b, c, d], ids) :=
  ⟨rfl, .tup [a, b, c, d], [], by rw [hF]; simp only [resT, resL, resOne, h1, h2, h3, h4], hv _⟩
theorem size_cases (size : Int) : ((size != 1) = false ∧ (size == 1) = true ∧ size = 1) ∨ ((size != 1) = true ∧ (size == 1) = false ∧ (size != 2) = false ∧ (size == 2) = true ∧ size = 2) ∨ ((size != 1) = true ∧ (size == 1) = false ∧ (size != 2) = true ∧ (size == 2) = false ∧ (size != 4) = false ∧ (size == 4) = true ∧ size = 4) ∨ ((size != 1) = true ∧ (size == 1) = false ∧ (size != 2) = true ∧ (size == 2) = false ∧ (size != 4) = true ∧ (size == 4) = false ∧ ¬ (size = 1 ∨ size = 2 ∨ size = 4)) := by
  by_cases h1 : size = 1
  · left; subst h1; exact ⟨rfl, rfl, rfl⟩
  by_cases h2 : size = 2
  · right; left; subst h2; exact ⟨rfl, rfl, rfl, rfl, rfl⟩
  by_cases h4 : size = 4
  · right; right; left; subst h4; exact ⟨rfl, rfl, rfl, rfl, rfl, rfl, rfl⟩
  · right; right; right
    refine ⟨?_, ?_, ?_, ?_, ?_, ?_, by omega⟩ <;> simp [h1, h2, h4]
theorem line_of (addr : Nat) (ha : addr ≤ 4294967295) : E ap 40 [.int .u32 (addr : Int)] (.int .u32 ((addr / 16 : Nat) : Int)) := by
  refine E_body (F := f40) rfl rfl rfl ?_
  generalize hs0 : (_ : List T) ++ List.replicate _ T.undef = s0
  have e0 : s0.length = 5 ∧ rho s0 (.tmp 0) = .int .u32 (addr : Int) := by subst hs0; exact ⟨rfl, rfl⟩
  clear hs0
  obtain ⟨hl, h0⟩ := e0
  have hd : IntKind.u32.wrap ((addr : Int).tdiv 16) = ((addr / 16 : Nat) : Int) := by rw [wrap_u32, Int.tdiv_eq_ediv_of_nonneg (by omega)]; omega
  have h16 : ((16 : Int) = 0) = False := by simp
  refine W_seqn (W_region (fun k => by simp +decide (disch := first | omega | simp +decide [hl]) only [s8, simprocAttr]; rfl) ⟨rfl, ?_⟩)
  refine W_seqn (W_region (fun k => by simp +decide (disch := first | omega | simp +decide [hl]) only [s8, simprocAttr, h0, hd, h16]; rfl) ⟨rfl, W_ret ?_⟩)
  refine fin_of (F := f40) rfl (fun _ => rfl) ?_
  simp +decide (disch := first | omega | simp +decide [hl]) only [s8, simprocAttr]
theorem ref_within (addr : Nat) (ha : addr ≤ 4294967295) (size : Int) : E ap 58 [.int .u32 (addr : Int), .int .i64 size] (.bool (decide (Okay addr size))) := by
  refine E_body (F := f58) rfl rfl rfl ?_
  generalize hs0 : (_ : List T) ++ List.replicate _ T.undef = s0
  have e0 : s0.length = 23 ∧ rho s0 (.tmp 0) = .int .u32 (addr : Int) ∧ rho s0 (.tmp 1) = .int .i64 size := by subst hs0; exact ⟨rfl, rfl, rfl⟩
  clear hs0
  obtain ⟨hl, h0, h1⟩ := e0
  have hm : (addr : Int).tmod 16 = ((addr % 16 : Nat) : Int) := by rw [Int.tmod_eq_emod_of_nonneg (by omega)]; omega
  have h16 : ((16 : Int) = 0) = False := by simp
  have hcv : IntKind.i64.wrap ((addr % 16 : Nat) : Int) = ((addr % 16 : Nat) : Int) := wrap_id (by omega)
  refine W_seqn (W_region (fun k => by simp +decide (disch := first | omega | simp +decide [hl]) only [s8, simprocAttr]; rfl) ⟨rfl, ?_⟩)
  rcases size_cases size with ⟨_, k1, hs⟩ | ⟨_, k1, _, k2, hs⟩ | ⟨_, k1, _, k2, _, k3, hs⟩ | ⟨_, k1, _, k2, _, k3, hs⟩
  · have hadd : IntKind.i64.wrap (((addr % 16 : Nat) : Int) + size) = ((addr % 16 : Nat) : Int) + size := wrap_id (by omega)
    have hd : decide (((addr % 16 : Nat) : Int) + size ≤ 16) = decide (Okay addr size) := by unfold Okay; simp [hs]
    refine W_seqn (W_region (fun k => by simp +decide (disch := first | omega | simp +decide [hl]) only [s8, simprocAttr, h0, h1, hm, h16, hcv, hadd, hd, k1]; rfl) ⟨rfl, W_ret ?_⟩)
    refine fin_of (F := f58) rfl (fun _ => rfl) ?_
    simp +decide (disch := first | omega | simp +decide [hl]) only [s8, simprocAttr]
  · have hadd : IntKind.i64.wrap (((addr % 16 : Nat) : Int) + size) = ((addr % 16 : Nat) : Int) + size := wrap_id (by omega)
    have hd : decide (((addr % 16 : Nat) : Int) + size ≤ 16) = decide (Okay addr size) := by unfold Okay; simp [hs]
    refine W_seqn (W_region (fun k => by simp +decide (disch := first | omega | simp +decide [hl]) only [s8, simprocAttr, h0, h1, hm, h16, hcv, hadd, hd, k1, k2]; rfl) ⟨rfl, W_ret ?_⟩)
    refine fin_of (F := f58) rfl (fun _ => rfl) ?_
    simp +decide (disch := first | omega | simp +decide [hl]) only [s8, simprocAttr]
  · have hadd : IntKind.i64.wrap (((addr % 16 : Nat) : Int) + size) = ((addr % 16 : Nat) : Int) + size := wrap_id (by omega)
    have hd : decide (((addr % 16 : Nat) : Int) + size ≤ 16) = decide (Okay addr size) := by unfold Okay; simp [hs]
    refine W_seqn (W_region (fun k => by simp +decide (disch := first | omega | simp +decide [hl]) only [s8, simprocAttr, h0, h1, hm, h16, hcv, hadd, hd, k1, k2, k3]; rfl) ⟨rfl, W_ret ?_⟩)
    refine fin_of (F := f58) rfl (fun _ => rfl) ?_
    simp +decide (disch := first | omega | simp +decide [hl]) only [s8, simprocAttr]
  · have hd : decide (Okay addr size) = false := decide_eq_false (fun h => hs h.1)
    rw [hd]
    refine W_seqn (W_region (fun k => by simp +decide (disch := first | omega | simp +decide [hl]) only [s8, simprocAttr, h0, h1, k1, k2, k3]; rfl) ⟨rfl, W_ret ?_⟩)
    refine fin_of (F := f58) rfl (fun _ => rfl) ?_
    simp +decide (disch := first | omega | simp +decide [hl]) only [s8, simprocAttr]
theorem bus_place (c : Cache) (hc : c.wf) (addr : Nat) (ha : addr ≤ 4294967295) (size : Int) : E ap 65 [.agg [setsT c], .int .u32 (addr : Int), .int .i64 size] (placeT c addr size) := by
  refine E_body (F := f65) rfl rfl rfl ?_
  generalize hs0 : (_ : List T) ++ List.replicate _ T.undef = s0
  have e0 : s0.length = 45 ∧ rho s0 (.tmp 0) = .agg [setsT c] ∧ rho s0 (.tmp 1) = .int .u32 (addr : Int) ∧ rho s0 (.tmp 2) = .int .i64 size := by subst hs0; exact ⟨rfl, rfl, rfl, rfl⟩
  clear hs0
  obtain ⟨hl, h0, h1, h2⟩ := e0
  have hleaf : allLeaf [setsT c] = true := rfl
  have hcut : cut [setsT c] 0 1 = [setsT c] := rfl
  have hm : (addr : Int).tmod 16 = ((addr % 16 : Nat) : Int) := by rw [Int.tmod_eq_emod_of_nonneg (by omega)]; omega
  have h16 : ((16 : Int) = 0) = False := by simp
  have hcv : IntKind.i64.wrap ((addr % 16 : Nat) : Int) = ((addr % 16 : Nat) : Int) := wrap_id (by omega)
  obtain ⟨N1, c51⟩ := (line_of addr ha).call ap40 (fun g => rfl)
  obtain ⟨N2, c15⟩ := (bus_find c hc (addr / 16) (by omega)).call ap69 (fun g => rfl)
  have q51 := c51 (N1 + N2) (by omega)
  have q15 := c15 (N1 + N2) (by omega)
  refine W_seqn (W_region (fun k => by simp +decide (disch := first | omega | simp +decide [hl]) only [s9, simprocAttr, h0, hleaf]; rfl) ⟨rfl, ?_⟩)
  refine W_seqn (W_region (fun k => by simp +decide (disch := first | omega | simp +decide [hl]) only [s9, simprocAttr, h1, hm, h16, hcv]; rfl) ⟨rfl, ?_⟩)
  generalize hat : addr % 16 = a at *
  have ha16 : a < 16 := by omega
  have tail : ∀ st' : St, Okay addr size → (st'.s.length = 45 ∧ rho st'.s (.tmp 1) = .int .u32 (addr : Int) ∧ rho st'.s (.tmp 3) = .ptr 0 0 ∧ rho st'.s (.tmp 10) = .int .i64 (a : Int) ∧ st'.g 0 = some [setsT c]) → W ap (.seq (.region [⟨some 34, .load false 1 (.tmp 3), none⟩, ⟨some 35, .mv (.tmp 1), none⟩, ⟨some 36, .call 40 [(.tmp 35)], none⟩, ⟨some 37, .call 69 [(.tmp 34), (.tmp 36)], none⟩, ⟨some 33, .mv (.tmp 37), none⟩, ⟨some 38, .extract (.tmp 33) 0, none⟩, ⟨some 39, .extract (.tmp 33) 1, none⟩, ⟨some 40, .extract (.tmp 33) 2, none⟩, ⟨some 11, .mv (.tmp 38), none⟩, ⟨some 12, .mv (.tmp 39), none⟩, ⟨some 13, .mv (.tmp 40), none⟩] [(0, 2)]) (.seq (.region [⟨some 41, .mv (.tmp 11), none⟩, ⟨some 42, .mv (.tmp 12), none⟩, ⟨some 43, .mv (.tmp 10), none⟩, ⟨some 44, .mv (.tmp 13), none⟩, ⟨some 6, .mv (.tmp 41), none⟩, ⟨some 7, .mv (.tmp 42), none⟩, ⟨some 8, .mv (.tmp 43), none⟩, ⟨some 9, .mv (.tmp 44), none⟩] []) .ret)) st' (fun e s => e.leaves = true ∧ ∃ u ids, resT s.s s.g f65.res = some u ∧ frz ⟨s.g, s.nx⟩ frzDepth u = some (placeT c addr size, ids)) := by
    rintro ⟨s, g, nx⟩ hok ⟨hl, h1, h3, h10, g0⟩
    simp only at hl h1 h3 h10 g0
    unfold placeT
    rw [if_pos hok, hat]
    cases hf : find c (addr / 16) with
    | some k =>
      rw [findT_is c _ k hf] at q15
      refine W_seqn (W_regionN ⟨N1 + N2, by simp +decide (disch := first | omega | simp +decide [hl]) only [s9, simprocAttr, h1, h3, g0, hcut, ap40, p40, n40, q51, ap69, p69, n69, q15]; rfl⟩ ⟨rfl, ?_⟩)
      refine W_seqn (W_region (fun k => by simp +decide (disch := first | omega | simp +decide [hl]) only [s9, simprocAttr, h10]; rfl) ⟨rfl, W_ret ?_⟩)
      refine fin_of4 (F := f65) rfl (fun _ => rfl) ?_ ?_ ?_ ?_ <;> simp +decide (disch := first | omega | simp +decide [hl]) only [s8, simprocAttr]
    | none =>
      rw [findT_no c _ hf] at q15
      refine W_seqn (W_regionN ⟨N1 + N2, by simp +decide (disch := first | omega | simp +decide [hl]) only [s9, simprocAttr, h1, h3, g0, hcut, ap40, p40, n40, q51, ap69, p69, n69, q15]; rfl⟩ ⟨rfl, ?_⟩)
      refine W_seqn (W_region (fun k => by simp +decide (disch := first | omega | simp +decide [hl]) only [s9, simprocAttr, h10]; rfl) ⟨rfl, W_ret ?_⟩)
      refine fin_of4 (F := f65) rfl (fun _ => rfl) ?_ ?_ ?_ ?_ <;> simp +decide (disch := first | omega | simp +decide [hl]) only [s8, simprocAttr]
  rcases size_cases size with ⟨k1, _, hs⟩ | ⟨k1, _, k2, _, hs⟩ | ⟨k1, _, k2, _, k3, _, hs⟩ | ⟨k1, _, k2, _, k3, _, hs⟩
  · have hadd : IntKind.i64.wrap ((a : Int) + size) = (a : Int) + size := wrap_id (by omega)
    by_cases hgt : (a : Int) + size > 16
    · have hd : decide ((a : Int) + size > 16) = true := decide_eq_true hgt
      have hno : ¬ Okay addr size := fun h => by have := h.2; rw [hat] at this; omega
      unfold placeT
      rw [if_neg hno]
      refine W_seq (W_seqn (W_region (fun k => by simp +decide (disch := first | omega | simp +decide [hl]) only [s9, simprocAttr, h2, hadd, hd, k1]; rfl) ⟨rfl, W_tru ?_⟩))
      refine W_seqn (W_region (fun k => by simp +decide (disch := first | omega | simp +decide [hl]) only [s9, simprocAttr]; rfl) ⟨rfl, W_ret ?_⟩)
      simp only [reduceCtorEq, false_and, false_or, or_false, exists_false, exists_const, ne_eq, not_false_eq_true, true_and, implies_true]
      refine fin_of4 (F := f65) rfl (fun _ => rfl) ?_ ?_ ?_ ?_ <;> simp +decide (disch := first | omega | simp +decide [hl]) only [s8, simprocAttr]
    · have hd : decide ((a : Int) + size > 16) = false := decide_eq_false hgt
      refine W_seqn (W_seqn (W_region (fun k => by simp +decide (disch := first | omega | simp +decide [hl]) only [s9, simprocAttr, h2, hadd, hd, k1]; rfl) ⟨rfl, W_fls (W_skip ⟨rfl, ?_⟩)⟩))
      refine tail _ ⟨by omega, by rw [hat]; omega⟩ ⟨?_, ?_, ?_, ?_, ?_⟩
      all_goals simp +decide (disch := first | omega | simp +decide [hl]) only [s9, simprocAttr, hl, h1]
  · have hadd : IntKind.i64.wrap ((a : Int) + size) = (a : Int) + size := wrap_id (by omega)
    by_cases hgt : (a : Int) + size > 16
    · have hd : decide ((a : Int) + size > 16) = true := decide_eq_true hgt
      have hno : ¬ Okay addr size := fun h => by have := h.2; rw [hat] at this; omega
      unfold placeT
      rw [if_neg hno]
      refine W_seq (W_seqn (W_region (fun k => by simp +decide (disch := first | omega | simp +decide [hl]) only [s9, simprocAttr, h2, hadd, hd, k1, k2]; rfl) ⟨rfl, W_tru ?_⟩))
      refine W_seqn (W_region (fun k => by simp +decide (disch := first | omega | simp +decide [hl]) only [s9, simprocAttr]; rfl) ⟨rfl, W_ret ?_⟩)
      simp only [reduceCtorEq, false_and, false_or, or_false, exists_false, exists_const, ne_eq, not_false_eq_true, true_and, implies_true]
      refine fin_of4 (F := f65) rfl (fun _ => rfl) ?_ ?_ ?_ ?_ <;> simp +decide (disch := first | omega | simp +decide [hl]) only [s8, simprocAttr]
    · have hd : decide ((a : Int) + size > 16) = false := decide_eq_false hgt
      refine W_seqn (W_seqn (W_region (fun k => by simp +decide (disch := first | omega | simp +decide [hl]) only [s9, simprocAttr, h2, hadd, hd, k1, k2]; rfl) ⟨rfl, W_fls (W_skip ⟨rfl, ?_⟩)⟩))
      refine tail _ ⟨by omega, by rw [hat]; omega⟩ ⟨?_, ?_, ?_, ?_, ?_⟩
      all_goals simp +decide (disch := first | omega | simp +decide [hl]) only [s9, simprocAttr, hl, h1]
  · have hadd : IntKind.i64.wrap ((a : Int) + size) = (a : Int) + size := wrap_id (by omega)
    by_cases hgt : (a : Int) + size > 16
    · have hd : decide ((a : Int) + size > 16) = true := decide_eq_true hgt
      have hno : ¬ Okay addr size := fun h => by have := h.2; rw [hat] at this; omega
      unfold placeT
      rw [if_neg hno]
      refine W_seq (W_seqn (W_region (fun k => by simp +decide (disch := first | omega | simp +decide [hl]) only [s9, simprocAttr, h2, hadd, hd, k1, k2, k3]; rfl) ⟨rfl, W_tru ?_⟩))
      refine W_seqn (W_region (fun k => by simp +decide (disch := first | omega | simp +decide [hl]) only [s9, simprocAttr]; rfl) ⟨rfl, W_ret ?_⟩)
      simp only [reduceCtorEq, false_and, false_or, or_false, exists_false, exists_const, ne_eq, not_false_eq_true, true_and, implies_true]
      refine fin_of4 (F := f65) rfl (fun _ => rfl) ?_ ?_ ?_ ?_ <;> simp +decide (disch := first | omega | simp +decide [hl]) only [s8, simprocAttr]
    · have hd : decide ((a : Int) + size > 16) = false := decide_eq_false hgt
      refine W_seqn (W_seqn (W_region (fun k => by simp +decide (disch := first | omega | simp +decide [hl]) only [s9, simprocAttr, h2, hadd, hd, k1, k2, k3]; rfl) ⟨rfl, W_fls (W_skip ⟨rfl, ?_⟩)⟩))
      refine tail _ ⟨by omega, by rw [hat]; omega⟩ ⟨?_, ?_, ?_, ?_, ?_⟩
      all_goals simp +decide (disch := first | omega | simp +decide [hl]) only [s9, simprocAttr, hl, h1]
  · have hno : ¬ Okay addr size := fun h => hs h.1
    unfold placeT
    rw [if_neg hno]
    refine W_seq (W_seqn (W_region (fun k => by simp +decide (disch := first | omega | simp +decide [hl]) only [s9, simprocAttr, h2, k1, k2, k3]; rfl) ⟨rfl, W_tru ?_⟩))
    refine W_seqn (W_region (fun k => by simp +decide (disch := first | omega | simp +decide [hl]) only [s9, simprocAttr]; rfl) ⟨rfl, W_ret ?_⟩)
    simp only [reduceCtorEq, false_and, false_or, or_false, exists_false, exists_const, ne_eq, not_false_eq_true, true_and, implies_true]
    refine fin_of4 (F := f65) rfl (fun _ => rfl) ?_ ?_ ?_ ?_ <;> simp +decide (disch := first | omega | simp +decide [hl]) only [s8, simprocAttr]
theorem dataT_map (l : List Int) : dataT l = l.map (fun n => T.int .u8 n) := by
  unfold dataT
  induction l with
  | nil => rfl
  | cons x l ih => rw [List.flatMap_cons, ih]; rfl
def readK (c : Cache) (addr : Nat) (size : Int) : Option Nat := if Okay addr size then find c (addr / 16) else none
theorem place_some {c : Cache} {addr : Nat} {size : Int} {k : Nat} (h : readK c addr size = some k) : Okay addr size ∧ find c (addr / 16) = some k ∧ placeT c addr size = .tup [.int .i64 (seti c (addr / 16) : Int), .int .i64 (k : Int), .int .i64 ((addr % 16 : Nat) : Int), .bool true] := by
  unfold readK at h
  by_cases ho : Okay addr size
  · rw [if_pos ho] at h
    exact ⟨ho, h, by unfold placeT; rw [if_pos ho, h]⟩
  · rw [if_neg ho] at h; cases h
theorem place_none {c : Cache} {addr : Nat} {size : Int} (h : readK c addr size = none) : ∃ x, placeT c addr size = .tup [.int .i64 0, .int .i64 0, .int .i64 x, .bool false] := by
  unfold readK at h
  by_cases ho : Okay addr size
  · rw [if_pos ho] at h
    exact ⟨_, by unfold placeT; rw [if_pos ho, h]⟩
  · exact ⟨_, by unfold placeT; rw [if_neg ho]⟩
theorem okay_nat {addr : Nat} {size : Int} (h : Okay addr size) : ∃ n : Nat, size = (n : Int) ∧ size.toNat = n ∧ 1 ≤ n ∧ n ≤ 4 ∧ addr % 16 + n ≤ 16 := ⟨size.toNat, by have := h.1; omega, rfl, by have := h.1; omega, by have := h.1; omega, by have := h.1; have := h.2; omega⟩
def bytesOf : Int → Nat → List Int
  | _, 0 => []
  | v, n + 1 => v % 256 :: bytesOf (v / 256) n
theorem bytesOf_len : ∀ (n : Nat) (v : Int), (bytesOf v n).length = n
  | 0, _ => rfl
  | n + 1, v => by rw [bytesOf, List.length_cons, bytesOf_len n]
theorem bytesOf_get : ∀ (n : Nat) (v : Int) (i : Nat) (h : i < n), (bytesOf v n)[i]? = some (v / 256 ^ i % 256)
  | 0, _, _, h => by omega
  | n + 1, v, 0, _ => by rw [bytesOf, List.getElem?_cons_zero, Int.pow_zero, Int.ediv_one]
  | n + 1, v, i + 1, h => by
    rw [bytesOf, List.getElem?_cons_succ, bytesOf_get n _ i (by omega), Int.ediv_ediv_of_nonneg (by decide), Int.pow_succ, Int.mul_comm]
theorem bytesOf_byte (n : Nat) (v : Int) : ∀ b ∈ bytesOf v n, Byte b := by
  intro b hb
  obtain ⟨i, hi, rfl⟩ := List.getElem_of_mem hb
  have := bytesOf_get n v i (by rw [bytesOf_len] at hi; exact hi)
  rw [List.getElem?_eq_getElem hi] at this
  rw [Option.some.inj this]
  exact ⟨by omega, by omega⟩
def updD (data : List Int) (a : Nat) (bs : List Int) : List Int := data.take a ++ (bs ++ data.drop (a + bs.length))
theorem updD_len (data : List Int) (a : Nat) (bs : List Int) (h : a + bs.length ≤ data.length) : (updD data a bs).length = data.length := by
  unfold updD; rw [List.length_append, List.length_append, List.length_take, List.length_drop]; omega
theorem updD_nil (data : List Int) (a : Nat) : updD data a [] = data := by unfold updD; simp
theorem updD_succ (data : List Int) (a : Nat) (bs : List Int) (h : a + bs.length ≤ data.length) (j : Nat) (hj : j < bs.length) : updD data a (bs.take (j + 1)) = (updD data a (bs.take j)).set (a + j) bs[j] := by
  have e1 : (bs.take j).length = j := by rw [List.length_take]; omega
  have e2 : (bs.take (j + 1)).length = j + 1 := by rw [List.length_take]; omega
  have e3 : (data.take a).length = a := by rw [List.length_take]; omega
  have e4 : bs.take (j + 1) = bs.take j ++ [bs[j]] := by rw [List.take_add_one, List.getElem?_eq_getElem hj]; rfl
  unfold updD
  rw [e1, e2, List.set_append_right _ _ (by omega), e3, Nat.add_sub_cancel_left, List.set_append_right _ _ (by omega), e1, Nat.sub_self, List.drop_eq_getElem_cons (show a + j < data.length by omega), List.set_cons_zero, e4, Nat.add_assoc]
  simp only [List.append_assoc, List.cons_append, List.nil_append]
def updW (old : Way) (a : Nat) (bs : List Int) : Way := { old with data := updD old.data a bs }
theorem byte_wf {b : Int} (h : Byte b) : (Lit.int .u8 b).wf = true := by
  have e : (Lit.int .u8 b).wf = (decide ((0 : Int) ≤ b) && decide (b ≤ 2 ^ 8 - 1)) := rfl
  rw [e, decide_eq_true h.1, decide_eq_true (by have := h.2; omega)]; rfl
theorem updW_wf {old : Way} (ho : old.wf) (a : Nat) (bs : List Int) (hb : ∀ b ∈ bs, Byte b) (h : a + bs.length ≤ 16) : (updW old a bs).wf := by
  refine ⟨ho.1, ho.2.1, ⟨?_, fun y hy => ?_⟩, ho.2.2.2⟩
  · show (updD old.data a bs).length = 16
    rw [updD_len _ _ _ (by rw [ho.2.2.1.1]; exact h), ho.2.2.1.1]
  · have hy : y ∈ updD old.data a bs := hy
    unfold updD at hy
    rw [List.mem_append, List.mem_append] at hy
    rcases hy with h' | h' | h'
    · exact ho.2.2.1.2 _ (List.mem_of_mem_take h')
    · exact byte_wf (hb _ h')
    · exact ho.2.2.1.2 _ (List.mem_of_mem_drop h')
theorem dataT_append (l r : List Int) : dataT (l ++ r) = dataT l ++ dataT r := by unfold dataT; rw [List.flatMap_append]
theorem set_upd (l : List Way) (hw : ∀ w ∈ l, w.wf) (k : Nat) (h : k < l.length) (a : Nat) (bs : List Int) (hb : ∀ b ∈ bs, Byte b) (hab : a + bs.length ≤ 16) : (l.set k (updW (wayN l k) a bs)).flatMap Way.enc = splice (l.flatMap Way.enc) (k * 19 + 2 + a * 1) (dataT bs) := by
  have hwk := wayN_wf hw h
  have hd := hwk.2.2.1.1
  have hu := updW_wf hwk a bs hb hab
  rw [Nat.mul_one, Nat.add_assoc]
  refine set_way l hw k h _ hu (2 + a) (dataT bs) (T.int .i64 (wayN l k).state :: T.int .u32 (wayN l k).tag :: dataT ((wayN l k).data.take a)) (dataT ((wayN l k).data.drop (a + bs.length)) ++ [T.int .i64 (wayN l k).age]) (dataT (((wayN l k).data.drop a).take bs.length)) ?_ ?_ ?_ ?_
  · rw [List.length_cons, List.length_cons, data_len, List.length_take]; omega
  · rw [data_len, data_len, List.length_take, List.length_drop]; omega
  · rw [enc_data]
    have e : (wayN l k).data = (wayN l k).data.take a ++ (((wayN l k).data.drop a).take bs.length ++ (wayN l k).data.drop (a + bs.length)) := by
      rw [← List.drop_drop, List.take_append_drop, List.take_append_drop]
    conv => lhs; rw [e, dataT_append, dataT_append]
    simp only [List.cons_append, List.append_assoc]
  · rw [enc_data]
    show T.int .i64 (wayN l k).state :: T.int .u32 (wayN l k).tag :: (dataT (updD (wayN l k).data a bs) ++ [T.int .i64 (wayN l k).age]) = _
    unfold updD
    rw [dataT_append, dataT_append]
    simp only [List.cons_append, List.append_assoc]
theorem dataT_set (l : List Int) (i : Nat) (b : Int) : dataT (l.set i b) = (dataT l).set i (.int .u8 b) := by rw [dataT_map, dataT_map, List.map_set]
theorem set_byte (l : List Way) (hw : ∀ w ∈ l, w.wf) (k : Nat) (h : k < l.length) (a : Nat) (bs : List Int) (hb : ∀ b ∈ bs, Byte b) (hab : a + bs.length ≤ 16) (j : Nat) (hj : j < bs.length) : (l.set k (updW (wayN l k) a (bs.take (j + 1)))).flatMap Way.enc = ((l.set k (updW (wayN l k) a (bs.take j))).flatMap Way.enc).set (k * 19 + 2 + (a + j) * 1) (.int .u8 bs[j]) := by
  have hwk := wayN_wf hw h
  have hd := hwk.2.2.1.1
  have hu1 := updW_wf hwk a (bs.take j) (fun b h => hb b (List.mem_of_mem_take h)) (by rw [List.length_take]; omega)
  have e := set_enc (l.set k (updW (wayN l k) a (bs.take j))) (mem_setw hw k hu1) k (by rw [List.length_set]; exact h) (updW (wayN l k) a (bs.take (j + 1))) (2 + (a + j)) (.int .u8 bs[j]) (by omega) ?_
  · rw [List.set_set] at e
    rw [e, Nat.mul_one, Nat.add_assoc]
  · rw [wayN_set l k h, enc_data, enc_data]
    show T.int .i64 (wayN l k).state :: T.int .u32 (wayN l k).tag :: (dataT (updD (wayN l k).data a (bs.take (j + 1))) ++ [T.int .i64 (wayN l k).age]) = (T.int .i64 (wayN l k).state :: T.int .u32 (wayN l k).tag :: (dataT (updD (wayN l k).data a (bs.take j)) ++ [T.int .i64 (wayN l k).age])).set (2 + (a + j)) (.int .u8 bs[j])
    rw [updD_succ _ _ _ (by omega) j hj, dataT_set, show 2 + (a + j) = a + j + 1 + 1 by omega, List.set_cons_succ, List.set_cons_succ, List.set_append_left _ _ (by rw [data_len, updD_len _ _ _ (by rw [List.length_take]; omega), hd]; omega)]
theorem clamp4 (n : Nat) (h : n ≤ 4) : E ap 98 [.int .i64 (n : Int), .int .i64 0, .int .i64 4] (.int .i64 (n : Int)) := by
  refine E_body (F := f98) rfl rfl rfl ?_
  generalize hs0 : (_ : List T) ++ List.replicate _ T.undef = s0
  have e0 : s0.length = 12 ∧ rho s0 (.tmp 0) = .int .i64 (n : Int) ∧ rho s0 (.tmp 1) = .int .i64 0 ∧ rho s0 (.tmp 2) = .int .i64 4 := by subst hs0; exact ⟨rfl, rfl, rfl, rfl⟩
  clear hs0
  obtain ⟨hl, h0, h1, h2⟩ := e0
  have hmx : (if (0 : Int) > (n : Int) then (0 : Int) else (n : Int)) = (n : Int) := if_neg (by omega)
  have hmn : (if (4 : Int) < (n : Int) then (4 : Int) else (n : Int)) = (n : Int) := if_neg (by omega)
  refine W_seqn (W_region (fun k => by simp +decide (disch := first | omega | simp +decide [hl]) only [s8, simprocAttr]; rfl) ⟨rfl, ?_⟩)
  refine W_seqn (W_region (fun k => by simp +decide (disch := first | omega | simp +decide [hl]) only [s8, simprocAttr, h0, h1, h2, minL, maxL, List.foldlM_cons, List.foldlM_nil, hmx, hmn, bind, Option.bind_some, pure]; rfl) ⟨rfl, W_ret ?_⟩)
  refine fin_of (F := f98) rfl (fun _ => rfl) ?_
  simp +decide (disch := first | omega | simp +decide [hl]) only [s8, simprocAttr]
def byLoop : ACode := match f67.body with | .seq _ (.seq _ (.seq (.seq _ (.block _ (.loop c))) _)) => c | _ => .skip
def byK (v : Int) (n i : Nat) : List Int := (bytesOf v n).take i ++ List.replicate (n - i) 0
theorem byK_len (v : Int) (n i : Nat) (h : i ≤ n) : (byK v n i).length = n := by
  unfold byK; rw [List.length_append, List.length_take, bytesOf_len, List.length_replicate]; omega
theorem byK_succ (v : Int) (n i : Nat) (h : i < n) : byK v n (i + 1) = (byK v n i).set i (v / 256 ^ i % 256) := by
  have hb := bytesOf_get n v i h
  have hl := bytesOf_len n v
  unfold byK
  rw [List.set_append_right _ _ (by rw [List.length_take, hl]; omega), List.length_take, hl, Nat.min_eq_left (by omega), Nat.sub_self, List.take_add_one, hb, show n - i = (n - (i + 1)) + 1 by omega, List.replicate_succ, List.set_cons_zero]
  simp
theorem by_loop (v : Int) (hv : 0 ≤ v ∧ v ≤ 4294967295) (n : Nat) (hn4 : n ≤ 4) (B : Nat) (Q : AExit → St → Prop)
    (hQe : ∀ st : St, st.s.length = 25 → rho st.s (.tmp 5) = .own B 0 n 1 → st.g B = some (dataT (bytesOf v n)) → Q (.exit 0) st) :
    ∀ (m : Nat) (st : St), (∃ i : Nat, st.s.length = 25 ∧ rho st.s (.tmp 0) = .int .u32 v ∧ rho st.s (.tmp 5) = .own B 0 n 1 ∧ st.g B = some (dataT (byK v n i)) ∧ rho st.s (.tmp 11) = .int .i64 (n : Int) ∧ rho st.s (.tmp 12) = .int .i64 (i : Int) ∧ i ≤ n ∧ m = n - i) → W ap (.loop byLoop) st Q := by
  refine W_loop _ ?_
  rintro m st ⟨i, hl, h0, h5, gB, h11, h12, hi, hm⟩
  by_cases hend : i = n
  · have hlt : decide ((i : Int) < (n : Int)) = false := decide_eq_false (by omega)
    refine W_seqn (W_region (fun k => by simp +decide (disch := first | omega | simp +decide [hl]) only [s8, simprocAttr, h11, h12, hlt]; rfl) ⟨rfl, ?_⟩)
    refine W_seq (W_fls (W_exit ?_))
    refine (.inr ⟨by simp, .inr ⟨by simp, hQe _ ?_ ?_ ?_⟩⟩)
    · simp +decide (disch := first | omega | simp +decide [hl]) only [s8, simprocAttr, hl]
    · simp +decide (disch := first | omega | simp +decide [hl]) only [s8, simprocAttr, h5]
    · show st.g B = _
      rw [gB, hend]
      have : byK v n n = bytesOf v n := by unfold byK; rw [Nat.sub_self, List.replicate_zero, List.append_nil, List.take_of_length_le (by rw [bytesOf_len]; exact Nat.le_refl _)]
      rw [this]
  · have hlt : decide ((i : Int) < (n : Int)) = true := decide_eq_true (by omega)
    have hin : i < n := by omega
    have hw2 : IntKind.i64.wrap ((i : Int) + 1) = ((i + 1 : Nat) : Int) := by rw [wrap_id (by omega)]; omega
    have hw3 : IntKind.i64.wrap (8 * (i : Int)) = 8 * (i : Int) := wrap_id (by omega)
    have hneg : ((8 * (i : Int)) < 0) = False := by simp; omega
    have htn : min (8 * (i : Int)).toNat IntKind.u32.bits = 8 * i := by
      show min (8 * (i : Int)).toNat 32 = 8 * i
      omega
    have hcb : IntKind.u8.wrap (v.fdiv (2 ^ (8 * i))) = v / 256 ^ i % 256 := by
      rw [wrap_u8, Int.pow_mul, Int.fdiv_eq_ediv_of_nonneg _ (Int.le_of_lt (Int.pow_pos (by decide)))]; rfl
    have hdl := data_len (byK v n i)
    rw [byK_len v n i hi] at hdl
    have hset : (dataT (byK v n i)).set (i * 1) (.int .u8 (v / 256 ^ i % 256)) = dataT (byK v n (i + 1)) := by rw [byK_succ v n i hin, dataT_set, Nat.mul_one]
    have hb : i * 1 + 1 ≤ n := by omega
    have hb0 : 0 + i * 1 + 1 ≤ n := by omega
    generalize hd' : dataT (byK v n (i + 1)) = d' at *
    generalize dataT (byK v n i) = d at *
    generalize v / 256 ^ i % 256 = x at *
    refine W_seqn (W_region (fun k => by simp +decide (disch := first | omega | simp +decide [hl]) only [s8, simprocAttr, h11, h12, hlt]; rfl) ⟨rfl, ?_⟩)
    refine W_seqn (W_tru (W_skip ⟨rfl, ?_⟩))
    refine W_seqn (W_block (W_seqn (W_region (fun k => by simp +decide (disch := first | omega | simp +decide [hl]) only [s8, simprocAttr, h12]; rfl) ⟨rfl, ?_⟩)))
    refine W_region (fun k => by simp +decide (disch := first | omega | simp +decide [hl]) only [s9, simprocAttr, h0, h5, gB, hdl, hw3, hneg, htn, hcb, hin, hb, hb0, hset]; rfl) (.inr (.inl ⟨by simp, rfl, ?_⟩))
    refine W_region (fun k => by simp +decide (disch := first | omega | simp +decide [hl]) only [s8, simprocAttr, h12, hw2]; rfl) ?_
    refine (.inl ⟨rfl, n - (i + 1), by omega, i + 1, ?_, ?_, ?_, ?_, ?_, ?_, by omega, rfl⟩)
    all_goals simp +decide (disch := first | omega | simp +decide [hl]) only [s9, simprocAttr, hl, h0, h5, h11, hd']
theorem bits_bytes (v : Int) (hv : 0 ≤ v ∧ v ≤ 4294967295) (n : Nat) (hn4 : n ≤ 4) : E ap 67 [.int .u32 v, .int .i64 (n : Int)] (.imm false n (dataT (bytesOf v n))) := by
  refine E_body (F := f67) rfl rfl rfl ?_
  generalize hs0 : (_ : List T) ++ List.replicate _ T.undef = s0
  have e0 : s0.length = 25 ∧ rho s0 (.tmp 0) = .int .u32 v ∧ rho s0 (.tmp 1) = .int .i64 (n : Int) := by subst hs0; exact ⟨rfl, rfl, rfl⟩
  clear hs0
  obtain ⟨hl, h0, h1⟩ := e0
  obtain ⟨N1, c48⟩ := (clamp4 n hn4).call ap98 (fun g => rfl)
  have q48 := c48 N1 (Nat.le_refl _)
  have hfl : (List.replicate n [T.int .u8 0]).flatten = dataT (byK v n 0) := by
    have : byK v n 0 = List.replicate n 0 := by unfold byK; simp
    rw [this, dataT_map, List.map_replicate]
    clear this hl h0 h1 q48 c48 hn4
    induction n with
    | zero => rfl
    | succ m ih => rw [List.replicate_succ, List.flatten_cons, ih, List.replicate_succ]; rfl
  have hr1 : n * 1 ≤ 549755813888 := by omega
  have hr2 : n ≤ 549755813888 := by omega
  have hnn : n ≤ n := Nat.le_refl _
  refine W_seqn (W_region (fun k => by simp +decide (disch := first | omega | simp +decide [hl]) only [s8, simprocAttr]; rfl) ⟨rfl, ?_⟩)
  refine W_seqn (W_regionN ⟨N1, by simp +decide (disch := first | omega | simp +decide [hl]) only [s9, simprocAttr, h1, ap98, p98, n98, q48, hr1, hr2, hnn, hfl]; rfl⟩ ⟨rfl, ?_⟩)
  refine W_seq (W_seqn (W_region (fun k => by simp +decide (disch := first | omega | simp +decide [hl]) only [s8, simprocAttr]; rfl) ⟨rfl, W_block ?_⟩))
  refine by_loop v hv n hn4 3 _ (fun st hst h5 gB => ?_) (n - 0) _ ⟨0, ?_, ?_, ?_, ?_, ?_, ?_, by omega, rfl⟩
  · have hl := hst
    refine .inl ⟨rfl, .inl ⟨rfl, W_seqn (W_region (fun k => by simp +decide (disch := first | omega | simp +decide [hl]) only [s8, simprocAttr, h5]; rfl) ⟨rfl, W_ret ?_⟩)⟩⟩
    obtain ⟨ids, h⟩ := frz_own (h := ⟨st.g, st.nx + 2⟩) (d := 11) (t := 3) (n := n) (es := 1) gB (by rw [data_len, bytesOf_len]; omega) ⟨[], frzAll_int _ (data_ints _)⟩
    refine ⟨rfl, .own 3 0 n 1, ids, res_one (F := f67) rfl ?_, h⟩
    simp +decide (disch := first | omega | simp +decide [hl]) only [s8, simprocAttr]
  all_goals first | (simp +decide (disch := first | omega | simp +decide [hl]) only [s9, simprocAttr, hl, h0]; done) | (simp +decide (disch := first | omega | simp +decide [hl]) only [s9, simprocAttr, hl, h0]; rfl)
def wrW (old : Way) (a n : Nat) (v : Int) : Way := stW (updW old a (bytesOf v n)) 3
def writeK (c : Cache) (addr : Nat) (size : Int) : Option Nat := match readK c addr size with
  | some k => if (wayN (row c (seti c (addr / 16))) k).state = 2 ∨ (wayN (row c (seti c (addr / 16))) k).state = 3 then some k else none
  | none => none
def writeR (c : Cache) (addr : Nat) (size v : Int) : List (List Way) × Bool := match writeK c addr size with
  | some k => (c.sets.set (seti c (addr / 16)) ((row c (seti c (addr / 16))).set k (wrW (wayN (row c (seti c (addr / 16))) k) (addr % 16) size.toNat v)), true)
  | none => ([], false)
theorem cacheOf_nil : CacheOf [] (.agg [.imm true 0 []]) := ⟨true, [], rfl, rfl, fun i h => by simp at h⟩
theorem set_wr (l : List Way) (hw : ∀ w ∈ l, w.wf) (k : Nat) (h : k < l.length) (a n : Nat) (v : Int) (han : a + n ≤ 16) : (∀ w ∈ l.set k (updW (wayN l k) a (bytesOf v n)), w.wf) ∧ (l.set k (wrW (wayN l k) a n v)).flatMap Way.enc = ((l.set k (updW (wayN l k) a (bytesOf v n))).flatMap Way.enc).set (k * 19) (.int .i64 3) ∧ (∀ w ∈ l.set k (wrW (wayN l k) a n v), w.wf) := by
  have hu := updW_wf (wayN_wf hw h) a (bytesOf v n) (bytesOf_byte n v) (by rw [bytesOf_len]; exact han)
  have hl1 := mem_setw hw k hu
  have e := set_st (l.set k (updW (wayN l k) a (bytesOf v n))) hl1 k (by rw [List.length_set]; exact h) 3 (by omega)
  rw [wayN_set l k h, List.set_set] at e
  exact ⟨hl1, e, mem_setw hw k (stW_wf hu (by omega))⟩
theorem fin_wr {F : AFun} {t1 t2 p1 : Nat} {x y : T} {b : Bool} (hF : F.res = [.cell t1 false 1, .tmp t2]) {s : List T} {g : Mem} {nx : Nat} {ids : List Nat} (hx : frz ⟨g, nx⟩ 11 (.agg [x]) = some (y, ids)) (h1 : rho s (.tmp t1) = .ptr p1 0) (h2 : rho s (.tmp t2) = .bool b) (g1 : g p1 = some [x]) : ∃ u ids, resT s g F.res = some u ∧ frz ⟨g, nx⟩ frzDepth u = some (.tup [y, .bool b], ids) := by
  refine ⟨.tup [.agg [x], .bool b], ids ++ ([] ++ []), ?_, ?_⟩
  · rw [hF]
    have hc1 : cut [x] 0 1 = [x] := rfl
    simp +decide only [resT, resL, resOne, opRes, h1, h2, g1, hc1, List.length_cons, List.length_nil, if_true, Bool.false_eq_true, if_false]
  · have e1 : frz ⟨g, nx⟩ 11 (.bool b) = some (.bool b, []) := rfl
    show frz ⟨g, nx⟩ (11 + 1) _ = _
    rw [frz]
    simp only [frzAll, e1, hx, List.append_nil]
theorem st_cases (s : Int) : ((s != 2) = false ∧ s = 2) ∨ ((s != 2) = true ∧ (s != 3) = false ∧ s = 3) ∨ ((s != 2) = true ∧ (s != 3) = true ∧ ¬ (s = 2 ∨ s = 3)) := by
  by_cases h2 : s = 2
  · left; subst h2; exact ⟨rfl, rfl⟩
  by_cases h3 : s = 3
  · right; left; subst h3; exact ⟨rfl, rfl, rfl⟩
  · right; right
    refine ⟨?_, ?_, by omega⟩ <;> simp [h2, h3]
theorem bus_write (c : Cache) (hc : c.wf) (hfit : Fit c.sets) (addr : Nat) (ha : addr ≤ 4294967295) (size v : Int) (hv : 0 ≤ v ∧ v ≤ 4294967295) :
    ∃ u, E ap 51 [.agg [setsT c], .int .u32 (addr : Int), .int .i64 size, .int .u32 v] (.tup [u, .bool (writeR c addr size v).2]) ∧ (CacheOf (writeR c addr size v).1 u ∧ ((writeR c addr size v).2 = true → CacheEx (writeR c addr size v).1 u)) := by
  have hmain : ∃ r, E ap 51 [.agg [setsT c], .int .u32 (addr : Int), .int .i64 size, .int .u32 v] r ∧ ∃ u, r = .tup [u, .bool (writeR c addr size v).2] ∧ (CacheOf (writeR c addr size v).1 u ∧ ((writeR c addr size v).2 = true → CacheEx (writeR c addr size v).1 u)) := by
    have hx := tells_cache c
    have hxl := hx.1
    have hxf := tells_leaf hx
    refine E_bodyV (F := f51) rfl rfl rfl (P := fun r => ∃ u, r = .tup [u, .bool (writeR c addr size v).2] ∧ (CacheOf (writeR c addr size v).1 u ∧ ((writeR c addr size v).2 = true → CacheEx (writeR c addr size v).1 u))) ?_
    generalize hs0 : (_ : List T) ++ List.replicate _ T.undef = s0
    have e0 : s0.length = 75 ∧ rho s0 (.tmp 0) = .agg [setsT c] ∧ rho s0 (.tmp 1) = .int .u32 (addr : Int) ∧ rho s0 (.tmp 2) = .int .i64 size ∧ rho s0 (.tmp 3) = .int .u32 v := by subst hs0; exact ⟨rfl, rfl, rfl, rfl, rfl⟩
    clear hs0
    obtain ⟨hl, h0, h1, h2, h3⟩ := e0
    obtain ⟨N1, c43⟩ := (bus_place c hc addr ha size).call ap65 (fun g => rfl)
    have q43 := c43 N1 (Nat.le_refl _)
    have hsc : setsT c = .imm false c.sets.length (c.sets.flatMap (fun l => [rowT l])) := rfl
    rw [hsc] at h0 q43
    clear hsc c43
    generalize hX : c.sets.flatMap (fun l => [rowT l]) = xs at *
    have hleaf : allLeaf [T.imm false c.sets.length xs] = true := rfl
    have hcut : cut [T.imm false c.sets.length xs] 0 1 = [T.imm false c.sets.length xs] := rfl
    have tail : ∀ st' : St, writeK c addr size = none → (st'.s.length = 75 ∧ rho st'.s (.tmp 8) = .ptr 1 0 ∧ st'.g 1 = some [.imm true 0 []]) → W ap (.seq (.region [⟨some 51, .build [(.imm true 0 [])] [], none⟩, ⟨none, .store 1 (.tmp 8) (.tmp 51), none⟩, ⟨some 9, .mv (.con (.bool false)), none⟩] []) .ret) st' (fun e s => e = .ret ∧ ∃ r, (∃ u, r = .tup [u, .bool (writeR c addr size v).2] ∧ (CacheOf (writeR c addr size v).1 u ∧ ((writeR c addr size v).2 = true → CacheEx (writeR c addr size v).1 u))) ∧ ∃ u ids, resT s.s s.g f51.res = some u ∧ frz ⟨s.g, s.nx⟩ frzDepth u = some (r, ids)) := by
      rintro ⟨s, g, nx⟩ hK ⟨hl, h8, g1⟩
      simp only at hl h8 g1
      have hR : writeR c addr size v = ([], false) := by unfold writeR; rw [hK]
      rw [hR]
      refine W_seqn (W_region (fun k => by simp +decide (disch := first | omega | simp +decide [hl]) only [s9, simprocAttr, h8, g1]; rfl) ⟨rfl, W_ret ?_⟩)
      refine ⟨rfl, _, ⟨_, rfl, cacheOf_nil, fun h => by cases h⟩, fin_wr (F := f51) (t1 := 8) (t2 := 9) (p1 := 1) (x := .imm true 0 []) (ids := []) rfl rfl ?_ ?_ ?_⟩
      · simp +decide (disch := first | omega | simp +decide [hl]) only [s9, simprocAttr, h8]
      · simp +decide (disch := first | omega | simp +decide [hl]) only [s9, simprocAttr]
      · simp +decide (disch := first | omega | simp +decide [hl]) only [s9, simprocAttr]
    refine W_seqn (W_region (fun k => by simp +decide (disch := first | omega | simp +decide [hl]) only [s9, simprocAttr, h0, hleaf]; rfl) ⟨rfl, ?_⟩)
    cases hk : readK c addr size with
    | none =>
      obtain ⟨x, hx⟩ := place_none hk
      rw [hx] at q43
      have hK : writeK c addr size = none := by unfold writeK; rw [hk]
      refine W_seqn (W_regionN ⟨N1, by simp +decide (disch := first | omega | simp +decide [hl]) only [s9, simprocAttr, h1, h2, hcut, ap65, p65, n65, q43]; rfl⟩ ⟨rfl, ?_⟩)
      refine W_seq (W_seqn (W_region (fun k => by simp +decide (disch := first | omega | simp +decide [hl]) only [s8, simprocAttr]; rfl) ⟨rfl, W_tru ?_⟩))
      refine (tail _ hK ⟨by simp +decide (disch := first | omega | simp +decide [hl]) only [s9, simprocAttr, hl], by simp +decide (disch := first | omega | simp +decide [hl]) only [s9, simprocAttr], by simp +decide (disch := first | omega | simp +decide [hl]) only [s9, simprocAttr]⟩).mono ?_
      rintro e s ⟨rfl, h⟩
      simp only [reduceCtorEq, false_and, false_or, or_false, exists_false, exists_const, ne_eq, not_false_eq_true, true_and, implies_true]
      exact ⟨rfl, h⟩
    | some k =>
      obtain ⟨hok, hf, hp⟩ := place_some hk
      obtain ⟨hil, hkl⟩ := find_lt hf
      have hrow := fit_row hfit _ hil
      obtain ⟨n, rfl, hn, hn1, hn4, han⟩ := okay_nat hok
      rw [hp] at q43
      obtain ⟨f0, hxi⟩ := hx.2 _ hil
      rw [← row_eq c _ hil] at hxi
      have hstv : (wayN (row c (seti c (addr / 16))) k).state = (wayN (row c (seti c (addr / 16))) k).state := rfl
      have hget := way_get (row c (seti c (addr / 16))) hrow.2 k hkl 0 (by omega)
      rw [show ((row c (seti c (addr / 16)))[k]?).getD default = wayN (row c (seti c (addr / 16))) k from rfl, way_state, Nat.add_zero] at hget
      have hcl := enc_len (row c (seti c (addr / 16))) hrow.2
      have hclf := enc_leaf (row c (seti c (addr / 16)))
      have hb : seti c (addr / 16) * 1 + 1 ≤ c.sets.length := by omega
      have hb2 : k * 19 + 19 ≤ (row c (seti c (addr / 16))).length * 19 := by omega
      have hb1 : k * 19 + 1 ≤ (row c (seti c (addr / 16))).length * 19 := by omega
      have hb5 : k * 19 + 2 + 16 * 1 ≤ (row c (seti c (addr / 16))).length * 19 := by omega
      refine W_seqn (W_regionN ⟨N1, by simp +decide (disch := first | omega | simp +decide [hl]) only [s9, simprocAttr, h1, h2, hcut, ap65, p65, n65, q43]; rfl⟩ ⟨rfl, ?_⟩)
      have hgo : (wayN (row c (seti c (addr / 16))) k).state = 2 ∨ (wayN (row c (seti c (addr / 16))) k).state = 3 → ∀ st' : St, (st'.s.length = 75 ∧ rho st'.s (.tmp 2) = .int .i64 (n : Int) ∧ rho st'.s (.tmp 3) = .int .u32 v ∧ rho st'.s (.tmp 4) = .ptr 0 0 ∧ rho st'.s (.tmp 8) = .ptr 1 0 ∧ rho st'.s (.tmp 10) = .int .i64 (seti c (addr / 16) : Int) ∧ rho st'.s (.tmp 11) = .int .i64 (k : Int) ∧ rho st'.s (.tmp 12) = .int .i64 ((addr % 16 : Nat) : Int) ∧ st'.g 0 = some [.imm false c.sets.length xs] ∧ st'.g 1 = some [.imm true 0 []] ∧ st'.nx = 42) → W ap (match f51.body with | .seq _ (.seq _ (.seq _ r)) => r | _ => .skip) st' (fun e s => e.leaves = true ∧ ∃ r, (∃ u, r = .tup [u, .bool (writeR c addr (n : Int) v).2] ∧ (CacheOf (writeR c addr (n : Int) v).1 u ∧ ((writeR c addr (n : Int) v).2 = true → CacheEx (writeR c addr (n : Int) v).1 u))) ∧ ∃ u ids, resT s.s s.g f51.res = some u ∧ frz ⟨s.g, s.nx⟩ frzDepth u = some (r, ids)) := by
        intro hst
        have hK : writeK c addr (n : Int) = some k := by unfold writeK; rw [hk]; exact if_pos hst
        have hR : writeR c addr (n : Int) v = (c.sets.set (seti c (addr / 16)) ((row c (seti c (addr / 16))).set k (wrW (wayN (row c (seti c (addr / 16))) k) (addr % 16) n v)), true) := by unfold writeR; rw [hK]; rfl
        rw [hR]
        clear tail hR hK
        obtain ⟨hu1, hu2, hu3⟩ := set_wr (row c (seti c (addr / 16))) hrow.2 k hkl (addr % 16) n v han
        have hspl := set_upd (row c (seti c (addr / 16))) hrow.2 k hkl (addr % 16) (bytesOf v n) (bytesOf_byte n v) (by rw [bytesOf_len]; exact han)
        have hul := enc_len _ hu1
        rw [List.length_set] at hul
        generalize hi : seti c (addr / 16) = i at *
        generalize hL : row c i = l at *
        generalize addr % 16 = a at *
        obtain ⟨N2, c46⟩ := (bits_bytes v hv n hn4).call ap67 (fun g => rfl)
        have q46 := c46 N2 (Nat.le_refl _)
        have hbl : (dataT (bytesOf v n)).length = n * 1 := by rw [data_len, bytesOf_len]; omega
        have hbf := leaf_ints _ (data_ints (bytesOf v n))
        have hmin : min n (16 - a) = n := by omega
        have htk : (dataT (bytesOf v n)).take (n * 1) = dataT (bytesOf v n) := List.take_of_length_le (by omega)
        have hb6 : a ≤ 16 := by omega
        have hb7 : k * 19 + 2 + a * 1 + (16 - a) * 1 ≤ l.length * 19 := by omega
        generalize hE : (l.set k (updW (wayN l k) a (bytesOf v n))).flatMap Way.enc = us at *
        generalize hwsE : l.flatMap Way.enc = ws at *
        generalize dataT (bytesOf v n) = bs at *
        rintro ⟨s, g, nx⟩ ⟨hl, h2, h3, h4, h8, h10, h11, h12, g0, g1, hnx⟩
        simp only at hl h2 h3 h4 h8 h10 h11 h12 g0 g1 hnx
        subst hnx
        obtain ⟨N, g', nx', hN, w1, w2, w3, w4, w5, w6⟩ := with_run false c.sets.length xs hxl hxf hfit.big.1 i hil f0 l.length ws hxi hcl hclf (by omega) (by have := hrow.1; omega) g (42 + 5)
        have q40 := hN N (Nat.le_refl _)
        have w1' : g' 1 = some [.imm true 0 []] := by rw [w6 1 (by omega)]; exact g1
        simp only [f51]
        refine W_seqn (W_regionN ⟨N, by simp +decide (disch := first | omega | simp +decide [hl]) only [s9, simprocAttr, evI, h4, h10, g0, hcut, ap66, p66, n66, q40]; rfl⟩ ⟨rfl, ?_⟩)
        refine W_abs (fun s => s.s.length = 75 ∧ rho s.s (.tmp 2) = .int .i64 (n : Int) ∧ rho s.s (.tmp 3) = .int .u32 v ∧ rho s.s (.tmp 8) = .ptr 1 0 ∧ rho s.s (.tmp 10) = .int .i64 (i : Int) ∧ rho s.s (.tmp 11) = .int .i64 (k : Int) ∧ rho s.s (.tmp 12) = .int .i64 (a : Int) ∧ rho s.s (.tmp 14) = .ptr 45 0 ∧ s.g 1 = some [.imm true 0 []] ∧ s.g 45 = some [.own 51 0 c.sets.length 1] ∧ s.g 51 = some (xs.set i (.own 63 0 l.length 19)) ∧ s.g 63 = some ws) ?_ ?_
        · refine ⟨?_, ?_, ?_, ?_, ?_, ?_, ?_, ?_, ?_, ?_, ?_, ?_⟩
          all_goals first | (simp +decide (disch := first | omega | simp +decide [hl]) only [s9, simprocAttr, hl, h2, h3, h8, h10, h11, h12]; done) | (simp +decide only [s9, simprocAttr, w1, w2, w1']; done) | (simp +decide only [s9, simprocAttr, w1, w2, w1']; rfl)
        clear hl h2 h3 h4 h8 h10 h11 h12 g0 g1 w1 w2 w3 w4 w5 w6 w1'
        rintro ⟨s, g, nx⟩ ⟨hl, h2, h3, h8, h10, h11, h12, h14, g1, g45, g51, g63⟩
        simp only at hl h2 h3 h8 h10 h11 h12 h14 g1 g45 g51 g63
        have hxs2 : (xs.set i (.own 63 0 l.length 19))[i * 1]? = some (.own 63 0 l.length 19) := by rw [Nat.mul_one, List.getElem?_set, if_pos rfl, if_pos (by omega)]
        have hx3l : (xs.set i (.own 63 0 l.length 19)).length = c.sets.length := by rw [List.length_set]; exact hxl
        generalize hxs3 : xs.set i (.own 63 0 l.length 19) = xs3 at *
        have hcA : cut [T.own 51 0 c.sets.length 1] 0 1 = [T.own 51 0 c.sets.length 1] := rfl
        refine W_seqn (W_region (fun k => by simp +decide (disch := first | omega | simp +decide [hl]) only [s9, simprocAttr, h14, h10, h11, g45, g51, hx3l, hil, hb, hxs2, hkl]; rfl) ⟨rfl, ?_⟩)
        refine W_seqn (W_regionN ⟨N2, by simp +decide (disch := first | omega | simp +decide [hl]) only [s9, simprocAttr, cellsOf, h2, h3, h12, g63, hcl, Option.map_none, Option.map_some, hb6, hb5, hb7, hbl, hbf, hmin, htk, ap67, p67, n67, q46]; rfl⟩ ⟨rfl, ?_⟩)
        rw [← hspl]
        refine W_seqn (W_region (fun k => by simp +decide (disch := first | omega | simp +decide [hl]) only [s9, simprocAttr, hul, hb1]; rfl) ⟨rfl, ?_⟩)
        refine W_seqn (W_region (fun k => by simp +decide (disch := first | omega | simp +decide [hl]) only [s9, simprocAttr, h14, h8, g45, g1, hcA]; rfl) ⟨rfl, W_ret ?_⟩)
        generalize hfl : l.set k (wrW (wayN l k) a n v) = fl at *
        have hx' : CacheEx (c.sets.set i fl) (.agg [.imm false c.sets.length (xs.set i (.imm false fl.length (fl.flatMap Way.enc)))]) := ex_set hX i fl
        have hfll : fl.length = l.length := by rw [← hfl, List.length_set]
        rw [← hxs3, ← hfll] at g51
        obtain ⟨ids, e1, _⟩ := frzP_with (h := ⟨put1 (put1 (put1 g (63, some us)) (63, some (us.set (k * 19) (.int .i64 3)))) (1, some [.own 51 0 c.sets.length 1]), nx + 7 + 9 + 4 + 3⟩) (d := 7) (A := 51) (B := 63) (P := fun _ => True) hx rfl i hil fl hu3 (by simp +decide (disch := first | omega | simp +decide [hl]) only [s9, simprocAttr, g51]) (by rw [hu2]; simp +decide (disch := first | omega | simp +decide [hl]) only [s9, simprocAttr]) trivial trivial
        refine ⟨rfl, _, ⟨_, rfl, hx'.of, fun _ => hx'⟩, fin_wr (F := f51) (t1 := 8) (t2 := 9) (p1 := 1) rfl e1 ?_ ?_ ?_⟩
        · simp +decide (disch := first | omega | simp +decide [hl]) only [s9, simprocAttr, h8]
        · simp +decide (disch := first | omega | simp +decide [hl]) only [s9, simprocAttr]
        · simp +decide (disch := first | omega | simp +decide [hl]) only [s9, simprocAttr]
      rcases st_cases (wayN (row c (seti c (addr / 16))) k).state with ⟨k2, hs⟩ | ⟨k2, k3, hs⟩ | ⟨k2, k3, hs⟩
      · refine W_seqn (W_seqn (W_region (fun k => by simp +decide (disch := first | omega | simp +decide [hl]) only [s9, simprocAttr, hxl, hil, hb, hxi, hkl, hcl, hb1, hb2, hget, k2]; rfl) ⟨rfl, W_fls (W_skip ⟨rfl, ?_⟩)⟩))
        refine hgo (.inl hs) _ ⟨?_, ?_, ?_, ?_, ?_, ?_, ?_, ?_, ?_, ?_, ?_⟩
        all_goals first | (simp +decide (disch := first | omega | simp +decide [hl]) only [s9, simprocAttr, hl, h2, h3]; done) | rfl
      · refine W_seqn (W_seqn (W_region (fun k => by simp +decide (disch := first | omega | simp +decide [hl]) only [s9, simprocAttr, hxl, hil, hb, hxi, hkl, hcl, hb1, hb2, hget, k2, k3]; rfl) ⟨rfl, W_fls (W_skip ⟨rfl, ?_⟩)⟩))
        refine hgo (.inr hs) _ ⟨?_, ?_, ?_, ?_, ?_, ?_, ?_, ?_, ?_, ?_, ?_⟩
        all_goals first | (simp +decide (disch := first | omega | simp +decide [hl]) only [s9, simprocAttr, hl, h2, h3]; done) | rfl
      · have hK : writeK c addr (n : Int) = none := by unfold writeK; rw [hk]; exact if_neg hs
        refine W_seq (W_seqn (W_region (fun k => by simp +decide (disch := first | omega | simp +decide [hl]) only [s9, simprocAttr, hxl, hil, hb, hxi, hkl, hcl, hb1, hb2, hget, k2, k3]; rfl) ⟨rfl, W_tru ?_⟩))
        refine (tail _ hK ⟨by simp +decide (disch := first | omega | simp +decide [hl]) only [s9, simprocAttr, hl], by simp +decide (disch := first | omega | simp +decide [hl]) only [s9, simprocAttr], by simp +decide (disch := first | omega | simp +decide [hl]) only [s9, simprocAttr]⟩).mono ?_
        rintro e s ⟨rfl, h⟩
        simp only [reduceCtorEq, false_and, false_or, or_false, exists_false, exists_const, ne_eq, not_false_eq_true, true_and, implies_true]
        exact ⟨rfl, h⟩
  obtain ⟨r, h, u, rfl, o⟩ := hmain
  exact ⟨u, h, o⟩
def rwLoop : ACode := match f43.body with | .seq _ (.seq _ (.seq _ (.seq _ (.seq (.seq _ (.block _ (.loop c))) _)))) => c | _ => .skip
theorem rw_loop (m0 : Nat) (A B : Nat) (els : List T) (hel : els.length = m0) (i : Nat) (hi : i < m0) (l : List Way) (hw : ∀ w ∈ l, w.wf) (hei : els[i * 1]? = some (.own B 0 l.length 19)) (k : Nat) (hkl : k < l.length) (addr a n : Nat) (haa : a = addr % 16) (han : a + n ≤ 16) (hn4 : n ≤ 4) (v : Int) (hv : 0 ≤ v ∧ v ≤ 4294967295) (g1 : Mem) (g148 : g1 48 = some [.own A 0 m0 1]) (g1A : g1 A = some els) (hB0 : 50 ≤ B) (hAB : B < A) (Q : AExit → St → Prop)
    (hQe : ∀ st : St, st.s.length = 91 → rho st.s (.tmp 8) = .ptr 1 0 → rho st.s (.tmp 10) = .int .i64 (i : Int) → rho st.s (.tmp 11) = .int .i64 (k : Int) → rho st.s (.tmp 13) = .ptr 48 0 → (∀ t, t ≠ B → st.g t = g1 t) → st.g B = some ((l.set k (updW (wayN l k) a (bytesOf v n))).flatMap Way.enc) → Q (.exit 0) st) :
    ∀ (m : Nat) (st : St), (∃ j : Nat, st.s.length = 91 ∧ rho st.s (.tmp 1) = .int .u32 (addr : Int) ∧ rho st.s (.tmp 2) = .int .i64 (n : Int) ∧ rho st.s (.tmp 3) = .int .u32 (v / 256 ^ j) ∧ rho st.s (.tmp 8) = .ptr 1 0 ∧ rho st.s (.tmp 10) = .int .i64 (i : Int) ∧ rho st.s (.tmp 11) = .int .i64 (k : Int) ∧ rho st.s (.tmp 13) = .ptr 48 0 ∧ (∀ t, t ≠ B → st.g t = g1 t) ∧ st.g B = some ((l.set k (updW (wayN l k) a ((bytesOf v n).take j))).flatMap Way.enc) ∧ rho st.s (.tmp 14) = .int .i64 (j : Int) ∧ j ≤ n ∧ m = n - j) → W ap (.loop rwLoop) st Q := by
  refine W_loop _ ?_
  rintro m st ⟨j, hl, h1, h2, h3, h8, h10, h11, h13, hg, gB, h14, hj, hm⟩
  have hbl := bytesOf_len n v
  have g48 := hg 48 (by omega)
  have gA := hg A (by omega)
  rw [g148] at g48
  rw [g1A] at gA
  by_cases hend : j = n
  · have hlt : decide ((j : Int) < (n : Int)) = false := decide_eq_false (by omega)
    refine W_seq (W_seqn (W_region (fun k => by simp +decide (disch := first | omega | simp +decide [hl]) only [s8, simprocAttr, h2, h14, hlt]; rfl) ⟨rfl, W_fls (W_exit ?_)⟩))
    refine (.inr ⟨by simp, .inr ⟨by simp, hQe _ ?_ ?_ ?_ ?_ ?_ hg ?_⟩⟩)
    rotate_right 1
    · show st.g B = _
      rw [gB, hend, List.take_of_length_le (by omega)]
    all_goals simp +decide (disch := first | omega | simp +decide [hl]) only [s8, simprocAttr, hl, h8, h10, h11, h13]
  · have hlt : decide ((j : Int) < (n : Int)) = true := decide_eq_true (by omega)
    have hjn : j < n := by omega
    have hjb : j < (bytesOf v n).length := by omega
    have hw2 : IntKind.i64.wrap ((j : Int) + 1) = ((j + 1 : Nat) : Int) := by rw [wrap_id (by omega)]; omega
    have hu := updW_wf (wayN_wf hw hkl) a ((bytesOf v n).take j) (fun b h => bytesOf_byte n v b (List.mem_of_mem_take h)) (by rw [List.length_take]; omega)
    have hcl := enc_len _ (mem_setw hw k hu)
    rw [List.length_set] at hcl
    have hset := set_byte l hw k hkl a (bytesOf v n) (bytesOf_byte n v) (by omega) j hjb
    have hbj := bytesOf_get n v j hjn
    rw [List.getElem?_eq_getElem hjb] at hbj
    have hbj := Option.some.inj hbj
    have hp : 0 < (256 : Int) ^ j := Int.pow_pos (by decide)
    have hvj : 0 ≤ v / 256 ^ j := Int.ediv_nonneg hv.1 (Int.le_of_lt hp)
    have hvj2 : v / 256 ^ j ≤ 4294967295 := Int.le_trans (Int.ediv_le_self _ hv.1) hv.2
    have hrem : (v / 256 ^ j).tmod 256 = (bytesOf v n)[j] := by rw [Int.tmod_eq_emod_of_nonneg hvj, hbj]
    have hcb : IntKind.u8.wrap (bytesOf v n)[j] = (bytesOf v n)[j] := by rw [wrap_u8, hbj]; omega
    have hquo : IntKind.u32.wrap ((v / 256 ^ j).tdiv 256) = v / 256 ^ (j + 1) := by
      have e : v / 256 ^ j / 256 = v / 256 ^ (j + 1) := by rw [Int.ediv_ediv_of_nonneg (Int.le_of_lt hp), Int.pow_succ]
      rw [wrap_u32, Int.tdiv_eq_ediv_of_nonneg hvj, e]
      have h1 : 0 ≤ v / 256 ^ (j + 1) := Int.ediv_nonneg hv.1 (Int.le_of_lt (Int.pow_pos (by decide)))
      have h2 : v / 256 ^ (j + 1) ≤ 4294967295 := Int.le_trans (Int.ediv_le_self _ hv.1) hv.2
      omega
    have hmd : (addr : Int).tmod 16 = (a : Int) := by rw [Int.tmod_eq_emod_of_nonneg (by omega)]; omega
    have h16 : ((16 : Int) = 0) = False := by simp
    have h256 : ((256 : Int) = 0) = False := by simp
    have hca : IntKind.i64.wrap (a : Int) = (a : Int) := wrap_id (by omega)
    have haj : IntKind.i64.wrap ((a : Int) + (j : Int)) = ((a + j : Nat) : Int) := by rw [wrap_id (by omega)]; omega
    have hb : i * 1 + 1 ≤ m0 := by omega
    have hb3 : a + j < 16 := by omega
    have hb4 : k * 19 + 2 + (a + j) * 1 + 1 ≤ l.length * 19 := by omega
    generalize (bytesOf v n)[j] = b at *
    generalize hd' : (l.set k (updW (wayN l k) a ((bytesOf v n).take (j + 1)))).flatMap Way.enc = us' at *
    generalize (l.set k (updW (wayN l k) a ((bytesOf v n).take j))).flatMap Way.enc = us at *
    generalize hvj' : v / 256 ^ j = vj at *
    refine W_seqn (W_seqn (W_region (fun k => by simp +decide (disch := first | omega | simp +decide [hl]) only [s8, simprocAttr, h2, h14, hlt]; rfl) ⟨rfl, W_tru (W_skip ⟨rfl, ?_⟩)⟩))
    refine W_seqn (W_block (W_seqn (W_region (fun k => by simp +decide (disch := first | omega | simp +decide [hl]) only [s9, simprocAttr, h1, h3, h13, h10, h11, h14, g48, gA, gB, hel, hi, hb, hei, hkl, hcl, hmd, h16, h256, hca, haj, hrem, hcb, hb3, hb4]; rfl) ⟨rfl, ?_⟩)))
    refine W_region (fun k => by simp +decide (disch := first | omega | simp +decide [hl]) only [s8, simprocAttr, h3, h256, hquo]; rfl) (.inr (.inl ⟨by simp, rfl, ?_⟩))
    refine W_region (fun k => by simp +decide (disch := first | omega | simp +decide [hl]) only [s8, simprocAttr, h14, hw2]; rfl) ?_
    refine (.inl ⟨rfl, n - (j + 1), by omega, j + 1, ?_, ?_, ?_, ?_, ?_, ?_, ?_, ?_, ?_, ?_, ?_, by omega, rfl⟩)
    rotate_left 8
    · intro t ht
      rw [← hg t ht]
      simp +decide (disch := first | omega | simp +decide [hl]) only [s9, simprocAttr]
    all_goals simp +decide (disch := first | omega | simp +decide [hl]) only [s9, simprocAttr, hl, h1, h2, h3, h8, h10, h11, h13, hd', hset]
theorem ref_write (c : Cache) (hc : c.wf) (hfit : Fit c.sets) (addr : Nat) (ha : addr ≤ 4294967295) (size v : Int) (hv : 0 ≤ v ∧ v ≤ 4294967295) :
    ∃ u, E ap 43 [.agg [setsT c], .int .u32 (addr : Int), .int .i64 size, .int .u32 v] (.tup [u, .bool (writeR c addr size v).2]) ∧ CacheOf (writeR c addr size v).1 u := by
  have hmain : ∃ r, E ap 43 [.agg [setsT c], .int .u32 (addr : Int), .int .i64 size, .int .u32 v] r ∧ ∃ u, r = .tup [u, .bool (writeR c addr size v).2] ∧ CacheOf (writeR c addr size v).1 u := by
    have hx := tells_cache c
    have hxl := hx.1
    refine E_bodyV (F := f43) rfl rfl rfl (P := fun r => ∃ u, r = .tup [u, .bool (writeR c addr size v).2] ∧ CacheOf (writeR c addr size v).1 u) ?_
    generalize hs0 : (_ : List T) ++ List.replicate _ T.undef = s0
    have e0 : s0.length = 91 ∧ rho s0 (.tmp 0) = .agg [setsT c] ∧ rho s0 (.tmp 1) = .int .u32 (addr : Int) ∧ rho s0 (.tmp 2) = .int .i64 size ∧ rho s0 (.tmp 3) = .int .u32 v := by subst hs0; exact ⟨rfl, rfl, rfl, rfl, rfl⟩
    clear hs0
    obtain ⟨hl, h0, h1, h2, h3⟩ := e0
    obtain ⟨N1, c16⟩ := (ref_find c hc (addr / 16) (by omega)).call ap57 (fun g => rfl)
    obtain ⟨N2, c45⟩ := (ref_within addr ha size).call ap58 (fun g => rfl)
    have q16 := c16 N1 (Nat.le_refl _)
    have q45 := c45 N2 (Nat.le_refl _)
    have hsc : setsT c = .imm false c.sets.length (c.sets.flatMap (fun l => [rowT l])) := rfl
    rw [hsc] at h0 q16
    clear hsc c16 c45
    generalize hX : c.sets.flatMap (fun l => [rowT l]) = xs at *
    have hleaf : allLeaf [T.imm false c.sets.length xs] = true := rfl
    have hcut : cut [T.imm false c.sets.length xs] 0 1 = [T.imm false c.sets.length xs] := rfl
    have hdiv : IntKind.u32.wrap ((addr : Int).tdiv 16) = ((addr / 16 : Nat) : Int) := by rw [wrap_u32, Int.tdiv_eq_ediv_of_nonneg (by omega)]; omega
    have h16 : ((16 : Int) = 0) = False := by simp
    have tail : ∀ st' : St, writeK c addr size = none → (st'.s.length = 91 ∧ rho st'.s (.tmp 8) = .ptr 1 0 ∧ st'.g 1 = some [.imm true 0 []]) → W ap (.seq (.region [⟨some 55, .build [(.imm true 0 [])] [], none⟩, ⟨none, .store 1 (.tmp 8) (.tmp 55), none⟩, ⟨some 9, .mv (.con (.bool false)), none⟩] []) .ret) st' (fun e s => e = .ret ∧ ∃ r, (∃ u, r = .tup [u, .bool (writeR c addr size v).2] ∧ CacheOf (writeR c addr size v).1 u) ∧ ∃ u ids, resT s.s s.g f43.res = some u ∧ frz ⟨s.g, s.nx⟩ frzDepth u = some (r, ids)) := by
      rintro ⟨s, g, nx⟩ hK ⟨hl, h8, g1⟩
      simp only at hl h8 g1
      have hR : writeR c addr size v = ([], false) := by unfold writeR; rw [hK]
      rw [hR]
      refine W_seqn (W_region (fun k => by simp +decide (disch := first | omega | simp +decide [hl]) only [s9, simprocAttr, h8, g1]; rfl) ⟨rfl, W_ret ?_⟩)
      refine ⟨rfl, _, ⟨_, rfl, cacheOf_nil⟩, fin_wr (F := f43) (t1 := 8) (t2 := 9) (p1 := 1) (x := .imm true 0 []) (ids := []) rfl rfl ?_ ?_ ?_⟩
      · simp +decide (disch := first | omega | simp +decide [hl]) only [s9, simprocAttr, h8]
      · simp +decide (disch := first | omega | simp +decide [hl]) only [s9, simprocAttr]
      · simp +decide (disch := first | omega | simp +decide [hl]) only [s9, simprocAttr]
    refine W_seqn (W_region (fun k => by simp +decide (disch := first | omega | simp +decide [hl]) only [s9, simprocAttr, h0, hleaf]; rfl) ⟨rfl, ?_⟩)
    cases hf : find c (addr / 16) with
    | none =>
      rw [findT_no c _ hf] at q16
      have hK : writeK c addr size = none := by unfold writeK readK; rw [hf, ite_self]
      refine W_seqn (W_regionN ⟨N1, by simp +decide (disch := first | omega | simp +decide [hl]) only [s9, simprocAttr, h1, h2, hcut, hdiv, h16, ap57, p57, n57, q16]; rfl⟩ ⟨rfl, ?_⟩)
      refine W_seq (W_seqn (W_region (fun k => by simp +decide (disch := first | omega | simp +decide [hl]) only [s8, simprocAttr]; rfl) ⟨rfl, W_tru ?_⟩))
      refine (tail _ hK ⟨by simp +decide (disch := first | omega | simp +decide [hl]) only [s9, simprocAttr, hl], by simp +decide (disch := first | omega | simp +decide [hl]) only [s9, simprocAttr], by simp +decide (disch := first | omega | simp +decide [hl]) only [s9, simprocAttr]⟩).mono ?_
      rintro e s ⟨rfl, h⟩
      simp only [reduceCtorEq, false_and, false_or, or_false, exists_false, exists_const, ne_eq, not_false_eq_true, true_and, implies_true]
      exact ⟨rfl, h⟩
    | some k =>
      rw [findT_is c _ k hf] at q16
      refine W_seqn (W_regionN ⟨N1, by simp +decide (disch := first | omega | simp +decide [hl]) only [s9, simprocAttr, h1, h2, hcut, hdiv, h16, ap57, p57, n57, q16]; rfl⟩ ⟨rfl, ?_⟩)
      by_cases hok : ¬ Okay addr size
      · rw [decide_eq_false hok] at q45
        have hK : writeK c addr size = none := by unfold writeK readK; rw [if_neg hok]
        refine W_seq (W_seqn (W_regionN ⟨N2, by simp +decide (disch := first | omega | simp +decide [hl]) only [s9, simprocAttr, h1, h2, ap58, p58, n58, q45]; rfl⟩ ⟨rfl, W_tru ?_⟩))
        refine (tail _ hK ⟨by simp +decide (disch := first | omega | simp +decide [hl]) only [s9, simprocAttr, hl], by simp +decide (disch := first | omega | simp +decide [hl]) only [s9, simprocAttr], by simp +decide (disch := first | omega | simp +decide [hl]) only [s9, simprocAttr]⟩).mono ?_
        rintro e s ⟨rfl, h⟩
        simp only [reduceCtorEq, false_and, false_or, or_false, exists_false, exists_const, ne_eq, not_false_eq_true, true_and, implies_true]
        exact ⟨rfl, h⟩
      have hok := Classical.not_not.mp hok
      rw [decide_eq_true hok] at q45
      have hk : readK c addr size = some k := by unfold readK; rw [if_pos hok, hf]
      obtain ⟨hil, hkl⟩ := find_lt hf
      have hrow := fit_row hfit _ hil
      obtain ⟨n, rfl, hn, hn1, hn4, han⟩ := okay_nat hok
      obtain ⟨f0, hxi⟩ := hx.2 _ hil
      rw [← row_eq c _ hil] at hxi
      have hget := way_get (row c (seti c (addr / 16))) hrow.2 k hkl 0 (by omega)
      rw [show ((row c (seti c (addr / 16)))[k]?).getD default = wayN (row c (seti c (addr / 16))) k from rfl, way_state, Nat.add_zero] at hget
      have hcl := enc_len (row c (seti c (addr / 16))) hrow.2
      have hb : seti c (addr / 16) * 1 + 1 ≤ c.sets.length := by omega
      have hb2 : k * 19 + 19 ≤ (row c (seti c (addr / 16))).length * 19 := by omega
      have hb1 : k * 19 + 1 ≤ (row c (seti c (addr / 16))).length * 19 := by omega
      have hgo : (wayN (row c (seti c (addr / 16))) k).state = 2 ∨ (wayN (row c (seti c (addr / 16))) k).state = 3 → ∀ st' : St, (st'.s.length = 91 ∧ rho st'.s (.tmp 1) = .int .u32 (addr : Int) ∧ rho st'.s (.tmp 2) = .int .i64 (n : Int) ∧ rho st'.s (.tmp 3) = .int .u32 v ∧ rho st'.s (.tmp 4) = .ptr 0 0 ∧ rho st'.s (.tmp 8) = .ptr 1 0 ∧ rho st'.s (.tmp 10) = .int .i64 (seti c (addr / 16) : Int) ∧ rho st'.s (.tmp 11) = .int .i64 (k : Int) ∧ st'.g 0 = some [.imm false c.sets.length xs] ∧ st'.g 1 = some [.imm true 0 []] ∧ st'.nx = 46) → W ap (match f43.body with | .seq _ (.seq _ (.seq _ r)) => r | _ => .skip) st' (fun e s => e.leaves = true ∧ ∃ r, (∃ u, r = .tup [u, .bool (writeR c addr (n : Int) v).2] ∧ CacheOf (writeR c addr (n : Int) v).1 u) ∧ ∃ u ids, resT s.s s.g f43.res = some u ∧ frz ⟨s.g, s.nx⟩ frzDepth u = some (r, ids)) := by
        intro hst
        have hK : writeK c addr (n : Int) = some k := by unfold writeK; rw [hk]; exact if_pos hst
        have hR : writeR c addr (n : Int) v = (c.sets.set (seti c (addr / 16)) ((row c (seti c (addr / 16))).set k (wrW (wayN (row c (seti c (addr / 16))) k) (addr % 16) n v)), true) := by unfold writeR; rw [hK]; rfl
        rw [hR]
        clear tail hR hK
        obtain ⟨hu1, hu2, hu3⟩ := set_wr (row c (seti c (addr / 16))) hrow.2 k hkl (addr % 16) n v han
        have hul := enc_len _ hu1
        rw [List.length_set] at hul
        generalize hi : seti c (addr / 16) = i at *
        generalize hL : row c i = l at *
        have hRi : c.sets[i] = l := by rw [← hL, row_eq c i hil]
        generalize haa : addr % 16 = a at *
        rintro ⟨s, g, nx⟩ ⟨hl, h1, h2, h3, h4, h8, h10, h11, g0, g1, hnx⟩
        simp only at hl h1 h2 h3 h4 h8 h10 h11 g0 g1 hnx
        subst hnx
        obtain ⟨N, v', g', nx', hN, c', rfl, hC, hg', hnx'⟩ := copied_run false c.sets xs hx hfit.big.1 hfit.big.2 g (46 + 4)
        have q41 := hN N (Nat.le_refl _)
        obtain ⟨A, els, bf, rfl, gA, hA0, hel, hrows⟩ := rows_copyP hC (by omega)
        obtain ⟨hei, gB, hB0, hBA, hBne⟩ := hrows i hil
        have w1 : g' 1 = some [.imm true 0 []] := by rw [hg' 1 (by omega)]; exact g1
        have hei2 : els[i * 1]? = some (.own (bf i) 0 l.length 19) := by rw [Nat.mul_one, hei, hRi]
        have hcA : cut [T.own A 0 c.sets.length 1] 0 1 = [T.own A 0 c.sets.length 1] := rfl
        have gB' : g' (bf i) = some ((l.set k (updW (wayN l k) a ((bytesOf v n).take 0))).flatMap Way.enc) := by
          have e : updW (wayN l k) a ((bytesOf v n).take 0) = wayN l k := by
            rw [List.take_zero]; unfold updW; rw [updD_nil]
          rw [gB, hRi, e, wayN_eq hkl, List.set_getElem_self]
        simp only [f43]
        refine W_seqn (W_regionN ⟨N, by simp +decide (disch := first | omega | simp +decide [hl]) only [s9, simprocAttr, evI, h4, g0, hcut, ap59, p59, n59, q41]; rfl⟩ ⟨rfl, ?_⟩)
        refine W_abs (fun s => s.s.length = 91 ∧ rho s.s (.tmp 1) = .int .u32 (addr : Int) ∧ rho s.s (.tmp 2) = .int .i64 (n : Int) ∧ rho s.s (.tmp 3) = .int .u32 v ∧ rho s.s (.tmp 8) = .ptr 1 0 ∧ rho s.s (.tmp 10) = .int .i64 (i : Int) ∧ rho s.s (.tmp 11) = .int .i64 (k : Int) ∧ rho s.s (.tmp 13) = .ptr 48 0 ∧ s.g 1 = some [.imm true 0 []] ∧ s.g 48 = some [.own A 0 c.sets.length 1] ∧ s.g A = some els ∧ (∀ j, j < c.sets.length → s.g (bf j) = g' (bf j))) ?_ ?_
        · refine ⟨?_, ?_, ?_, ?_, ?_, ?_, ?_, ?_, ?_, ?_, ?_, fun j hj => ?_⟩
          rotate_right 1
          · have := (hrows j hj).2.2.1
            simp +decide (disch := first | omega | simp +decide [hl]) only [s9, simprocAttr]
          all_goals first | (simp +decide (disch := first | omega | simp +decide [hl]) only [s9, simprocAttr, hl, h1, h2, h3, h8, h10, h11, w1, gA]; done) | (simp +decide (disch := first | omega | simp +decide [hl]) only [s9, simprocAttr, hl, h1, h2, h3, h8, h10, h11, w1, gA]; rfl)
        clear hl h1 h2 h3 h4 h8 h10 h11 g0 g1 w1 hg' hC
        rintro ⟨s, g, nx⟩ ⟨hl, h1, h2, h3, h8, h10, h11, h13, g1, g48, gA', hgb⟩
        simp only at hl h1 h2 h3 h8 h10 h11 h13 g1 g48 gA' hgb
        refine W_seq (W_seqn (W_region (fun k => by simp +decide (disch := first | omega | simp +decide [hl]) only [s9, simprocAttr]; rfl) ⟨rfl, W_block ?_⟩))
        refine rw_loop c.sets.length A (bf i) els hel i hil l hrow.2 hei2 k hkl addr a n haa.symm han hn4 v hv g g48 gA' hB0 hBA _ (fun st hst h8 h10 h11 h13 hg hgB => ?_) (n - 0) _ ⟨0, ?_, ?_, ?_, ?_, ?_, ?_, ?_, ?_, fun t ht => rfl, ?_, ?_, by omega, rfl⟩
        · have hl := hst
          have k1 := hg 1 (by omega)
          have k48 := hg 48 (by omega)
          have kA := hg A (by omega)
          rw [g1] at k1
          rw [g48] at k48
          rw [gA'] at kA
          generalize hE : (l.set k (updW (wayN l k) a (bytesOf v n))).flatMap Way.enc = us at *
          refine .inl ⟨rfl, .inl ⟨rfl, ?_⟩⟩
          refine W_seqn (W_region (fun k => by simp +decide (disch := first | omega | simp +decide [hl]) only [s9, simprocAttr, h13, h10, h11, k48, kA, hgB, hel, hil, hb, hei2, hkl, hul, hb1]; rfl) ⟨rfl, ?_⟩)
          refine W_seqn (W_region (fun k => by simp +decide (disch := first | omega | simp +decide [hl]) only [s9, simprocAttr, h13, h8, k48, k1, hcA]; rfl) ⟨rfl, W_ret ?_⟩)
          generalize hfl : l.set k (wrW (wayN l k) a n v) = fl at *
          have hfll : fl.length = l.length := by rw [← hfl, List.length_set]
          have hRA : RowsAtP (fun _ => True) (put1 (put1 st.g (bf i, some (us.set (k * 19) (.int .i64 3)))) (1, some [.own A 0 c.sets.length 1])) els (c.sets.set i fl) := by
            refine rowsAt_set (g := g') (bf := bf) hel (fun j hj => ?_) i hil fl (by rw [hfll, hRi]) (by rw [put1_ne (by omega), hu2]; exact put1_eq) (fun j hj hji => ?_)
            · obtain ⟨a1, a2, a3, a4, a5⟩ := hrows j hj
              exact ⟨a1, a2, trivial, a5⟩
            · have h1 := (hrows j hj).2.2.1
              have h2 := hBne j hj (fun e => hji e.symm)
              rw [put1_ne (by omega), put1_ne (by omega), hg _ (by omega)]
              exact hgb j hj
          have hL2 : ∀ r ∈ c.sets.set i fl, ∀ w ∈ r, w.wf := fun r hr => by
            rcases List.mem_or_eq_of_mem_set hr with h | rfl
            · exact (hfit.2 r h).2
            · exact hu3
          obtain ⟨ids, e1, _⟩ := frzP_rows (nx := st.nx + 9 + 3) (d := 7) (show c.sets.length = (c.sets.set i fl).length by rw [List.length_set]) hL2 (show put1 (put1 st.g (bf i, some (us.set (k * 19) (.int .i64 3)))) (1, some [.own A 0 c.sets.length 1]) A = some els by rw [put1_ne (by omega), put1_ne (by omega)]; exact kA) trivial hRA
          refine ⟨rfl, _, ⟨_, rfl, ⟨false, _, by rw [List.length_set], tells_rows _⟩⟩, fin_wr (F := f43) (t1 := 8) (t2 := 9) (p1 := 1) rfl e1 ?_ ?_ ?_⟩
          · simp +decide (disch := first | omega | simp +decide [hl]) only [s9, simprocAttr, h8]
          · simp +decide (disch := first | omega | simp +decide [hl]) only [s9, simprocAttr]
          · simp +decide (disch := first | omega | simp +decide [hl]) only [s9, simprocAttr]
        rotate_right 2
        · rw [← gB']; exact hgb i hil
        all_goals first | (simp +decide (disch := first | omega | simp +decide [hl]) only [s9, simprocAttr, hl, h1, h2, h3, h8, h10, h11, h13, Int.pow_zero, Int.ediv_one]; done) | (simp +decide (disch := first | omega | simp +decide [hl]) only [s9, simprocAttr, hl, h1, h2, h3, h8, h10, h11, h13]; rfl)
      rcases st_cases (wayN (row c (seti c (addr / 16))) k).state with ⟨k2, hs⟩ | ⟨k2, k3, hs⟩ | ⟨k2, k3, hs⟩
      · refine W_seqn (W_seqn (W_regionN ⟨N2, by simp +decide (disch := first | omega | simp +decide [hl]) only [s9, simprocAttr, h1, h2, ap58, p58, n58, q45, hxl, hil, hb, hxi, hkl, hcl, hb1, hb2, hget, k2]; rfl⟩ ⟨rfl, W_fls (W_skip ⟨rfl, ?_⟩)⟩))
        refine hgo (.inl hs) _ ⟨?_, ?_, ?_, ?_, ?_, ?_, ?_, ?_, ?_, ?_, ?_⟩
        all_goals first | (simp +decide (disch := first | omega | simp +decide [hl]) only [s9, simprocAttr, hl, h1, h2, h3]; done) | rfl
      · refine W_seqn (W_seqn (W_regionN ⟨N2, by simp +decide (disch := first | omega | simp +decide [hl]) only [s9, simprocAttr, h1, h2, ap58, p58, n58, q45, hxl, hil, hb, hxi, hkl, hcl, hb1, hb2, hget, k2, k3]; rfl⟩ ⟨rfl, W_fls (W_skip ⟨rfl, ?_⟩)⟩))
        refine hgo (.inr hs) _ ⟨?_, ?_, ?_, ?_, ?_, ?_, ?_, ?_, ?_, ?_, ?_⟩
        all_goals first | (simp +decide (disch := first | omega | simp +decide [hl]) only [s9, simprocAttr, hl, h1, h2, h3]; done) | rfl
      · have hK : writeK c addr (n : Int) = none := by unfold writeK; rw [hk]; exact if_neg hs
        refine W_seq (W_seqn (W_regionN ⟨N2, by simp +decide (disch := first | omega | simp +decide [hl]) only [s9, simprocAttr, h1, h2, ap58, p58, n58, q45, hxl, hil, hb, hxi, hkl, hcl, hb1, hb2, hget, k2, k3]; rfl⟩ ⟨rfl, W_tru ?_⟩))
        refine (tail _ hK ⟨by simp +decide (disch := first | omega | simp +decide [hl]) only [s9, simprocAttr, hl], by simp +decide (disch := first | omega | simp +decide [hl]) only [s9, simprocAttr], by simp +decide (disch := first | omega | simp +decide [hl]) only [s9, simprocAttr]⟩).mono ?_
        rintro e s ⟨rfl, h⟩
        simp only [reduceCtorEq, false_and, false_or, or_false, exists_false, exists_const, ne_eq, not_false_eq_true, true_and, implies_true]
        exact ⟨rfl, h⟩
  obtain ⟨r, h, u, rfl, o⟩ := hmain
  exact ⟨u, h, o⟩
theorem fit_writeR {c : Cache} (hfit : Fit c.sets) (addr : Nat) (size v : Int) : Fit (writeR c addr size v).1 := by
  unfold writeR
  cases hK : writeK c addr size with
  | none => exact ⟨by simp, fun l h => by simp at h⟩
  | some k =>
    have hk : readK c addr size = some k := by
      unfold writeK at hK
      cases h : readK c addr size with
      | none => rw [h] at hK; cases hK
      | some j =>
        rw [h] at hK
        simp only at hK
        split at hK
        · exact hK
        · cases hK
    obtain ⟨hok, hf, _⟩ := place_some hk
    obtain ⟨hil, hkl⟩ := find_lt hf
    have hrow := fit_row hfit _ hil
    obtain ⟨n, rfl, hn, hn1, hn4, han⟩ := okay_nat hok
    exact fit_set hfit _ _ ⟨by rw [List.length_set]; exact hrow.1, (set_wr _ hrow.2 k hkl _ _ v (by rw [hn]; exact han)).2.2⟩
end Go.Proofs.YtabfinhkoihhfaaGreat.Abs
