/- Words of other seats' texts, as they are used here: Cm. -/
import Derived.Test.YtabfinhkoihhfaaGreatG07
namespace Go.Proofs.YtabfinhkoihhfaaGreat.Abs
open Go Go.RowKit Fn
set_option linter.unusedVariables false
set_option linter.unusedSimpArgs false
set_option linter.unnecessarySimpa false
set_option maxRecDepth 100000
set_option maxHeartbeats 4000000

def snoopv (s k : Int) : Int := if k = 1 ∧ stv s > 0 then 1 else 0
def backv (s : Int) : Bool := decide (stv s = 3)
def gotv (k : Int) (sh : Bool) : Int := if k = 1 then (if sh then 1 else 2) else 3
theorem stv_range (s : Int) : 0 ≤ stv s ∧ stv s ≤ 3 := by unfold stv; split <;> (try split) <;> omega
def snoopT (s k : Int) : T := .tup [.int .i64 (snoopv s k), .bool (backv s)]
theorem frz_snoop (s k : Int) (h : Hp) : frz h frzDepth (.tup [.int .i64 (snoopv s k), .bool (backv s)]) = some (.tup [.int .i64 (snoopv s k), .bool (backv s)], []) := rfl
theorem bool_eq (s : Int) : (stv s == 3) = backv s := rfl
theorem bus_snoop (s k : Int) (hk : k = 1 ∨ k = 2 ∨ k = 3) : E ap 90 [.int .i64 s, .int .i64 k] (snoopT s k) := by
  refine E_body (F := f90) rfl rfl rfl ?_
  generalize hs0 : (_ : List T) ++ List.replicate _ T.undef = s0
  have e0 : s0.length = 22 ∧ rho s0 (.tmp 0) = .int .i64 s ∧ rho s0 (.tmp 1) = .int .i64 k := by subst hs0; exact ⟨rfl, rfl, rfl⟩
  clear hs0
  obtain ⟨hl, h0, h1⟩ := e0
  obtain ⟨N, q⟩ := (bus_of s).call ap105 (fun g => rfl)
  have q := q N (Nat.le_refl _)
  have hb := bool_eq s
  refine W_seqn (W_region (fun k => by simp +decide only [s8, simprocAttr, hl]; rfl) ⟨rfl, ?_⟩)
  refine W_seqn (W_regionN ⟨N, by simp +decide only [s8, simprocAttr, hl, h0, ap105, p105, n105, q]; rfl⟩ ⟨rfl, ?_⟩)
  refine W_seqn (W_region (fun k => by simp +decide only [s8, simprocAttr, hl, hb]; rfl) ⟨rfl, ?_⟩)
  have hst := stv_range s
  rcases hk with rfl | rfl | rfl
  · have hv : (if 1 < stv s then (1 : Int) else stv s) = snoopv s 1 := by
      unfold snoopv; split <;> split <;> omega
    refine W_seq (W_seqn (W_region (fun k => by simp +decide only [s8, simprocAttr, hl, h1]; rfl) ⟨rfl, W_block ?_⟩))
    refine W_seqn (W_region (fun k => by simp +decide only [s8, simprocAttr, hl]; rfl) ⟨rfl, W_tru ?_⟩)
    refine W_seqn (W_region (fun k => by simp +decide only [s8, simprocAttr, hl, minL, List.foldlM_cons, List.foldlM_nil, Option.bind_eq_bind, Option.bind_some, Option.pure_def, hv]; rfl) ⟨rfl, W_ret ?_⟩)
    simp only [reduceCtorEq, false_and, false_or, or_false, exists_false, exists_const, ne_eq, not_false_eq_true, true_and, implies_true]
    refine fin_of2 (F := f90) rfl (frz_snoop s 1) ?_ ?_ <;> simp +decide only [s8, simprocAttr, hl]
  · refine W_seq (W_seqn (W_region (fun k => by simp +decide only [s8, simprocAttr, hl, h1]; rfl) ⟨rfl, W_block ?_⟩))
    refine W_seqn (W_region (fun k => by simp +decide only [s8, simprocAttr, hl]; rfl) ⟨rfl, W_fls ?_⟩)
    refine W_seqn (W_seqn (W_region (fun k => by simp +decide only [s8, simprocAttr, hl]; rfl) ⟨rfl, W_tru (W_skip ⟨rfl, ?_⟩)⟩))
    refine W_tru ?_
    refine W_seqn (W_region (fun k => by simp +decide only [s8, simprocAttr, hl]; rfl) ⟨rfl, W_ret ?_⟩)
    simp only [reduceCtorEq, false_and, false_or, or_false, exists_false, exists_const, ne_eq, not_false_eq_true, true_and, implies_true]
    refine fin_of2 (F := f90) rfl (frz_snoop s 2) ?_ ?_ <;> simp +decide only [s8, simprocAttr, hl] <;> rfl
  · refine W_seq (W_seqn (W_region (fun k => by simp +decide only [s8, simprocAttr, hl, h1]; rfl) ⟨rfl, W_block ?_⟩))
    refine W_seqn (W_region (fun k => by simp +decide only [s8, simprocAttr, hl]; rfl) ⟨rfl, W_fls ?_⟩)
    refine W_seqn (W_seqn (W_region (fun k => by simp +decide only [s8, simprocAttr, hl]; rfl) ⟨rfl, W_fls (W_region (fun k => by simp +decide only [s8, simprocAttr, hl]; rfl) ⟨rfl, ?_⟩)⟩))
    refine W_tru ?_
    refine W_seqn (W_region (fun k => by simp +decide only [s8, simprocAttr, hl]; rfl) ⟨rfl, W_ret ?_⟩)
    simp only [reduceCtorEq, false_and, false_or, or_false, exists_false, exists_const, ne_eq, not_false_eq_true, true_and, implies_true]
    refine fin_of2 (F := f90) rfl (frz_snoop s 3) ?_ ?_ <;> simp +decide only [s8, simprocAttr, hl] <;> rfl
theorem ref_snoop (s k : Int) (hk : k = 1 ∨ k = 2 ∨ k = 3) : E ap 77 [.int .i64 s, .int .i64 k] (snoopT s k) := by
  refine E_body (F := f77) rfl rfl rfl ?_
  generalize hs0 : (_ : List T) ++ List.replicate _ T.undef = s0
  have e0 : s0.length = 27 ∧ rho s0 (.tmp 0) = .int .i64 s ∧ rho s0 (.tmp 1) = .int .i64 k := by subst hs0; exact ⟨rfl, rfl, rfl⟩
  clear hs0
  obtain ⟨hl, h0, h1⟩ := e0
  obtain ⟨N, q⟩ := (ref_state54 s).call ap103 (fun g => rfl)
  have q := q N (Nat.le_refl _)
  have hb := bool_eq s
  have hst := stv_range s
  refine W_seqn (W_region (fun k => by simp +decide only [s8, simprocAttr, hl]; rfl) ⟨rfl, ?_⟩)
  refine W_seqn (W_regionN ⟨N, by simp +decide only [s8, simprocAttr, hl, h0, ap103, p103, n103, q, hb]; rfl⟩ ⟨rfl, ?_⟩)
  rcases hk with rfl | rfl | rfl
  · refine W_seqn (W_seqn (W_region (fun k => by simp +decide only [s8, simprocAttr, hl, h1]; rfl) ⟨rfl, W_fls (W_skip ⟨rfl, ?_⟩)⟩))
    by_cases hp : stv s > 0
    · have hd : decide (stv s > 0) = true := decide_eq_true hp
      have hv : snoopv s 1 = 1 := by unfold snoopv; rw [if_pos ⟨rfl, hp⟩]
      refine W_seq (W_seqn (W_regionN ⟨N, by simp +decide only [s8, simprocAttr, hl, h0, h1, ap103, p103, n103, q, hd]; rfl⟩ ⟨rfl, W_tru ?_⟩))
      refine W_seqn (W_region (fun k => by simp +decide only [s8, simprocAttr, hl]; rfl) ⟨rfl, W_ret ?_⟩)
      simp only [reduceCtorEq, false_and, false_or, or_false, exists_false, exists_const, ne_eq, not_false_eq_true, true_and, implies_true]
      refine fin_of2 (F := f77) rfl (frz_snoop s 1) ?_ ?_ <;> simp +decide only [s8, simprocAttr, hl, hv]
    · have hd : decide (stv s > 0) = false := decide_eq_false hp
      have hv : snoopv s 1 = stv s := by unfold snoopv; rw [if_neg (fun h => hp h.2)]; omega
      have hv2 : backv s = false := decide_eq_false (by omega)
      refine W_seqn (W_seqn (W_regionN ⟨N, by simp +decide only [s8, simprocAttr, hl, h0, h1, ap103, p103, n103, q, hd]; rfl⟩ ⟨rfl, W_fls (W_skip ⟨rfl, ?_⟩)⟩))
      refine W_seqn (W_regionN ⟨N, by simp +decide only [s8, simprocAttr, hl, h0, ap103, p103, n103, q]; rfl⟩ ⟨rfl, W_ret ?_⟩)
      refine fin_of2 (F := f77) rfl (frz_snoop s 1) ?_ ?_ <;> simp +decide only [s8, simprocAttr, hl, hv, hv2]
  · refine W_seq (W_seqn (W_region (fun k => by simp +decide only [s8, simprocAttr, hl, h1]; rfl) ⟨rfl, W_tru ?_⟩))
    refine W_seqn (W_region (fun k => by simp +decide only [s8, simprocAttr, hl]; rfl) ⟨rfl, W_ret ?_⟩)
    simp only [reduceCtorEq, false_and, false_or, or_false, exists_false, exists_const, ne_eq, not_false_eq_true, true_and, implies_true]
    refine fin_of2 (F := f77) rfl (frz_snoop s 2) ?_ ?_ <;> simp +decide only [s8, simprocAttr, hl] <;> rfl
  · refine W_seq (W_seqn (W_region (fun k => by simp +decide only [s8, simprocAttr, hl, h1]; rfl) ⟨rfl, W_tru ?_⟩))
    refine W_seqn (W_region (fun k => by simp +decide only [s8, simprocAttr, hl]; rfl) ⟨rfl, W_ret ?_⟩)
    simp only [reduceCtorEq, false_and, false_or, or_false, exists_false, exists_const, ne_eq, not_false_eq_true, true_and, implies_true]
    refine fin_of2 (F := f77) rfl (frz_snoop s 3) ?_ ?_ <;> simp +decide only [s8, simprocAttr, hl] <;> rfl
theorem bus_got (k : Int) (b : Bool) (hk : k = 1 ∨ k = 2 ∨ k = 3) : E ap 93 [.int .i64 k, .bool b] (.int .i64 (gotv k b)) := by
  rcases hk with rfl | rfl | rfl <;> cases b <;> exact E_of (k := 12) (by kernel_rfl)
theorem ref_got (k : Int) (b : Bool) (hk : k = 1 ∨ k = 2 ∨ k = 3) : E ap 80 [.int .i64 k, .bool b] (.int .i64 (gotv k b)) := by
  rcases hk with rfl | rfl | rfl <;> cases b <;> exact E_of (k := 12) (by kernel_rfl)
theorem ref_lies (m : Coh) (hm : m.wf) (ln : Nat) (hln : ln ≤ 4294967295) : E ap 74 [.agg [memT m, cachT m], .int .u32 (ln : Int)] (.bool (decide (ln * 16 + 16 ≤ m.mem.length))) := by
  refine E_body (F := f74) rfl rfl rfl ?_
  generalize hs0 : (_ : List T) ++ List.replicate _ T.undef = s0
  have e0 : s0.length = 14 ∧ rho s0 (.tmp 0) = .agg [memT m, cachT m] ∧ rho s0 (.tmp 1) = .int .u32 (ln : Int) := by subst hs0; exact ⟨rfl, rfl, rfl⟩
  clear hs0
  obtain ⟨hl, h0, h1⟩ := e0
  have hleaf : allLeaf [memT m, cachT m] = true := rfl
  have hmm : memT m = .imm false m.mem.length (m.mem.flatMap (fun n => [T.int .u8 n])) := rfl
  have hmx := max_small
  have hml := hm.1
  have w1 : IntKind.u64.wrap (ln : Int) = (ln : Int) := by rw [wrap_u64]; omega
  have w2 : IntKind.u64.wrap ((ln : Int) * 16) = (ln : Int) * 16 := by rw [wrap_u64]; omega
  have w3 : IntKind.u64.wrap ((ln : Int) * 16 + 16) = (ln : Int) * 16 + 16 := by rw [wrap_u64]; omega
  have w4 : IntKind.u64.wrap (m.mem.length : Int) = (m.mem.length : Int) := by rw [wrap_u64]; omega
  have hd : decide ((ln : Int) * 16 + 16 ≤ (m.mem.length : Int)) = decide (ln * 16 + 16 ≤ m.mem.length) := decide_eq_decide.mpr (by omega)
  refine W_seqn (W_region (fun k => by simp +decide only [s8, simprocAttr, hl, h0, hleaf]; rfl) ⟨rfl, ?_⟩)
  refine W_seqn (W_region (fun k => by simp +decide only [s8, simprocAttr, hl, h1, hmm, w1, w2, w3, w4, hd]; rfl) ⟨rfl, W_ret ?_⟩)
  refine fin_of (F := f74) rfl (fun _ => rfl) ?_
  simp +decide only [s8, simprocAttr, hl]
theorem bus_lies (m : Coh) (hm : m.wf) (ln : Nat) (hln : ln ≤ 4294967295) : E ap 89 [.agg [memT m, cachT m], .int .u32 (ln : Int)] (.bool (decide (ln * 16 + 16 ≤ m.mem.length))) := by
  refine E_body (F := f89) rfl rfl rfl ?_
  generalize hs0 : (_ : List T) ++ List.replicate _ T.undef = s0
  have e0 : s0.length = 14 ∧ rho s0 (.tmp 0) = .agg [memT m, cachT m] ∧ rho s0 (.tmp 1) = .int .u32 (ln : Int) := by subst hs0; exact ⟨rfl, rfl, rfl⟩
  clear hs0
  obtain ⟨hl, h0, h1⟩ := e0
  have hleaf : allLeaf [memT m, cachT m] = true := rfl
  have hmm : memT m = .imm false m.mem.length (m.mem.flatMap (fun n => [T.int .u8 n])) := rfl
  have hmx := max_small
  have hml := hm.1
  have w1 : IntKind.u64.wrap (ln : Int) = (ln : Int) := by rw [wrap_u64]; omega
  have w2 : IntKind.u64.wrap ((ln : Int) + 1) = (ln : Int) + 1 := by rw [wrap_u64]; omega
  have w3 : IntKind.u64.wrap (((ln : Int) + 1) * 16) = ((ln : Int) + 1) * 16 := by rw [wrap_u64]; omega
  have w4 : IntKind.u64.wrap (m.mem.length : Int) = (m.mem.length : Int) := by rw [wrap_u64]; omega
  have hd : decide (((ln : Int) + 1) * 16 ≤ (m.mem.length : Int)) = decide (ln * 16 + 16 ≤ m.mem.length) := decide_eq_decide.mpr (by omega)
  refine W_seqn (W_region (fun k => by simp +decide only [s8, simprocAttr, hl, h0, hleaf]; rfl) ⟨rfl, ?_⟩)
  refine W_seqn (W_region (fun k => by simp +decide only [s8, simprocAttr, hl, h1, hmm, w1, w2, w3, w4, hd]; rfl) ⟨rfl, W_ret ?_⟩)
  refine fin_of (F := f89) rfl (fun _ => rfl) ?_
  simp +decide only [s8, simprocAttr, hl]
abbrev u8T : Int → List T := fun n => [T.int .u8 n]
def spl : List Int → Nat → List Int → List Int
  | m, _, [] => m
  | m, o, x :: l => spl (m.set o x) (o + 1) l
theorem spl_len : ∀ (l m : List Int) (o : Nat), (spl m o l).length = m.length
  | [], _, _ => rfl
  | x :: l, m, o => by rw [spl, spl_len l, List.length_set]
theorem spl_get : ∀ (l m : List Int) (o : Nat), o + l.length ≤ m.length → ∀ j, (spl m o l)[j]? = if o ≤ j ∧ j < o + l.length then l[j - o]? else m[j]?
  | [], m, o, _, j => by rw [spl, if_neg (by rw [List.length_nil]; omega)]
  | x :: l, m, o, h, j => by
    have hl : (x :: l).length = l.length + 1 := rfl
    rw [spl, spl_get l (m.set o x) (o + 1) (by rw [List.length_set]; omega) j]
    by_cases hj : o = j
    · subst hj
      rw [if_neg (by omega), if_pos (by omega), List.getElem?_set_self (by omega), Nat.sub_self]; rfl
    · rw [List.getElem?_set_ne hj]
      by_cases h1 : o + 1 ≤ j ∧ j < o + 1 + l.length
      · rw [if_pos h1, if_pos (by omega), show j - o = (j - (o + 1)) + 1 from by omega, List.getElem?_cons_succ]
      · rw [if_neg h1, if_neg (by omega)]
theorem spl_take_succ (m : List Int) (o : Nat) (l : List Int) (i : Nat) (h : o + l.length ≤ m.length) (hi : i < l.length) : spl m o (l.take (i + 1)) = (spl m o (l.take i)).set (o + i) l[i] := by
  apply List.ext_getElem?
  intro j
  have e1 : (l.take (i + 1)).length = i + 1 := by rw [List.length_take]; omega
  have e2 : (l.take i).length = i := by rw [List.length_take]; omega
  rw [spl_get _ _ _ (by omega), List.getElem?_set, spl_len, spl_get _ _ _ (by omega), e1, e2]
  by_cases hj : o + i = j
  · subst hj
    rw [if_pos rfl, if_pos (by omega), if_pos (by omega), show o + i - o = i from by omega, List.getElem?_take, if_pos (by omega), List.getElem?_eq_getElem hi]
  · rw [if_neg hj]
    by_cases h1 : o ≤ j ∧ j < o + i
    · rw [if_pos h1, if_pos (by omega), List.getElem?_take, List.getElem?_take, if_pos (by omega), if_pos (by omega)]
    · rw [if_neg h1, if_neg (by omega)]
theorem set_u8 : ∀ (m : List Int) (o : Nat) (x : Int), (m.set o x).flatMap u8T = (m.flatMap u8T).set o (.int .u8 x)
  | [], _, _ => rfl
  | y :: m, 0, x => rfl
  | y :: m, o + 1, x => by
    show ([T.int .u8 y] ++ (m.set o x).flatMap u8T) = (T.int .u8 y :: m.flatMap u8T).set (o + 1) _
    rw [set_u8 m o x]; rfl
theorem spl_u8 : ∀ (l m : List Int) (o : Nat), (spl m o l).flatMap u8T = splice (m.flatMap u8T) o (l.flatMap u8T)
  | [], _, _ => rfl
  | x :: l, m, o => by
    show (spl (m.set o x) (o + 1) l).flatMap u8T = splice ((m.flatMap u8T).set o (.int .u8 x)) (o + 1) (l.flatMap u8T)
    rw [spl_u8 l, set_u8]
theorem spl_bytes : ∀ (l m : List Int) (o : Nat), (∀ y ∈ m, (Lit.int .u8 y).wf = true) → (∀ y ∈ l, (Lit.int .u8 y).wf = true) → ∀ y ∈ spl m o l, (Lit.int .u8 y).wf = true
  | [], _, _, h, _ => h
  | x :: l, m, o, h, h' => by
    rw [spl]
    refine spl_bytes l _ _ (fun y hy => ?_) (fun y hy => h' y (List.mem_cons_of_mem _ hy))
    rcases List.mem_or_eq_of_mem_set hy with hy | rfl
    · exact h y hy
    · exact h' _ List.mem_cons_self
theorem u8_len (m : List Int) : (m.flatMap u8T).length = m.length := by rw [flat_len (f := u8T) (k := 1) (fun _ => rfl), Nat.mul_one]
theorem u8_get (m : List Int) (i : Nat) (h : i < m.length) : (m.flatMap u8T)[i * 1]? = some (.int .u8 m[i]) := by
  have := flat_get (f := u8T) (k := 1) (fun _ => rfl) m i h 0 (by omega)
  rw [Nat.add_zero] at this
  rw [this]; rfl
theorem u8_leaf (m : List Int) : allLeaf (m.flatMap u8T) = true := flat_leaf (f := u8T) (fun _ => rfl) m
def ListAt (P : Nat → Prop) (g : Mem) (x : T) (c : List T) : Prop := (∃ f, x = .imm f c.length c) ∨ ∃ A, P A ∧ x = .own A 0 c.length 1 ∧ g A = some c
def CohIn (P : Nat → Prop) (g : Mem) (x y : T) (m : Coh) : Prop := ListAt P g x (m.mem.flatMap u8T) ∧ ∃ ys, UpL (m.caches.flatMap Cache.enc) ys ∧ ListAt P g y ys
theorem ListAt.mono {P P' : Nat → Prop} {g g' : Mem} {x : T} {c : List T} (h : ListAt P g x c) (hP : ∀ t, P t → P' t) (hg : ∀ t, P t → g' t = g t) : ListAt P' g' x c := by
  rcases h with h | ⟨A, pA, h1, h2⟩
  · exact .inl h
  · exact .inr ⟨A, hP A pA, h1, by rw [hg A pA]; exact h2⟩
theorem CohIn.mono {P P' : Nat → Prop} {g g' : Mem} {x y : T} {m : Coh} (h : CohIn P g x y m) (hP : ∀ t, P t → P' t) (hg : ∀ t, P t → g' t = g t) : CohIn P' g' x y m := by
  obtain ⟨h1, ys, h2, h3⟩ := h
  exact ⟨h1.mono hP hg, ys, h2, h3.mono hP hg⟩
theorem ListAt.leaf {P : Nat → Prop} {g : Mem} {x : T} {c : List T} (h : ListAt P g x c) : x.leaf = true := by
  rcases h with ⟨f, rfl⟩ | ⟨A, _, rfl, _⟩ <;> rfl
theorem CohIn.leaf {P : Nat → Prop} {g : Mem} {x y : T} {m : Coh} (h : CohIn P g x y m) : allLeaf [x, y] = true := by
  obtain ⟨h1, ys, _, h3⟩ := h
  show ([x, y].all T.leaf) = true
  rw [List.all_cons, List.all_cons, h1.leaf, h3.leaf]; rfl
theorem ListAt.cells {P : Nat → Prop} {g : Mem} {x : T} {c : List T} (h : ListAt P g x c) : ∃ rd, cellsOf g 1 x = some (c.length, c, rd) ∧ ∀ t ∈ rd, P t := by
  rcases h with ⟨f, rfl⟩ | ⟨A, pA, rfl, hg⟩
  · exact ⟨[], rfl, fun t ht => by simp at ht⟩
  · refine ⟨[A], ?_, fun t ht => by simp at ht; rw [ht]; exact pA⟩
    have e : cut c 0 (c.length * 1) = c := cut_all (by omega)
    simp only [cellsOf, if_true, hg, e, if_pos (show 0 + c.length * 1 ≤ c.length by omega)]
theorem memT_is (m : Coh) : memT m = .imm false (m.mem.flatMap u8T).length (m.mem.flatMap u8T) := by rw [u8_len]; rfl
theorem caches_len' (m : Coh) : (m.caches.flatMap Cache.enc).length = m.caches.length := caches_len m
theorem cachT_is (m : Coh) : cachT m = .imm false (m.caches.flatMap Cache.enc).length (m.caches.flatMap Cache.enc) := by rw [caches_len]; rfl
theorem coh_imm (P : Nat → Prop) (g : Mem) (m : Coh) : CohIn P g (memT m) (cachT m) m := ⟨.inl ⟨false, memT_is m⟩, _, UpL.refl _, .inl ⟨false, cachT_is m⟩⟩
theorem frzAll_imm {h : Hp} {d : Nat} : ∀ l : List T, (∀ x ∈ l, ∃ f n c, x = .imm f n c) → frzAll (frz h (d + 1)) l = some (l, [])
  | [], _ => rfl
  | x :: l, hx => by
    obtain ⟨f, n, c, rfl⟩ := hx x List.mem_cons_self
    have e : frz h (d + 1) (.imm f n c) = some (.imm f n c, []) := rfl
    simp only [frzAll, e, frzAll_imm l (fun y hy => hx y (List.mem_cons_of_mem _ hy)), List.append_nil]
theorem upL_imm : ∀ {l l' : List T}, UpL l l' → (∀ x ∈ l, ∃ f n c, x = .imm f n c) → ∀ y ∈ l', ∃ f n c, y = .imm f n c
  | [], l', h, _, y, hy => by simp only [UpL] at h; subst h; simp at hy
  | x :: l, l', h, hx, y, hy => by
    simp only [UpL] at h
    obtain ⟨v, vs, rfl, h1, h2⟩ := h
    rcases List.mem_cons.mp hy with rfl | hy
    · obtain ⟨f, n, c, rfl⟩ := hx x List.mem_cons_self
      obtain ⟨f', c', e, _⟩ := h1.imm
      exact ⟨f', n, c', e⟩
    · exact upL_imm h2 (fun z hz => hx z (List.mem_cons_of_mem _ hz)) y hy
theorem caches_imm (m : Coh) : ∀ x ∈ m.caches.flatMap Cache.enc, ∃ f n c, x = .imm f n c := by
  intro x hx
  obtain ⟨c, _, hc⟩ := List.mem_flatMap.mp hx
  rw [cache_enc] at hc
  simp at hc
  exact ⟨_, _, _, hc⟩
theorem u8_ints (l : List Int) : ∀ x ∈ l.flatMap u8T, ∃ k n, x = .int k n := by
  intro x hx
  obtain ⟨c, _, hc⟩ := List.mem_flatMap.mp hx
  simp at hc
  exact ⟨_, _, hc⟩
theorem ListAt.frz {P : Nat → Prop} {g : Mem} {x : T} {c : List T} {d nx : Nat} (h : ListAt P g x c) (hf : frzAll (Abs.frz ⟨g, nx⟩ (d + 1)) c = some (c, [])) : ∃ f, FrzP ⟨g, nx⟩ (d + 2) P x (.imm f c.length c) := by
  rcases h with ⟨f, rfl⟩ | ⟨A, pA, rfl, hg⟩
  · exact ⟨f, [], rfl, fun t ht => by simp at ht⟩
  · exact ⟨false, frzP_own (h := ⟨g, nx⟩) hg (by omega) pA ⟨[], hf, fun t ht => by simp at ht⟩⟩
theorem upT_immR {c c' : List T} {f : Bool} (h : UpL c c') : UpT (.imm false c.length c) (.imm f c'.length c') := by rw [h.len]; exact upT_imm (fun e => by cases e) h
theorem coh_args {P : Nat → Prop} {g : Mem} {x y : T} {m : Coh} (h : CohIn P g x y m) (tl rest : List T) (ht : ∀ x ∈ tl, ∃ k n, x = .int k n) (hr : ∀ x ∈ rest, ∃ k n, x = .int k n) :
    ∃ x' y', UpL [memT m, cachT m] [x', y'] ∧ ∃ ids, frzL ⟨g, 0⟩ frzDepth (.agg (x :: y :: tl) :: rest) = some (.agg (x' :: y' :: tl) :: rest, ids) ∧ ∀ t ∈ ids, P t := by
  obtain ⟨h1, ys, hu, h2⟩ := h
  obtain ⟨f, is, e1, p1⟩ := h1.frz (d := 9) (nx := 0) (frzAll_int _ (u8_ints _))
  obtain ⟨f', js, e2, p2⟩ := h2.frz (d := 9) (nx := 0) (frzAll_imm _ (upL_imm hu (caches_imm m)))
  refine ⟨.imm f (m.mem.flatMap u8T).length (m.mem.flatMap u8T), .imm f' ys.length ys, ?_, is ++ js, ?_, fun t ht => ?_⟩
  · rw [memT_is, cachT_is]
    exact UpL.cons (upT_immR (UpL.refl _)) (UpL.cons (upT_immR (f := f') hu) UpL.nil)
  · have e3 : frzAll (frz ⟨g, 0⟩ 11) tl = some (tl, []) := frzAll_int _ ht
    have e4 : frzAll (frz ⟨g, 0⟩ 12) rest = some (rest, []) := frzAll_int _ hr
    have e5 : frz ⟨g, 0⟩ 12 (.agg (x :: y :: tl)) = some (.agg (.imm f (m.mem.flatMap u8T).length (m.mem.flatMap u8T) :: .imm f' ys.length ys :: tl), is ++ js) := by
      rw [frz]
      simp only [frzAll, e1, e2, e3, List.append_nil]
    unfold frzL
    rw [show frzDepth = 12 from rfl, frzAll]
    simp only [e5, e4, List.append_nil]
  · rcases List.mem_append.mp ht with h | h
    · exact p1 t h
    · exact p2 t h
theorem upL_ints : ∀ {l l' : List T}, UpL l l' → (∀ x ∈ l, ∃ k n, x = .int k n) → l' = l
  | [], l', h, _ => by simp only [UpL] at h; exact h
  | x :: l, l', h, hx => by
    simp only [UpL] at h
    obtain ⟨v, vs, rfl, h1, h2⟩ := h
    obtain ⟨k, n, rfl⟩ := hx x List.mem_cons_self
    rw [h1.int, upL_ints h2 (fun y hy => hx y (List.mem_cons_of_mem _ hy))]
theorem E.callU {AP : AProg} {f : Nat} {F : AFun} {args args' : List T} {v : T} (h : E AP f args v) (hF : AP f = some F) (hu : UpL args args') : ∃ N v', UpT v v' ∧ ∀ k, N ≤ k → ∀ (g : Mem) (args0 : List T) (ids : List Nat), frzL ⟨g, 0⟩ frzDepth args0 = some (args', ids) → callPure (ev AP k) F args0 g = some ⟨v', ids, if v'.flat then [] else ids.map fun t => (t, none)⟩ := by
  obtain ⟨v', h', hv⟩ := h.up hu
  obtain ⟨N, hN⟩ := h'.run hF
  refine ⟨N, v', hv, fun k hk g args0 ids hf => ?_⟩
  have hr := hN (k - N)
  rw [Nat.sub_add_cancel hk] at hr
  unfold callPure
  rw [hf]
  simp only [hr]
theorem E.callF {AP : AProg} {f : Nat} {F : AFun} {args args' : List T} {v : T} (h : E AP f args v) (hF : AP f = some F) (hu : UpL args args') (hv : ∀ v', UpT v v' → v' = v) (hfl : v.flat = true) : ∃ N, ∀ k, N ≤ k → ∀ (g : Mem) (args0 : List T) (ids : List Nat), frzL ⟨g, 0⟩ frzDepth args0 = some (args', ids) → callPure (ev AP k) F args0 g = some ⟨v, ids, []⟩ := by
  obtain ⟨N, v', h1, h2⟩ := h.callU hF hu
  obtain rfl := hv v' h1
  refine ⟨N, fun k hk g args0 ids hf => ?_⟩
  have := h2 k hk g args0 ids hf
  rw [hfl] at this
  exact this
theorem way_up (w : Way) : ∀ v', UpT (.agg w.enc) v' → v' = .agg w.enc := by
  intro v' h
  obtain ⟨c', rfl, h'⟩ := h.agg
  rw [upL_ints h' (way_ints w)]
theorem flat_ints : ∀ l : List T, (∀ x ∈ l, ∃ k n, x = .int k n) → T.flatL l = true
  | [], _ => rfl
  | x :: l, h => by
    obtain ⟨k, n, rfl⟩ := h x List.mem_cons_self
    simp only [T.flatL]
    exact flat_ints l (fun y hy => h y (List.mem_cons_of_mem _ hy))
theorem way_flat (w : Way) : (T.agg w.enc).flat = true := flat_ints _ (way_ints w)
theorem bool_up (b : Bool) : ∀ v', UpT (.bool b) v' → v' = .bool b := fun v' h => h.bool
theorem int_up (k : IntKind) (n : Int) : ∀ v', UpT (.int k n) v' → v' = .int k n := fun v' h => h.int
theorem ints_nil : ∀ x ∈ ([] : List T), ∃ k n, x = .int k n := fun x h => by simp at h
theorem ints_one (k : IntKind) (n : Int) : ∀ x ∈ [T.int k n], ∃ k n, x = .int k n := fun x h => by simp at h; exact ⟨k, n, h⟩
theorem ints_two (k k' : IntKind) (n n' : Int) : ∀ x ∈ [T.int k n, T.int k' n'], ∃ k n, x = .int k n := fun x h => by
  simp at h
  rcases h with h | h <;> exact ⟨_, _, h⟩
theorem up_tl {a b x' y' : T} (h : UpL [a, b] [x', y']) (tl rest : List T) : UpL (.agg (a :: b :: tl) :: rest) (.agg (x' :: y' :: tl) :: rest) := by
  refine UpL.cons (upT_agg ?_) (UpL.refl _)
  have := h.append (UpL.refl tl)
  exact this
end Go.Proofs.YtabfinhkoihhfaaGreat.Abs
