/- Words of other seats' texts, as they are used here: Sees. -/
import Derived.Test.YtabfinhkoihhfaaGreatFn
import Derived.Test.YtabfinhkoihhfaaGreatTy
import Derived.Test.YtabfinhkoihhfaaGreatD4
import Derived.Test.YtabfinhkoihhfaaGreatC7
namespace Go.Proofs.YtabfinhkoihhfaaGreat.Abs
open Go Go.RowKit Fn
set_option linter.unusedVariables false
set_option linter.unusedSimpArgs false
set_option linter.unnecessarySimpa false
set_option maxRecDepth 100000
set_option maxHeartbeats 4000000
abbrev s8 := And.intro sims autos
abbrev s9 := And.intro s8 hps

theorem fin_of3 {F : AFun} {t1 t2 t3 : Nat} {a b c : T} (hF : F.res = [.tmp t1, .tmp t2, .tmp t3]) (hv : ∀ h : Hp, frz h frzDepth (.tup [a, b, c]) = some (.tup [a, b, c], [])) {s : List T} {g : Mem} {nx : Nat} (h1 : rho s (.tmp t1) = a) (h2 : rho s (.tmp t2) = b) (h3 : rho s (.tmp t3) = c) : AExit.ret.leaves = true ∧ ∃ u ids, resT s g F.res = some u ∧ frz ⟨g, nx⟩ frzDepth u = some (.tup [a, b, c], ids) :=
  ⟨rfl, .tup [a, b, c], [], by rw [hF]; simp only [resT, resL, resOne, h1, h2, h3], hv _⟩
def rowT (l : List Way) : T := .imm false l.length (l.flatMap Way.enc)
def setsT (c : Cache) : T := .imm false c.sets.length (c.sets.flatMap (fun l => [rowT l]))
theorem cache_enc (c : Cache) : c.enc = [setsT c] := rfl
def seti (c : Cache) (ln : Nat) : Nat := ln % c.sets.length
def row (c : Cache) (s : Nat) : List Way := (c.sets[s]?).getD []
def isAt (ln : Nat) (w : Way) : Bool := w.tag == (ln : Int) && w.state != 0
def fnd (l : List Way) (ln : Nat) : Nat → Nat → Option Nat
  | _, 0 => none
  | k, m + 1 => if isAt ln ((l[k]?).getD default) then some k else fnd l ln (k + 1) m
def find (c : Cache) (ln : Nat) : Option Nat := if c.sets.length = 0 then none else fnd (row c (seti c ln)) ln 0 (row c (seti c ln)).length
def findT (c : Cache) (ln : Nat) : T := match find c ln with
  | some k => .tup [.int .i64 (seti c ln : Int), .int .i64 (k : Int), .bool true]
  | none => .tup [.int .i64 0, .int .i64 0, .bool false]
theorem ref_set (c : Cache) (ln : Nat) (hln : ln ≤ 4294967295) : E ap 85 [.agg [setsT c], .int .u32 (ln : Int)] (.int .i64 (if c.sets.length = 0 then -1 else (seti c ln : Int))) := by
  refine E_body (F := f85) rfl rfl rfl ?_
  generalize hs0 : (_ : List T) ++ List.replicate _ T.undef = s0
  have e0 : s0.length = 15 ∧ rho s0 (.tmp 0) = .agg [setsT c] ∧ rho s0 (.tmp 1) = .int .u32 (ln : Int) := by subst hs0; exact ⟨rfl, rfl, rfl⟩
  clear hs0
  obtain ⟨hl, h0, h1⟩ := e0
  have hleaf : allLeaf [setsT c] = true := rfl
  have hg : ([setsT c] : List T)[0]? = some (.imm false c.sets.length (c.sets.flatMap (fun l => [rowT l]))) := rfl
  refine W_seqn (W_region (fun k => by simp +decide only [s8, simprocAttr, hl, h0, hleaf]; rfl) ⟨rfl, ?_⟩)
  by_cases hz : c.sets.length = 0
  · have hz0 : ((c.sets.length : Int) == 0) = true := by simp [hz]
    refine W_seq (W_seqn (W_region (fun k => by simp +decide only [s8, simprocAttr, hl, hg, hz0]; rfl) ⟨rfl, W_tru ?_⟩))
    refine W_seqn (W_region (fun k => by simp +decide only [s8, simprocAttr]; rfl) ⟨rfl, W_ret ?_⟩)
    simp only [reduceCtorEq, false_and, false_or, or_false, exists_false, exists_const, ne_eq, not_false_eq_true, true_and, implies_true]
    refine fin_of (F := f85) rfl (fun _ => rfl) ?_
    simp +decide only [s8, simprocAttr, hl, hz]
  · have hz0 : ((c.sets.length : Int) == 0) = false := beq_eq_false_iff_ne.mpr (by omega)
    have hnz : (c.sets.length : Int) ≠ 0 := by omega
    have hw : IntKind.i64.wrap (ln : Int) = (ln : Int) := wrap_id (by omega)
    have hm : (ln : Int).tmod (c.sets.length : Int) = (seti c ln : Int) := by rw [Int.tmod_eq_emod_of_nonneg (by omega)]; rfl
    refine W_seqn (W_seqn (W_region (fun k => by simp +decide only [s8, simprocAttr, hl, hg, hz0]; rfl) ⟨rfl, W_fls (W_skip ⟨rfl, ?_⟩)⟩))
    refine W_seqn (W_region (fun k => by simp +decide only [s8, simprocAttr, hl, h1, hg, hw, hnz, hm]; rfl) ⟨rfl, W_ret ?_⟩)
    refine fin_of (F := f85) rfl (fun _ => rfl) ?_
    simp +decide only [s8, simprocAttr, hl, hz]

/-! Rows of ways. -/
theorem flat_lenM {α : Type} {f : α → List T} {k : Nat} : ∀ l : List α, (∀ a ∈ l, (f a).length = k) → (l.flatMap f).length = l.length * k
  | [], _ => by simp
  | x :: l, hf => by rw [List.flatMap_cons, List.length_append, hf x (List.mem_cons_self ..), flat_lenM l (fun a h => hf a (List.mem_cons_of_mem _ h)), List.length_cons, Nat.add_mul, Nat.one_mul, Nat.add_comm]
theorem flat_getM {α : Type} {f : α → List T} {k : Nat} : ∀ (l : List α), (∀ a ∈ l, (f a).length = k) → ∀ (i : Nat) (h : i < l.length) (j : Nat), j < k → (l.flatMap f)[i * k + j]? = (f l[i])[j]?
  | [], _, i, h, _, _ => by simp at h
  | x :: l, hf, 0, h, j, hj => by
    rw [List.flatMap_cons, Nat.zero_mul, Nat.zero_add, List.getElem?_append_left (by rw [hf x (List.mem_cons_self ..)]; exact hj)]; rfl
  | x :: l, hf, i + 1, h, j, hj => by
    have e : (i + 1) * k + j = k + (i * k + j) := by rw [Nat.add_mul, Nat.one_mul]; omega
    rw [List.flatMap_cons, List.getElem?_append_right (by rw [hf x (List.mem_cons_self ..), e]; omega), hf x (List.mem_cons_self ..), e, Nat.add_sub_cancel_left, flat_getM l (fun a h => hf a (List.mem_cons_of_mem _ h)) i (by simpa using h) j hj]; rfl
theorem flat_cutM {α : Type} {f : α → List T} {k : Nat} (l : List α) (hf : ∀ a ∈ l, (f a).length = k) (i : Nat) (h : i < l.length) : cut (l.flatMap f) (i * k) k = f l[i] := by
  apply List.ext_getElem?
  intro q
  rw [cut_get]
  split
  · rw [flat_getM l hf i h q (by omega)]
  · rename_i hq
    rw [List.getElem?_eq_none]; rw [hf _ (List.getElem_mem h)]; omega
theorem way_len {w : Way} (h : w.wf) : w.enc.length = 19 := by
  have := h.2.2.1.1
  simp [Way.enc, flat_len (f := fun n => [T.int .u8 n]) (k := 1) (fun _ => rfl), this]
theorem way_state (w : Way) : w.enc[0]? = some (.int .i64 w.state) := rfl
theorem way_tag (w : Way) : w.enc[1]? = some (.int .u32 w.tag) := rfl
theorem rows_get (c : Cache) (s : Nat) (h : s < c.sets.length) : (c.sets.flatMap (fun l => [rowT l]))[s * 1]? = some (rowT (row c s)) := by
  have := flat_get (f := fun l => [rowT l]) (k := 1) (fun _ => rfl) c.sets s h 0 (by omega)
  rw [Nat.add_zero] at this
  rw [this]; simp [row, h]
theorem rows_len (c : Cache) : (c.sets.flatMap (fun l => [rowT l])).length = c.sets.length := by
  rw [flat_len (f := fun l => [rowT l]) (k := 1) (fun _ => rfl), Nat.mul_one]
theorem row_wf {c : Cache} (h : c.wf) (s : Nat) (hs : s < c.sets.length) : (row c s).length ≤ maxLen ∧ ∀ w ∈ row c s, w.wf := by
  have := h.2 (c.sets[s]) (List.getElem_mem hs)
  simpa [row, hs] using this
theorem way_get (l : List Way) (hw : ∀ w ∈ l, w.wf) (k : Nat) (hk : k < l.length) (j : Nat) (hj : j < 19) : (l.flatMap Way.enc)[k * 19 + j]? = ((l[k]?).getD default).enc[j]? := by
  rw [flat_getM l (fun w h => way_len (hw w h)) k hk j hj]; simp [hk]
theorem max_small : maxLen ≤ 9223372036854775807 := by decide
theorem fnd_lt (l : List Way) (ln : Nat) : ∀ m k j, fnd l ln k m = some j → k ≤ j ∧ j < k + m
  | 0, _, _, h => by cases h
  | m + 1, k, j, h => by
    simp only [fnd] at h
    split at h
    · cases h; omega
    · have := fnd_lt l ln m (k + 1) j h; omega
def findLoop : ACode := match f57.body with | .seq _ (.seq _ (.seq _ (.seq (.seq _ (.block _ (.loop c))) _))) => c | _ => .skip
theorem find_loop (c : Cache) (hc : c.wf) (ln s : Nat) (hs : s < c.sets.length) (r : Option Nat) (Q : AExit → St → Prop)
    (hQr : ∀ (st : St) (k : Nat), r = some k → rho st.s (.tmp 4) = .int .i64 (s : Int) → rho st.s (.tmp 5) = .int .i64 (k : Int) → rho st.s (.tmp 6) = .bool true → Q .ret st) (hQe : ∀ st : St, r = none → st.s.length = 49 → Q (.exit 0) st) :
    ∀ (m : Nat) (st : St), (∃ k : Nat, st.s.length = 49 ∧ rho st.s (.tmp 1) = .int .u32 (ln : Int) ∧ rho st.s (.tmp 2) = .ptr 0 0 ∧ st.g 0 = some [setsT c] ∧ rho st.s (.tmp 7) = .int .i64 (s : Int) ∧ rho st.s (.tmp 8) = .int .i64 (k : Int) ∧ k ≤ (row c s).length ∧ m = (row c s).length - k ∧ fnd (row c s) ln k m = r) → W ap (.loop findLoop) st Q := by
  refine W_loop _ ?_
  rintro n st ⟨k, h49, h1, h2, hg, h7, h8, hk, hn, hr⟩
  have hx : ([setsT c] : List T)[0]? = some (.imm false c.sets.length (c.sets.flatMap (fun l => [rowT l]))) := rfl
  have hrow := rows_get c s hs
  have hrl := rows_len c
  have hwf := row_wf hc s hs
  have hmx := max_small
  have hb1 : s * 1 + 1 ≤ c.sets.length := by omega
  have hrt : rowT (row c s) = .imm false (row c s).length ((row c s).flatMap Way.enc) := rfl
  rw [hrt] at hrow
  have hfl := flat_lenM (f := Way.enc) (row c s) (fun w h => way_len (hwf.2 w h))
  generalize hcs : c.sets.flatMap (fun l => [rowT l]) = cs at *
  by_cases hend : k = (row c s).length
  · have hlt : decide ((k : Int) < ((row c s).length : Int)) = false := decide_eq_false (by omega)
    refine W_seq (W_seqn (W_region (fun k => by simp +decide only [s8, simprocAttr, h49, h2, h7, h8, hg, hx, hrow, hrl, hs, hb1, hlt]; rfl) ⟨rfl, W_false (by simp +decide only [s8, simprocAttr, h49] <;> rfl) (W_exit (.inr ⟨by simp, .inr ⟨by simp, hQe _ ?_ ?_⟩⟩))⟩))
    · rw [← hr, hn, hend, Nat.sub_self]; rfl
    · simp +decide only [s8, simprocAttr, h49]
  · have hlt : decide ((k : Int) < ((row c s).length : Int)) = true := decide_eq_true (by omega)
    have hkl : k < (row c s).length := by omega
    have hw2 : IntKind.i64.wrap ((k : Int) + 1) = ((k + 1 : Nat) : Int) := by rw [wrap_id (by omega)]; omega
    have hst := way_get (row c s) hwf.2 k hkl 0 (by omega)
    have htg := way_get (row c s) hwf.2 k hkl 1 (by omega)
    rw [way_state, Nat.add_zero] at hst
    rw [way_tag] at htg
    obtain ⟨m, hm⟩ : ∃ m, n = m + 1 := ⟨n - 1, by omega⟩
    rw [hm, fnd] at hr
    have hb2 : k * 19 + 19 ≤ ((row c s).flatMap Way.enc).length := by omega
    have hb3 : k * 19 + 1 + 1 ≤ ((row c s).flatMap Way.enc).length := by omega
    have hb4 : k * 19 + 1 ≤ ((row c s).flatMap Way.enc).length := by omega
    refine W_seqn (W_seqn (W_region (fun k => by simp +decide only [s8, simprocAttr, h49, h2, h7, h8, hg, hx, hrow, hrl, hs, hb1, hlt]; rfl) ⟨rfl, W_true (by simp +decide only [s8, simprocAttr, h49] <;> rfl) (W_skip ⟨rfl, ?_⟩)⟩))
    generalize hway : ((row c s)[k]?).getD default = w at *
    generalize (row c s).flatMap Way.enc = ws at *
    by_cases ht : w.tag = (ln : Int)
    · have ht0 : (w.tag == (ln : Int)) = true := beq_iff_eq.mpr ht
      by_cases hz : w.state = 0
      · have hz0 : (w.state != 0) = false := by simp [hz]
        rw [isAt, ht0, hz0] at hr
        simp only [Bool.and_false, Bool.false_eq_true, if_false] at hr
        refine W_seqn (W_block (W_seqn (W_region (fun k => by simp +decide only [s8, simprocAttr, h49, h1, h2, h7, h8, hg, hx, hrow, hrl, hs, hb1, hb2, hb3, hb4, hkl, hst, htg, ht0, hz0]; rfl) ⟨rfl, W_false (by simp +decide only [s8, simprocAttr, h49] <;> rfl) (W_skip (.inr (.inl ⟨by simp, rfl, ?_⟩)))⟩)))
        refine W_region (fun k => by simp +decide only [s8, simprocAttr, h49, h8, hw2]; rfl) (.inl ⟨rfl, m, by omega, k + 1, ?_, ?_, ?_, ?_, ?_, ?_, by omega, by omega, hr⟩) <;> simp +decide only [s8, simprocAttr, h49, h1, h2, h7, hg]
      · have hz0 : (w.state != 0) = true := by simpa using hz
        rw [isAt, ht0, hz0] at hr
        simp only [Bool.and_true, if_true] at hr
        refine W_seq (W_block (W_seqn (W_region (fun k => by simp +decide only [s8, simprocAttr, h49, h1, h2, h7, h8, hg, hx, hrow, hrl, hs, hb1, hb2, hb3, hb4, hkl, hst, htg, ht0, hz0]; rfl) ⟨rfl, W_true (by simp +decide only [s8, simprocAttr, h49] <;> rfl) ?_⟩)))
        refine W_seqn (W_region (fun k => by simp +decide only [s8, simprocAttr, h49, h7, h8]; rfl) ⟨rfl, W_ret ?_⟩)
        simp only [reduceCtorEq, false_and, false_or, or_false, exists_false, exists_const, ne_eq, not_false_eq_true, true_and, implies_true]
        refine hQr _ k hr.symm ?_ ?_ ?_ <;> simp +decide only [s8, simprocAttr, h49]
    · have ht0 : (w.tag == (ln : Int)) = false := beq_eq_false_iff_ne.mpr ht
      rw [isAt, ht0] at hr
      simp only [Bool.false_and, Bool.false_eq_true, if_false] at hr
      refine W_seqn (W_block (W_seqn (W_region (fun k => by simp +decide only [s8, simprocAttr, h49, h1, h2, h7, h8, hg, hx, hrow, hrl, hs, hb1, hb2, hb3, hb4, hkl, hst, htg, ht0]; rfl) ⟨rfl, W_false (by simp +decide only [s8, simprocAttr, h49] <;> rfl) (W_skip (.inr (.inl ⟨by simp, rfl, ?_⟩)))⟩)))
      refine W_region (fun k => by simp +decide only [s8, simprocAttr, h49, h8, hw2]; rfl) (.inl ⟨rfl, m, by omega, k + 1, ?_, ?_, ?_, ?_, ?_, ?_, by omega, by omega, hr⟩) <;> simp +decide only [s8, simprocAttr, h49, h1, h2, h7, hg]
theorem ap85 : ap 85 = some f85 := rfl
theorem p85 : f85.pure = true := rfl
theorem n85 : f85.nat = none := rfl
theorem find_none {c : Cache} {ln : Nat} (h : c.sets.length = 0) : findT c ln = .tup [.int .i64 0, .int .i64 0, .bool false] := by simp [findT, find, h]
theorem ref_find (c : Cache) (hc : c.wf) (ln : Nat) (hln : ln ≤ 4294967295) : E ap 57 [.agg [setsT c], .int .u32 (ln : Int)] (findT c ln) := by
  refine E_body (F := f57) rfl rfl rfl ?_
  generalize hs0 : (_ : List T) ++ List.replicate _ T.undef = s0
  have e0 : s0.length = 49 ∧ rho s0 (.tmp 0) = .agg [setsT c] ∧ rho s0 (.tmp 1) = .int .u32 (ln : Int) := by subst hs0; exact ⟨rfl, rfl, rfl⟩
  clear hs0
  obtain ⟨hl, h0, h1⟩ := e0
  have hleaf : allLeaf [setsT c] = true := rfl
  have hcut : cut [setsT c] 0 1 = [setsT c] := rfl
  obtain ⟨N, q⟩ := (ref_set c ln hln).call ap85 (fun g => rfl)
  have q69 := q N (Nat.le_refl _)
  refine W_seqn (W_region (fun k => by simp +decide only [s8, simprocAttr, hl, h0, hleaf]; rfl) ⟨rfl, ?_⟩)
  refine W_seqn (W_regionN ⟨N, by simp +decide only [s8, simprocAttr, hl, h1, hcut, ap85, p85, n85, q69]; rfl⟩ ⟨rfl, ?_⟩)
  by_cases hz : c.sets.length = 0
  · rw [find_none hz]
    refine W_seq (W_seqn (W_region (fun k => by simp +decide only [s8, simprocAttr, hl, hz]; rfl) ⟨rfl, W_tru ?_⟩))
    refine W_seqn (W_region (fun k => by simp +decide only [s8, simprocAttr]; rfl) ⟨rfl, W_ret ?_⟩)
    simp only [reduceCtorEq, false_and, false_or, or_false, exists_false, exists_const, ne_eq, not_false_eq_true, true_and, implies_true]
    refine fin_of3 (F := f57) rfl (fun _ => rfl) ?_ ?_ ?_ <;> simp +decide only [s8, simprocAttr, hl]
  · have hd : decide ((seti c ln : Int) < 0) = false := decide_eq_false (by omega)
    have hs : seti c ln < c.sets.length := Nat.mod_lt _ (by omega)
    refine W_seqn (W_seqn (W_region (fun k => by simp +decide only [s8, simprocAttr, hl, hz, hd]; rfl) ⟨rfl, W_fls (W_skip ⟨rfl, ?_⟩)⟩))
    refine W_seq (W_seqn (W_region (fun k => by simp +decide only [s8, simprocAttr]; rfl) ⟨rfl, W_block ?_⟩))
    refine find_loop c hc ln (seti c ln) hs (fnd (row c (seti c ln)) ln 0 (row c (seti c ln)).length) _ (fun st k hr h4 h5 h6 => ?_) (fun st hr hst => ?_) (row c (seti c ln)).length _ ⟨0, ?_, ?_, ?_, ?_, ?_, ?_, by omega, rfl, rfl⟩
    · simp only [reduceCtorEq, false_and, false_or, or_false, exists_false, exists_const, ne_eq, not_false_eq_true, true_and, implies_true]
      have e : findT c ln = .tup [.int .i64 (seti c ln : Int), .int .i64 (k : Int), .bool true] := by unfold findT find; rw [if_neg hz, hr]
      rw [e]
      exact fin_of3 (F := f57) rfl (fun _ => rfl) h4 h5 h6
    · have e : findT c ln = .tup [.int .i64 0, .int .i64 0, .bool false] := by unfold findT find; rw [if_neg hz, hr]
      rw [e]
      refine .inl ⟨rfl, .inl ⟨rfl, W_seqn (W_region (fun k => by simp +decide only [s8, simprocAttr]; rfl) ⟨rfl, W_ret ?_⟩)⟩⟩
      refine fin_of3 (F := f57) rfl (fun _ => rfl) ?_ ?_ ?_ <;> simp +decide only [s8, simprocAttr, hst]
    all_goals simp +decide only [s8, simprocAttr, hl, h1, hz]
    try rfl

/-! Ways, whole. -/
def zeroW : Way := ⟨0, 0, List.replicate 16 0, 0⟩
def wayOf (c : Cache) (ln : Nat) : Way := match find c ln with
  | some k => ((row c (seti c ln))[k]?).getD default
  | none => zeroW
theorem zeroW_wf : zeroW.wf := by
  refine ⟨rfl, rfl, ⟨rfl, fun y hy => ?_⟩, rfl⟩
  rw [show zeroW.data = List.replicate 16 0 from rfl, List.mem_replicate] at hy
  rw [hy.2]; rfl
theorem find_lt {c : Cache} {ln k : Nat} (h : find c ln = some k) : seti c ln < c.sets.length ∧ k < (row c (seti c ln)).length := by
  unfold find at h
  split at h
  · cases h
  · rename_i hz
    have := fnd_lt _ _ _ _ _ h
    exact ⟨Nat.mod_lt _ (by omega), by omega⟩
theorem wayOf_wf {c : Cache} (hc : c.wf) (ln : Nat) : (wayOf c ln).wf := by
  unfold wayOf
  split
  · rename_i k hk
    obtain ⟨h1, h2⟩ := find_lt hk
    rw [List.getElem?_eq_getElem h2]
    exact (row_wf hc _ h1).2 _ (List.getElem_mem h2)
  · exact zeroW_wf
theorem frzAll_int {h : Hp} {d : Nat} : ∀ l : List T, (∀ x ∈ l, ∃ k n, x = .int k n) → frzAll (frz h (d + 1)) l = some (l, [])
  | [], _ => rfl
  | x :: l, hx => by
    obtain ⟨k, n, rfl⟩ := hx x (List.mem_cons_self ..)
    have e : frz h (d + 1) (.int k n) = some (.int k n, []) := rfl
    simp only [frzAll, e, frzAll_int l (fun y hy => hx y (List.mem_cons_of_mem _ hy)), List.append_nil]
theorem way_ints (w : Way) : ∀ x ∈ w.enc, ∃ k n, x = .int k n := by
  intro x hx
  simp only [Way.enc, List.mem_append, List.mem_cons, List.not_mem_nil, or_false, List.mem_flatMap] at hx
  rcases hx with rfl | rfl | ⟨a, _, rfl⟩ | rfl <;> exact ⟨_, _, rfl⟩
theorem leaf_ints : ∀ l : List T, (∀ x ∈ l, ∃ k n, x = .int k n) → allLeaf l = true := by
  intro l hl
  unfold allLeaf
  rw [List.all_eq_true]
  intro x hx
  obtain ⟨k, n, rfl⟩ := hl x hx
  try rfl
theorem way_frz (w : Way) (h : Hp) : frz h frzDepth (.agg w.enc) = some (.agg w.enc, []) := by
  show frz h (11 + 1) _ = _
  rw [frz]
  simp only [frzAll_int (d := 10) w.enc (way_ints w)]
theorem splice_all {c l : List T} (h : l.length = c.length) : splice c 0 l = l := by
  apply List.ext_getElem?
  intro i
  rw [splice_get l c 0 i (by omega)]
  split
  · rw [Nat.sub_zero]
  · rw [List.getElem?_eq_none (by omega), List.getElem?_eq_none (by omega)]
theorem cut_all {c : List T} {n : Nat} (h : c.length = n) : cut c 0 n = c := by
  unfold cut; rw [List.drop_zero, List.take_of_length_le (by omega)]
theorem fin_cell {F : AFun} {t n p : Nat} {c : List T} (hF : F.res = [.cell t false n]) (hv : ∀ h : Hp, frz h frzDepth (.agg c) = some (.agg c, [])) {s : List T} {g : Mem} {nx : Nat} (hs : rho s (.tmp t) = .ptr p 0) (hg : g p = some c) (hc : c.length = n) : AExit.ret.leaves = true ∧ ∃ u ids, resT s g F.res = some u ∧ frz ⟨g, nx⟩ frzDepth u = some (.agg c, ids) := by
  refine ⟨rfl, .agg c, [], ?_, hv _⟩
  rw [hF]
  have h1 : (0 : Nat) + n ≤ c.length := by omega
  simp only [resT, resL, resOne, opRes, hs, hg, h1, if_true, Bool.false_eq_true, if_false, cut_all hc]
theorem ap57 : ap 57 = some f57 := rfl
theorem p57 : f57.pure = true := rfl
theorem n57 : f57.nat = none := rfl
theorem zero_enc : zeroW.enc = [.int .i64 0, .int .u32 0, .int .u8 0, .int .u8 0, .int .u8 0, .int .u8 0, .int .u8 0, .int .u8 0, .int .u8 0, .int .u8 0, .int .u8 0, .int .u8 0, .int .u8 0, .int .u8 0, .int .u8 0, .int .u8 0, .int .u8 0, .int .u8 0, .int .i64 0] := rfl
theorem ref_way (c : Cache) (hc : c.wf) (ln : Nat) (hln : ln ≤ 4294967295) : E ap 76 [.agg [setsT c], .int .u32 (ln : Int)] (.agg (wayOf c ln).enc) := by
  refine E_body (F := f76) rfl rfl rfl ?_
  generalize hs0 : (_ : List T) ++ List.replicate _ T.undef = s0
  have e0 : s0.length = 26 ∧ rho s0 (.tmp 0) = .agg [setsT c] ∧ rho s0 (.tmp 1) = .int .u32 (ln : Int) := by subst hs0; exact ⟨rfl, rfl, rfl⟩
  clear hs0
  obtain ⟨hl, h0, h1⟩ := e0
  have hleaf : allLeaf [setsT c] = true := rfl
  have hcut : cut [setsT c] 0 1 = [setsT c] := rfl
  have hx : ([setsT c] : List T)[0]? = some (.imm false c.sets.length (c.sets.flatMap (fun l => [rowT l]))) := rfl
  have hzl : zeroW.enc.length = 19 := rfl
  have hzleaf : allLeaf zeroW.enc = true := rfl
  obtain ⟨N, q⟩ := (ref_find c hc ln hln).call ap57 (fun g => rfl)
  have q55 := q N (Nat.le_refl _)
  have hbody : f76.body = f76.body := rfl
  conv at hbody => rhs; rw [f76]
  simp only [← zero_enc] at hbody
  rw [hbody]
  refine W_seqn (W_region (fun k => by simp +decide only [s8, simprocAttr, hl, h0, hleaf, hzleaf]; rfl) ⟨rfl, ?_⟩)
  cases hf : find c ln with
  | none =>
    have e1 : findT c ln = .tup [.int .i64 0, .int .i64 0, .bool false] := by unfold findT; rw [hf]
    have e2 : wayOf c ln = zeroW := by unfold wayOf; rw [hf]
    have hsp : splice zeroW.enc 0 zeroW.enc = zeroW.enc := splice_all rfl
    rw [e1] at q55
    rw [e2]
    refine W_seqn (W_regionN ⟨N, by simp +decide only [s8, simprocAttr, hl, h1, hcut, ap57, p57, n57, q55]; rfl⟩ ⟨rfl, ?_⟩)
    refine W_seq (W_seqn (W_region (fun k => by simp +decide only [s8, simprocAttr, hl]; rfl) ⟨rfl, W_tru ?_⟩))
    refine W_seqn (W_region (fun k => by simp +decide only [s8, simprocAttr, hl, hzl, hzleaf, hsp]; rfl) ⟨rfl, W_ret ?_⟩)
    simp only [reduceCtorEq, false_and, false_or, or_false, exists_false, exists_const, ne_eq, not_false_eq_true, true_and, implies_true]
    refine fin_cell (F := f76) (p := 1) rfl (way_frz _) ?_ ?_ rfl <;> simp +decide only [s8, simprocAttr, hl]
  | some k =>
    obtain ⟨hs, hk⟩ := find_lt hf
    have e1 : findT c ln = .tup [.int .i64 (seti c ln : Int), .int .i64 (k : Int), .bool true] := by unfold findT; rw [hf]
    have e2 : wayOf c ln = ((row c (seti c ln))[k]?).getD default := by unfold wayOf; rw [hf]
    have hwf := wayOf_wf hc ln
    have hwl := way_len hwf
    have hwleaf := leaf_ints _ (way_ints (wayOf c ln))
    have hsp : splice zeroW.enc 0 (wayOf c ln).enc = (wayOf c ln).enc := splice_all (by rw [hwl]; rfl)
    have hrow := rows_get c (seti c ln) hs
    have hrl := rows_len c
    have hrw := row_wf hc (seti c ln) hs
    have hb1 : seti c ln * 1 + 1 ≤ c.sets.length := by omega
    have hrt : rowT (row c (seti c ln)) = .imm false (row c (seti c ln)).length ((row c (seti c ln)).flatMap Way.enc) := rfl
    rw [hrt] at hrow
    have hfl := flat_lenM (f := Way.enc) (row c (seti c ln)) (fun w h => way_len (hrw.2 w h))
    have hb2 : k * 19 + 19 ≤ ((row c (seti c ln)).flatMap Way.enc).length := by omega
    have hcw : cut ((row c (seti c ln)).flatMap Way.enc) (k * 19) 19 = (wayOf c ln).enc := by
      rw [flat_cutM (row c (seti c ln)) (fun w h => way_len (hrw.2 w h)) k hk, e2, List.getElem?_eq_getElem hk]; rfl
    rw [e1] at q55
    generalize wayOf c ln = w at *
    generalize c.sets.flatMap (fun l => [rowT l]) = cs at *
    generalize (row c (seti c ln)).flatMap Way.enc = ws at *
    refine W_seqn (W_regionN ⟨N, by simp +decide only [s8, simprocAttr, hl, h1, hcut, ap57, p57, n57, q55]; rfl⟩ ⟨rfl, ?_⟩)
    refine W_seqn (W_seqn (W_region (fun k => by simp +decide only [s8, simprocAttr, hl]; rfl) ⟨rfl, W_fls (W_skip ⟨rfl, ?_⟩)⟩))
    refine W_seqn (W_region (fun k => by simp +decide only [s8, simprocAttr, hl, hx, hrow, hrl, hs, hk, hb1, hb2, hcw, hzl, hwl, hwleaf, hsp]; rfl) ⟨rfl, W_ret ?_⟩)
    refine fin_cell (F := f76) (p := 1) rfl (way_frz _) ?_ ?_ hwl <;> simp +decide only [s8, simprocAttr, hl]
def stv (s : Int) : Int := if s < 0 then 0 else if s > 3 then 0 else s
def askv (s a : Int) : Int := if a = 1 then (if stv s = 0 then 1 else 0) else if a = 2 then (if stv s = 0 then 2 else if stv s = 1 then 3 else 0) else 0
theorem ref_state54 (s : Int) : E ap 103 [.int .i64 s] (.int .i64 (stv s)) := by
  refine E_body (F := f103) rfl rfl rfl ?_
  generalize hs0 : (_ : List T) ++ List.replicate _ T.undef = s0
  have e0 : s0.length = 10 ∧ rho s0 (.tmp 0) = .int .i64 s := by subst hs0; exact ⟨rfl, rfl⟩
  clear hs0
  obtain ⟨hl, h0⟩ := e0
  refine W_seqn (W_region (fun k => by simp +decide only [s8, simprocAttr, hl]; rfl) ⟨rfl, ?_⟩)
  by_cases hn : s < 0
  · have hd : decide (s < 0) = true := decide_eq_true hn
    have hv : stv s = 0 := by simp [stv, hn]
    refine W_seq (W_seqn (W_region (fun k => by simp +decide only [s8, simprocAttr, hl, h0, hd]; rfl) ⟨rfl, W_tru ?_⟩))
    refine W_seqn (W_region (fun k => by simp +decide only [s8, simprocAttr, hl]; rfl) ⟨rfl, W_ret ?_⟩)
    simp only [reduceCtorEq, false_and, false_or, or_false, exists_false, exists_const, ne_eq, not_false_eq_true, true_and, implies_true]
    refine fin_of (F := f103) rfl (fun _ => rfl) ?_
    simp +decide only [s8, simprocAttr, hl, hv]
  · have hd : decide (s < 0) = false := decide_eq_false hn
    by_cases hm : s > 3
    · have hd2 : decide (s > 3) = true := decide_eq_true hm
      have hv : stv s = 0 := by simp [stv, hm]
      refine W_seq (W_seqn (W_region (fun k => by simp +decide only [s8, simprocAttr, hl, h0, hd, hd2]; rfl) ⟨rfl, W_tru ?_⟩))
      refine W_seqn (W_region (fun k => by simp +decide only [s8, simprocAttr, hl]; rfl) ⟨rfl, W_ret ?_⟩)
      simp only [reduceCtorEq, false_and, false_or, or_false, exists_false, exists_const, ne_eq, not_false_eq_true, true_and, implies_true]
      refine fin_of (F := f103) rfl (fun _ => rfl) ?_
      simp +decide only [s8, simprocAttr, hl, hv]
    · have hd2 : decide (s > 3) = false := decide_eq_false hm
      have hv : stv s = s := by simp [stv, hn, hm]
      refine W_seqn (W_seqn (W_region (fun k => by simp +decide only [s8, simprocAttr, hl, h0, hd, hd2]; rfl) ⟨rfl, W_fls (W_skip ⟨rfl, ?_⟩)⟩))
      refine W_seqn (W_region (fun k => by simp +decide only [s8, simprocAttr, hl, h0]; rfl) ⟨rfl, W_ret ?_⟩)
      refine fin_of (F := f103) rfl (fun _ => rfl) ?_
      simp +decide only [s8, simprocAttr, hl, hv]
theorem bus_known (s : Int) : E ap 107 [.int .i64 s] (.bool (decide (0 ≤ s ∧ s ≤ 3))) := by
  refine E_body (F := f107) rfl rfl rfl ?_
  generalize hs0 : (_ : List T) ++ List.replicate _ T.undef = s0
  have e0 : s0.length = 9 ∧ rho s0 (.tmp 0) = .int .i64 s := by subst hs0; exact ⟨rfl, rfl⟩
  clear hs0
  obtain ⟨hl, h0⟩ := e0
  refine W_seqn (W_region (fun k => by simp +decide only [s8, simprocAttr, hl]; rfl) ⟨rfl, ?_⟩)
  by_cases hn : s ≥ 0
  · have hd : decide (s ≥ 0) = true := decide_eq_true hn
    have hv : decide (0 ≤ s ∧ s ≤ 3) = decide (s ≤ 3) := by simp [show 0 ≤ s from hn]
    rw [hv]
    refine W_seqn (W_region (fun k => by simp +decide only [s8, simprocAttr, hl, h0, hd]; rfl) ⟨rfl, W_ret ?_⟩)
    refine fin_of (F := f107) rfl (fun _ => rfl) ?_
    simp +decide only [s8, simprocAttr, hl]
  · have hd : decide (s ≥ 0) = false := decide_eq_false hn
    have hv : decide (0 ≤ s ∧ s ≤ 3) = false := decide_eq_false (by omega)
    rw [hv]
    refine W_seqn (W_region (fun k => by simp +decide only [s8, simprocAttr, hl, h0, hd]; rfl) ⟨rfl, W_ret ?_⟩)
    refine fin_of (F := f107) rfl (fun _ => rfl) ?_
    simp +decide only [s8, simprocAttr, hl]
theorem ap103 : ap 103 = some f103 := rfl
theorem p103 : f103.pure = true := rfl
theorem n103 : f103.nat = none := rfl
theorem ap107 : ap 107 = some f107 := rfl
theorem p107 : f107.pure = true := rfl
theorem n107 : f107.nat = none := rfl
theorem bus_of (s : Int) : E ap 105 [.int .i64 s] (.int .i64 (stv s)) := by
  refine E_body (F := f105) rfl rfl rfl ?_
  generalize hs0 : (_ : List T) ++ List.replicate _ T.undef = s0
  have e0 : s0.length = 7 ∧ rho s0 (.tmp 0) = .int .i64 s := by subst hs0; exact ⟨rfl, rfl⟩
  clear hs0
  obtain ⟨hl, h0⟩ := e0
  refine W_seqn (W_region (fun k => by simp +decide only [s8, simprocAttr, hl]; rfl) ⟨rfl, ?_⟩)
  obtain ⟨N, q⟩ := (bus_known s).call ap107 (fun g => rfl)
  have qN := q N (Nat.le_refl _)
  by_cases hn : 0 ≤ s ∧ s ≤ 3
  · have hd : decide (0 ≤ s ∧ s ≤ 3) = true := decide_eq_true hn
    have hv : stv s = s := by unfold stv; rw [if_neg (by omega), if_neg (by omega)]
    rw [hd] at qN
    refine W_seqn (W_seqn (W_regionN ⟨N, by simp +decide only [s8, simprocAttr, hl, h0, ap107, p107, n107, qN]; rfl⟩ ⟨rfl, W_fls (W_skip ⟨rfl, ?_⟩)⟩))
    refine W_seqn (W_region (fun k => by simp +decide only [s8, simprocAttr, hl, h0]; rfl) ⟨rfl, W_ret ?_⟩)
    refine fin_of (F := f105) rfl (fun _ => rfl) ?_
    simp +decide only [s8, simprocAttr, hl, hv]
  · have hd : decide (0 ≤ s ∧ s ≤ 3) = false := decide_eq_false hn
    have hv : stv s = 0 := by unfold stv; split; · rfl
                              · rw [if_pos (by omega)]
    rw [hd] at qN
    refine W_seq (W_seqn (W_regionN ⟨N, by simp +decide only [s8, simprocAttr, hl, h0, ap107, p107, n107, qN]; rfl⟩ ⟨rfl, W_tru ?_⟩))
    refine W_seqn (W_region (fun k => by simp +decide only [s8, simprocAttr, hl]; rfl) ⟨rfl, W_ret ?_⟩)
    simp only [reduceCtorEq, false_and, false_or, or_false, exists_false, exists_const, ne_eq, not_false_eq_true, true_and, implies_true]
    refine fin_of (F := f105) rfl (fun _ => rfl) ?_
    simp +decide only [s8, simprocAttr, hl, hv]
theorem ap105 : ap 105 = some f105 := rfl
theorem p105 : f105.pure = true := rfl
theorem n105 : f105.nat = none := rfl
theorem ref_ask (s a : Int) : E ap 72 [.int .i64 s, .int .i64 a] (.int .i64 (askv s a)) := by
  refine E_body (F := f72) rfl rfl rfl ?_
  generalize hs0 : (_ : List T) ++ List.replicate _ T.undef = s0
  have e0 : s0.length = 26 ∧ rho s0 (.tmp 0) = .int .i64 s ∧ rho s0 (.tmp 1) = .int .i64 a := by subst hs0; exact ⟨rfl, rfl, rfl⟩
  clear hs0
  obtain ⟨hl, h0, h1⟩ := e0
  refine W_seqn (W_region (fun k => by simp +decide only [s8, simprocAttr, hl]; rfl) ⟨rfl, ?_⟩)
  obtain ⟨N, q⟩ := (ref_state54 s).call ap103 (fun g => rfl)
  have qN := q N (Nat.le_refl _)
  by_cases ha1 : a = 1
  · subst ha1
    by_cases hz : stv s = 0
    · have hz0 : (stv s == 0) = true := beq_iff_eq.mpr hz
      have hv : askv s 1 = 1 := by simp [askv, hz]
      rw [hv]
      refine W_seq (W_seqn (W_regionN ⟨N, by simp +decide only [s8, simprocAttr, hl, h0, h1, ap103, p103, n103, qN, beq_self_eq_true, hz0]; rfl⟩ ⟨rfl, W_tru ?_⟩))
      refine W_seqn (W_region (fun k => by simp +decide only [s8, simprocAttr, hl]; rfl) ⟨rfl, W_ret ?_⟩)
      simp only [reduceCtorEq, false_and, false_or, or_false, exists_false, exists_const, ne_eq, not_false_eq_true, true_and, implies_true]
      refine fin_of (F := f72) rfl (fun _ => rfl) ?_
      simp +decide only [s8, simprocAttr, hl]
    · have hz0 : (stv s == 0) = false := beq_eq_false_iff_ne.mpr hz
      have hv : askv s 1 = 0 := by simp [askv, hz]
      rw [hv]
      refine W_seqn (W_seqn (W_regionN ⟨N, by simp +decide only [s8, simprocAttr, hl, h0, h1, ap103, p103, n103, qN, beq_self_eq_true, hz0, show ((1 : Int) == 2) = false from rfl, show ((1 : Int) == 1) = true from rfl]; rfl⟩ ⟨rfl, W_fls (W_skip ⟨rfl, ?_⟩)⟩))
      refine W_seqn (W_seqn (W_regionN ⟨N, by simp +decide only [s8, simprocAttr, hl, h0, h1, ap103, p103, n103, qN, beq_self_eq_true, hz0, show ((1 : Int) == 2) = false from rfl, show ((1 : Int) == 1) = true from rfl]; rfl⟩ ⟨rfl, W_fls (W_skip ⟨rfl, ?_⟩)⟩))
      refine W_seqn (W_seqn (W_regionN ⟨N, by simp +decide only [s8, simprocAttr, hl, h0, h1, ap103, p103, n103, qN, beq_self_eq_true, hz0, show ((1 : Int) == 2) = false from rfl, show ((1 : Int) == 1) = true from rfl]; rfl⟩ ⟨rfl, W_fls (W_skip ⟨rfl, ?_⟩)⟩))
      refine W_seqn (W_region (fun k => by simp +decide only [s8, simprocAttr, hl]; rfl) ⟨rfl, W_ret ?_⟩)
      refine fin_of (F := f72) rfl (fun _ => rfl) ?_
      simp +decide only [s8, simprocAttr, hl]
  · have hb1 : (a == 1) = false := beq_eq_false_iff_ne.mpr ha1
    by_cases ha2 : a = 2
    · subst ha2
      by_cases hz : stv s = 0
      · have hz0 : (stv s == 0) = true := beq_iff_eq.mpr hz
        have hv : askv s 2 = 2 := by simp [askv, hz]
        rw [hv]
        refine W_seqn (W_seqn (W_regionN ⟨N, by simp +decide only [s8, simprocAttr, hl, h0, h1, ap103, p103, n103, qN, beq_self_eq_true, hz0]; rfl⟩ ⟨rfl, W_fls (W_skip ⟨rfl, ?_⟩)⟩))
        refine W_seq (W_seqn (W_regionN ⟨N, by simp +decide only [s8, simprocAttr, hl, h0, h1, ap103, p103, n103, qN, beq_self_eq_true, hz0]; rfl⟩ ⟨rfl, W_tru ?_⟩))
        refine W_seqn (W_region (fun k => by simp +decide only [s8, simprocAttr, hl]; rfl) ⟨rfl, W_ret ?_⟩)
        simp only [reduceCtorEq, false_and, false_or, or_false, exists_false, exists_const, ne_eq, not_false_eq_true, true_and, implies_true]
        refine fin_of (F := f72) rfl (fun _ => rfl) ?_
        simp +decide only [s8, simprocAttr, hl]
      · have hz0 : (stv s == 0) = false := beq_eq_false_iff_ne.mpr hz
        by_cases ho : stv s = 1
        · have ho0 : (stv s == 1) = true := beq_iff_eq.mpr ho
          have hv : askv s 2 = 3 := by simp [askv, ho]
          rw [hv]
          refine W_seqn (W_seqn (W_regionN ⟨N, by simp +decide only [s8, simprocAttr, hl, h0, h1, ap103, p103, n103, qN, beq_self_eq_true, hz0, ho0]; rfl⟩ ⟨rfl, W_fls (W_skip ⟨rfl, ?_⟩)⟩))
          refine W_seqn (W_seqn (W_regionN ⟨N, by simp +decide only [s8, simprocAttr, hl, h0, h1, ap103, p103, n103, qN, beq_self_eq_true, hz0, ho0]; rfl⟩ ⟨rfl, W_fls (W_skip ⟨rfl, ?_⟩)⟩))
          refine W_seq (W_seqn (W_regionN ⟨N, by simp +decide only [s8, simprocAttr, hl, h0, h1, ap103, p103, n103, qN, beq_self_eq_true, hz0, ho0]; rfl⟩ ⟨rfl, W_tru ?_⟩))
          refine W_seqn (W_region (fun k => by simp +decide only [s8, simprocAttr, hl]; rfl) ⟨rfl, W_ret ?_⟩)
          simp only [reduceCtorEq, false_and, false_or, or_false, exists_false, exists_const, ne_eq, not_false_eq_true, true_and, implies_true]
          refine fin_of (F := f72) rfl (fun _ => rfl) ?_
          simp +decide only [s8, simprocAttr, hl]
        · have ho0 : (stv s == 1) = false := beq_eq_false_iff_ne.mpr ho
          have hv : askv s 2 = 0 := by simp [askv, ho, hz]
          rw [hv]
          refine W_seqn (W_seqn (W_regionN ⟨N, by simp +decide only [s8, simprocAttr, hl, h0, h1, ap103, p103, n103, qN, beq_self_eq_true, hz0, ho0]; rfl⟩ ⟨rfl, W_fls (W_skip ⟨rfl, ?_⟩)⟩))
          refine W_seqn (W_seqn (W_regionN ⟨N, by simp +decide only [s8, simprocAttr, hl, h0, h1, ap103, p103, n103, qN, beq_self_eq_true, hz0, ho0]; rfl⟩ ⟨rfl, W_fls (W_skip ⟨rfl, ?_⟩)⟩))
          refine W_seqn (W_seqn (W_regionN ⟨N, by simp +decide only [s8, simprocAttr, hl, h0, h1, ap103, p103, n103, qN, beq_self_eq_true, hz0, ho0]; rfl⟩ ⟨rfl, W_fls (W_skip ⟨rfl, ?_⟩)⟩))
          refine W_seqn (W_region (fun k => by simp +decide only [s8, simprocAttr, hl]; rfl) ⟨rfl, W_ret ?_⟩)
          refine fin_of (F := f72) rfl (fun _ => rfl) ?_
          simp +decide only [s8, simprocAttr, hl]
    · have hb2 : (a == 2) = false := beq_eq_false_iff_ne.mpr ha2
      have hv : askv s a = 0 := by simp [askv, ha1, ha2]
      rw [hv]
      refine W_seqn (W_seqn (W_regionN ⟨N, by simp +decide only [s8, simprocAttr, hl, h0, h1, ap103, p103, n103, qN, beq_self_eq_true, hb1, hb2]; rfl⟩ ⟨rfl, W_fls (W_skip ⟨rfl, ?_⟩)⟩))
      refine W_seqn (W_seqn (W_regionN ⟨N, by simp +decide only [s8, simprocAttr, hl, h0, h1, ap103, p103, n103, qN, beq_self_eq_true, hb1, hb2]; rfl⟩ ⟨rfl, W_fls (W_skip ⟨rfl, ?_⟩)⟩))
      refine W_seqn (W_seqn (W_regionN ⟨N, by simp +decide only [s8, simprocAttr, hl, h0, h1, ap103, p103, n103, qN, beq_self_eq_true, hb1, hb2]; rfl⟩ ⟨rfl, W_fls (W_skip ⟨rfl, ?_⟩)⟩))
      refine W_seqn (W_region (fun k => by simp +decide only [s8, simprocAttr, hl]; rfl) ⟨rfl, W_ret ?_⟩)
      refine fin_of (F := f72) rfl (fun _ => rfl) ?_
      simp +decide only [s8, simprocAttr, hl]
theorem bus_ask (s a : Int) : E ap 87 [.int .i64 s, .int .i64 a] (.int .i64 (askv s a)) := by
  refine E_body (F := f87) rfl rfl rfl ?_
  generalize hs0 : (_ : List T) ++ List.replicate _ T.undef = s0
  have e0 : s0.length = 28 ∧ rho s0 (.tmp 0) = .int .i64 s ∧ rho s0 (.tmp 1) = .int .i64 a := by subst hs0; exact ⟨rfl, rfl, rfl⟩
  clear hs0
  obtain ⟨hl, h0, h1⟩ := e0
  refine W_seqn (W_region (fun k => by simp +decide only [s8, simprocAttr, hl]; rfl) ⟨rfl, ?_⟩)
  obtain ⟨N, q⟩ := (bus_of s).call ap105 (fun g => rfl)
  have qN := q N (Nat.le_refl _)
  refine W_seqn (W_regionN ⟨N, by simp +decide only [s8, simprocAttr, hl, h0, ap105, p105, n105, qN]; rfl⟩ ⟨rfl, ?_⟩)
  by_cases ha1 : a = 1
  · subst ha1
    by_cases hz : stv s = 0
    · have hz0 : (stv s == 0) = true := beq_iff_eq.mpr hz
      have hv : askv s 1 = 1 := by simp [askv, hz]
      rw [hv]
      refine W_seq (W_block ?_)
      refine W_seqn (W_region (fun k => by simp +decide only [s8, simprocAttr, hl, h0, h1, beq_self_eq_true, hz0]; rfl) ⟨rfl, W_tru ?_⟩)
      refine W_seqn (W_region (fun k => by simp +decide only [s8, simprocAttr, hl]; rfl) ⟨rfl, W_ret ?_⟩)
      simp only [reduceCtorEq, false_and, false_or, or_false, exists_false, exists_const, ne_eq, not_false_eq_true, true_and, implies_true]
      refine fin_of (F := f87) rfl (fun _ => rfl) ?_
      simp +decide only [s8, simprocAttr, hl]
    · have hz0 : (stv s == 0) = false := beq_eq_false_iff_ne.mpr hz
      have hv : askv s 1 = 0 := by simp [askv, hz]
      rw [hv]
      refine W_seqn (W_block ?_)
      refine W_seqn (W_region (fun k => by simp +decide only [s8, simprocAttr, hl, h0, h1, beq_self_eq_true, hz0, show ((1 : Int) == 2) = false from rfl, show ((1 : Int) == 1) = true from rfl]; rfl) ⟨rfl, W_fls ?_⟩)
      refine W_seqn (W_region (fun k => by simp +decide only [s8, simprocAttr, hl, h0, h1, beq_self_eq_true, hz0, show ((1 : Int) == 2) = false from rfl, show ((1 : Int) == 1) = true from rfl]; rfl) ⟨rfl, W_fls ?_⟩)
      refine W_seqn (W_region (fun k => by simp +decide only [s8, simprocAttr, hl, h0, h1, beq_self_eq_true, hz0, show ((1 : Int) == 2) = false from rfl, show ((1 : Int) == 1) = true from rfl]; rfl) ⟨rfl, W_fls ?_⟩)
      refine W_skip (.inr (.inl ⟨by simp, rfl, ?_⟩))
      refine W_seqn (W_region (fun k => by simp +decide only [s8, simprocAttr, hl]; rfl) ⟨rfl, W_ret ?_⟩)
      refine fin_of (F := f87) rfl (fun _ => rfl) ?_
      simp +decide only [s8, simprocAttr, hl]
  · have hb1 : (a == 1) = false := beq_eq_false_iff_ne.mpr ha1
    by_cases ha2 : a = 2
    · subst ha2
      by_cases hz : stv s = 0
      · have hz0 : (stv s == 0) = true := beq_iff_eq.mpr hz
        have hv : askv s 2 = 2 := by simp [askv, hz]
        rw [hv]
        refine W_seq (W_block ?_)
        refine W_seqn (W_region (fun k => by simp +decide only [s8, simprocAttr, hl, h0, h1, beq_self_eq_true, hz0]; rfl) ⟨rfl, W_fls ?_⟩)
        refine W_seqn (W_region (fun k => by simp +decide only [s8, simprocAttr, hl, h0, h1, beq_self_eq_true, hz0]; rfl) ⟨rfl, W_tru ?_⟩)
        refine W_seqn (W_region (fun k => by simp +decide only [s8, simprocAttr, hl]; rfl) ⟨rfl, W_ret ?_⟩)
        simp only [reduceCtorEq, false_and, false_or, or_false, exists_false, exists_const, ne_eq, not_false_eq_true, true_and, implies_true]
        refine fin_of (F := f87) rfl (fun _ => rfl) ?_
        simp +decide only [s8, simprocAttr, hl]
      · have hz0 : (stv s == 0) = false := beq_eq_false_iff_ne.mpr hz
        by_cases ho : stv s = 1
        · have ho0 : (stv s == 1) = true := beq_iff_eq.mpr ho
          have hv : askv s 2 = 3 := by simp [askv, ho]
          rw [hv]
          refine W_seq (W_block ?_)
          refine W_seqn (W_region (fun k => by simp +decide only [s8, simprocAttr, hl, h0, h1, beq_self_eq_true, hz0, ho0]; rfl) ⟨rfl, W_fls ?_⟩)
          refine W_seqn (W_region (fun k => by simp +decide only [s8, simprocAttr, hl, h0, h1, beq_self_eq_true, hz0, ho0]; rfl) ⟨rfl, W_fls ?_⟩)
          refine W_seqn (W_region (fun k => by simp +decide only [s8, simprocAttr, hl, h0, h1, beq_self_eq_true, hz0, ho0]; rfl) ⟨rfl, W_tru ?_⟩)
          refine W_seqn (W_region (fun k => by simp +decide only [s8, simprocAttr, hl]; rfl) ⟨rfl, W_ret ?_⟩)
          simp only [reduceCtorEq, false_and, false_or, or_false, exists_false, exists_const, ne_eq, not_false_eq_true, true_and, implies_true]
          refine fin_of (F := f87) rfl (fun _ => rfl) ?_
          simp +decide only [s8, simprocAttr, hl]
        · have ho0 : (stv s == 1) = false := beq_eq_false_iff_ne.mpr ho
          have hv : askv s 2 = 0 := by simp [askv, ho, hz]
          rw [hv]
          refine W_seqn (W_block ?_)
          refine W_seqn (W_region (fun k => by simp +decide only [s8, simprocAttr, hl, h0, h1, beq_self_eq_true, hz0, ho0]; rfl) ⟨rfl, W_fls ?_⟩)
          refine W_seqn (W_region (fun k => by simp +decide only [s8, simprocAttr, hl, h0, h1, beq_self_eq_true, hz0, ho0]; rfl) ⟨rfl, W_fls ?_⟩)
          refine W_seqn (W_region (fun k => by simp +decide only [s8, simprocAttr, hl, h0, h1, beq_self_eq_true, hz0, ho0]; rfl) ⟨rfl, W_fls ?_⟩)
          refine W_skip (.inr (.inl ⟨by simp, rfl, ?_⟩))
          refine W_seqn (W_region (fun k => by simp +decide only [s8, simprocAttr, hl]; rfl) ⟨rfl, W_ret ?_⟩)
          refine fin_of (F := f87) rfl (fun _ => rfl) ?_
          simp +decide only [s8, simprocAttr, hl]
    · have hb2 : (a == 2) = false := beq_eq_false_iff_ne.mpr ha2
      have hv : askv s a = 0 := by simp [askv, ha1, ha2]
      rw [hv]
      refine W_seqn (W_block ?_)
      refine W_seqn (W_region (fun k => by simp +decide only [s8, simprocAttr, hl, h0, h1, beq_self_eq_true, hb1, hb2]; rfl) ⟨rfl, W_fls ?_⟩)
      refine W_seqn (W_region (fun k => by simp +decide only [s8, simprocAttr, hl, h0, h1, beq_self_eq_true, hb1, hb2]; rfl) ⟨rfl, W_fls ?_⟩)
      refine W_seqn (W_region (fun k => by simp +decide only [s8, simprocAttr, hl, h0, h1, beq_self_eq_true, hb1, hb2]; rfl) ⟨rfl, W_fls ?_⟩)
      refine W_skip (.inr (.inl ⟨by simp, rfl, ?_⟩))
      refine W_seqn (W_region (fun k => by simp +decide only [s8, simprocAttr, hl]; rfl) ⟨rfl, W_ret ?_⟩)
      refine fin_of (F := f87) rfl (fun _ => rfl) ?_
      simp +decide only [s8, simprocAttr, hl]
def memT (m : Coh) : T := .imm false m.mem.length (m.mem.flatMap (fun n => [T.int .u8 n]))
def cachT (m : Coh) : T := .imm false m.caches.length (m.caches.flatMap Cache.enc)
theorem coh_enc (m : Coh) : m.enc = [memT m, cachT m] := rfl
def cacheAt (m : Coh) (k : Nat) : Cache := (m.caches[k]?).getD default
theorem caches_len (m : Coh) : (m.caches.flatMap Cache.enc).length = m.caches.length := by
  rw [flat_len (f := Cache.enc) (k := 1) (fun _ => rfl), Nat.mul_one]
theorem caches_cut (m : Coh) (k : Nat) (h : k < m.caches.length) : cut (m.caches.flatMap Cache.enc) (k * 1) 1 = [setsT (cacheAt m k)] := by
  have := flat_cutM (f := Cache.enc) (k := 1) m.caches (fun _ _ => rfl) k h
  rw [this, cache_enc]; simp [cacheAt, h]
theorem caches_get (m : Coh) (k : Nat) (h : k < m.caches.length) : (m.caches.flatMap Cache.enc)[k * 1]? = some (setsT (cacheAt m k)) := by
  have := flat_get (f := Cache.enc) (k := 1) (fun _ => rfl) m.caches k h 0 (by omega)
  rw [Nat.add_zero] at this
  rw [this, cache_enc]; simp [cacheAt, h]
theorem cacheAt_wf {m : Coh} (h : m.wf) (k : Nat) (hk : k < m.caches.length) : (cacheAt m k).wf := by
  have := h.2.2 (m.caches[k]) (List.getElem_mem hk)
  simpa [cacheAt, hk] using this
def has (m : Coh) (who : Int) : Prop := 0 ≤ who ∧ who < m.caches.length
instance (m : Coh) (who : Int) : Decidable (has m who) := by unfold has; infer_instance
def stateOf (m : Coh) (who : Int) (ln : Nat) : Int := if has m who then (wayOf (cacheAt m who.toNat) ln).state else 0
def sharedN (m : Coh) (who : Int) (ln : Nat) : Nat → Nat → Bool
  | _, 0 => false
  | k, n + 1 => if ((k : Int) != who && stateOf m (k : Int) ln != 0) = true then true else sharedN m who ln (k + 1) n
def wantT (m : Coh) (who : Int) (ln : Nat) (a : Int) : T := if has m who then .agg [.int .i64 (askv (stateOf m who ln) a), .int .u32 (ln : Int)] else .agg [.int .i64 0, .int .u32 0]
theorem ref_has (m : Coh) (who : Int) : E ap 71 [.agg [memT m, cachT m], .int .i64 who] (.bool (decide (has m who))) := by
  refine E_body (F := f71) rfl rfl rfl ?_
  generalize hs0 : (_ : List T) ++ List.replicate _ T.undef = s0
  have e0 : s0.length = 14 ∧ rho s0 (.tmp 0) = .agg [memT m, cachT m] ∧ rho s0 (.tmp 1) = .int .i64 who := by subst hs0; exact ⟨rfl, rfl, rfl⟩
  clear hs0
  obtain ⟨hl, h0, h1⟩ := e0
  have hleaf : allLeaf [memT m, cachT m] = true := rfl
  have hcc : cachT m = .imm false m.caches.length (m.caches.flatMap Cache.enc) := rfl
  refine W_seqn (W_region (fun k => by simp +decide only [s8, simprocAttr, hl, h0, hleaf]; rfl) ⟨rfl, ?_⟩)
  by_cases hn : who ≥ 0
  · have hd : decide (who ≥ 0) = true := decide_eq_true hn
    have hv : decide (has m who) = decide (who < (m.caches.length : Int)) := by simp [has, show 0 ≤ who from hn]
    rw [hv]
    refine W_seqn (W_region (fun k => by simp +decide only [s8, simprocAttr, hl, h1, hd, hcc]; rfl) ⟨rfl, W_ret ?_⟩)
    refine fin_of (F := f71) rfl (fun _ => rfl) ?_
    simp +decide only [s8, simprocAttr, hl]
  · have hd : decide (who ≥ 0) = false := decide_eq_false hn
    have hv : decide (has m who) = false := decide_eq_false (fun h => hn h.1)
    rw [hv]
    refine W_seqn (W_region (fun k => by simp +decide only [s8, simprocAttr, hl, h1, hd]; rfl) ⟨rfl, W_ret ?_⟩)
    refine fin_of (F := f71) rfl (fun _ => rfl) ?_
    simp +decide only [s8, simprocAttr, hl]
theorem ap71 : ap 71 = some f71 := rfl
theorem p71 : f71.pure = true := rfl
theorem n71 : f71.nat = none := rfl
theorem ap76 : ap 76 = some f76 := rfl
theorem p76 : f76.pure = true := rfl
theorem n76 : f76.nat = none := rfl
theorem ref_state (m : Coh) (hm : m.wf) (who : Int) (ln : Nat) (hln : ln ≤ 4294967295) : E ap 73 [.agg [memT m, cachT m], .int .i64 who, .int .u32 (ln : Int)] (.int .i64 (stateOf m who ln)) := by
  refine E_body (F := f73) rfl rfl rfl ?_
  generalize hs0 : (_ : List T) ++ List.replicate _ T.undef = s0
  have e0 : s0.length = 19 ∧ rho s0 (.tmp 0) = .agg [memT m, cachT m] ∧ rho s0 (.tmp 1) = .int .i64 who ∧ rho s0 (.tmp 2) = .int .u32 (ln : Int) := by subst hs0; exact ⟨rfl, rfl, rfl, rfl⟩
  clear hs0
  obtain ⟨hl, h0, h1, h2⟩ := e0
  have hleaf : allLeaf [memT m, cachT m] = true := rfl
  have hcc : cachT m = .imm false m.caches.length (m.caches.flatMap Cache.enc) := rfl
  have hcut : cut [memT m, cachT m] 0 2 = [memT m, cachT m] := rfl
  obtain ⟨N, q⟩ := (ref_has m who).call ap71 (fun g => rfl)
  have q22 := q N (Nat.le_refl _)
  refine W_seqn (W_region (fun k => by simp +decide only [s8, simprocAttr, hl, h0, hleaf]; rfl) ⟨rfl, ?_⟩)
  by_cases hh : has m who
  · rw [decide_eq_true hh] at q22
    have hv : stateOf m who ln = (wayOf (cacheAt m who.toNat) ln).state := by unfold stateOf; rw [if_pos hh]
    obtain ⟨w, rfl⟩ : ∃ w : Nat, who = (w : Int) := ⟨who.toNat, by have := hh.1; omega⟩
    have hw : w < m.caches.length := by have := hh.2; omega
    rw [Int.toNat_natCast] at hv
    have hcl := caches_len m
    have hb : w * 1 + 1 ≤ m.caches.length := by omega
    have hcg := caches_cut m w hw
    have hcw := cacheAt_wf hm w hw
    obtain ⟨N2, q2⟩ := (ref_way (cacheAt m w) hcw ln hln).call ap76 (fun g => rfl)
    have q38 := q2 N2 (Nat.le_refl _)
    have hwl := way_len (wayOf_wf hcw ln)
    have hw1 : 0 + 1 ≤ (wayOf (cacheAt m w) ln).enc.length := by omega
    have hws := way_state (wayOf (cacheAt m w) ln)
    rw [hv]
    generalize wayOf (cacheAt m w) ln = ww at *
    generalize m.caches.flatMap Cache.enc = cs at *
    refine W_seqn (W_seqn (W_regionN ⟨N, by simp +decide only [s8, simprocAttr, hl, h1, hcut, ap71, p71, n71, q22]; rfl⟩ ⟨rfl, W_fls (W_skip ⟨rfl, ?_⟩)⟩))
    refine W_seqn (W_regionN ⟨N2, by simp +decide only [s8, simprocAttr, hl, h1, h2, hcc, hcl, hw, hb, hcg, ap76, p76, n76, q38, hwl, hws]; rfl⟩ ⟨rfl, W_ret ?_⟩)
    refine fin_of (F := f73) rfl (fun _ => rfl) ?_
    simp +decide only [s8, simprocAttr, hl]
  · rw [decide_eq_false hh] at q22
    have hv : stateOf m who ln = 0 := by unfold stateOf; rw [if_neg hh]
    rw [hv]
    refine W_seq (W_seqn (W_regionN ⟨N, by simp +decide only [s8, simprocAttr, hl, h1, hcut, ap71, p71, n71, q22]; rfl⟩ ⟨rfl, W_tru ?_⟩))
    refine W_seqn (W_region (fun k => by simp +decide only [s8, simprocAttr]; rfl) ⟨rfl, W_ret ?_⟩)
    simp only [reduceCtorEq, false_and, false_or, or_false, exists_false, exists_const, ne_eq, not_false_eq_true, true_and, implies_true]
    refine fin_of (F := f73) rfl (fun _ => rfl) ?_
    simp +decide only [s8, simprocAttr, hl]
theorem ap73 : ap 73 = some f73 := rfl
theorem p73 : f73.pure = true := rfl
theorem n73 : f73.nat = none := rfl
theorem ap72 : ap 72 = some f72 := rfl
theorem p72 : f72.pure = true := rfl
theorem n72 : f72.nat = none := rfl
theorem ref_want (m : Coh) (hm : m.wf) (who : Int) (ln : Nat) (a : Int) (hln : ln ≤ 4294967295) : E ap 55 [.agg [memT m, cachT m], .int .i64 who, .int .u32 (ln : Int), .int .i64 a] (wantT m who ln a) := by
  refine E_body (F := f55) rfl rfl rfl ?_
  generalize hs0 : (_ : List T) ++ List.replicate _ T.undef = s0
  have e0 : s0.length = 22 ∧ rho s0 (.tmp 0) = .agg [memT m, cachT m] ∧ rho s0 (.tmp 1) = .int .i64 who ∧ rho s0 (.tmp 2) = .int .u32 (ln : Int) ∧ rho s0 (.tmp 3) = .int .i64 a := by subst hs0; exact ⟨rfl, rfl, rfl, rfl, rfl⟩
  clear hs0
  obtain ⟨hl, h0, h1, h2, h3⟩ := e0
  have hleaf : allLeaf [memT m, cachT m] = true := rfl
  have hleaf2 : allLeaf [T.int .i64 0, T.int .u32 0] = true := rfl
  have hcut : cut [memT m, cachT m] 0 2 = [memT m, cachT m] := rfl
  obtain ⟨N1, q1⟩ := (ref_has m who).call ap71 (fun g => rfl)
  obtain ⟨N2, q2⟩ := (ref_state m hm who ln hln).call ap73 (fun g => rfl)
  obtain ⟨N3, q3⟩ := (ref_ask (stateOf m who ln) a).call ap72 (fun g => rfl)
  have q22 := q1 N1 (Nat.le_refl _)
  have q24 := q2 (N2 + N3) (by omega)
  have q31 := q3 (N2 + N3) (by omega)
  refine W_seqn (W_region (fun k => by simp +decide only [s8, simprocAttr, hl, h0, hleaf, hleaf2]; rfl) ⟨rfl, ?_⟩)
  by_cases hh : has m who
  · rw [decide_eq_true hh] at q22
    have hv : wantT m who ln a = .agg [.int .i64 (askv (stateOf m who ln) a), .int .u32 (ln : Int)] := by unfold wantT; rw [if_pos hh]
    have hleaf3 : allLeaf [T.int .i64 (askv (stateOf m who ln) a), T.int .u32 (ln : Int)] = true := rfl
    rw [hv]
    refine W_seqn (W_seqn (W_regionN ⟨N1, by simp +decide only [s8, simprocAttr, hl, h1, hcut, ap71, p71, n71, q22]; rfl⟩ ⟨rfl, W_fls (W_skip ⟨rfl, ?_⟩)⟩))
    refine W_seqn (W_regionN ⟨N2 + N3, by simp +decide only [s8, simprocAttr, hl, h1, h2, h3, hcut, ap73, p73, n73, q24, ap72, p72, n72, q31, hleaf3]; rfl⟩ ⟨rfl, W_ret ?_⟩)
    refine fin_cell (F := f55) (p := 1) rfl (fun _ => rfl) ?_ ?_ rfl <;> simp +decide only [s8, simprocAttr, hl]
  · rw [decide_eq_false hh] at q22
    have hv : wantT m who ln a = .agg [.int .i64 0, .int .u32 0] := by unfold wantT; rw [if_neg hh]
    rw [hv]
    refine W_seq (W_seqn (W_regionN ⟨N1, by simp +decide only [s8, simprocAttr, hl, h1, hcut, ap71, p71, n71, q22]; rfl⟩ ⟨rfl, W_tru ?_⟩))
    refine W_seqn (W_region (fun k => by simp +decide only [s8, simprocAttr, hl, hleaf2]; rfl) ⟨rfl, W_ret ?_⟩)
    simp only [reduceCtorEq, false_and, false_or, or_false, exists_false, exists_const, ne_eq, not_false_eq_true, true_and, implies_true]
    refine fin_cell (F := f55) (p := 1) rfl (fun _ => rfl) ?_ ?_ rfl <;> simp +decide only [s8, simprocAttr, hl]
def shLoop : ACode := match f81.body with | .seq _ (.seq (.seq _ (.block _ (.loop c))) _) => c | _ => .skip
theorem sh_loop (m : Coh) (hm : m.wf) (who : Int) (ln : Nat) (hln : ln ≤ 4294967295) (r : Bool) (Q : AExit → St → Prop)
    (hQr : ∀ st : St, r = true → rho st.s (.tmp 6) = .bool true → Q .ret st) (hQe : ∀ st : St, r = false → st.s.length = 25 → Q (.exit 0) st) :
    ∀ (n : Nat) (st : St), (∃ k : Nat, st.s.length = 25 ∧ rho st.s (.tmp 1) = .int .i64 who ∧ rho st.s (.tmp 2) = .int .u32 (ln : Int) ∧ rho st.s (.tmp 3) = .ptr 0 0 ∧ st.g 0 = some [memT m, cachT m] ∧ rho st.s (.tmp 7) = .int .i64 (k : Int) ∧ k ≤ m.caches.length ∧ n = m.caches.length - k ∧ sharedN m who ln k n = r) → W ap (.loop shLoop) st Q := by
  refine W_loop _ ?_
  rintro n st ⟨k, hl, h1, h2, h3, hg, h7, hk, hn, hr⟩
  have hcc : cachT m = .imm false m.caches.length (m.caches.flatMap Cache.enc) := rfl
  have hcut : cut [memT m, cachT m] 0 2 = [memT m, cachT m] := rfl
  have hmx := max_small
  have hml := hm.2.1
  by_cases hend : k = m.caches.length
  · have hlt : decide ((k : Int) < (m.caches.length : Int)) = false := decide_eq_false (by omega)
    refine W_seq (W_seqn (W_region (fun k => by simp +decide only [s8, simprocAttr, hl, h3, h7, hg, hcc, hlt]; rfl) ⟨rfl, W_fls (W_exit (.inr ⟨by simp, .inr ⟨by simp, hQe _ ?_ ?_⟩⟩))⟩))
    · rw [← hr, hn, hend, Nat.sub_self]; rfl
    · simp +decide only [s8, simprocAttr, hl]
  · have hlt : decide ((k : Int) < (m.caches.length : Int)) = true := decide_eq_true (by omega)
    have hw2 : IntKind.i64.wrap ((k : Int) + 1) = ((k + 1 : Nat) : Int) := by rw [wrap_id (by omega)]; omega
    obtain ⟨n', hn'⟩ : ∃ n', n = n' + 1 := ⟨n - 1, by omega⟩
    rw [hn', sharedN] at hr
    obtain ⟨N, q⟩ := (ref_state m hm (k : Int) ln hln).call ap73 (fun g => rfl)
    have q24 := q N (Nat.le_refl _)
    refine W_seqn (W_seqn (W_region (fun k => by simp +decide only [s8, simprocAttr, hl, h3, h7, hg, hcc, hlt]; rfl) ⟨rfl, W_tru (W_skip ⟨rfl, ?_⟩)⟩))
    cases hb1 : ((k : Int) != who) with
    | false =>
      rw [hb1] at hr
      simp only [Bool.false_and, Bool.false_eq_true, if_false] at hr
      refine W_seqn (W_block (W_seqn (W_regionN ⟨N, by simp +decide only [s8, simprocAttr, hl, h1, h2, h3, h7, hg, hcut, hb1, ap73, p73, n73, q24]; rfl⟩ ⟨rfl, W_fls (W_skip (.inr (.inl ⟨by simp, rfl, ?_⟩)))⟩)))
      refine W_region (fun k => by simp +decide only [s8, simprocAttr, hl, h7, hw2]; rfl) (.inl ⟨rfl, n', by omega, k + 1, ?_, ?_, ?_, ?_, ?_, ?_, by omega, by omega, hr⟩) <;> simp +decide only [s8, simprocAttr, hl, h1, h2, h3, hg]
    | true =>
      rw [hb1] at hr
      cases hb2 : (stateOf m (k : Int) ln != 0) with
      | false =>
        rw [hb2] at hr
        simp only [Bool.and_false, Bool.false_eq_true, if_false] at hr
        refine W_seqn (W_block (W_seqn (W_regionN ⟨N, by simp +decide only [s8, simprocAttr, hl, h1, h2, h3, h7, hg, hcut, hb1, hb2, ap73, p73, n73, q24]; rfl⟩ ⟨rfl, W_fls (W_skip (.inr (.inl ⟨by simp, rfl, ?_⟩)))⟩)))
        refine W_region (fun k => by simp +decide only [s8, simprocAttr, hl, h7, hw2]; rfl) (.inl ⟨rfl, n', by omega, k + 1, ?_, ?_, ?_, ?_, ?_, ?_, by omega, by omega, hr⟩) <;> simp +decide only [s8, simprocAttr, hl, h1, h2, h3, hg]
      | true =>
        rw [hb2] at hr
        simp only [Bool.and_self, if_true] at hr
        refine W_seq (W_block (W_seqn (W_regionN ⟨N, by simp +decide only [s8, simprocAttr, hl, h1, h2, h3, h7, hg, hcut, hb1, hb2, ap73, p73, n73, q24]; rfl⟩ ⟨rfl, W_tru ?_⟩)))
        refine W_seqn (W_region (fun k => by simp +decide only [s8, simprocAttr]; rfl) ⟨rfl, W_ret ?_⟩)
        simp only [reduceCtorEq, false_and, false_or, or_false, exists_false, exists_const, ne_eq, not_false_eq_true, true_and, implies_true]
        refine hQr _ hr.symm ?_
        simp +decide only [s8, simprocAttr, hl]
theorem ref_shared (m : Coh) (hm : m.wf) (who : Int) (ln : Nat) (hln : ln ≤ 4294967295) : E ap 81 [.agg [memT m, cachT m], .int .i64 who, .int .u32 (ln : Int)] (.bool (sharedN m who ln 0 m.caches.length)) := by
  refine E_body (F := f81) rfl rfl rfl ?_
  generalize hs0 : (_ : List T) ++ List.replicate _ T.undef = s0
  have e0 : s0.length = 25 ∧ rho s0 (.tmp 0) = .agg [memT m, cachT m] ∧ rho s0 (.tmp 1) = .int .i64 who ∧ rho s0 (.tmp 2) = .int .u32 (ln : Int) := by subst hs0; exact ⟨rfl, rfl, rfl, rfl⟩
  clear hs0
  obtain ⟨hl, h0, h1, h2⟩ := e0
  have hleaf : allLeaf [memT m, cachT m] = true := rfl
  refine W_seqn (W_region (fun k => by simp +decide only [s8, simprocAttr, hl, h0, hleaf]; rfl) ⟨rfl, ?_⟩)
  refine W_seq (W_seqn (W_region (fun k => by simp +decide only [s8, simprocAttr]; rfl) ⟨rfl, W_block ?_⟩))
  generalize hr : sharedN m who ln 0 m.caches.length = r
  refine sh_loop m hm who ln hln r _ (fun st hr h6 => ?_) (fun st hr hst => ?_) m.caches.length _ ⟨0, ?_, ?_, ?_, ?_, ?_, ?_, by omega, rfl, hr⟩
  · simp only [reduceCtorEq, false_and, false_or, or_false, exists_false, exists_const, ne_eq, not_false_eq_true, true_and, implies_true]
    rw [hr]
    exact fin_of (F := f81) rfl (fun _ => rfl) h6
  · rw [hr]
    refine .inl ⟨rfl, .inl ⟨rfl, W_seqn (W_region (fun k => by simp +decide only [s8, simprocAttr]; rfl) ⟨rfl, W_ret ?_⟩)⟩⟩
    refine fin_of (F := f81) rfl (fun _ => rfl) ?_
    simp +decide only [s8, simprocAttr, hst]
  all_goals simp +decide only [s8, simprocAttr, hl, h1, h2]
  try rfl
end Go.Proofs.YtabfinhkoihhfaaGreat.Abs
