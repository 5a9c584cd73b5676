/- Words of other texts of this place, as they are used here. -/
import Derived.Test.YtikeeegkndnnfaaC7
import Derived.Test.YtikeeegkndnnfaaD4
import Derived.Test.YtikeeegkndnnfaaFn
import Derived.Test.YtikeeegkndnnfaaTy
namespace Go.Proofs.Ytikeeegkndnnfaa.Abs
open Go Go.RowKit Fn
set_option linter.unusedVariables false
set_option linter.unusedSimpArgs false
set_option linter.unnecessarySimpa false
set_option maxRecDepth 100000
set_option maxHeartbeats 4000000
def rowT (l : List Way) : T := .imm false l.length (l.flatMap Way.enc)
def setsT (c : Cache) : T := .imm false c.sets.length (c.sets.flatMap (fun l => [rowT l]))
theorem cache_enc (c : Cache) : c.enc = [setsT c] := rfl
def row (c : Cache) (s : Nat) : List Way := (c.sets[s]?).getD []
theorem flat_lenM {α : Type} {f : α → List T} {k : Nat} : ∀ l : List α, (∀ a ∈ l, (f a).length = k) → (l.flatMap f).length = l.length * k
  | [], _ => by simp
  | x :: l, hf => by rw [List.flatMap_cons, List.length_append, hf x (List.mem_cons_self ..), flat_lenM l (fun a h => hf a (List.mem_cons_of_mem _ h)), List.length_cons, Nat.add_mul, Nat.one_mul, Nat.add_comm]
theorem flat_getM {α : Type} {f : α → List T} {k : Nat} : ∀ (l : List α), (∀ a ∈ l, (f a).length = k) → ∀ (i : Nat) (h : i < l.length) (j : Nat), j < k → (l.flatMap f)[i * k + j]? = (f l[i])[j]?
  | [], _, i, h, _, _ => by simp at h
  | x :: l, hf, 0, h, j, hj => by
    rw [List.flatMap_cons, Nat.zero_mul, Nat.zero_add, List.getElem?_append_left (by rw [hf x (List.mem_cons_self ..)]; exact hj)]; rfl
  | x :: l, hf, i + 1, h, j, hj => by
    have e : (i + 1) * k + j = k + (i * k + j) := by rw [Nat.add_mul, Nat.one_mul]; omega
    rw [List.flatMap_cons, List.getElem?_append_right (by rw [hf x (List.mem_cons_self ..), e]; omega), hf x (List.mem_cons_self ..), e, Nat.add_sub_cancel_left, flat_getM l (fun a h => hf a (List.mem_cons_of_mem _ h)) i (by simpa using h) j hj]; rfl
theorem flat_cutM {α : Type} {f : α → List T} {k : Nat} (l : List α) (hf : ∀ a ∈ l, (f a).length = k) (i : Nat) (h : i < l.length) : cut (l.flatMap f) (i * k) k = f l[i] := by
  apply List.ext_getElem?
  intro q
  rw [cut_get]
  split
  · rw [flat_getM l hf i h q (by omega)]
  · rename_i hq
    rw [List.getElem?_eq_none]; rw [hf _ (List.getElem_mem h)]; omega
theorem way_len {w : Way} (h : w.wf) : w.enc.length = 19 := by
  have := h.2.2.1.1
  simp [Way.enc, flat_len (f := fun n => [T.int .u8 n]) (k := 1) (fun _ => rfl), this]
theorem rows_get (c : Cache) (s : Nat) (h : s < c.sets.length) : (c.sets.flatMap (fun l => [rowT l]))[s * 1]? = some (rowT (row c s)) := by
  have := flat_get (f := fun l => [rowT l]) (k := 1) (fun _ => rfl) c.sets s h 0 (by omega)
  rw [Nat.add_zero] at this
  rw [this]; simp [row, h]
theorem rows_len (c : Cache) : (c.sets.flatMap (fun l => [rowT l])).length = c.sets.length := by
  rw [flat_len (f := fun l => [rowT l]) (k := 1) (fun _ => rfl), Nat.mul_one]
def zeroW : Way := ⟨0, 0, List.replicate 16 0, 0⟩
theorem zeroW_wf : zeroW.wf := by
  refine ⟨rfl, rfl, ⟨rfl, fun y hy => ?_⟩, rfl⟩
  rw [show zeroW.data = List.replicate 16 0 from rfl, List.mem_replicate] at hy
  rw [hy.2]; rfl
theorem frzAll_int {h : Hp} {d : Nat} : ∀ l : List T, (∀ x ∈ l, ∃ k n, x = .int k n) → frzAll (frz h (d + 1)) l = some (l, [])
  | [], _ => rfl
  | x :: l, hx => by
    obtain ⟨k, n, rfl⟩ := hx x (List.mem_cons_self ..)
    have e : frz h (d + 1) (.int k n) = some (.int k n, []) := rfl
    simp only [frzAll, e, frzAll_int l (fun y hy => hx y (List.mem_cons_of_mem _ hy)), List.append_nil]
theorem way_ints (w : Way) : ∀ x ∈ w.enc, ∃ k n, x = .int k n := by
  intro x hx
  simp only [Way.enc, List.mem_append, List.mem_cons, List.not_mem_nil, or_false, List.mem_flatMap] at hx
  rcases hx with rfl | rfl | ⟨a, _, rfl⟩ | rfl <;> exact ⟨_, _, rfl⟩
theorem leaf_ints : ∀ l : List T, (∀ x ∈ l, ∃ k n, x = .int k n) → allLeaf l = true := by
  intro l hl
  unfold allLeaf
  rw [List.all_eq_true]
  intro x hx
  obtain ⟨k, n, rfl⟩ := hl x hx
  rfl
theorem splice_all {c l : List T} (h : l.length = c.length) : splice c 0 l = l := by
  apply List.ext_getElem?
  intro i
  rw [splice_get l c 0 i (by omega)]
  split
  · rw [Nat.sub_zero]
  · rw [List.getElem?_eq_none (by omega), List.getElem?_eq_none (by omega)]
theorem cut_all {c : List T} {n : Nat} (h : c.length = n) : cut c 0 n = c := by
  unfold cut; rw [List.drop_zero, List.take_of_length_le (by omega)]
def memT (m : Coh) : T := .imm false m.mem.length (m.mem.flatMap (fun n => [T.int .u8 n]))
def cachT (m : Coh) : T := .imm false m.caches.length (m.caches.flatMap Cache.enc)
theorem coh_enc (m : Coh) : m.enc = [memT m, cachT m] := rfl
def cacheAt (m : Coh) (k : Nat) : Cache := (m.caches[k]?).getD default
theorem caches_len (m : Coh) : (m.caches.flatMap Cache.enc).length = m.caches.length := by
  rw [flat_len (f := Cache.enc) (k := 1) (fun _ => rfl), Nat.mul_one]
theorem caches_get (m : Coh) (k : Nat) (h : k < m.caches.length) : (m.caches.flatMap Cache.enc)[k * 1]? = some (setsT (cacheAt m k)) := by
  have := flat_get (f := Cache.enc) (k := 1) (fun _ => rfl) m.caches k h 0 (by omega)
  rw [Nat.add_zero] at this
  rw [this, cache_enc]; simp [cacheAt, h]
def wayN (l : List Way) (k : Nat) : Way := (l[k]?).getD default
theorem zenc_leaf : allLeaf zeroW.enc = true := rfl
theorem conf_u8 : ∀ (d : List Int) (ks : List (Option IntKind)) (xs : List T), (∀ y ∈ d, (Lit.int .u8 y).wf = true) → conf (List.replicate d.length (some .u8) ++ ks) (d.flatMap (fun n => [T.int .u8 n]) ++ xs) = conf ks xs
  | [], ks, xs, _ => by simp
  | y :: d, ks, xs, h => by
    have hy := wf_u8 (h y (List.mem_cons_self ..))
    have e : conf1 (some .u8) (.int .u8 y) = (true && (decide ((0 : Int) ≤ y) && decide (y ≤ 2 ^ 8 - 1))) := rfl
    rw [List.length_cons, List.replicate_succ, List.flatMap_cons, List.cons_append, List.append_assoc, List.singleton_append, conf, conf_u8 d ks xs (fun z hz => h z (List.mem_cons_of_mem _ hz)), e, decide_eq_true (by omega), decide_eq_true (by omega)]
    rfl
theorem eqL_ints : ∀ l : List T, (∀ x ∈ l, ∃ k n, x = .int k n) → eqL l l = true
  | [], _ => rfl
  | x :: l, h => by
    obtain ⟨k, n, rfl⟩ := h x (List.mem_cons_self ..)
    have e : eq1 (.int k n) (.int k n) = true := by simp [eq1]
    rw [eqL, e, eqL_ints l (fun y hy => h y (List.mem_cons_of_mem _ hy))]; rfl
theorem eq_way (w : Way) : eqL w.enc w.enc = true := eqL_ints _ (way_ints w)
theorem conf_way (w : Way) (h : w.wf) : conf [some .i64, some .u32, some .u8, some .u8, some .u8, some .u8, some .u8, some .u8, some .u8, some .u8, some .u8, some .u8, some .u8, some .u8, some .u8, some .u8, some .u8, some .u8, some .i64] w.enc = true := by
  have h1 := wf_i64 h.1
  have h2 := wf_u32 h.2.1
  have h3 := wf_i64 h.2.2.2
  have hd := conf_u8 w.data [some .i64] [T.int .i64 w.age] h.2.2.1.2
  rw [h.2.2.1.1] at hd
  have e1 : conf1 (some .i64) (.int .i64 w.state) = (true && (decide (-(2 ^ 63) ≤ w.state) && decide (w.state ≤ 2 ^ 63 - 1))) := rfl
  have e2 : conf1 (some .u32) (.int .u32 w.tag) = (true && (decide ((0 : Int) ≤ w.tag) && decide (w.tag ≤ 2 ^ 32 - 1))) := rfl
  have e3 : conf [some .i64] [T.int .i64 w.age] = ((true && (decide (-(2 ^ 63) ≤ w.age) && decide (w.age ≤ 2 ^ 63 - 1))) && true) := rfl
  have e4 : w.enc = T.int .i64 w.state :: T.int .u32 w.tag :: (w.data.flatMap (fun n => [T.int .u8 n]) ++ [T.int .i64 w.age]) := rfl
  rw [e4, conf, conf]
  have e5 : conf [some .u8, some .u8, some .u8, some .u8, some .u8, some .u8, some .u8, some .u8, some .u8, some .u8, some .u8, some .u8, some .u8, some .u8, some .u8, some .u8, some .i64] (w.data.flatMap (fun n => [T.int .u8 n]) ++ [T.int .i64 w.age]) = conf [some .i64] [T.int .i64 w.age] := hd
  rw [e5, e1, e2, e3, decide_eq_true (by omega), decide_eq_true (by omega), decide_eq_true (by omega), decide_eq_true (by omega), decide_eq_true (by omega), decide_eq_true (by omega)]
  rfl
def sameOut : ACode := match f21.body with | .seq _ (.seq _ (.seq (.seq _ (.block _ (.loop c))) _)) => c | _ => .skip
def sameIn : ACode := match sameOut with | .seq _ (.seq (.block _ (.seq _ (.seq _ (.block _ (.loop c))))) _) => c | _ => .skip
theorem same_in (fx fy : Bool) (n : Nat) (xs ys : List T) (hxl : xs.length = n) (hyl : ys.length = n) (i : Nat) (hi : i < n) (f f' : Bool) (l : List Way) (hw : ∀ w ∈ l, w.wf) (hll : l.length ≤ 1000) (hx : xs[i * 1]? = some (.imm f l.length (l.flatMap Way.enc))) (hy : ys[i * 1]? = some (.imm f' l.length (l.flatMap Way.enc))) (Q : AExit → St → Prop)
    (hQe : ∀ st : St, st.s.length = 78 → rho st.s (.tmp 2) = .ptr 0 0 → rho st.s (.tmp 3) = .ptr 1 0 → st.g 0 = some [.imm fx n xs] → st.g 1 = some [.imm fy n ys] → rho st.s (.tmp 5) = .int .i64 (i : Int) → Q (.exit 2) st) :
    ∀ (m : Nat) (st : St), (∃ k : Nat, st.s.length = 78 ∧ rho st.s (.tmp 2) = .ptr 0 0 ∧ rho st.s (.tmp 3) = .ptr 1 0 ∧ st.g 0 = some [.imm fx n xs] ∧ st.g 1 = some [.imm fy n ys] ∧ rho st.s (.tmp 5) = .int .i64 (i : Int) ∧ rho st.s (.tmp 6) = .int .i64 (k : Int) ∧ k ≤ l.length ∧ m = l.length - k) → W ap (.loop sameIn) st Q := by
  refine W_loop _ ?_
  rintro m st ⟨k, hl, h2, h3, hg0, hg1, h5, h6, hk, hm⟩
  have hb : i * 1 + 1 ≤ n := by omega
  by_cases hend : k = l.length
  · have hlt : decide ((k : Int) < (l.length : Int)) = false := decide_eq_false (by omega)
    refine W_seq (W_seqn (W_region (fun k => by simp (decide := true) only [sims, eqs, autos, T.cells, T.leaf, Nat.reduceLT, Nat.reduceAdd, Nat.reduceMul, Nat.reduceLeDiff, Nat.reduceEqDiff, reduceIte, Int.reduceBEq, Int.reduceBNe, Int.reduceLT, Int.reduceLE, Int.reduceGT, Int.reduceGE, Int.reduceNeg, reduceCtorEq, hl, h2, h3, hg0, hg1, h5, h6, hxl, hyl, hi, hb, hx, hy, hlt]; rfl) ⟨rfl, W_false (by simp (decide := true) only [sims, eqs, autos, T.cells, T.leaf, Nat.reduceLT, Nat.reduceAdd, Nat.reduceMul, Nat.reduceLeDiff, Nat.reduceEqDiff, reduceIte, Int.reduceBEq, Int.reduceBNe, Int.reduceLT, Int.reduceLE, Int.reduceGT, Int.reduceGE, Int.reduceNeg, reduceCtorEq, hl] <;> rfl) (W_exit (.inr ⟨by simp, .inr ⟨by simp, hQe _ ?_ ?_ ?_ ?_ ?_ ?_⟩⟩))⟩)) <;> simp (decide := true) only [sims, eqs, autos, T.cells, T.leaf, Nat.reduceLT, Nat.reduceAdd, Nat.reduceMul, Nat.reduceLeDiff, Nat.reduceEqDiff, reduceIte, Int.reduceBEq, Int.reduceBNe, Int.reduceLT, Int.reduceLE, Int.reduceGT, Int.reduceGE, Int.reduceNeg, reduceCtorEq, hl, h2, h3, hg0, hg1, h5]
  · have hlt : decide ((k : Int) < (l.length : Int)) = true := decide_eq_true (by omega)
    have hkl : k < l.length := by omega
    have hw2 : IntKind.i64.wrap ((k : Int) + 1) = ((k + 1 : Nat) : Int) := by rw [wrap_id (by omega)]; omega
    have hfl := flat_lenM (f := Way.enc) l (fun w h => way_len (hw w h))
    have hb2 : k * 19 + 19 ≤ (l.flatMap Way.enc).length := by omega
    have hcw : cut (l.flatMap Way.enc) (k * 19) 19 = (l[k]).enc := flat_cutM l (fun w h => way_len (hw w h)) k hkl
    have hcf := conf_way l[k] (hw _ (List.getElem_mem hkl))
    have heq := eq_way l[k]
    generalize (l[k]).enc = we at *
    generalize l.flatMap Way.enc = ws at *
    refine W_seqn (W_seqn (W_region (fun k => by simp (decide := true) only [sims, eqs, autos, T.cells, T.leaf, Nat.reduceLT, Nat.reduceAdd, Nat.reduceMul, Nat.reduceLeDiff, Nat.reduceEqDiff, reduceIte, Int.reduceBEq, Int.reduceBNe, Int.reduceLT, Int.reduceLE, Int.reduceGT, Int.reduceGE, Int.reduceNeg, reduceCtorEq, hl, h2, h3, hg0, hg1, h5, h6, hxl, hyl, hi, hb, hx, hy, hlt]; rfl) ⟨rfl, W_true (by simp (decide := true) only [sims, eqs, autos, T.cells, T.leaf, Nat.reduceLT, Nat.reduceAdd, Nat.reduceMul, Nat.reduceLeDiff, Nat.reduceEqDiff, reduceIte, Int.reduceBEq, Int.reduceBNe, Int.reduceLT, Int.reduceLE, Int.reduceGT, Int.reduceGE, Int.reduceNeg, reduceCtorEq, hl] <;> rfl) (W_skip ⟨rfl, ?_⟩)⟩))
    refine W_seqn (W_block (W_seqn (W_region (fun k => by simp (decide := true) only [sims, eqs, autos, T.cells, T.leaf, Nat.reduceLT, Nat.reduceAdd, Nat.reduceMul, Nat.reduceLeDiff, Nat.reduceEqDiff, reduceIte, Int.reduceBEq, Int.reduceBNe, Int.reduceLT, Int.reduceLE, Int.reduceGT, Int.reduceGE, Int.reduceNeg, reduceCtorEq, hl, h2, h3, hg0, hg1, h5, h6, hxl, hyl, hi, hb, hx, hy, hkl, hb2, hcw, hcf, heq]; rfl) ⟨rfl, W_false (by simp (decide := true) only [sims, eqs, autos, T.cells, T.leaf, Nat.reduceLT, Nat.reduceAdd, Nat.reduceMul, Nat.reduceLeDiff, Nat.reduceEqDiff, reduceIte, Int.reduceBEq, Int.reduceBNe, Int.reduceLT, Int.reduceLE, Int.reduceGT, Int.reduceGE, Int.reduceNeg, reduceCtorEq, hl] <;> rfl) (W_skip (.inr (.inl ⟨by simp, rfl, ?_⟩)))⟩)))
    refine W_region (fun k => by simp (decide := true) only [sims, eqs, autos, T.cells, T.leaf, Nat.reduceLT, Nat.reduceAdd, Nat.reduceMul, Nat.reduceLeDiff, Nat.reduceEqDiff, reduceIte, Int.reduceBEq, Int.reduceBNe, Int.reduceLT, Int.reduceLE, Int.reduceGT, Int.reduceGE, Int.reduceNeg, reduceCtorEq, hl, h6, hw2]; rfl) (.inl ⟨rfl, l.length - (k + 1), by omega, k + 1, ?_, ?_, ?_, ?_, ?_, ?_, ?_, by omega, rfl⟩) <;> simp (decide := true) only [sims, eqs, autos, T.cells, T.leaf, Nat.reduceLT, Nat.reduceAdd, Nat.reduceMul, Nat.reduceLeDiff, Nat.reduceEqDiff, reduceIte, Int.reduceBEq, Int.reduceBNe, Int.reduceLT, Int.reduceLE, Int.reduceGT, Int.reduceGE, Int.reduceNeg, reduceCtorEq, hl, h2, h3, hg0, hg1, h5]
/-- A tree of rows, whatever is known of their capacities. -/
def Tells (xs : List T) (R : List (List Way)) : Prop := xs.length = R.length ∧ ∀ i (h : i < R.length), ∃ f, xs[i * 1]? = some (.imm f R[i].length (R[i].flatMap Way.enc))
theorem same_out (fx fy : Bool) (R : List (List Way)) (xs ys : List T) (hx : Tells xs R) (hy : Tells ys R) (hR : R.length ≤ 1000) (hw : ∀ l ∈ R, l.length ≤ 1000 ∧ ∀ w ∈ l, w.wf) (Q : AExit → St → Prop)
    (hQe : ∀ st : St, st.s.length = 78 → Q (.exit 0) st) :
    ∀ (m : Nat) (st : St), (∃ i : Nat, st.s.length = 78 ∧ rho st.s (.tmp 2) = .ptr 0 0 ∧ rho st.s (.tmp 3) = .ptr 1 0 ∧ st.g 0 = some [.imm fx R.length xs] ∧ st.g 1 = some [.imm fy R.length ys] ∧ rho st.s (.tmp 5) = .int .i64 (i : Int) ∧ i ≤ R.length ∧ m = R.length - i) → W ap (.loop sameOut) st Q := by
  refine W_loop _ ?_
  rintro m st ⟨i, hl, h2, h3, hg0, hg1, h5, hi, hm⟩
  by_cases hend : i = R.length
  · have hlt : decide ((i : Int) < (R.length : Int)) = false := decide_eq_false (by omega)
    refine W_seq (W_seqn (W_region (fun k => by simp (decide := true) only [sims, eqs, autos, T.cells, T.leaf, Nat.reduceLT, Nat.reduceAdd, Nat.reduceMul, Nat.reduceLeDiff, Nat.reduceEqDiff, reduceIte, Int.reduceBEq, Int.reduceBNe, Int.reduceLT, Int.reduceLE, Int.reduceGT, Int.reduceGE, Int.reduceNeg, reduceCtorEq, hl, h2, h3, hg0, hg1, h5, hlt]; rfl) ⟨rfl, W_false (by simp (decide := true) only [sims, eqs, autos, T.cells, T.leaf, Nat.reduceLT, Nat.reduceAdd, Nat.reduceMul, Nat.reduceLeDiff, Nat.reduceEqDiff, reduceIte, Int.reduceBEq, Int.reduceBNe, Int.reduceLT, Int.reduceLE, Int.reduceGT, Int.reduceGE, Int.reduceNeg, reduceCtorEq, hl] <;> rfl) (W_exit (.inr ⟨by simp, .inr ⟨by simp, hQe _ ?_⟩⟩))⟩))
    simp (decide := true) only [sims, eqs, autos, T.cells, T.leaf, Nat.reduceLT, Nat.reduceAdd, Nat.reduceMul, Nat.reduceLeDiff, Nat.reduceEqDiff, reduceIte, Int.reduceBEq, Int.reduceBNe, Int.reduceLT, Int.reduceLE, Int.reduceGT, Int.reduceGE, Int.reduceNeg, reduceCtorEq, hl]
  · have hlt : decide ((i : Int) < (R.length : Int)) = true := decide_eq_true (by omega)
    have hil : i < R.length := by omega
    have hb : i * 1 + 1 ≤ R.length := by omega
    have hxl := hx.1
    have hyl := hy.1
    obtain ⟨f, hxi⟩ := hx.2 i hil
    obtain ⟨f', hyi⟩ := hy.2 i hil
    obtain ⟨hll, hlw⟩ := hw _ (List.getElem_mem hil)
    have hne : ((R[i].length : Int) != (R[i].length : Int)) = false := by simp
    have hw2 : IntKind.i64.wrap ((i : Int) + 1) = ((i + 1 : Nat) : Int) := by rw [wrap_id (by omega)]; omega
    refine W_seqn (W_seqn (W_region (fun k => by simp (decide := true) only [sims, eqs, autos, T.cells, T.leaf, Nat.reduceLT, Nat.reduceAdd, Nat.reduceMul, Nat.reduceLeDiff, Nat.reduceEqDiff, reduceIte, Int.reduceBEq, Int.reduceBNe, Int.reduceLT, Int.reduceLE, Int.reduceGT, Int.reduceGE, Int.reduceNeg, reduceCtorEq, hl, h2, h3, hg0, hg1, h5, hlt]; rfl) ⟨rfl, W_true (by simp (decide := true) only [sims, eqs, autos, T.cells, T.leaf, Nat.reduceLT, Nat.reduceAdd, Nat.reduceMul, Nat.reduceLeDiff, Nat.reduceEqDiff, reduceIte, Int.reduceBEq, Int.reduceBNe, Int.reduceLT, Int.reduceLE, Int.reduceGT, Int.reduceGE, Int.reduceNeg, reduceCtorEq, hl] <;> rfl) (W_skip ⟨rfl, ?_⟩)⟩))
    refine W_seqn (W_block ?_)
    refine W_seqn (W_seqn (W_region (fun k => by simp (decide := true) only [sims, eqs, autos, T.cells, T.leaf, Nat.reduceLT, Nat.reduceAdd, Nat.reduceMul, Nat.reduceLeDiff, Nat.reduceEqDiff, reduceIte, Int.reduceBEq, Int.reduceBNe, Int.reduceLT, Int.reduceLE, Int.reduceGT, Int.reduceGE, Int.reduceNeg, reduceCtorEq, hl, h2, h3, hg0, hg1, h5, hxl, hyl, hil, hb, hxi, hyi, hne]; rfl) ⟨rfl, W_false (by simp (decide := true) only [sims, eqs, autos, T.cells, T.leaf, Nat.reduceLT, Nat.reduceAdd, Nat.reduceMul, Nat.reduceLeDiff, Nat.reduceEqDiff, reduceIte, Int.reduceBEq, Int.reduceBNe, Int.reduceLT, Int.reduceLE, Int.reduceGT, Int.reduceGE, Int.reduceNeg, reduceCtorEq, hl] <;> rfl) (W_skip ⟨rfl, ?_⟩)⟩))
    refine W_seqn (W_region (fun k => by simp (decide := true) only [sims, eqs, autos, T.cells, T.leaf, Nat.reduceLT, Nat.reduceAdd, Nat.reduceMul, Nat.reduceLeDiff, Nat.reduceEqDiff, reduceIte, Int.reduceBEq, Int.reduceBNe, Int.reduceLT, Int.reduceLE, Int.reduceGT, Int.reduceGE, Int.reduceNeg, reduceCtorEq]; rfl) ⟨rfl, W_block ?_⟩)
    refine same_in fx fy R.length xs ys hxl hyl i hil f f' R[i] hlw hll hxi hyi _ (fun st hl h2 h3 hg0 hg1 h5 => ?_) (R[i].length - 0) _ ⟨0, ?_, ?_, ?_, ?_, ?_, ?_, ?_, by omega, rfl⟩
    · refine .inl ⟨rfl, .inr (.inl ⟨by simp, rfl, ?_⟩)⟩
      refine W_region (fun k => by simp (decide := true) only [sims, eqs, autos, T.cells, T.leaf, Nat.reduceLT, Nat.reduceAdd, Nat.reduceMul, Nat.reduceLeDiff, Nat.reduceEqDiff, reduceIte, Int.reduceBEq, Int.reduceBNe, Int.reduceLT, Int.reduceLE, Int.reduceGT, Int.reduceGE, Int.reduceNeg, reduceCtorEq, hl, h5, hw2]; rfl) (.inl ⟨rfl, R.length - (i + 1), by omega, i + 1, ?_, ?_, ?_, ?_, ?_, ?_, by omega, rfl⟩) <;> simp (decide := true) only [sims, eqs, autos, T.cells, T.leaf, Nat.reduceLT, Nat.reduceAdd, Nat.reduceMul, Nat.reduceLeDiff, Nat.reduceEqDiff, reduceIte, Int.reduceBEq, Int.reduceBNe, Int.reduceLT, Int.reduceLE, Int.reduceGT, Int.reduceGE, Int.reduceNeg, reduceCtorEq, hl, h2, h3, hg0, hg1]
    all_goals first | (simp (decide := true) only [sims, eqs, autos, T.cells, T.leaf, Nat.reduceLT, Nat.reduceAdd, Nat.reduceMul, Nat.reduceLeDiff, Nat.reduceEqDiff, reduceIte, Int.reduceBEq, Int.reduceBNe, Int.reduceLT, Int.reduceLE, Int.reduceGT, Int.reduceGE, Int.reduceNeg, reduceCtorEq, hl, h2, h3, hg0, hg1, h5]; done) | (simp (decide := true) only [sims, eqs, autos, T.cells, T.leaf, Nat.reduceLT, Nat.reduceAdd, Nat.reduceMul, Nat.reduceLeDiff, Nat.reduceEqDiff, reduceIte, Int.reduceBEq, Int.reduceBNe, Int.reduceLT, Int.reduceLE, Int.reduceGT, Int.reduceGE, Int.reduceNeg, reduceCtorEq, hl, h2, h3, hg0, hg1, h5]; rfl)
theorem same_cache (fx fy : Bool) (R : List (List Way)) (xs ys : List T) (hx : Tells xs R) (hy : Tells ys R) (hR : R.length ≤ 1000) (hw : ∀ l ∈ R, l.length ≤ 1000 ∧ ∀ w ∈ l, w.wf) : E ap 21 [.agg [.imm fx R.length xs], .agg [.imm fy R.length ys]] (.bool true) := by
  refine E_body (F := f21) rfl rfl rfl ?_
  generalize hs0 : (_ : List T) ++ List.replicate _ T.undef = s0
  have e0 : s0.length = 78 ∧ rho s0 (.tmp 0) = .agg [.imm fx R.length xs] ∧ rho s0 (.tmp 1) = .agg [.imm fy R.length ys] := by subst hs0; exact ⟨rfl, rfl, rfl⟩
  clear hs0
  obtain ⟨hl, h0, h1⟩ := e0
  have hl1 : allLeaf [T.imm fx R.length xs] = true := rfl
  have hl2 : allLeaf [T.imm fy R.length ys] = true := rfl
  have hne : ((R.length : Int) != (R.length : Int)) = false := by simp
  refine W_seqn (W_region (fun k => by simp (decide := true) only [sims, eqs, autos, T.cells, T.leaf, Nat.reduceLT, Nat.reduceAdd, Nat.reduceMul, Nat.reduceLeDiff, Nat.reduceEqDiff, reduceIte, Int.reduceBEq, Int.reduceBNe, Int.reduceLT, Int.reduceLE, Int.reduceGT, Int.reduceGE, Int.reduceNeg, reduceCtorEq, hl, h0, h1, hl1, hl2]; rfl) ⟨rfl, ?_⟩)
  refine W_seqn (W_seqn (W_region (fun k => by simp (decide := true) only [sims, eqs, autos, T.cells, T.leaf, Nat.reduceLT, Nat.reduceAdd, Nat.reduceMul, Nat.reduceLeDiff, Nat.reduceEqDiff, reduceIte, Int.reduceBEq, Int.reduceBNe, Int.reduceLT, Int.reduceLE, Int.reduceGT, Int.reduceGE, Int.reduceNeg, reduceCtorEq, hl, hne]; rfl) ⟨rfl, W_false (by simp (decide := true) only [sims, eqs, autos, T.cells, T.leaf, Nat.reduceLT, Nat.reduceAdd, Nat.reduceMul, Nat.reduceLeDiff, Nat.reduceEqDiff, reduceIte, Int.reduceBEq, Int.reduceBNe, Int.reduceLT, Int.reduceLE, Int.reduceGT, Int.reduceGE, Int.reduceNeg, reduceCtorEq, hl] <;> rfl) (W_skip ⟨rfl, ?_⟩)⟩))
  refine W_seq (W_seqn (W_region (fun k => by simp (decide := true) only [sims, eqs, autos, T.cells, T.leaf, Nat.reduceLT, Nat.reduceAdd, Nat.reduceMul, Nat.reduceLeDiff, Nat.reduceEqDiff, reduceIte, Int.reduceBEq, Int.reduceBNe, Int.reduceLT, Int.reduceLE, Int.reduceGT, Int.reduceGE, Int.reduceNeg, reduceCtorEq]; rfl) ⟨rfl, W_block ?_⟩))
  refine same_out fx fy R xs ys hx hy hR hw _ (fun st hst => ?_) (R.length - 0) _ ⟨0, ?_, ?_, ?_, ?_, ?_, ?_, by omega, rfl⟩
  · refine .inl ⟨rfl, .inl ⟨rfl, W_seqn (W_region (fun k => by simp (decide := true) only [sims, eqs, autos, T.cells, T.leaf, Nat.reduceLT, Nat.reduceAdd, Nat.reduceMul, Nat.reduceLeDiff, Nat.reduceEqDiff, reduceIte, Int.reduceBEq, Int.reduceBNe, Int.reduceLT, Int.reduceLE, Int.reduceGT, Int.reduceGE, Int.reduceNeg, reduceCtorEq]; rfl) ⟨rfl, W_ret ?_⟩)⟩⟩
    refine fin_of (F := f21) rfl (fun _ => rfl) ?_
    simp (decide := true) only [sims, eqs, autos, T.cells, T.leaf, Nat.reduceLT, Nat.reduceAdd, Nat.reduceMul, Nat.reduceLeDiff, Nat.reduceEqDiff, reduceIte, Int.reduceBEq, Int.reduceBNe, Int.reduceLT, Int.reduceLE, Int.reduceGT, Int.reduceGE, Int.reduceNeg, reduceCtorEq, hst]
  all_goals first | (simp (decide := true) only [sims, eqs, autos, T.cells, T.leaf, Nat.reduceLT, Nat.reduceAdd, Nat.reduceMul, Nat.reduceLeDiff, Nat.reduceEqDiff, reduceIte, Int.reduceBEq, Int.reduceBNe, Int.reduceLT, Int.reduceLE, Int.reduceGT, Int.reduceGE, Int.reduceNeg, reduceCtorEq, hl]; done) | (simp (decide := true) only [sims, eqs, autos, T.cells, T.leaf, Nat.reduceLT, Nat.reduceAdd, Nat.reduceMul, Nat.reduceLeDiff, Nat.reduceEqDiff, reduceIte, Int.reduceBEq, Int.reduceBNe, Int.reduceLT, Int.reduceLE, Int.reduceGT, Int.reduceGE, Int.reduceNeg, reduceCtorEq, hl]; rfl)
def aged (x : Way) (a : Int) : Way := { x with age := a }
def up (a : Int) (x : Way) : Way := if x.age < a then aged x (x.age + 1) else x
theorem wayN_eq {l : List Way} {k : Nat} (h : k < l.length) : wayN l k = l[k] := by unfold wayN; rw [List.getElem?_eq_getElem h]; rfl
theorem wayN_wf {l : List Way} (hw : ∀ w ∈ l, w.wf) {k : Nat} (h : k < l.length) : (wayN l k).wf := by rw [wayN_eq h]; exact hw _ (List.getElem_mem h)
theorem aged_wf {x : Way} (h : x.wf) {a : Int} (ha : (Lit.int .i64 a).wf = true) : (aged x a).wf := ⟨h.1, h.2.1, h.2.2.1, ha⟩
theorem lit_i64 {n : Int} (h : -9223372036854775808 ≤ n ∧ n ≤ 9223372036854775807) : (Lit.int .i64 n).wf = true := by
  have e : (Lit.int .i64 n).wf = (decide (-(2 ^ 63) ≤ n) && decide (n ≤ 2 ^ 63 - 1)) := rfl
  rw [e, decide_eq_true (by omega), decide_eq_true (by omega)]; rfl
/-- A way's age, set, among the cells. -/
theorem enc_app (l : List Way) (x : Way) (r : List Way) : (l ++ x :: r).flatMap Way.enc = l.flatMap Way.enc ++ (x.enc ++ r.flatMap Way.enc) := by
  rw [List.flatMap_append, List.flatMap_cons]
theorem set_enc (l : List Way) (hw : ∀ w ∈ l, w.wf) (k : Nat) (h : k < l.length) (y : Way) (o : Nat) (v : T) (ho : o < 19) (hy : y.enc = (wayN l k).enc.set o v) : (l.set k y).flatMap Way.enc = (l.flatMap Way.enc).set (k * 19 + o) v := by
  have hl : l = l.take k ++ wayN l k :: l.drop (k + 1) := by rw [wayN_eq h, List.getElem_cons_drop, List.take_append_drop]
  have hk : (l.take k).length = k := by rw [List.length_take]; omega
  have hf : ((l.take k).flatMap Way.enc).length = k * 19 := by
    rw [flat_lenM (f := Way.enc) (l.take k) (fun w h => way_len (hw w (List.mem_of_mem_take h))), hk]
  have e1 : l.set k y = l.take k ++ y :: l.drop (k + 1) := by rw [List.set_eq_take_append_cons_drop, if_pos h]
  have hwl := way_len (wayN_wf hw h)
  conv => rhs; rw [hl]
  rw [e1, enc_app, enc_app, List.set_append_right _ _ (by omega), hf, Nat.add_sub_cancel_left, List.set_append_left _ _ (by omega), ← hy]
theorem set_age (l : List Way) (hw : ∀ w ∈ l, w.wf) (k : Nat) (h : k < l.length) (a : Int) : (l.set k (aged (wayN l k) a)).flatMap Way.enc = (l.flatMap Way.enc).set (k * 19 + 18) (.int .i64 a) := by
  refine set_enc l hw k h _ 18 _ (by omega) ?_
  have hd := (wayN_wf hw h).2.2.1.1
  generalize wayN l k = x at *
  have e : x.enc = T.int .i64 x.state :: T.int .u32 x.tag :: (x.data.flatMap (fun n => [T.int .u8 n]) ++ [T.int .i64 x.age]) := rfl
  have e' : (aged x a).enc = T.int .i64 x.state :: T.int .u32 x.tag :: (x.data.flatMap (fun n => [T.int .u8 n]) ++ [T.int .i64 a]) := rfl
  have hl : (x.data.flatMap (fun n => [T.int .u8 n])).length = 16 := by rw [flat_len (f := fun n => [T.int .u8 n]) (k := 1) (fun _ => rfl), hd]
  rw [e, e', List.set_cons_succ, List.set_cons_succ, List.set_append_right _ _ (by omega), hl]; rfl
theorem frzAll_pt {f : T → Option (T × List Nat)} : ∀ (l l' : List T), l.length = l'.length → (∀ j (h : j < l.length) (h' : j < l'.length), ∃ ids, f l[j] = some (l'[j], ids)) → ∃ ids, frzAll f l = some (l', ids)
  | [], [], _, _ => ⟨[], rfl⟩
  | x :: l, y :: l', hl, h => by
    obtain ⟨is, h1⟩ := h 0 (by simp) (by simp)
    obtain ⟨js, h2⟩ := frzAll_pt l l' (by simpa using hl) (fun j hj hj' => h (j + 1) (by simp; omega) (by simp; omega))
    simp only [List.getElem_cons_zero] at h1
    exact ⟨is ++ js, by simp only [frzAll, h1, h2]⟩
  | [], _ :: _, hl, _ => by simp at hl
  | _ :: _, [], hl, _ => by simp at hl
theorem enc_ints (l : List Way) : ∀ x ∈ l.flatMap Way.enc, ∃ k n, x = .int k n := by
  intro x hx
  rw [List.mem_flatMap] at hx
  obtain ⟨w, _, hw⟩ := hx
  exact way_ints w x hw
theorem enc_leaf (l : List Way) : allLeaf (l.flatMap Way.enc) = true := leaf_ints _ (enc_ints l)
theorem enc_len (l : List Way) (hw : ∀ w ∈ l, w.wf) : (l.flatMap Way.enc).length = l.length * 19 := flat_lenM (f := Way.enc) l (fun w h => way_len (hw w h))
theorem frz_own {h : Hp} {d t n es : Nat} {c c' : List T} (hg : h.get t = some c) (hl : c.length = n * es) (hf : ∃ ids, frzAll (frz h d) c = some (c', ids)) : ∃ ids, frz h (d + 1) (.own t 0 n es) = some (.imm false n c', ids) := by
  obtain ⟨ids, hf⟩ := hf
  have e : ((c.drop 0).take (n * es)) = c := by rw [List.drop_zero, List.take_of_length_le (by omega)]
  exact ⟨t :: ids, by simp only [frz, hg, e, hl, if_true, hf]⟩
theorem frz_agg1 {h : Hp} {d : Nat} {x y : T} (hf : ∃ ids, frz h d x = some (y, ids)) : ∃ ids, frz h (d + 1) (.agg [x]) = some (.agg [y], ids) := by
  obtain ⟨ids, hf⟩ := hf
  exact ⟨ids ++ [], by simp only [frz, frzAll, hf]⟩
def rowN (R : List (List Way)) (j : Nat) : List Way := (R[j]?).getD []
/-- n rows, each in a block of its own, with the slice of them behind. -/
def CopyAt (g : Mem) (v : T) (R : List (List Way)) (lo hi n : Nat) : Prop :=
  (n = 0 ∧ v = .imm true 0 []) ∨ (0 < n ∧ ∃ (A : Nat) (els : List T) (bf : Nat → Nat), v = .own A 0 n 1 ∧ g A = some els ∧ els.length = n ∧ allLeaf els = true ∧ A < hi ∧ ∀ j, j < n → els[j]? = some (.own (bf j) 0 (rowN R j).length 19) ∧ g (bf j) = some ((rowN R j).flatMap Way.enc) ∧ lo ≤ bf j ∧ bf j < A ∧ ∀ k, j < k → k < n → bf j < bf k)
theorem CopyAt.mono {g g' : Mem} {v : T} {R : List (List Way)} {lo hi hi' n : Nat} (h : CopyAt g v R lo hi n) (hh : hi ≤ hi') (hg : ∀ t, lo ≤ t → t < hi → g' t = g t) : CopyAt g' v R lo hi' n := by
  rcases h with h | ⟨h0, A, els, bf, h1, h2, h3, h4, h5, h6⟩
  · exact .inl h
  · have hA : lo ≤ A := by obtain ⟨_, _, a, b, _⟩ := h6 0 h0; omega
    refine .inr ⟨h0, A, els, bf, h1, by rw [hg A hA h5]; exact h2, h3, h4, by omega, fun j hj => ?_⟩
    obtain ⟨a, b, c, d, e⟩ := h6 j hj
    exact ⟨a, by rw [hg _ c (by omega)]; exact b, c, d, e⟩
theorem CopyAt.snoc {g g' : Mem} {v : T} {R : List (List Way)} {lo hi hi' n b A : Nat} {els : List T} (h : CopyAt g v R lo hi n) (hv : n = 0 ∧ els = [] ∨ (∃ B, v = .own B 0 n 1 ∧ g B = some els)) (hlo : lo ≤ hi) (hb : hi ≤ b) (hbA : b < A) (hA : A < hi') (hg : ∀ t, lo ≤ t → t < hi → (∀ k, v ≠ .own t 0 k 1) → g' t = g t) (hgb : g' b = some ((rowN R n).flatMap Way.enc)) (hgA : g' A = some (els ++ [.own b 0 (rowN R n).length 19])) : CopyAt g' (.own A 0 (n + 1) 1) R lo hi' (n + 1) := by
  rcases h with ⟨h0, h1⟩ | ⟨h0, B, els', bf, h1, h2, h3, h4, h5, h6⟩
  · subst h0
    have he : els = [] := by
      rcases hv with ⟨_, h⟩ | ⟨B, h, _⟩
      · exact h
      · rw [h1] at h; cases h
    subst he
    refine .inr ⟨by omega, A, _, fun _ => b, rfl, hgA, rfl, rfl, hA, fun j hj => ?_⟩
    obtain rfl : j = 0 := by omega
    exact ⟨rfl, hgb, by show lo ≤ b; omega, hbA, fun k h1 h2 => by omega⟩
  · have he : els = els' := by
      rcases hv with ⟨h, _⟩ | ⟨B', h, h'⟩
      · omega
      · rw [h1] at h; injection h with e1; subst e1
        rw [h2] at h'; exact (Option.some.inj h').symm
    subst he
    refine .inr ⟨by omega, A, _, fun j => if j = n then b else bf j, rfl, hgA, by rw [List.length_append, h3]; rfl, leaf_append h4 leaf_own, hA, fun j hj => ?_⟩
    by_cases hjn : j = n
    · subst hjn
      simp only [if_true]
      refine ⟨by rw [List.getElem?_append_right (by omega), h3, Nat.sub_self]; rfl, hgb, by omega, hbA, fun k a b => by omega⟩
    · simp only [if_neg hjn]
      obtain ⟨a, b', c, d, e⟩ := h6 j (by omega)
      refine ⟨by rw [List.getElem?_append_left (by omega)]; exact a, ?_, c, by omega, fun k hk1 hk2 => ?_⟩
      · rw [hg _ c (by omega) (fun k he => by rw [h1] at he; injection he with e1; omega)]; exact b'
      · by_cases hkn : k = n
        · rw [if_pos hkn]; omega
        · rw [if_neg hkn]; exact e k hk1 (by omega)
/-- Slices, each in a block of its own. -/
def RowsAt (g : Mem) (els : List T) (L : List (List Way)) : Prop := els.length = L.length ∧ ∀ j (h : j < L.length), ∃ b, els[j]? = some (.own b 0 L[j].length 19) ∧ g b = some (L[j].flatMap Way.enc)
def rowsT (L : List (List Way)) : List T := L.map fun l => .imm false l.length (l.flatMap Way.enc)
theorem tells_rows (L : List (List Way)) : Tells (rowsT L) L := by
  refine ⟨by unfold rowsT; rw [List.length_map], fun i h => ⟨false, ?_⟩⟩
  unfold rowsT
  rw [Nat.mul_one, List.getElem?_map, List.getElem?_eq_getElem h]; rfl
theorem frz_copied {g : Mem} {nx d A : Nat} {els : List T} {L : List (List Way)} (hL : ∀ l ∈ L, ∀ w ∈ l, w.wf) (hA : g A = some els) (hr : RowsAt g els L) : ∃ ids, frz ⟨g, nx⟩ (d + 4) (.agg [.own A 0 L.length 1]) = some (.agg [.imm false L.length (rowsT L)], ids) := by
  refine frz_agg1 (frz_own (h := ⟨g, nx⟩) hA (by rw [hr.1]; omega) (frzAll_pt _ _ (by rw [hr.1]; unfold rowsT; rw [List.length_map]) (fun j hj hj' => ?_)))
  have hj2 : j < L.length := by rw [← hr.1]; exact hj
  obtain ⟨b, h1, h2⟩ := hr.2 j hj2
  rw [List.getElem?_eq_getElem hj] at h1
  rw [Option.some.inj h1]
  have e : (rowsT L)[j] = .imm false L[j].length (L[j].flatMap Way.enc) := by simp [rowsT]
  rw [e]
  exact frz_own h2 (enc_len _ (hL _ (List.getElem_mem hj2))) ⟨[], frzAll_int _ (enc_ints _)⟩
theorem rows_copy {g : Mem} {v : T} {R : List (List Way)} {lo hi : Nat} (h : CopyAt g v R lo hi R.length) (h0 : 0 < R.length) : ∃ A els, v = .own A 0 R.length 1 ∧ g A = some els ∧ lo < A ∧ RowsAt g els R := by
  rcases h with ⟨h, _⟩ | ⟨_, A, els, bf, h1, h2, h3, h4, h5, h6⟩
  · omega
  · refine ⟨A, els, h1, h2, by obtain ⟨_, _, a, b, _⟩ := h6 0 h0; omega, h3, fun j hj => ?_⟩
    obtain ⟨a, b, _⟩ := h6 j hj
    unfold rowN at a b
    rw [List.getElem?_eq_getElem hj, Option.getD_some] at a b
    exact ⟨bf j, a, b⟩
/-- A copy, frozen. -/
theorem frz_copy {g : Mem} {nx d lo hi : Nat} {v : T} {R : List (List Way)} (hw : ∀ l ∈ R, ∀ w ∈ l, w.wf) (h : CopyAt g v R lo hi R.length) : ∃ f ys ids, frz ⟨g, nx⟩ (d + 4) (.agg [v]) = some (.agg [.imm f R.length ys], ids) ∧ Tells ys R := by
  by_cases h0 : R.length = 0
  · rcases h with ⟨_, rfl⟩ | ⟨h1, _⟩
    · exact ⟨true, [], [], by rw [h0]; rfl, by rw [h0]; rfl, fun i hi => by omega⟩
    · omega
  · obtain ⟨A, els, rfl, h2, _, h3⟩ := rows_copy h (by omega)
    obtain ⟨ids, h4⟩ := frz_copied (nx := nx) (d := d) hw h2 h3
    exact ⟨false, _, ids, h4, tells_rows R⟩
theorem fin_cellV {F : AFun} {t p : Nat} {v w : T} (hF : F.res = [.cell t false 1]) {s : List T} {g : Mem} {nx : Nat} {ids : List Nat} (hv : frz ⟨g, nx⟩ frzDepth (.agg [v]) = some (w, ids)) (hs : rho s (.tmp t) = .ptr p 0) (hg : g p = some [v]) : AExit.ret.leaves = true ∧ ∃ u ids, resT s g F.res = some u ∧ frz ⟨g, nx⟩ frzDepth u = some (w, ids) := by
  refine ⟨rfl, .agg [v], ids, ?_, hv⟩
  rw [hF]
  simp only [resT, resL, resOne, opRes, hs, hg]
  rfl
theorem E_bodyV {AP : AProg} {f : Nat} {F : AFun} (hF : AP f = some F) (hp : F.pure = true) (hn : F.nat = none) {args : List T} {P : T → Prop} (h : W AP F.body ⟨args ++ List.replicate (F.ntmps - args.length) .undef, fun _ => none, 0⟩ (fun e st => e.leaves = true ∧ ∃ v, P v ∧ ∃ u ids, resT st.s st.g F.res = some u ∧ frz ⟨st.g, st.nx⟩ frzDepth u = some (v, ids))) : ∃ v, E AP f args v ∧ P v := by
  obtain ⟨k, e, st, h1, h2, v, hv, u, ids, h3, h4⟩ := h
  exact ⟨v, E_body hF hp hn ⟨k, e, st, h1, h2, u, ids, h3, h4⟩, hv⟩
/-- What a function gives that is a cache of rows R. -/
def CacheOf (R : List (List Way)) (v : T) : Prop := ∃ f ys, v = .agg [.imm f R.length ys] ∧ Tells ys R
theorem tells_cache (c : Cache) : Tells (c.sets.flatMap (fun l => [rowT l])) c.sets := by
  refine ⟨rows_len c, fun i h => ⟨false, ?_⟩⟩
  rw [rows_get c i h]
  unfold row
  rw [List.getElem?_eq_getElem h]; rfl
/-- Rows that are light, and right. -/
def Fit (R : List (List Way)) : Prop := R.length ≤ 20 ∧ ∀ l ∈ R, l.length ≤ 10 ∧ ∀ w ∈ l, w.wf
theorem Fit.big {R : List (List Way)} (h : Fit R) : R.length ≤ 1000 ∧ ∀ l ∈ R, l.length ≤ 1000 ∧ ∀ w ∈ l, w.wf := by
  refine ⟨by have := h.1; omega, fun l hl => ?_⟩
  obtain ⟨h1, h2⟩ := h.2 l hl
  exact ⟨by omega, h2⟩
theorem same_of {R : List (List Way)} (h : Fit R) {u v : T} (hu : CacheOf R u) (hv : CacheOf R v) : E ap 21 [u, v] (.bool true) := by
  obtain ⟨f, xs, rfl, hx⟩ := hu
  obtain ⟨f', ys, rfl, hy⟩ := hv
  exact same_cache f f' R xs ys hx hy h.big.1 h.big.2
theorem cacheOf_sets (c : Cache) : CacheOf c.sets (.agg [setsT c]) := ⟨false, _, rfl, tells_cache c⟩
/-- What a function of the program gives: exactly these rows. -/
def CacheEx (R : List (List Way)) (v : T) : Prop := v = .agg [.imm false R.length (rowsT R)]
theorem rows_eq (L : List (List Way)) : L.flatMap (fun l => [rowT l]) = rowsT L := by
  unfold rowsT
  induction L with
  | nil => rfl
  | cons a L ih => rw [List.flatMap_cons, List.map_cons, ih]; rfl
def FrzP (h : Hp) (d : Nat) (P : Nat → Prop) (x y : T) : Prop := ∃ ids, frz h d x = some (y, ids) ∧ ∀ t ∈ ids, P t
def FrzLP (h : Hp) (d : Nat) (P : Nat → Prop) (x y : List T) : Prop := ∃ ids, frzAll (frz h d) x = some (y, ids) ∧ ∀ t ∈ ids, P t
theorem frzP_own {h : Hp} {d t n es : Nat} {P : Nat → Prop} {c c' : List T} (hg : h.get t = some c) (hl : c.length = n * es) (hP : P t) (hf : FrzLP h d P c c') : FrzP h (d + 1) P (.own t 0 n es) (.imm false n c') := by
  obtain ⟨ids, hf, hp⟩ := hf
  have e : ((c.drop 0).take (n * es)) = c := by rw [List.drop_zero, List.take_of_length_le (by omega)]
  refine ⟨t :: ids, by simp only [frz, hg, e, hl, if_true, hf], fun u hu => ?_⟩
  rcases List.mem_cons.mp hu with rfl | h
  · exact hP
  · exact hp u h
/-- A piece that ends as pieces do, and what is known behind it. -/
theorem W_cut {AP : AProg} {a b : ACode} {st : St} {Q : AExit → St → Prop} (P : St → Prop) (ha : W AP a st (fun e s => e = .normal ∧ P s)) (hb : ∀ s, P s → W AP b s Q) : W AP (.seq a b) st Q := W_seqn (ha.mono fun _ s h => ⟨h.1, hb s h.2⟩)
theorem build_aged (a : Int) : zeroW.enc.set 18 (.int .i64 a) = (aged zeroW a).enc := rfl
theorem copy_leaf {g : Mem} {v : T} {R : List (List Way)} {lo hi n : Nat} (h : CopyAt g v R lo hi n) : allLeaf [v] = true := by
  rcases h with ⟨_, e⟩ | ⟨_, A, _, _, e, _⟩ <;> (subst e; rfl)
abbrev u8T : Int → List T := fun n => [T.int .u8 n]
theorem u8_len (m : List Int) : (m.flatMap u8T).length = m.length := by rw [flat_len (f := u8T) (k := 1) (fun _ => rfl), Nat.mul_one]
theorem u8_get (m : List Int) (i : Nat) (h : i < m.length) : (m.flatMap u8T)[i * 1]? = some (.int .u8 m[i]) := by
  have := flat_get (f := u8T) (k := 1) (fun _ => rfl) m i h 0 (by omega)
  rw [Nat.add_zero] at this
  rw [this]; rfl
/-- A slice of one-cell elements: nobody's, or in a block of its own of which P holds. -/
def ListAt (P : Nat → Prop) (g : Mem) (x : T) (c : List T) : Prop := (∃ f, x = .imm f c.length c) ∨ ∃ A, P A ∧ x = .own A 0 c.length 1 ∧ g A = some c
def CohIn (P : Nat → Prop) (g : Mem) (x y : T) (m : Coh) : Prop := ListAt P g x (m.mem.flatMap u8T) ∧ ∃ ys, UpL (m.caches.flatMap Cache.enc) ys ∧ ListAt P g y ys
theorem ListAt.mono {P P' : Nat → Prop} {g g' : Mem} {x : T} {c : List T} (h : ListAt P g x c) (hP : ∀ t, P t → P' t) (hg : ∀ t, P t → g' t = g t) : ListAt P' g' x c := by
  rcases h with h | ⟨A, pA, h1, h2⟩
  · exact .inl h
  · exact .inr ⟨A, hP A pA, h1, by rw [hg A pA]; exact h2⟩
theorem CohIn.mono {P P' : Nat → Prop} {g g' : Mem} {x y : T} {m : Coh} (h : CohIn P g x y m) (hP : ∀ t, P t → P' t) (hg : ∀ t, P t → g' t = g t) : CohIn P' g' x y m := by
  obtain ⟨h1, ys, h2, h3⟩ := h
  exact ⟨h1.mono hP hg, ys, h2, h3.mono hP hg⟩
theorem ListAt.leaf {P : Nat → Prop} {g : Mem} {x : T} {c : List T} (h : ListAt P g x c) : x.leaf = true := by
  rcases h with ⟨f, rfl⟩ | ⟨A, _, rfl, _⟩ <;> rfl
theorem CohIn.leaf {P : Nat → Prop} {g : Mem} {x y : T} {m : Coh} (h : CohIn P g x y m) : allLeaf [x, y] = true := by
  obtain ⟨h1, ys, _, h3⟩ := h
  show ([x, y].all T.leaf) = true
  rw [List.all_cons, List.all_cons, h1.leaf, h3.leaf]; rfl
theorem memT_is (m : Coh) : memT m = .imm false (m.mem.flatMap u8T).length (m.mem.flatMap u8T) := by rw [u8_len]; rfl
theorem caches_len' (m : Coh) : (m.caches.flatMap Cache.enc).length = m.caches.length := caches_len m
theorem cachT_is (m : Coh) : cachT m = .imm false (m.caches.flatMap Cache.enc).length (m.caches.flatMap Cache.enc) := by rw [caches_len]; rfl
theorem coh_imm (P : Nat → Prop) (g : Mem) (m : Coh) : CohIn P g (memT m) (cachT m) m := ⟨.inl ⟨false, memT_is m⟩, _, UpL.refl _, .inl ⟨false, cachT_is m⟩⟩
theorem frzAll_imm {h : Hp} {d : Nat} : ∀ l : List T, (∀ x ∈ l, ∃ f n c, x = .imm f n c) → frzAll (frz h (d + 1)) l = some (l, [])
  | [], _ => rfl
  | x :: l, hx => by
    obtain ⟨f, n, c, rfl⟩ := hx x List.mem_cons_self
    have e : frz h (d + 1) (.imm f n c) = some (.imm f n c, []) := rfl
    simp only [frzAll, e, frzAll_imm l (fun y hy => hx y (List.mem_cons_of_mem _ hy)), List.append_nil]
theorem upL_imm : ∀ {l l' : List T}, UpL l l' → (∀ x ∈ l, ∃ f n c, x = .imm f n c) → ∀ y ∈ l', ∃ f n c, y = .imm f n c
  | [], l', h, _, y, hy => by simp only [UpL] at h; subst h; simp at hy
  | x :: l, l', h, hx, y, hy => by
    simp only [UpL] at h
    obtain ⟨v, vs, rfl, h1, h2⟩ := h
    rcases List.mem_cons.mp hy with rfl | hy
    · obtain ⟨f, n, c, rfl⟩ := hx x List.mem_cons_self
      obtain ⟨f', c', e, _⟩ := h1.imm
      exact ⟨f', n, c', e⟩
    · exact upL_imm h2 (fun z hz => hx z (List.mem_cons_of_mem _ hz)) y hy
theorem caches_imm (m : Coh) : ∀ x ∈ m.caches.flatMap Cache.enc, ∃ f n c, x = .imm f n c := by
  intro x hx
  obtain ⟨c, _, hc⟩ := List.mem_flatMap.mp hx
  rw [cache_enc] at hc
  simp at hc
  exact ⟨_, _, _, hc⟩
theorem u8_ints (l : List Int) : ∀ x ∈ l.flatMap u8T, ∃ k n, x = .int k n := by
  intro x hx
  obtain ⟨c, _, hc⟩ := List.mem_flatMap.mp hx
  simp at hc
  exact ⟨_, _, hc⟩
theorem ListAt.frz {P : Nat → Prop} {g : Mem} {x : T} {c : List T} {d nx : Nat} (h : ListAt P g x c) (hf : frzAll (Abs.frz ⟨g, nx⟩ (d + 1)) c = some (c, [])) : ∃ f, FrzP ⟨g, nx⟩ (d + 2) P x (.imm f c.length c) := by
  rcases h with ⟨f, rfl⟩ | ⟨A, pA, rfl, hg⟩
  · exact ⟨f, [], rfl, fun t ht => by simp at ht⟩
  · exact ⟨false, frzP_own (h := ⟨g, nx⟩) hg (by omega) pA ⟨[], hf, fun t ht => by simp at ht⟩⟩
theorem upT_immR {c c' : List T} {f : Bool} (h : UpL c c') : UpT (.imm false c.length c) (.imm f c'.length c') := by rw [h.len]; exact upT_imm (fun e => by cases e) h
/-- A call of a pure function with what tells no less than its law's arguments. -/
theorem E.callU {AP : AProg} {f : Nat} {F : AFun} {args args' : List T} {v : T} (h : E AP f args v) (hF : AP f = some F) (hu : UpL args args') : ∃ N v', UpT v v' ∧ ∀ k, N ≤ k → ∀ (g : Mem) (args0 : List T) (ids : List Nat), frzL ⟨g, 0⟩ frzDepth args0 = some (args', ids) → callPure (ev AP k) F args0 g = some ⟨v', ids, if v'.flat then [] else ids.map fun t => (t, none)⟩ := by
  obtain ⟨v', h', hv⟩ := h.up hu
  obtain ⟨N, hN⟩ := h'.run hF
  refine ⟨N, v', hv, fun k hk g args0 ids hf => ?_⟩
  have hr := hN (k - N)
  rw [Nat.sub_add_cancel hk] at hr
  unfold callPure
  rw [hf]
  simp only [hr]
/-- The same, where what it gives is flat and tells nothing of capacities. -/
theorem E.callF {AP : AProg} {f : Nat} {F : AFun} {args args' : List T} {v : T} (h : E AP f args v) (hF : AP f = some F) (hu : UpL args args') (hv : ∀ v', UpT v v' → v' = v) (hfl : v.flat = true) : ∃ N, ∀ k, N ≤ k → ∀ (g : Mem) (args0 : List T) (ids : List Nat), frzL ⟨g, 0⟩ frzDepth args0 = some (args', ids) → callPure (ev AP k) F args0 g = some ⟨v, ids, []⟩ := by
  obtain ⟨N, v', h1, h2⟩ := h.callU hF hu
  obtain rfl := hv v' h1
  refine ⟨N, fun k hk g args0 ids hf => ?_⟩
  have := h2 k hk g args0 ids hf
  rw [hfl] at this
  exact this
/-- A system whose caches are in a block of its own, apart from its bytes. -/
def CohAt (P : Nat → Prop) (g : Mem) (x y : T) (m : Coh) : Prop := ∃ B ys, P B ∧ y = .own B 0 ys.length 1 ∧ g B = some ys ∧ UpL (m.caches.flatMap Cache.enc) ys ∧ ListAt (fun t => P t ∧ t ≠ B) g x (m.mem.flatMap u8T)
theorem CohAt.mono {P P' : Nat → Prop} {g g' : Mem} {x y : T} {m : Coh} (h : CohAt P g x y m) (hP : ∀ t, P t → P' t) (hg : ∀ t, P t → g' t = g t) : CohAt P' g' x y m := by
  obtain ⟨B, ys, pB, hy, gB, hu, hx⟩ := h
  exact ⟨B, ys, hP B pB, hy, by rw [hg B pB]; exact gB, hu, hx.mono (fun t h => ⟨hP t h.1, h.2⟩) (fun t h => hg t h.1)⟩
theorem coh_frz {P : Nat → Prop} {g : Mem} {x y : T} {m : Coh} (h : CohIn P g x y m) (nx : Nat) : ∃ v ids, UpT (.agg m.enc) v ∧ frz ⟨g, nx⟩ frzDepth (.agg [x, y]) = some (v, ids) := by
  obtain ⟨h1, ys, hu, h2⟩ := h
  obtain ⟨f, is, e1, p1⟩ := h1.frz (d := 9) (nx := nx) (frzAll_int _ (u8_ints _))
  obtain ⟨f', js, e2, p2⟩ := h2.frz (d := 9) (nx := nx) (frzAll_imm _ (upL_imm hu (caches_imm m)))
  refine ⟨.agg [.imm f (m.mem.flatMap u8T).length (m.mem.flatMap u8T), .imm f' ys.length ys], is ++ (js ++ []), ?_, ?_⟩
  · rw [coh_enc, memT_is, cachT_is]
    exact upT_agg (UpL.cons (upT_immR (UpL.refl _)) (UpL.cons (upT_immR (f := f') hu) UpL.nil))
  · show frz ⟨g, nx⟩ 12 _ = _
    rw [frz]
    simp only [frzAll, e1, e2]
def withC (m : Coh) (k : Nat) (R : List (List Way)) : Coh := { m with caches := m.caches.set k ⟨R⟩ }
/-- A small system. -/
def Ok (m : Coh) : Prop := m.wf ∧ m.mem.length ≤ 1024 ∧ m.caches.length ≤ 4 ∧ ∀ k, k < m.caches.length → Fit (cacheAt m k).sets
theorem fit_wf {R : List (List Way)} (h : Fit R) : (Cache.mk R).wf := by
  have hmx : (20 : Nat) ≤ maxLen := by decide
  refine ⟨Nat.le_trans h.1 hmx, fun l hl => ⟨?_, (h.2 l hl).2⟩⟩
  have := (h.2 l hl).1
  omega
theorem cacheAt_set (m : Coh) (k : Nat) (R : List (List Way)) (j : Nat) (hk : k < m.caches.length) : cacheAt (withC m k R) j = if j = k then ⟨R⟩ else cacheAt m j := by
  unfold cacheAt withC
  by_cases h : j = k
  · subst h; rw [if_pos rfl, List.getElem?_set_self hk]; rfl
  · rw [if_neg h, List.getElem?_set_ne (fun e => h e.symm)]
theorem withC_len (m : Coh) (k : Nat) (R : List (List Way)) : (withC m k R).caches.length = m.caches.length := by unfold withC; rw [List.length_set]
theorem ok_with {m : Coh} (h : Ok m) {k : Nat} (hk : k < m.caches.length) {R : List (List Way)} (hR : Fit R) : Ok (withC m k R) := by
  obtain ⟨h1, h2, h3, h4⟩ := h
  refine ⟨⟨h1.1, by rw [show (withC m k R).caches.length = _ from withC_len m k R]; exact h1.2.1, fun c hc => ?_⟩, h2, by rw [withC_len]; exact h3, fun j hj => ?_⟩
  · rcases List.mem_or_eq_of_mem_set hc with hc | rfl
    · exact h1.2.2 c hc
    · exact fit_wf hR
  · rw [withC_len] at hj
    rw [cacheAt_set m k R j hk]
    split
    · exact hR
    · exact h4 j hj
theorem ex_setsT (R : List (List Way)) {v : T} (h : CacheEx R v) : v = .agg [setsT ⟨R⟩] := by rw [h]; unfold setsT; rw [rows_eq]
theorem up_of {R : List (List Way)} {v : T} (h : CacheOf R v) : UpT (.agg [setsT ⟨R⟩]) v := by
  obtain ⟨f, ys, rfl, hl, hr⟩ := h
  refine upT_agg (UpL.cons ?_ UpL.nil)
  unfold setsT
  rw [rows_eq]
  refine upT_imm (fun e => by cases e) (UpL.of_get (by unfold rowsT; rw [List.length_map]; exact hl) (fun i x hi => ?_))
  unfold rowsT at hi
  rw [List.getElem?_map] at hi
  cases hR : R[i]? with
  | none => rw [hR] at hi; cases hi
  | some l =>
    rw [hR] at hi
    obtain rfl := Option.some.inj hi
    have hil : i < R.length := (List.getElem?_eq_some_iff.mp hR).1
    obtain ⟨f', h2⟩ := hr i hil
    rw [Nat.mul_one] at h2
    have e : R[i] = l := (List.getElem?_eq_some_iff.mp hR).2
    rw [e] at h2
    exact ⟨_, h2, upT_imm (fun e => by cases e) (UpL.refl _)⟩
theorem upL_len1 (m : Coh) {ys : List T} (hu : UpL (m.caches.flatMap Cache.enc) ys) : ys.length = m.caches.length := by rw [hu.len, caches_len']
theorem cell_up {R : List (List Way)} {v : T} (h : UpT (.agg [setsT ⟨R⟩]) v) : ∃ z, v = .agg [z] ∧ UpT (setsT ⟨R⟩) z ∧ allLeaf [z] = true := by
  obtain ⟨c', rfl, h2⟩ := h.agg
  simp only [UpL] at h2
  obtain ⟨z, _, rfl, hz, rfl⟩ := h2
  refine ⟨z, rfl, hz, ?_⟩
  obtain ⟨f', c', rfl, _⟩ := UpT.imm (f := false) (n := R.length) (c := R.flatMap (fun l => [rowT l])) hz
  rfl
theorem coh_up {m : Coh} {v : T} (h : UpT (.agg m.enc) v) : ∃ f1 n1 c1 f2 n2 c2, v = .agg [.imm f1 n1 c1, .imm f2 n2 c2] := by
  obtain ⟨l, rfl, h2⟩ := h.agg
  rw [coh_enc] at h2
  simp only [UpL] at h2
  obtain ⟨a, _, rfl, ha, b, _, rfl, hb, rfl⟩ := h2
  obtain ⟨f1, c1, rfl, _⟩ := UpT.imm (f := false) (n := m.mem.length) (c := m.mem.flatMap u8T) ha
  obtain ⟨f2, c2, rfl, _⟩ := UpT.imm (f := false) (n := m.caches.length) (c := m.caches.flatMap Cache.enc) hb
  exact ⟨_, _, _, _, _, _, rfl⟩
theorem ap18' : ap 18 = some f18 := rfl
theorem p18' : f18.pure = true := rfl
theorem n18' : f18.nat = none := rfl
theorem ap21' : ap 21 = some f21 := rfl
theorem p21' : f21.pure = true := rfl
theorem n21' : f21.nat = none := rfl
theorem cell_at' {cs : List T} {i : Nat} {z : T} (h : cs[i]? = some z) : cut cs i 1 = [z] := by
  obtain ⟨hi, rfl⟩ := List.getElem?_eq_some_iff.mp h
  unfold cut
  rw [List.drop_eq_getElem_cons hi, List.take_succ_cons, List.take_zero]
def sbLoop : ACode := match f18.body with | .seq _ (.seq _ (.seq (.seq _ (.block _ (.loop c))) _)) => c | _ => .skip
theorem sb_loop (l : List Int) (hl1 : l.length ≤ 1024) (Q : AExit → St → Prop)
    (hQ : ∀ st : St, st.s.length = 32 → Q (.exit 0) st) :
    ∀ (n : Nat) (st : St), (∃ i : Nat, st.s.length = 32 ∧ rho st.s (.tmp 0) = .imm false l.length (l.flatMap u8T) ∧ rho st.s (.tmp 1) = .imm false l.length (l.flatMap u8T) ∧ rho st.s (.tmp 5) = .int .i64 (i : Int) ∧ i ≤ l.length ∧ n = l.length - i) → W ap (.loop sbLoop) st Q := by
  refine W_loop _ ?_
  rintro n st ⟨i, hl, h0, h1, h5, hi, hn⟩
  by_cases hend : i = l.length
  · have hlt : decide ((i : Int) < (l.length : Int)) = false := decide_eq_false (by omega)
    refine W_seq (W_seqn (W_region (fun k => by simp (decide := true) (disch := first | omega | (simp (decide := true) only [List.length_set, hl]; done) | fail) only [sims, eqs, autos, T.cells, T.leaf, Nat.reduceLT, Nat.reduceAdd, Nat.reduceMul, Nat.reduceLeDiff, Nat.reduceEqDiff, reduceIte, Int.reduceBEq, Int.reduceBNe, Int.reduceLT, Int.reduceLE, Int.reduceGT, Int.reduceGE, Int.reduceNeg, reduceCtorEq, hps, h0, h1, h5, hlt]; rfl) ⟨rfl, W_false (by simp (decide := true) (disch := first | omega | (simp (decide := true) only [List.length_set, hl]; done) | fail) only [sims, eqs, autos, T.cells, T.leaf, Nat.reduceLT, Nat.reduceAdd, Nat.reduceMul, Nat.reduceLeDiff, Nat.reduceEqDiff, reduceIte, Int.reduceBEq, Int.reduceBNe, Int.reduceLT, Int.reduceLE, Int.reduceGT, Int.reduceGE, Int.reduceNeg, reduceCtorEq] <;> rfl) (W_exit (.inr ⟨by simp, .inr ⟨by simp, hQ _ ?_⟩⟩))⟩))
    simp (decide := true) (disch := first | omega | (simp (decide := true) only [List.length_set, hl]; done) | fail) only [sims, eqs, autos, T.cells, T.leaf, Nat.reduceLT, Nat.reduceAdd, Nat.reduceMul, Nat.reduceLeDiff, Nat.reduceEqDiff, reduceIte, Int.reduceBEq, Int.reduceBNe, Int.reduceLT, Int.reduceLE, Int.reduceGT, Int.reduceGE, Int.reduceNeg, reduceCtorEq, hl]
  · have hlt : decide ((i : Int) < (l.length : Int)) = true := decide_eq_true (by omega)
    have hil : i < l.length := by omega
    have hw : IntKind.i64.wrap ((i : Int) + 1) = ((i + 1 : Nat) : Int) := by rw [wrap_id (by omega)]; omega
    have hbl := u8_len l
    have hg := u8_get l i hil
    rw [Nat.mul_one] at hg
    have hb1 : i + 1 ≤ (l.flatMap u8T).length := by omega
    have hne : (l[i] != l[i]) = false := by simp
    generalize l.flatMap u8T = C at *
    refine W_seqn (W_seqn (W_region (fun k => by simp (decide := true) (disch := first | omega | (simp (decide := true) only [List.length_set, hl]; done) | fail) only [sims, eqs, autos, T.cells, T.leaf, Nat.reduceLT, Nat.reduceAdd, Nat.reduceMul, Nat.reduceLeDiff, Nat.reduceEqDiff, reduceIte, Int.reduceBEq, Int.reduceBNe, Int.reduceLT, Int.reduceLE, Int.reduceGT, Int.reduceGE, Int.reduceNeg, reduceCtorEq, hps, h0, h1, h5, hlt]; rfl) ⟨rfl, W_true (by simp (decide := true) (disch := first | omega | (simp (decide := true) only [List.length_set, hl]; done) | fail) only [sims, eqs, autos, T.cells, T.leaf, Nat.reduceLT, Nat.reduceAdd, Nat.reduceMul, Nat.reduceLeDiff, Nat.reduceEqDiff, reduceIte, Int.reduceBEq, Int.reduceBNe, Int.reduceLT, Int.reduceLE, Int.reduceGT, Int.reduceGE, Int.reduceNeg, reduceCtorEq] <;> rfl) (W_skip ⟨rfl, ?_⟩)⟩))
    refine W_seqn (W_block (W_seqn (W_region (fun k => by simp (decide := true) (disch := first | omega | (simp (decide := true) only [List.length_set, hl]; done) | fail) only [sims, eqs, autos, T.cells, T.leaf, Nat.reduceLT, Nat.reduceAdd, Nat.reduceMul, Nat.reduceLeDiff, Nat.reduceEqDiff, reduceIte, Int.reduceBEq, Int.reduceBNe, Int.reduceLT, Int.reduceLE, Int.reduceGT, Int.reduceGE, Int.reduceNeg, reduceCtorEq, hps, h0, h1, h5, hil, hb1, hg, hne, Nat.mul_one]; rfl) ⟨rfl, W_false (by simp (decide := true) (disch := first | omega | (simp (decide := true) only [List.length_set, hl]; done) | fail) only [sims, eqs, autos, T.cells, T.leaf, Nat.reduceLT, Nat.reduceAdd, Nat.reduceMul, Nat.reduceLeDiff, Nat.reduceEqDiff, reduceIte, Int.reduceBEq, Int.reduceBNe, Int.reduceLT, Int.reduceLE, Int.reduceGT, Int.reduceGE, Int.reduceNeg, reduceCtorEq] <;> rfl) (W_skip (.inr (.inl ⟨by simp, rfl, ?_⟩)))⟩)))
    refine W_region (fun k => by simp (decide := true) (disch := first | omega | (simp (decide := true) only [List.length_set, hl]; done) | fail) only [sims, eqs, autos, T.cells, T.leaf, Nat.reduceLT, Nat.reduceAdd, Nat.reduceMul, Nat.reduceLeDiff, Nat.reduceEqDiff, reduceIte, Int.reduceBEq, Int.reduceBNe, Int.reduceLT, Int.reduceLE, Int.reduceGT, Int.reduceGE, Int.reduceNeg, reduceCtorEq, hps, h5, hw]; rfl) (.inl ⟨rfl, l.length - (i + 1), by omega, i + 1, ?_, ?_, ?_, ?_, by omega, rfl⟩) <;> simp (decide := true) (disch := first | omega | (simp (decide := true) only [List.length_set, hl]; done) | fail) only [sims, eqs, autos, T.cells, T.leaf, Nat.reduceLT, Nat.reduceAdd, Nat.reduceMul, Nat.reduceLeDiff, Nat.reduceEqDiff, reduceIte, Int.reduceBEq, Int.reduceBNe, Int.reduceLT, Int.reduceLE, Int.reduceGT, Int.reduceGE, Int.reduceNeg, reduceCtorEq, hl, h0, h1]
theorem same_bytes (l : List Int) (hl1 : l.length ≤ 1024) : E ap 18 [.imm false l.length (l.flatMap u8T), .imm false l.length (l.flatMap u8T)] (.bool true) := by
  refine E_body (F := f18) rfl rfl rfl ?_
  generalize hs0 : (_ : List T) ++ List.replicate _ T.undef = s0
  have e0 : s0.length = 32 ∧ rho s0 (.tmp 0) = .imm false l.length (l.flatMap u8T) ∧ rho s0 (.tmp 1) = .imm false l.length (l.flatMap u8T) := by subst hs0; exact ⟨rfl, rfl, rfl⟩
  clear hs0
  obtain ⟨hl, h0, h1⟩ := e0
  have hne : ((l.length : Int) != (l.length : Int)) = false := by simp
  refine W_seqn (W_region (fun k => by simp (decide := true) (disch := first | omega | (simp (decide := true) only [List.length_set, hl]; done) | fail) only [sims, eqs, autos, T.cells, T.leaf, Nat.reduceLT, Nat.reduceAdd, Nat.reduceMul, Nat.reduceLeDiff, Nat.reduceEqDiff, reduceIte, Int.reduceBEq, Int.reduceBNe, Int.reduceLT, Int.reduceLE, Int.reduceGT, Int.reduceGE, Int.reduceNeg, reduceCtorEq, hps]; rfl) ⟨rfl, ?_⟩)
  refine W_seqn (W_seqn (W_region (fun k => by simp (decide := true) (disch := first | omega | (simp (decide := true) only [List.length_set, hl]; done) | fail) only [sims, eqs, autos, T.cells, T.leaf, Nat.reduceLT, Nat.reduceAdd, Nat.reduceMul, Nat.reduceLeDiff, Nat.reduceEqDiff, reduceIte, Int.reduceBEq, Int.reduceBNe, Int.reduceLT, Int.reduceLE, Int.reduceGT, Int.reduceGE, Int.reduceNeg, reduceCtorEq, hps, h0, h1, hne]; rfl) ⟨rfl, W_false (by simp (decide := true) (disch := first | omega | (simp (decide := true) only [List.length_set, hl]; done) | fail) only [sims, eqs, autos, T.cells, T.leaf, Nat.reduceLT, Nat.reduceAdd, Nat.reduceMul, Nat.reduceLeDiff, Nat.reduceEqDiff, reduceIte, Int.reduceBEq, Int.reduceBNe, Int.reduceLT, Int.reduceLE, Int.reduceGT, Int.reduceGE, Int.reduceNeg, reduceCtorEq] <;> rfl) (W_skip ⟨rfl, ?_⟩)⟩))
  refine W_seq (W_seqn (W_region (fun k => by simp (decide := true) (disch := first | omega | (simp (decide := true) only [List.length_set, hl]; done) | fail) only [sims, eqs, autos, T.cells, T.leaf, Nat.reduceLT, Nat.reduceAdd, Nat.reduceMul, Nat.reduceLeDiff, Nat.reduceEqDiff, reduceIte, Int.reduceBEq, Int.reduceBNe, Int.reduceLT, Int.reduceLE, Int.reduceGT, Int.reduceGE, Int.reduceNeg, reduceCtorEq, hps]; rfl) ⟨rfl, W_block ?_⟩))
  refine sb_loop l hl1 _ (fun st hl => ?_) (l.length - 0) _ ⟨0, ?_, ?_, ?_, ?_, by omega, rfl⟩
  · refine .inl ⟨rfl, .inl ⟨rfl, ?_⟩⟩
    refine W_seqn (W_region (fun k => by simp (decide := true) (disch := first | omega | (simp (decide := true) only [List.length_set, hl]; done) | fail) only [sims, eqs, autos, T.cells, T.leaf, Nat.reduceLT, Nat.reduceAdd, Nat.reduceMul, Nat.reduceLeDiff, Nat.reduceEqDiff, reduceIte, Int.reduceBEq, Int.reduceBNe, Int.reduceLT, Int.reduceLE, Int.reduceGT, Int.reduceGE, Int.reduceNeg, reduceCtorEq, hps]; rfl) ⟨rfl, W_ret ?_⟩)
    refine fin_of (F := f18) rfl (fun _ => rfl) ?_
    simp (decide := true) (disch := first | omega | (simp (decide := true) only [List.length_set, hl]; done) | fail) only [sims, eqs, autos, T.cells, T.leaf, Nat.reduceLT, Nat.reduceAdd, Nat.reduceMul, Nat.reduceLeDiff, Nat.reduceEqDiff, reduceIte, Int.reduceBEq, Int.reduceBNe, Int.reduceLT, Int.reduceLE, Int.reduceGT, Int.reduceGE, Int.reduceNeg, reduceCtorEq]
  · simp (decide := true) (disch := first | omega | (simp (decide := true) only [List.length_set, hl]; done) | fail) only [sims, eqs, autos, T.cells, T.leaf, Nat.reduceLT, Nat.reduceAdd, Nat.reduceMul, Nat.reduceLeDiff, Nat.reduceEqDiff, reduceIte, Int.reduceBEq, Int.reduceBNe, Int.reduceLT, Int.reduceLE, Int.reduceGT, Int.reduceGE, Int.reduceNeg, reduceCtorEq, hl]
  · simp (decide := true) (disch := first | omega | (simp (decide := true) only [List.length_set, hl]; done) | fail) only [sims, eqs, autos, T.cells, T.leaf, Nat.reduceLT, Nat.reduceAdd, Nat.reduceMul, Nat.reduceLeDiff, Nat.reduceEqDiff, reduceIte, Int.reduceBEq, Int.reduceBNe, Int.reduceLT, Int.reduceLE, Int.reduceGT, Int.reduceGE, Int.reduceNeg, reduceCtorEq, h0]
  · simp (decide := true) (disch := first | omega | (simp (decide := true) only [List.length_set, hl]; done) | fail) only [sims, eqs, autos, T.cells, T.leaf, Nat.reduceLT, Nat.reduceAdd, Nat.reduceMul, Nat.reduceLeDiff, Nat.reduceEqDiff, reduceIte, Int.reduceBEq, Int.reduceBNe, Int.reduceLT, Int.reduceLE, Int.reduceGT, Int.reduceGE, Int.reduceNeg, reduceCtorEq, h1]
  · simp (decide := true) (disch := first | omega | (simp (decide := true) only [List.length_set, hl]; done) | fail) only [sims, eqs, autos, T.cells, T.leaf, Nat.reduceLT, Nat.reduceAdd, Nat.reduceMul, Nat.reduceLeDiff, Nat.reduceEqDiff, reduceIte, Int.reduceBEq, Int.reduceBNe, Int.reduceLT, Int.reduceLE, Int.reduceGT, Int.reduceGE, Int.reduceNeg, reduceCtorEq]
    rfl
def scLoop : ACode := match f7.body with | .seq _ (.seq _ (.seq (.seq _ (.block _ (.loop c))) _)) => c | _ => .skip
theorem same_at (m : Coh) (hok : Ok m) (i : Nat) (hi : i < m.caches.length) : E ap 21 [.agg [setsT (cacheAt m i)], .agg [setsT (cacheAt m i)]] (.bool true) := same_of (hok.2.2.2 i hi) (cacheOf_sets _) (cacheOf_sets _)
theorem sc_loop (m : Coh) (hok : Ok m) (Q : AExit → St → Prop)
    (hQ : ∀ st : St, st.s.length = 47 → Q (.exit 0) st) :
    ∀ (n : Nat) (st : St), (∃ i : Nat, st.s.length = 47 ∧ rho st.s (.tmp 2) = .ptr 0 0 ∧ rho st.s (.tmp 3) = .ptr 1 0 ∧ rho st.s (.tmp 5) = .int .i64 (i : Int) ∧ st.g 0 = some [memT m, cachT m] ∧ st.g 1 = some [memT m, cachT m] ∧ i ≤ m.caches.length ∧ n = m.caches.length - i) → W ap (.loop scLoop) st Q := by
  refine W_loop _ ?_
  rintro n st ⟨i, hl, h2, h3, h5, g0, g1, hi, hn⟩
  have hcc : cachT m = .imm false m.caches.length (m.caches.flatMap Cache.enc) := rfl
  rw [hcc] at g0 g1
  have hm4 := hok.2.2.1
  by_cases hend : i = m.caches.length
  · have hlt : decide ((i : Int) < (m.caches.length : Int)) = false := decide_eq_false (by omega)
    refine W_seq (W_seqn (W_region (fun k => by simp (decide := true) (disch := first | omega | (simp (decide := true) only [List.length_set, hl]; done) | fail) only [sims, eqs, autos, T.cells, T.leaf, Nat.reduceLT, Nat.reduceAdd, Nat.reduceMul, Nat.reduceLeDiff, Nat.reduceEqDiff, reduceIte, Int.reduceBEq, Int.reduceBNe, Int.reduceLT, Int.reduceLE, Int.reduceGT, Int.reduceGE, Int.reduceNeg, reduceCtorEq, hps, h2, h3, h5, g0, g1, hlt]; rfl) ⟨rfl, W_false (by simp (decide := true) (disch := first | omega | (simp (decide := true) only [List.length_set, hl]; done) | fail) only [sims, eqs, autos, T.cells, T.leaf, Nat.reduceLT, Nat.reduceAdd, Nat.reduceMul, Nat.reduceLeDiff, Nat.reduceEqDiff, reduceIte, Int.reduceBEq, Int.reduceBNe, Int.reduceLT, Int.reduceLE, Int.reduceGT, Int.reduceGE, Int.reduceNeg, reduceCtorEq] <;> rfl) (W_exit (.inr ⟨by simp, .inr ⟨by simp, hQ _ ?_⟩⟩))⟩))
    simp (decide := true) (disch := first | omega | (simp (decide := true) only [List.length_set, hl]; done) | fail) only [sims, eqs, autos, T.cells, T.leaf, Nat.reduceLT, Nat.reduceAdd, Nat.reduceMul, Nat.reduceLeDiff, Nat.reduceEqDiff, reduceIte, Int.reduceBEq, Int.reduceBNe, Int.reduceLT, Int.reduceLE, Int.reduceGT, Int.reduceGE, Int.reduceNeg, reduceCtorEq, hl]
  · have hlt : decide ((i : Int) < (m.caches.length : Int)) = true := decide_eq_true (by omega)
    have hil : i < m.caches.length := by omega
    have hw : IntKind.i64.wrap ((i : Int) + 1) = ((i + 1 : Nat) : Int) := by rw [wrap_id (by omega)]; omega
    have hcl := caches_len' m
    have hg := caches_get m i hil
    rw [Nat.mul_one] at hg
    have hcut := cell_at' hg
    obtain ⟨N, q⟩ := (same_at m hok i hil).call ap21' (fun g => rfl)
    have q := q N (Nat.le_refl _)
    generalize setsT (cacheAt m i) = z at *
    generalize hCe : m.caches.flatMap Cache.enc = C at *
    have hb1 : i + 1 ≤ C.length := by omega
    refine W_seqn (W_seqn (W_region (fun k => by simp (decide := true) (disch := first | omega | (simp (decide := true) only [List.length_set, hl]; done) | fail) only [sims, eqs, autos, T.cells, T.leaf, Nat.reduceLT, Nat.reduceAdd, Nat.reduceMul, Nat.reduceLeDiff, Nat.reduceEqDiff, reduceIte, Int.reduceBEq, Int.reduceBNe, Int.reduceLT, Int.reduceLE, Int.reduceGT, Int.reduceGE, Int.reduceNeg, reduceCtorEq, hps, h2, h3, h5, g0, g1, hlt]; rfl) ⟨rfl, W_true (by simp (decide := true) (disch := first | omega | (simp (decide := true) only [List.length_set, hl]; done) | fail) only [sims, eqs, autos, T.cells, T.leaf, Nat.reduceLT, Nat.reduceAdd, Nat.reduceMul, Nat.reduceLeDiff, Nat.reduceEqDiff, reduceIte, Int.reduceBEq, Int.reduceBNe, Int.reduceLT, Int.reduceLE, Int.reduceGT, Int.reduceGE, Int.reduceNeg, reduceCtorEq] <;> rfl) (W_skip ⟨rfl, ?_⟩)⟩))
    refine W_seqn (W_block (W_seqn (W_regionN ⟨N, by simp (decide := true) (disch := first | omega | (simp (decide := true) only [List.length_set, hl]; done) | fail) only [sims, eqs, autos, T.cells, T.leaf, Nat.reduceLT, Nat.reduceAdd, Nat.reduceMul, Nat.reduceLeDiff, Nat.reduceEqDiff, reduceIte, Int.reduceBEq, Int.reduceBNe, Int.reduceLT, Int.reduceLE, Int.reduceGT, Int.reduceGE, Int.reduceNeg, reduceCtorEq, hps, h2, h3, h5, g0, g1, hil, hb1, hcut, ap21', p21', n21', q, Nat.mul_one]; rfl⟩ ⟨rfl, W_false (by simp (decide := true) (disch := first | omega | (simp (decide := true) only [List.length_set, hl]; done) | fail) only [sims, eqs, autos, T.cells, T.leaf, Nat.reduceLT, Nat.reduceAdd, Nat.reduceMul, Nat.reduceLeDiff, Nat.reduceEqDiff, reduceIte, Int.reduceBEq, Int.reduceBNe, Int.reduceLT, Int.reduceLE, Int.reduceGT, Int.reduceGE, Int.reduceNeg, reduceCtorEq] <;> rfl) (W_skip (.inr (.inl ⟨by simp, rfl, ?_⟩)))⟩)))
    refine W_region (fun k => by simp (decide := true) (disch := first | omega | (simp (decide := true) only [List.length_set, hl]; done) | fail) only [sims, eqs, autos, T.cells, T.leaf, Nat.reduceLT, Nat.reduceAdd, Nat.reduceMul, Nat.reduceLeDiff, Nat.reduceEqDiff, reduceIte, Int.reduceBEq, Int.reduceBNe, Int.reduceLT, Int.reduceLE, Int.reduceGT, Int.reduceGE, Int.reduceNeg, reduceCtorEq, hps, h5, hw]; rfl) (.inl ⟨rfl, m.caches.length - (i + 1), by omega, i + 1, ?_, ?_, ?_, ?_, ?_, ?_, by omega, rfl⟩) <;> simp (decide := true) (disch := first | omega | (simp (decide := true) only [List.length_set, hl]; done) | fail) only [sims, eqs, autos, T.cells, T.leaf, Nat.reduceLT, Nat.reduceAdd, Nat.reduceMul, Nat.reduceLeDiff, Nat.reduceEqDiff, reduceIte, Int.reduceBEq, Int.reduceBNe, Int.reduceLT, Int.reduceLE, Int.reduceGT, Int.reduceGE, Int.reduceNeg, reduceCtorEq, hl, h2, h3, g0, g1, hcc, hCe]
theorem same_coh (m : Coh) (hok : Ok m) : E ap 7 [.agg m.enc, .agg m.enc] (.bool true) := by
  rw [coh_enc]
  refine E_body (F := f7) rfl rfl rfl ?_
  generalize hs0 : (_ : List T) ++ List.replicate _ T.undef = s0
  have e0 : s0.length = 47 ∧ rho s0 (.tmp 0) = .agg [memT m, cachT m] ∧ rho s0 (.tmp 1) = .agg [memT m, cachT m] := by subst hs0; exact ⟨rfl, rfl, rfl⟩
  clear hs0
  obtain ⟨hl, h0, h1⟩ := e0
  have hleaf : allLeaf [memT m, cachT m] = true := rfl
  have hcc : cachT m = .imm false m.caches.length (m.caches.flatMap Cache.enc) := rfl
  have hmm : memT m = .imm false m.mem.length (m.mem.flatMap u8T) := rfl
  have hne : ((m.caches.length : Int) != (m.caches.length : Int)) = false := by simp
  obtain ⟨N, q⟩ := (same_bytes m.mem hok.2.1).call ap18' (fun g => rfl)
  have q := q N (Nat.le_refl _)
  refine W_seqn (W_region (fun k => by simp (decide := true) (disch := first | omega | (simp (decide := true) only [List.length_set, hl]; done) | fail) only [sims, eqs, autos, T.cells, T.leaf, Nat.reduceLT, Nat.reduceAdd, Nat.reduceMul, Nat.reduceLeDiff, Nat.reduceEqDiff, reduceIte, Int.reduceBEq, Int.reduceBNe, Int.reduceLT, Int.reduceLE, Int.reduceGT, Int.reduceGE, Int.reduceNeg, reduceCtorEq, hps, h0, h1, hleaf]; rfl) ⟨rfl, ?_⟩)
  refine W_seqn (W_seqn (W_regionN ⟨N, by simp (decide := true) (disch := first | omega | (simp (decide := true) only [List.length_set, hl]; done) | fail) only [sims, eqs, autos, T.cells, T.leaf, Nat.reduceLT, Nat.reduceAdd, Nat.reduceMul, Nat.reduceLeDiff, Nat.reduceEqDiff, reduceIte, Int.reduceBEq, Int.reduceBNe, Int.reduceLT, Int.reduceLE, Int.reduceGT, Int.reduceGE, Int.reduceNeg, reduceCtorEq, hps, hmm, hcc, hne, ap18', p18', n18', q]; rfl⟩ ⟨rfl, W_false (by simp (decide := true) (disch := first | omega | (simp (decide := true) only [List.length_set, hl]; done) | fail) only [sims, eqs, autos, T.cells, T.leaf, Nat.reduceLT, Nat.reduceAdd, Nat.reduceMul, Nat.reduceLeDiff, Nat.reduceEqDiff, reduceIte, Int.reduceBEq, Int.reduceBNe, Int.reduceLT, Int.reduceLE, Int.reduceGT, Int.reduceGE, Int.reduceNeg, reduceCtorEq] <;> rfl) (W_skip ⟨rfl, ?_⟩)⟩))
  refine W_seq (W_seqn (W_region (fun k => by simp (decide := true) (disch := first | omega | (simp (decide := true) only [List.length_set, hl]; done) | fail) only [sims, eqs, autos, T.cells, T.leaf, Nat.reduceLT, Nat.reduceAdd, Nat.reduceMul, Nat.reduceLeDiff, Nat.reduceEqDiff, reduceIte, Int.reduceBEq, Int.reduceBNe, Int.reduceLT, Int.reduceLE, Int.reduceGT, Int.reduceGE, Int.reduceNeg, reduceCtorEq, hps]; rfl) ⟨rfl, W_block ?_⟩))
  refine sc_loop m hok _ (fun st hl => ?_) (m.caches.length - 0) _ ⟨0, ?_, ?_, ?_, ?_, ?_, ?_, by omega, rfl⟩
  · refine .inl ⟨rfl, .inl ⟨rfl, ?_⟩⟩
    refine W_seqn (W_region (fun k => by simp (decide := true) (disch := first | omega | (simp (decide := true) only [List.length_set, hl]; done) | fail) only [sims, eqs, autos, T.cells, T.leaf, Nat.reduceLT, Nat.reduceAdd, Nat.reduceMul, Nat.reduceLeDiff, Nat.reduceEqDiff, reduceIte, Int.reduceBEq, Int.reduceBNe, Int.reduceLT, Int.reduceLE, Int.reduceGT, Int.reduceGE, Int.reduceNeg, reduceCtorEq, hps]; rfl) ⟨rfl, W_ret ?_⟩)
    refine fin_of (F := f7) rfl (fun _ => rfl) ?_
    simp (decide := true) (disch := first | omega | (simp (decide := true) only [List.length_set, hl]; done) | fail) only [sims, eqs, autos, T.cells, T.leaf, Nat.reduceLT, Nat.reduceAdd, Nat.reduceMul, Nat.reduceLeDiff, Nat.reduceEqDiff, reduceIte, Int.reduceBEq, Int.reduceBNe, Int.reduceLT, Int.reduceLE, Int.reduceGT, Int.reduceGE, Int.reduceNeg, reduceCtorEq]
  · simp (decide := true) (disch := first | omega | (simp (decide := true) only [List.length_set, hl]; done) | fail) only [sims, eqs, autos, T.cells, T.leaf, Nat.reduceLT, Nat.reduceAdd, Nat.reduceMul, Nat.reduceLeDiff, Nat.reduceEqDiff, reduceIte, Int.reduceBEq, Int.reduceBNe, Int.reduceLT, Int.reduceLE, Int.reduceGT, Int.reduceGE, Int.reduceNeg, reduceCtorEq, hl]
  · simp (decide := true) (disch := first | omega | (simp (decide := true) only [List.length_set, hl]; done) | fail) only [sims, eqs, autos, T.cells, T.leaf, Nat.reduceLT, Nat.reduceAdd, Nat.reduceMul, Nat.reduceLeDiff, Nat.reduceEqDiff, reduceIte, Int.reduceBEq, Int.reduceBNe, Int.reduceLT, Int.reduceLE, Int.reduceGT, Int.reduceGE, Int.reduceNeg, reduceCtorEq]
  · simp (decide := true) (disch := first | omega | (simp (decide := true) only [List.length_set, hl]; done) | fail) only [sims, eqs, autos, T.cells, T.leaf, Nat.reduceLT, Nat.reduceAdd, Nat.reduceMul, Nat.reduceLeDiff, Nat.reduceEqDiff, reduceIte, Int.reduceBEq, Int.reduceBNe, Int.reduceLT, Int.reduceLE, Int.reduceGT, Int.reduceGE, Int.reduceNeg, reduceCtorEq]
  · simp (decide := true) (disch := first | omega | (simp (decide := true) only [List.length_set, hl]; done) | fail) only [sims, eqs, autos, T.cells, T.leaf, Nat.reduceLT, Nat.reduceAdd, Nat.reduceMul, Nat.reduceLeDiff, Nat.reduceEqDiff, reduceIte, Int.reduceBEq, Int.reduceBNe, Int.reduceLT, Int.reduceLE, Int.reduceGT, Int.reduceGE, Int.reduceNeg, reduceCtorEq]
    rfl
  · simp (decide := true) (disch := first | omega | (simp (decide := true) only [List.length_set, hl]; done) | fail) only [sims, eqs, autos, T.cells, T.leaf, Nat.reduceLT, Nat.reduceAdd, Nat.reduceMul, Nat.reduceLeDiff, Nat.reduceEqDiff, reduceIte, Int.reduceBEq, Int.reduceBNe, Int.reduceLT, Int.reduceLE, Int.reduceGT, Int.reduceGE, Int.reduceNeg, reduceCtorEq, hps, hmm, hcc]
  · simp (decide := true) (disch := first | omega | (simp (decide := true) only [List.length_set, hl]; done) | fail) only [sims, eqs, autos, T.cells, T.leaf, Nat.reduceLT, Nat.reduceAdd, Nat.reduceMul, Nat.reduceLeDiff, Nat.reduceEqDiff, reduceIte, Int.reduceBEq, Int.reduceBNe, Int.reduceLT, Int.reduceLE, Int.reduceGT, Int.reduceGE, Int.reduceNeg, reduceCtorEq, hps, hmm, hcc]
/-- The same, of what tells no less. -/
theorem same_cohU (m : Coh) (hok : Ok m) {u v : T} (hu : UpT (.agg m.enc) u) (hv : UpT (.agg m.enc) v) : E ap 7 [u, v] (.bool true) := by
  obtain ⟨v', h1, h2⟩ := (same_coh m hok).up (UpL.cons hu (UpL.cons hv UpL.nil))
  rw [h2.bool] at h1
  exact h1
theorem ap47 : ap 47 = some f47 := rfl
theorem p47 : f47.pure = true := rfl
theorem n47 : f47.nat = none := rfl
def clampN (x : Int) (hi : Nat) : Nat := if x < 1 then 1 else if x > hi then hi else x.toNat
theorem clampN_range (x : Int) (hi : Nat) (h : 1 ≤ hi) : 1 ≤ clampN x hi ∧ clampN x hi ≤ hi := by
  unfold clampN; split
  · omega
  · split <;> omega
theorem clamp_val (x : Int) (hi : Nat) (h : 1 ≤ hi) : (if ((hi : Nat) : Int) < (if (1 : Int) > x then (1 : Int) else x) then ((hi : Nat) : Int) else (if (1 : Int) > x then (1 : Int) else x)) = (clampN x hi : Int) := by
  unfold clampN
  by_cases h1 : x < 1
  · rw [if_pos (show (1 : Int) > x by omega), if_pos h1, if_neg (by omega)]; rfl
  · rw [if_neg (show ¬ (1 : Int) > x by omega), if_neg h1]
    by_cases h2 : x > hi
    · rw [if_pos h2, if_pos h2]
    · rw [if_neg h2, if_neg h2]; omega
theorem clampE (x : Int) (hi : Nat) (h : 1 ≤ hi) : E ap 47 [.int .i64 x, .int .i64 1, .int .i64 (hi : Int)] (.int .i64 (clampN x hi : Int)) := by
  refine E_body (F := f47) rfl rfl rfl ?_
  generalize hs0 : (_ : List T) ++ List.replicate _ T.undef = s0
  have e0 : s0.length = 12 ∧ rho s0 (.tmp 0) = .int .i64 x ∧ rho s0 (.tmp 1) = .int .i64 1 ∧ rho s0 (.tmp 2) = .int .i64 (hi : Int) := by subst hs0; exact ⟨rfl, rfl, rfl, rfl⟩
  clear hs0
  obtain ⟨hl, h0, h1, h2⟩ := e0
  have hv := clamp_val x hi h
  generalize hm : (if (1 : Int) > x then (1 : Int) else x) = y at *
  refine W_seqn (W_region (fun k => by simp (decide := true) (disch := first | omega | (simp (decide := true) only [List.length_set, hl]; done) | fail) only [sims, eqs, autos, T.cells, T.leaf, Nat.reduceLT, Nat.reduceAdd, Nat.reduceMul, Nat.reduceLeDiff, Nat.reduceEqDiff, reduceIte, Int.reduceBEq, Int.reduceBNe, Int.reduceLT, Int.reduceLE, Int.reduceGT, Int.reduceGE, Int.reduceNeg, reduceCtorEq]; rfl) ⟨rfl, ?_⟩)
  refine W_seqn (W_region (fun k => by simp (decide := true) (disch := first | omega | (simp (decide := true) only [List.length_set, hl]; done) | fail) only [sims, eqs, autos, T.cells, T.leaf, Nat.reduceLT, Nat.reduceAdd, Nat.reduceMul, Nat.reduceLeDiff, Nat.reduceEqDiff, reduceIte, Int.reduceBEq, Int.reduceBNe, Int.reduceLT, Int.reduceLE, Int.reduceGT, Int.reduceGE, Int.reduceNeg, reduceCtorEq, h0, h1, h2, minL, maxL, List.foldlM_cons, List.foldlM_nil, hm, hv, bind, Option.bind_some, pure]; rfl) ⟨rfl, W_ret ?_⟩)
  refine fin_of (F := f47) rfl (fun _ => rfl) ?_
  simp (decide := true) (disch := first | omega | (simp (decide := true) only [List.length_set, hl]; done) | fail) only [sims, eqs, autos, T.cells, T.leaf, Nat.reduceLT, Nat.reduceAdd, Nat.reduceMul, Nat.reduceLeDiff, Nat.reduceEqDiff, reduceIte, Int.reduceBEq, Int.reduceBNe, Int.reduceLT, Int.reduceLE, Int.reduceGT, Int.reduceGE, Int.reduceNeg, reduceCtorEq]
def newK (m k : Nat) : List Way := (List.range m).map fun (j : Nat) => if j < k then aged zeroW (j : Int) else zeroW
def newRow (m : Nat) : List Way := (List.range m).map fun (j : Nat) => aged zeroW (j : Int)
def newR (n m : Nat) : List (List Way) := List.replicate n (newRow m)
theorem newK_len (m k : Nat) : (newK m k).length = m := by unfold newK; rw [List.length_map, List.length_range]
theorem newRow_len (m : Nat) : (newRow m).length = m := by unfold newRow; rw [List.length_map, List.length_range]
theorem newK_get (m k j : Nat) (h : j < m) : wayN (newK m k) j = if j < k then aged zeroW (j : Int) else zeroW := by
  unfold wayN newK; rw [List.getElem?_map, List.getElem?_range h]; rfl
theorem newK_all (m : Nat) : newK m m = newRow m := by
  unfold newK newRow
  refine List.map_congr_left (fun j hj => ?_)
  rw [if_pos (List.mem_range.mp hj)]
theorem newK_wf (m k : Nat) (hm : m ≤ 1000) : ∀ w ∈ newK m k, w.wf := by
  intro w hw
  unfold newK at hw
  rw [List.mem_map] at hw
  obtain ⟨j, hj, rfl⟩ := hw
  have := List.mem_range.mp hj
  split
  · exact aged_wf zeroW_wf (lit_i64 (by omega))
  · exact zeroW_wf
theorem newRow_wf (m : Nat) (hm : m ≤ 1000) : ∀ w ∈ newRow m, w.wf := by rw [← newK_all]; exact newK_wf m m hm
theorem newK_succ (m k : Nat) (h : k < m) : newK m (k + 1) = (newK m k).set k (aged (wayN (newK m k) k) (k : Int)) := by
  apply List.ext_getElem?
  intro j
  rw [List.getElem?_set, newK_len, newK_get m k k h, if_neg (show ¬ k < k by omega)]
  unfold newK
  rw [List.getElem?_map, List.getElem?_map]
  by_cases hj : k = j
  · subst hj
    rw [if_pos rfl, if_pos h, List.getElem?_range h]
    show some (if k < k + 1 then aged zeroW (k : Int) else zeroW) = _
    rw [if_pos (by omega)]
  · rw [if_neg hj]
    by_cases hjm : j < m
    · rw [List.getElem?_range hjm]
      show some (if j < k + 1 then aged zeroW (j : Int) else zeroW) = some (if j < k then aged zeroW (j : Int) else zeroW)
      by_cases hjk : j < k
      · rw [if_pos hjk, if_pos (by omega)]
      · rw [if_neg hjk, if_neg (by omega)]
    · rw [List.getElem?_eq_none (by rw [List.length_range]; omega)]; rfl
theorem newK_zero (m : Nat) : (List.replicate m zeroW.enc).flatten = (newK m 0).flatMap Way.enc := by
  have e : newK m 0 = List.replicate m zeroW := by
    unfold newK
    apply List.ext_getElem?
    intro j
    rw [List.getElem?_map, List.getElem?_replicate]
    by_cases hj : j < m
    · rw [List.getElem?_range hj, if_pos hj]; rfl
    · rw [List.getElem?_eq_none (by rw [List.length_range]; omega), if_neg hj]; rfl
  rw [e, List.flatMap_def, List.map_replicate]
theorem nil_rows (n : Nat) : ((List.replicate n [T.imm true 0 []]).flatten).length = n := by
  induction n with
  | zero => rfl
  | succ m ih => rw [List.replicate_succ, List.flatten_cons, List.length_append, ih]; simp; omega
/-- The first i rows made, each in a block of its own. -/
def NewAt (g : Mem) (els : List T) (n m i lo hi : Nat) : Prop := els.length = n ∧ ∀ j, j < i → ∃ b, lo ≤ b ∧ b < hi ∧ els[j]? = some (.own b 0 m 19) ∧ g b = some ((newRow m).flatMap Way.enc)
def nwOut : ACode := match f23.body with | .seq _ (.seq _ (.seq (.seq _ (.block _ (.loop c))) _)) => c | _ => .skip
def nwIn : ACode := match nwOut with | .seq _ (.seq _ (.seq (.block _ (.seq _ (.seq _ (.seq _ (.block _ (.loop c)))))) _)) => c | _ => .skip
theorem nw_in (n m i b : Nat) (hm4 : m ≤ 4) (els : List T) (hel : els.length = n) (hi : i < n) (hei : els[i * 1]? = some (.own b 0 m 19)) (g1 : Mem) (g15 : g1 5 = some [.own 3 0 n 1]) (g13 : g1 3 = some els) (hb7 : 7 ≤ b) (v1 : T) (Q : AExit → St → Prop)
    (hQe : ∀ st : St, st.s.length = 46 → rho st.s (.tmp 1) = v1 → rho st.s (.tmp 4) = .ptr 0 0 → rho st.s (.tmp 5) = .ptr 5 0 → rho st.s (.tmp 14) = .int .i64 (n : Int) → rho st.s (.tmp 15) = .int .i64 (i : Int) → (∀ t, t ≠ b → st.g t = g1 t) → st.g b = some ((newRow m).flatMap Way.enc) → b < st.nx → Q (.exit 2) st) :
    ∀ (d : Nat) (st : St), (∃ k : Nat, st.s.length = 46 ∧ rho st.s (.tmp 1) = v1 ∧ rho st.s (.tmp 4) = .ptr 0 0 ∧ rho st.s (.tmp 5) = .ptr 5 0 ∧ rho st.s (.tmp 6) = .int .i64 (i : Int) ∧ rho st.s (.tmp 14) = .int .i64 (n : Int) ∧ rho st.s (.tmp 15) = .int .i64 (i : Int) ∧ rho st.s (.tmp 30) = .int .i64 (m : Int) ∧ rho st.s (.tmp 31) = .int .i64 (k : Int) ∧ (∀ t, t ≠ b → st.g t = g1 t) ∧ st.g b = some ((newK m k).flatMap Way.enc) ∧ b < st.nx ∧ k ≤ m ∧ d = m - k) → W ap (.loop nwIn) st Q := by
  refine W_loop _ ?_
  rintro d st ⟨k, hl, h1, h4, h5, h6, h14, h15, h30, h31, hg, gb, hnx, hk, hd⟩
  by_cases hend : k = m
  · have hlt : decide ((k : Int) < (m : Int)) = false := decide_eq_false (by omega)
    refine W_seqn (W_region (fun k => by simp (decide := true) (disch := first | omega | (simp (decide := true) only [List.length_set, hl]; done) | fail) only [sims, eqs, autos, T.cells, T.leaf, Nat.reduceLT, Nat.reduceAdd, Nat.reduceMul, Nat.reduceLeDiff, Nat.reduceEqDiff, reduceIte, Int.reduceBEq, Int.reduceBNe, Int.reduceLT, Int.reduceLE, Int.reduceGT, Int.reduceGE, Int.reduceNeg, reduceCtorEq, h30, h31, hlt]; rfl) ⟨rfl, ?_⟩)
    refine W_seq (W_false (by simp (decide := true) (disch := first | omega | (simp (decide := true) only [List.length_set, hl]; done) | fail) only [sims, eqs, autos, T.cells, T.leaf, Nat.reduceLT, Nat.reduceAdd, Nat.reduceMul, Nat.reduceLeDiff, Nat.reduceEqDiff, reduceIte, Int.reduceBEq, Int.reduceBNe, Int.reduceLT, Int.reduceLE, Int.reduceGT, Int.reduceGE, Int.reduceNeg, reduceCtorEq] <;> rfl) (W_exit ?_))
    refine (.inr ⟨by simp, .inr ⟨by simp, hQe _ ?_ ?_ ?_ ?_ ?_ ?_ hg (by rw [← newK_all, ← hend]; rw [hend] at gb ⊢; exact gb) (Nat.lt_add_right _ hnx)⟩⟩)
    all_goals simp (decide := true) (disch := first | omega | (simp (decide := true) only [List.length_set, hl]; done) | fail) only [sims, eqs, autos, T.cells, T.leaf, Nat.reduceLT, Nat.reduceAdd, Nat.reduceMul, Nat.reduceLeDiff, Nat.reduceEqDiff, reduceIte, Int.reduceBEq, Int.reduceBNe, Int.reduceLT, Int.reduceLE, Int.reduceGT, Int.reduceGE, Int.reduceNeg, reduceCtorEq, hl, h1, h4, h5, h14, h15]
  have hlt : decide ((k : Int) < (m : Int)) = true := decide_eq_true (by omega)
  have hkm : k < m := by omega
  have hw2 : IntKind.i64.wrap ((k : Int) + 1) = ((k + 1 : Nat) : Int) := by rw [wrap_id (by omega)]; omega
  have g5 := hg 5 (by omega)
  have g3 := hg 3 (by omega)
  rw [g15] at g5
  rw [g13] at g3
  have hcl := enc_len _ (newK_wf m k (by omega))
  rw [newK_len] at hcl
  have hset := set_age _ (newK_wf m k (by omega)) k (by rw [newK_len]; exact hkm) (k : Int)
  rw [← newK_succ m k hkm] at hset
  have hb : i * 1 + 1 ≤ n := by omega
  have hb2 : k * 19 + 18 + 1 ≤ m * 19 := by omega
  generalize hd' : (newK m (k + 1)).flatMap Way.enc = us' at *
  generalize (newK m k).flatMap Way.enc = us at *
  refine W_seqn (W_region (fun k => by simp (decide := true) (disch := first | omega | (simp (decide := true) only [List.length_set, hl]; done) | fail) only [sims, eqs, autos, T.cells, T.leaf, Nat.reduceLT, Nat.reduceAdd, Nat.reduceMul, Nat.reduceLeDiff, Nat.reduceEqDiff, reduceIte, Int.reduceBEq, Int.reduceBNe, Int.reduceLT, Int.reduceLE, Int.reduceGT, Int.reduceGE, Int.reduceNeg, reduceCtorEq, h30, h31, hlt]; rfl) ⟨rfl, ?_⟩)
  refine W_seqn (W_true (by simp (decide := true) (disch := first | omega | (simp (decide := true) only [List.length_set, hl]; done) | fail) only [sims, eqs, autos, T.cells, T.leaf, Nat.reduceLT, Nat.reduceAdd, Nat.reduceMul, Nat.reduceLeDiff, Nat.reduceEqDiff, reduceIte, Int.reduceBEq, Int.reduceBNe, Int.reduceLT, Int.reduceLE, Int.reduceGT, Int.reduceGE, Int.reduceNeg, reduceCtorEq] <;> rfl) (W_skip ⟨rfl, ?_⟩))
  refine W_seqn (W_block (W_seqn (W_region (fun k => by simp (decide := true) (disch := first | omega | (simp (decide := true) only [List.length_set, hl]; done) | fail) only [sims, eqs, autos, T.cells, T.leaf, Nat.reduceLT, Nat.reduceAdd, Nat.reduceMul, Nat.reduceLeDiff, Nat.reduceEqDiff, reduceIte, Int.reduceBEq, Int.reduceBNe, Int.reduceLT, Int.reduceLE, Int.reduceGT, Int.reduceGE, Int.reduceNeg, reduceCtorEq, h31]; rfl) ⟨rfl, ?_⟩)))
  refine W_region (fun k => by simp (decide := true) (disch := first | omega | (simp (decide := true) only [List.length_set, hl]; done) | fail) only [sims, eqs, autos, T.cells, T.leaf, Nat.reduceLT, Nat.reduceAdd, Nat.reduceMul, Nat.reduceLeDiff, Nat.reduceEqDiff, reduceIte, Int.reduceBEq, Int.reduceBNe, Int.reduceLT, Int.reduceLE, Int.reduceGT, Int.reduceGE, Int.reduceNeg, reduceCtorEq, hps, h5, h6, g5, g3, gb, hel, hi, hb, hei, hkm, hcl, hb2]; rfl) (.inr (.inl ⟨by simp, rfl, ?_⟩))
  refine W_region (fun k => by simp (decide := true) (disch := first | omega | (simp (decide := true) only [List.length_set, hl]; done) | fail) only [sims, eqs, autos, T.cells, T.leaf, Nat.reduceLT, Nat.reduceAdd, Nat.reduceMul, Nat.reduceLeDiff, Nat.reduceEqDiff, reduceIte, Int.reduceBEq, Int.reduceBNe, Int.reduceLT, Int.reduceLE, Int.reduceGT, Int.reduceGE, Int.reduceNeg, reduceCtorEq, h31, hw2]; rfl) ?_
  refine (.inl ⟨rfl, m - (k + 1), by omega, k + 1, ?_, ?_, ?_, ?_, ?_, ?_, ?_, ?_, ?_, ?_, ?_, ?_, by omega, rfl⟩)
  rotate_left 9
  · intro t ht
    rw [← hg t ht]
    simp (decide := true) (disch := first | omega | (simp (decide := true) only [List.length_set, hl]; done) | fail) only [sims, eqs, autos, T.cells, T.leaf, Nat.reduceLT, Nat.reduceAdd, Nat.reduceMul, Nat.reduceLeDiff, Nat.reduceEqDiff, reduceIte, Int.reduceBEq, Int.reduceBNe, Int.reduceLT, Int.reduceLE, Int.reduceGT, Int.reduceGE, Int.reduceNeg, reduceCtorEq, hps]
  · rw [hd', hset]
    simp (decide := true) (disch := first | omega | (simp (decide := true) only [List.length_set, hl]; done) | fail) only [sims, eqs, autos, T.cells, T.leaf, Nat.reduceLT, Nat.reduceAdd, Nat.reduceMul, Nat.reduceLeDiff, Nat.reduceEqDiff, reduceIte, Int.reduceBEq, Int.reduceBNe, Int.reduceLT, Int.reduceLE, Int.reduceGT, Int.reduceGE, Int.reduceNeg, reduceCtorEq, hps]
  · exact Nat.lt_add_right _ (Nat.lt_add_right _ (Nat.lt_add_right _ (Nat.lt_add_right _ hnx)))
  all_goals simp (decide := true) (disch := first | omega | (simp (decide := true) only [List.length_set, hl]; done) | fail) only [sims, eqs, autos, T.cells, T.leaf, Nat.reduceLT, Nat.reduceAdd, Nat.reduceMul, Nat.reduceLeDiff, Nat.reduceEqDiff, reduceIte, Int.reduceBEq, Int.reduceBNe, Int.reduceLT, Int.reduceLE, Int.reduceGT, Int.reduceGE, Int.reduceNeg, reduceCtorEq, hps, hl, h1, h4, h5, h6, h14, h15, h30]
theorem nw_out (ways : Int) (n m : Nat) (hn8 : n ≤ 8) (hm : m = clampN ways 4) (Q : AExit → St → Prop)
    (hQe : ∀ st : St, (∃ els, st.s.length = 46 ∧ rho st.s (.tmp 4) = .ptr 0 0 ∧ rho st.s (.tmp 5) = .ptr 5 0 ∧ st.g 0 = some [.imm true 0 []] ∧ st.g 5 = some [.own 3 0 n 1] ∧ st.g 3 = some els ∧ NewAt st.g els n m n 7 st.nx) → Q (.exit 0) st) :
    ∀ (d : Nat) (st : St), (∃ (i : Nat) (els : List T), st.s.length = 46 ∧ rho st.s (.tmp 1) = .int .i64 ways ∧ rho st.s (.tmp 4) = .ptr 0 0 ∧ rho st.s (.tmp 5) = .ptr 5 0 ∧ rho st.s (.tmp 14) = .int .i64 (n : Int) ∧ rho st.s (.tmp 15) = .int .i64 (i : Int) ∧ st.g 0 = some [.imm true 0 []] ∧ st.g 5 = some [.own 3 0 n 1] ∧ st.g 3 = some els ∧ NewAt st.g els n m i 7 st.nx ∧ 7 ≤ st.nx ∧ i ≤ n ∧ d = n - i) → W ap (.loop nwOut) st Q := by
  have hmr := clampN_range ways 4 (by omega)
  rw [← hm] at hmr
  refine W_loop _ ?_
  rintro d st ⟨i, els, hl, h1, h4, h5, h14, h15, g0, g5, g3, ⟨hel, hrows⟩, hnx, hi, hd⟩
  by_cases hend : i = n
  · have hlt : decide ((i : Int) < (n : Int)) = false := decide_eq_false (by omega)
    refine W_seqn (W_region (fun k => by simp (decide := true) (disch := first | omega | (simp (decide := true) only [List.length_set, hl]; done) | fail) only [sims, eqs, autos, T.cells, T.leaf, Nat.reduceLT, Nat.reduceAdd, Nat.reduceMul, Nat.reduceLeDiff, Nat.reduceEqDiff, reduceIte, Int.reduceBEq, Int.reduceBNe, Int.reduceLT, Int.reduceLE, Int.reduceGT, Int.reduceGE, Int.reduceNeg, reduceCtorEq, h14, h15, hlt]; rfl) ⟨rfl, ?_⟩)
    refine W_seq (W_false (by simp (decide := true) (disch := first | omega | (simp (decide := true) only [List.length_set, hl]; done) | fail) only [sims, eqs, autos, T.cells, T.leaf, Nat.reduceLT, Nat.reduceAdd, Nat.reduceMul, Nat.reduceLeDiff, Nat.reduceEqDiff, reduceIte, Int.reduceBEq, Int.reduceBNe, Int.reduceLT, Int.reduceLE, Int.reduceGT, Int.reduceGE, Int.reduceNeg, reduceCtorEq] <;> rfl) (W_exit ?_))
    refine (.inr ⟨by simp, .inr ⟨by simp, hQe _ ⟨els, ?_, ?_, ?_, g0, g5, g3, hel, fun j hj => ?_⟩⟩⟩)
    rotate_right 1
    · obtain ⟨b, b1, b2, b3, b4⟩ := hrows j (by omega)
      exact ⟨b, b1, Nat.lt_add_right _ b2, b3, b4⟩
    all_goals simp (decide := true) (disch := first | omega | (simp (decide := true) only [List.length_set, hl]; done) | fail) only [sims, eqs, autos, T.cells, T.leaf, Nat.reduceLT, Nat.reduceAdd, Nat.reduceMul, Nat.reduceLeDiff, Nat.reduceEqDiff, reduceIte, Int.reduceBEq, Int.reduceBNe, Int.reduceLT, Int.reduceLE, Int.reduceGT, Int.reduceGE, Int.reduceNeg, reduceCtorEq, hl, h4, h5]
  have hlt : decide ((i : Int) < (n : Int)) = true := decide_eq_true (by omega)
  have hin : i < n := by omega
  have hw2 : IntKind.i64.wrap ((i : Int) + 1) = ((i + 1 : Nat) : Int) := by rw [wrap_id (by omega)]; omega
  obtain ⟨N1, c30⟩ := (clampE ways 4 (by omega)).call ap47 (fun g => rfl)
  have q30 := c30 N1 (Nat.le_refl _)
  rw [← hm] at q30
  rw [show (((4 : Nat) : Int)) = 4 from rfl] at q30
  have hr1 : m * 40 ≤ 549755813888 := by omega
  have hr2 : m ≤ 549755813888 := by omega
  have hmm : m ≤ m := Nat.le_refl _
  have hzl : zeroW.enc.length = 19 := rfl
  have hzleaf := zenc_leaf
  have hnz := newK_zero m
  have hb : i + 1 ≤ n := by omega
  have hb1 : i * 1 + 1 ≤ n := by omega
  have hout : nwOut = nwOut := rfl
  conv at hout => rhs; simp only [nwOut, f23]
  have hzu : [T.int .i64 0, T.int .u32 0, T.int .u8 0, T.int .u8 0, T.int .u8 0, T.int .u8 0, T.int .u8 0, T.int .u8 0, T.int .u8 0, T.int .u8 0, T.int .u8 0, T.int .u8 0, T.int .u8 0, T.int .u8 0, T.int .u8 0, T.int .u8 0, T.int .u8 0, T.int .u8 0, T.int .i64 0] = zeroW.enc := rfl
  rw [hout]
  clear hout
  generalize zeroW.enc = zc at *
  have hcl0 := enc_len _ (newK_wf m 0 (by omega))
  refine W_seqn (W_region (fun k => by simp (decide := true) (disch := first | omega | (simp (decide := true) only [List.length_set, hl]; done) | fail) only [sims, eqs, autos, T.cells, T.leaf, Nat.reduceLT, Nat.reduceAdd, Nat.reduceMul, Nat.reduceLeDiff, Nat.reduceEqDiff, reduceIte, Int.reduceBEq, Int.reduceBNe, Int.reduceLT, Int.reduceLE, Int.reduceGT, Int.reduceGE, Int.reduceNeg, reduceCtorEq, h14, h15, hlt]; rfl) ⟨rfl, ?_⟩)
  refine W_seqn (W_true (by simp (decide := true) (disch := first | omega | (simp (decide := true) only [List.length_set, hl]; done) | fail) only [sims, eqs, autos, T.cells, T.leaf, Nat.reduceLT, Nat.reduceAdd, Nat.reduceMul, Nat.reduceLeDiff, Nat.reduceEqDiff, reduceIte, Int.reduceBEq, Int.reduceBNe, Int.reduceLT, Int.reduceLE, Int.reduceGT, Int.reduceGE, Int.reduceNeg, reduceCtorEq] <;> rfl) (W_skip ⟨rfl, ?_⟩))
  refine W_seqn (W_block ?_)
  refine W_seqn (W_region (fun k => by simp (decide := true) (disch := first | omega | (simp (decide := true) only [List.length_set, hl]; done) | fail) only [sims, eqs, autos, T.cells, T.leaf, Nat.reduceLT, Nat.reduceAdd, Nat.reduceMul, Nat.reduceLeDiff, Nat.reduceEqDiff, reduceIte, Int.reduceBEq, Int.reduceBNe, Int.reduceLT, Int.reduceLE, Int.reduceGT, Int.reduceGE, Int.reduceNeg, reduceCtorEq, h15]; rfl) ⟨rfl, ?_⟩)
  refine W_seqn (W_regionN ⟨N1, by simp (decide := true) (disch := first | omega | (simp (decide := true) only [List.length_set, hl]; done) | fail) only [sims, eqs, autos, T.cells, T.leaf, Nat.reduceLT, Nat.reduceAdd, Nat.reduceMul, Nat.reduceLeDiff, Nat.reduceEqDiff, reduceIte, Int.reduceBEq, Int.reduceBNe, Int.reduceLT, Int.reduceLE, Int.reduceGT, Int.reduceGE, Int.reduceNeg, reduceCtorEq, hps, hzu, h1, h5, g5, g3, hel, hin, hb, hb1, ap47, p47, n47, q30, hr1, hr2, hmm, hzl, hzleaf, hnz, Nat.mul_one]; rfl⟩ ⟨rfl, ?_⟩)
  refine W_abs (fun s => s.s.length = 46 ∧ rho s.s (.tmp 1) = .int .i64 ways ∧ rho s.s (.tmp 4) = .ptr 0 0 ∧ rho s.s (.tmp 5) = .ptr 5 0 ∧ rho s.s (.tmp 6) = .int .i64 (i : Int) ∧ rho s.s (.tmp 14) = .int .i64 (n : Int) ∧ rho s.s (.tmp 15) = .int .i64 (i : Int) ∧ s.g 0 = some [.imm true 0 []] ∧ s.g 5 = some [.own 3 0 n 1] ∧ ∃ b, st.nx ≤ b ∧ b < s.nx ∧ s.g 3 = some (els.set i (.own b 0 m 19)) ∧ s.g b = some ((newK m 0).flatMap Way.enc) ∧ ∀ t, t < st.nx → t ≠ 3 → s.g t = st.g t) ?_ ?_
  · refine ⟨?_, ?_, ?_, ?_, ?_, ?_, ?_, ?_, ?_, st.nx + 1 + 2 + 5, by omega, ?_, ?_, ?_, fun t ht1 ht2 => ?_⟩
    rotate_left 9
    · show st.nx + 1 + 2 + 5 < st.nx + 1 + 2 + 8; omega
    all_goals first | (simp (decide := true) (disch := first | omega | (simp (decide := true) only [List.length_set, hl]; done) | fail) only [sims, eqs, autos, T.cells, T.leaf, Nat.reduceLT, Nat.reduceAdd, Nat.reduceMul, Nat.reduceLeDiff, Nat.reduceEqDiff, reduceIte, Int.reduceBEq, Int.reduceBNe, Int.reduceLT, Int.reduceLE, Int.reduceGT, Int.reduceGE, Int.reduceNeg, reduceCtorEq, hps, hl, h1, h4, h5, h14, h15, g0, g5]; done) | (simp (decide := true) (disch := first | omega | (simp (decide := true) only [List.length_set, hl]; done) | fail) only [sims, eqs, autos, T.cells, T.leaf, Nat.reduceLT, Nat.reduceAdd, Nat.reduceMul, Nat.reduceLeDiff, Nat.reduceEqDiff, reduceIte, Int.reduceBEq, Int.reduceBNe, Int.reduceLT, Int.reduceLE, Int.reduceGT, Int.reduceGE, Int.reduceNeg, reduceCtorEq, hps, hl, h1, h4, h5, h14, h15, g0, g5]; rfl)
  rintro ⟨s, g, nx⟩ ⟨hl, h1, h4, h5, h6, h14, h15, k0, k5, b, hb1', hb2', k3, kb, hkg⟩
  simp only at hl h1 h4 h5 h6 h14 h15 k0 k5 hb2' k3 kb hkg
  have hei : (els.set i (.own b 0 m 19))[i * 1]? = some (.own b 0 m 19) := by rw [Nat.mul_one, List.getElem?_set, if_pos rfl, if_pos (by omega)]
  have hel' : (els.set i (.own b 0 m 19)).length = n := by rw [List.length_set]; exact hel
  generalize hels' : els.set i (.own b 0 m 19) = els' at *
  refine W_seqn (W_region (fun k => by simp (decide := true) (disch := first | omega | (simp (decide := true) only [List.length_set, hl]; done) | fail) only [sims, eqs, autos, T.cells, T.leaf, Nat.reduceLT, Nat.reduceAdd, Nat.reduceMul, Nat.reduceLeDiff, Nat.reduceEqDiff, reduceIte, Int.reduceBEq, Int.reduceBNe, Int.reduceLT, Int.reduceLE, Int.reduceGT, Int.reduceGE, Int.reduceNeg, reduceCtorEq, hps, h5, h6, k5, k3, hel', hin, hb1, hei]; rfl) ⟨rfl, ?_⟩)
  refine W_block ?_
  refine nw_in n m i b hmr.2 els' hel' hin hei g k5 k3 (by omega) (.int .i64 ways) _ (fun st' hst h1 h4 h5 h14 h15 hg gb hnx' => ?_) (m - 0) _ ⟨0, ?_, ?_, ?_, ?_, ?_, ?_, ?_, ?_, ?_, fun t ht => rfl, kb, ?_, by omega, rfl⟩
  · have hl := hst
    refine .inl ⟨rfl, .inr (.inl ⟨by simp, rfl, ?_⟩)⟩
    refine W_region (fun k => by simp (decide := true) (disch := first | omega | (simp (decide := true) only [List.length_set, hl]; done) | fail) only [sims, eqs, autos, T.cells, T.leaf, Nat.reduceLT, Nat.reduceAdd, Nat.reduceMul, Nat.reduceLeDiff, Nat.reduceEqDiff, reduceIte, Int.reduceBEq, Int.reduceBNe, Int.reduceLT, Int.reduceLE, Int.reduceGT, Int.reduceGE, Int.reduceNeg, reduceCtorEq, h15, hw2]; rfl) ?_
    refine (.inl ⟨rfl, n - (i + 1), by omega, i + 1, els', ?_, ?_, ?_, ?_, ?_, ?_, ?_, ?_, ?_, ⟨hel', fun j hj => ?_⟩, ?_, by omega, rfl⟩)
    rotate_left 6
    · show st'.g 0 = _
      rw [hg 0 (by omega)]; exact k0
    · show st'.g 5 = _
      rw [hg 5 (by omega)]; exact k5
    · show st'.g 3 = _
      rw [hg 3 (by omega)]; exact k3
    · by_cases hji : j = i
      · subst hji
        rw [Nat.mul_one] at hei
        exact ⟨b, by omega, Nat.lt_add_right _ hnx', hei, gb⟩
      · obtain ⟨b', b1, b2, b3, b4⟩ := hrows j (by omega)
        refine ⟨b', b1, Nat.lt_add_right _ (by omega), ?_, ?_⟩
        · rw [← hels', List.getElem?_set, if_neg (fun e => hji e.symm)]; exact b3
        · show st'.g b' = _
          rw [hg b' (by omega), hkg b' b2 (by omega)]; exact b4
    · show 7 ≤ st'.nx + 2; omega
    all_goals simp (decide := true) (disch := first | omega | (simp (decide := true) only [List.length_set, hl]; done) | fail) only [sims, eqs, autos, T.cells, T.leaf, Nat.reduceLT, Nat.reduceAdd, Nat.reduceMul, Nat.reduceLeDiff, Nat.reduceEqDiff, reduceIte, Int.reduceBEq, Int.reduceBNe, Int.reduceLT, Int.reduceLE, Int.reduceGT, Int.reduceGE, Int.reduceNeg, reduceCtorEq, hl, h1, h4, h5, h14]
  rotate_right 1
  · show b < nx + 7; omega
  all_goals first | (simp (decide := true) (disch := first | omega | (simp (decide := true) only [List.length_set, hl]; done) | fail) only [sims, eqs, autos, T.cells, T.leaf, Nat.reduceLT, Nat.reduceAdd, Nat.reduceMul, Nat.reduceLeDiff, Nat.reduceEqDiff, reduceIte, Int.reduceBEq, Int.reduceBNe, Int.reduceLT, Int.reduceLE, Int.reduceGT, Int.reduceGE, Int.reduceNeg, reduceCtorEq, hl, h1, h4, h5, h6, h14, h15]; done) | (simp (decide := true) (disch := first | omega | (simp (decide := true) only [List.length_set, hl]; done) | fail) only [sims, eqs, autos, T.cells, T.leaf, Nat.reduceLT, Nat.reduceAdd, Nat.reduceMul, Nat.reduceLeDiff, Nat.reduceEqDiff, reduceIte, Int.reduceBEq, Int.reduceBNe, Int.reduceLT, Int.reduceLE, Int.reduceGT, Int.reduceGE, Int.reduceNeg, reduceCtorEq, hl, h1, h4, h5, h6, h14, h15]; rfl)
def newC (sets ways : Int) : Cache := ⟨newR (clampN sets 8) (clampN ways 4)⟩
theorem newR_get (n m j : Nat) (h : j < (newR n m).length) : (newR n m)[j] = newRow m := by simp only [newR, List.getElem_replicate]
theorem newR_len (n m : Nat) : (newR n m).length = n := by unfold newR; rw [List.length_replicate]
theorem newR_wf (n m : Nat) (hm : m ≤ 1000) : ∀ l ∈ newR n m, ∀ w ∈ l, w.wf := by
  intro l hl
  unfold newR at hl
  rw [List.mem_replicate] at hl
  rw [hl.2]; exact newRow_wf m hm
theorem bus_new (sets ways : Int) : E ap 23 [.int .i64 sets, .int .i64 ways] (.agg [setsT (newC sets ways)]) := by
  refine E_body (F := f23) rfl rfl rfl ?_
  generalize hs0 : (_ : List T) ++ List.replicate _ T.undef = s0
  have e0 : s0.length = 46 ∧ rho s0 (.tmp 0) = .int .i64 sets ∧ rho s0 (.tmp 1) = .int .i64 ways := by subst hs0; exact ⟨rfl, rfl, rfl⟩
  clear hs0
  obtain ⟨hl, h0, h1⟩ := e0
  obtain ⟨N1, c30⟩ := (clampE sets 8 (by omega)).call ap47 (fun g => rfl)
  have q30 := c30 N1 (Nat.le_refl _)
  rw [show (((8 : Nat) : Int)) = 8 from rfl] at q30
  have hnr := clampN_range sets 8 (by omega)
  have hmr := clampN_range ways 4 (by omega)
  have hset : setsT (newC sets ways) = .imm false (clampN sets 8) (rowsT (newR (clampN sets 8) (clampN ways 4))) := by
    unfold setsT newC
    simp only [rows_eq, newR_len]
  rw [hset]
  generalize clampN sets 8 = n at *
  have hr1 : n * 24 ≤ 549755813888 := by omega
  have hr2 : n ≤ 549755813888 := by omega
  have hnn : n ≤ n := Nat.le_refl _
  have hnl := nil_rows n
  generalize hels : (List.replicate n [T.imm true 0 []]).flatten = els at *
  have hcA : cut [T.own 3 0 n 1] 0 1 = [T.own 3 0 n 1] := rfl
  refine W_seqn (W_region (fun k => by simp (decide := true) (disch := first | omega | (simp (decide := true) only [List.length_set, hl]; done) | fail) only [sims, eqs, autos, T.cells, T.leaf, Nat.reduceLT, Nat.reduceAdd, Nat.reduceMul, Nat.reduceLeDiff, Nat.reduceEqDiff, reduceIte, Int.reduceBEq, Int.reduceBNe, Int.reduceLT, Int.reduceLE, Int.reduceGT, Int.reduceGE, Int.reduceNeg, reduceCtorEq, hps]; rfl) ⟨rfl, ?_⟩)
  refine W_seqn (W_regionN ⟨N1, by simp (decide := true) (disch := first | omega | (simp (decide := true) only [List.length_set, hl]; done) | fail) only [sims, eqs, autos, T.cells, T.leaf, Nat.reduceLT, Nat.reduceAdd, Nat.reduceMul, Nat.reduceLeDiff, Nat.reduceEqDiff, reduceIte, Int.reduceBEq, Int.reduceBNe, Int.reduceLT, Int.reduceLE, Int.reduceGT, Int.reduceGE, Int.reduceNeg, reduceCtorEq, hps, h0, ap47, p47, n47, q30, hr1, hr2, hnn, hels]; rfl⟩ ⟨rfl, ?_⟩)
  refine W_seq (W_seqn (W_region (fun k => by simp (decide := true) (disch := first | omega | (simp (decide := true) only [List.length_set, hl]; done) | fail) only [sims, eqs, autos, T.cells, T.leaf, Nat.reduceLT, Nat.reduceAdd, Nat.reduceMul, Nat.reduceLeDiff, Nat.reduceEqDiff, reduceIte, Int.reduceBEq, Int.reduceBNe, Int.reduceLT, Int.reduceLE, Int.reduceGT, Int.reduceGE, Int.reduceNeg, reduceCtorEq, hps]; rfl) ⟨rfl, W_block ?_⟩))
  refine nw_out ways n (clampN ways 4) hnr.2 rfl _ (fun st hex => ?_) (n - 0) _ ⟨0, els, ?_, ?_, ?_, ?_, ?_, ?_, ?_, ?_, ?_, ⟨hnl, fun j hj => by omega⟩, ?_, by omega, rfl⟩
  · obtain ⟨els', hst, h4, h5, g0, g5, g3, hel, hrows⟩ := hex
    have hl := hst
    refine .inl ⟨rfl, .inl ⟨rfl, ?_⟩⟩
    refine W_seqn (W_region (fun k => by simp (decide := true) (disch := first | omega | (simp (decide := true) only [List.length_set, hl]; done) | fail) only [sims, eqs, autos, T.cells, T.leaf, Nat.reduceLT, Nat.reduceAdd, Nat.reduceMul, Nat.reduceLeDiff, Nat.reduceEqDiff, reduceIte, Int.reduceBEq, Int.reduceBNe, Int.reduceLT, Int.reduceLE, Int.reduceGT, Int.reduceGE, Int.reduceNeg, reduceCtorEq, hps, h4, h5, g0, g5, hcA]; rfl) ⟨rfl, W_ret ?_⟩)
    have hRA : RowsAt (put1 st.g (0, some [.own 3 0 n 1])) els' (newR n (clampN ways 4)) := by
      refine ⟨by rw [newR_len]; exact hel, fun j hj => ?_⟩
      obtain ⟨b, b1, b2, b3, b4⟩ := hrows j (by rw [newR_len] at hj; exact hj)
      exact ⟨b, by rw [newR_get, newRow_len]; exact b3, by rw [newR_get, put1_ne (by omega)]; exact b4⟩
    obtain ⟨ids, e1⟩ := frz_copied (nx := st.nx + 2) (d := 8) (newR_wf n (clampN ways 4) (by omega)) (show put1 st.g (0, some [.own 3 0 n 1]) 3 = some els' by rw [put1_ne (by omega)]; exact g3) hRA
    rw [newR_len] at e1
    refine fin_cellV (F := f23) (t := 4) (p := 0) rfl e1 ?_ ?_
    · simp (decide := true) (disch := first | omega | (simp (decide := true) only [List.length_set, hl]; done) | fail) only [sims, eqs, autos, T.cells, T.leaf, Nat.reduceLT, Nat.reduceAdd, Nat.reduceMul, Nat.reduceLeDiff, Nat.reduceEqDiff, reduceIte, Int.reduceBEq, Int.reduceBNe, Int.reduceLT, Int.reduceLE, Int.reduceGT, Int.reduceGE, Int.reduceNeg, reduceCtorEq, h4]
    · simp (decide := true) (disch := first | omega | (simp (decide := true) only [List.length_set, hl]; done) | fail) only [sims, eqs, autos, T.cells, T.leaf, Nat.reduceLT, Nat.reduceAdd, Nat.reduceMul, Nat.reduceLeDiff, Nat.reduceEqDiff, reduceIte, Int.reduceBEq, Int.reduceBNe, Int.reduceLT, Int.reduceLE, Int.reduceGT, Int.reduceGE, Int.reduceNeg, reduceCtorEq, hps]
  rotate_right 1
  · show 7 ≤ 0 + 1 + 6 + 4; omega
  all_goals first | (simp (decide := true) (disch := first | omega | (simp (decide := true) only [List.length_set, hl]; done) | fail) only [sims, eqs, autos, T.cells, T.leaf, Nat.reduceLT, Nat.reduceAdd, Nat.reduceMul, Nat.reduceLeDiff, Nat.reduceEqDiff, reduceIte, Int.reduceBEq, Int.reduceBNe, Int.reduceLT, Int.reduceLE, Int.reduceGT, Int.reduceGE, Int.reduceNeg, reduceCtorEq, hps, hl, h1]; done) | (simp (decide := true) (disch := first | omega | (simp (decide := true) only [List.length_set, hl]; done) | fail) only [sims, eqs, autos, T.cells, T.leaf, Nat.reduceLT, Nat.reduceAdd, Nat.reduceMul, Nat.reduceLeDiff, Nat.reduceEqDiff, reduceIte, Int.reduceBEq, Int.reduceBNe, Int.reduceLT, Int.reduceLE, Int.reduceGT, Int.reduceGE, Int.reduceNeg, reduceCtorEq, hps, hl, h1]; rfl)
theorem newRow_succ (k : Nat) : newRow (k + 1) = newRow k ++ [aged zeroW (k : Int)] := by unfold newRow; rw [List.range_succ, List.map_append]; rfl
/-- A row that grows. -/
def RowAcc (g : Mem) (v : T) (k lo hi : Nat) : Prop := (k = 0 ∧ v = .imm true 0 []) ∨ (0 < k ∧ ∃ t, lo ≤ t ∧ t < hi ∧ v = .own t 0 k 19 ∧ g t = some ((newRow k).flatMap Way.enc))
def ngOut : ACode := match f24.body with | .seq _ (.seq _ (.seq (.seq _ (.block _ (.loop c))) _)) => c | _ => .skip
def ngIn : ACode := match ngOut with | .seq _ (.seq (.block _ (.seq _ (.seq (.seq _ (.block _ (.loop c))) _))) _) => c | _ => .skip
theorem ng_in (ways : Int) (m : Nat) (hm : m = clampN ways 4) (n0 : Nat) (g1 : Mem) (v0 v6 : T) (Q : AExit → St → Prop)
    (hQe : ∀ st : St, st.s.length = 35 → rho st.s (.tmp 0) = v0 → rho st.s (.tmp 1) = .int .i64 ways → rho st.s (.tmp 4) = .ptr 0 0 → rho st.s (.tmp 5) = .ptr 1 0 → rho st.s (.tmp 6) = v6 → (∀ t, t < n0 → st.g t = g1 t) → n0 ≤ st.nx → RowAcc st.g (rho st.s (.tmp 7)) m n0 st.nx → Q (.exit 2) st) :
    ∀ (d : Nat) (st : St), (∃ k : Nat, st.s.length = 35 ∧ rho st.s (.tmp 0) = v0 ∧ rho st.s (.tmp 1) = .int .i64 ways ∧ rho st.s (.tmp 4) = .ptr 0 0 ∧ rho st.s (.tmp 5) = .ptr 1 0 ∧ rho st.s (.tmp 6) = v6 ∧ (∀ t, t < n0 → st.g t = g1 t) ∧ n0 ≤ st.nx ∧ RowAcc st.g (rho st.s (.tmp 7)) k n0 st.nx ∧ rho st.s (.tmp 8) = .int .i64 (k : Int) ∧ k ≤ m ∧ d = m - k) → W ap (.loop ngIn) st Q := by
  have hmr := clampN_range ways 4 (by omega)
  have hmv := clamp_val ways 4 (by omega)
  rw [← hm] at hmr hmv
  rw [show (((4 : Nat) : Int)) = 4 from rfl] at hmv
  refine W_loop _ ?_
  rintro d st ⟨k, hl, h0, h1, h4, h5, h6, hg, hnx, hA, h8, hk, hd⟩
  generalize hmx : (if (1 : Int) > ways then (1 : Int) else ways) = y at *
  by_cases hend : k = m
  · have hlt : decide ((k : Int) < (m : Int)) = false := decide_eq_false (by omega)
    refine W_seq (W_seqn (W_region (fun k => by simp (decide := true) (disch := first | omega | (simp (decide := true) only [List.length_set, hl]; done) | fail) only [sims, eqs, autos, T.cells, T.leaf, Nat.reduceLT, Nat.reduceAdd, Nat.reduceMul, Nat.reduceLeDiff, Nat.reduceEqDiff, reduceIte, Int.reduceBEq, Int.reduceBNe, Int.reduceLT, Int.reduceLE, Int.reduceGT, Int.reduceGE, Int.reduceNeg, reduceCtorEq, h1, h8, minL, maxL, List.foldlM_cons, List.foldlM_nil, hmx, hmv, bind, Option.bind_some, pure, hlt]; rfl) ⟨rfl, W_false (by simp (decide := true) (disch := first | omega | (simp (decide := true) only [List.length_set, hl]; done) | fail) only [sims, eqs, autos, T.cells, T.leaf, Nat.reduceLT, Nat.reduceAdd, Nat.reduceMul, Nat.reduceLeDiff, Nat.reduceEqDiff, reduceIte, Int.reduceBEq, Int.reduceBNe, Int.reduceLT, Int.reduceLE, Int.reduceGT, Int.reduceGE, Int.reduceNeg, reduceCtorEq] <;> rfl) (W_exit ?_)⟩))
    refine (.inr ⟨by simp, .inr ⟨by simp, hQe _ ?_ ?_ ?_ ?_ ?_ ?_ hg (Nat.le_add_right_of_le hnx) ?_⟩⟩)
    rotate_right 1
    · rw [hend] at hA
      rcases hA with ⟨h, _⟩ | ⟨h, t, t1, t2, t3, t4⟩
      · omega
      · exact .inr ⟨h, t, t1, Nat.lt_add_right _ t2, by simp (decide := true) (disch := first | omega | (simp (decide := true) only [List.length_set, hl]; done) | fail) only [sims, eqs, autos, T.cells, T.leaf, Nat.reduceLT, Nat.reduceAdd, Nat.reduceMul, Nat.reduceLeDiff, Nat.reduceEqDiff, reduceIte, Int.reduceBEq, Int.reduceBNe, Int.reduceLT, Int.reduceLE, Int.reduceGT, Int.reduceGE, Int.reduceNeg, reduceCtorEq, t3], t4⟩
    all_goals simp (decide := true) (disch := first | omega | (simp (decide := true) only [List.length_set, hl]; done) | fail) only [sims, eqs, autos, T.cells, T.leaf, Nat.reduceLT, Nat.reduceAdd, Nat.reduceMul, Nat.reduceLeDiff, Nat.reduceEqDiff, reduceIte, Int.reduceBEq, Int.reduceBNe, Int.reduceLT, Int.reduceLE, Int.reduceGT, Int.reduceGE, Int.reduceNeg, reduceCtorEq, hl, h0, h1, h4, h5, h6]
  have hlt : decide ((k : Int) < (m : Int)) = true := decide_eq_true (by omega)
  have hkm : k < m := by omega
  have hw2 : IntKind.i64.wrap ((k : Int) + 1) = ((k + 1 : Nat) : Int) := by rw [wrap_id (by omega)]; omega
  have hzb := build_aged (k : Int)
  have hzal : (aged zeroW (k : Int)).enc.length = 19 := rfl
  have hzalf : allLeaf (aged zeroW (k : Int)).enc = true := leaf_ints _ (way_ints _)
  have hzall : (aged zeroW (k : Int)).enc.all T.leaf = true := hzalf
  have hsp : splice zeroW.enc 0 (aged zeroW (k : Int)).enc = (aged zeroW (k : Int)).enc := splice_all rfl
  have hce : cut (aged zeroW (k : Int)).enc 0 19 = (aged zeroW (k : Int)).enc := cut_all rfl
  have hzl : zeroW.enc.length = 19 := rfl
  have hrs : (newRow (k + 1)).flatMap Way.enc = (newRow k).flatMap Way.enc ++ (aged zeroW (k : Int)).enc := by rw [newRow_succ, List.flatMap_append]; simp
  have hcl := enc_len _ (newRow_wf k (by omega))
  have hclf := enc_leaf (newRow k)
  rw [newRow_len] at hcl
  have hin : ngIn = ngIn := rfl
  conv at hin => rhs; simp only [ngIn, ngOut, f24]
  have hzu : [T.int .i64 0, T.int .u32 0, T.int .u8 0, T.int .u8 0, T.int .u8 0, T.int .u8 0, T.int .u8 0, T.int .u8 0, T.int .u8 0, T.int .u8 0, T.int .u8 0, T.int .u8 0, T.int .u8 0, T.int .u8 0, T.int .u8 0, T.int .u8 0, T.int .u8 0, T.int .u8 0, T.int .i64 0] = zeroW.enc := rfl
  rw [hzu] at hin
  rw [hin]
  clear hin
  have hr1 : (k + 1) * 40 ≤ 549755813888 := by omega
  have hr2 : k + 1 ≤ 549755813888 := by omega
  have hr3 : (0 + 1) * 40 ≤ 549755813888 := by omega
  have hcr : cut ((newRow k).flatMap Way.enc) 0 (k * 19) = (newRow k).flatMap Way.enc := cut_all hcl
  have hr0 : (newRow 0).flatMap Way.enc = [] := rfl
  generalize zeroW.enc = zc at *
  generalize hza : (aged zeroW (k : Int)).enc = za at *
  generalize hrk1 : (newRow (k + 1)).flatMap Way.enc = rk1 at *
  refine W_seqn (W_seqn (W_region (fun k => by simp (decide := true) (disch := first | omega | (simp (decide := true) only [List.length_set, hl]; done) | fail) only [sims, eqs, autos, T.cells, T.leaf, Nat.reduceLT, Nat.reduceAdd, Nat.reduceMul, Nat.reduceLeDiff, Nat.reduceEqDiff, reduceIte, Int.reduceBEq, Int.reduceBNe, Int.reduceLT, Int.reduceLE, Int.reduceGT, Int.reduceGE, Int.reduceNeg, reduceCtorEq, h1, h8, minL, maxL, List.foldlM_cons, List.foldlM_nil, hmx, hmv, bind, Option.bind_some, pure, hlt]; rfl) ⟨rfl, W_true (by simp (decide := true) (disch := first | omega | (simp (decide := true) only [List.length_set, hl]; done) | fail) only [sims, eqs, autos, T.cells, T.leaf, Nat.reduceLT, Nat.reduceAdd, Nat.reduceMul, Nat.reduceLeDiff, Nat.reduceEqDiff, reduceIte, Int.reduceBEq, Int.reduceBNe, Int.reduceLT, Int.reduceLE, Int.reduceGT, Int.reduceGE, Int.reduceNeg, reduceCtorEq] <;> rfl) (W_skip ⟨rfl, ?_⟩)⟩))
  have next : ∀ st' : St, (st'.s.length = 35 ∧ rho st'.s (.tmp 0) = v0 ∧ rho st'.s (.tmp 1) = .int .i64 ways ∧ rho st'.s (.tmp 4) = .ptr 0 0 ∧ rho st'.s (.tmp 5) = .ptr 1 0 ∧ rho st'.s (.tmp 6) = v6 ∧ (∀ t, t < n0 → st'.g t = g1 t) ∧ n0 ≤ st'.nx ∧ RowAcc st'.g (rho st'.s (.tmp 7)) (k + 1) n0 st'.nx ∧ rho st'.s (.tmp 8) = .int .i64 (k : Int)) → W ap (.region [⟨some 21, .mv (.tmp 8), none⟩, ⟨some 22, .bin .add (.tmp 21) (.con (.int .i64 1)), none⟩, ⟨some 8, .mv (.tmp 22), none⟩] []) st' (fun e s' => (e = .normal ∧ ∃ d', d' < d ∧ ∃ k : Nat, s'.s.length = 35 ∧ rho s'.s (.tmp 0) = v0 ∧ rho s'.s (.tmp 1) = .int .i64 ways ∧ rho s'.s (.tmp 4) = .ptr 0 0 ∧ rho s'.s (.tmp 5) = .ptr 1 0 ∧ rho s'.s (.tmp 6) = v6 ∧ (∀ t, t < n0 → s'.g t = g1 t) ∧ n0 ≤ s'.nx ∧ RowAcc s'.g (rho s'.s (.tmp 7)) k n0 s'.nx ∧ rho s'.s (.tmp 8) = .int .i64 (k : Int) ∧ k ≤ m ∧ d' = m - k) ∨ (e ≠ .normal ∧ Q e s')) := by
    rintro ⟨sl, g, nx⟩ ⟨hl, h0, h1, h4, h5, h6, hg, hnx, hA, h8⟩
    simp only at hl h0 h1 h4 h5 h6 hg hnx hA h8
    refine W_region (fun k => by simp (decide := true) (disch := first | omega | (simp (decide := true) only [List.length_set, hl]; done) | fail) only [sims, eqs, autos, T.cells, T.leaf, Nat.reduceLT, Nat.reduceAdd, Nat.reduceMul, Nat.reduceLeDiff, Nat.reduceEqDiff, reduceIte, Int.reduceBEq, Int.reduceBNe, Int.reduceLT, Int.reduceLE, Int.reduceGT, Int.reduceGE, Int.reduceNeg, reduceCtorEq, h8, hw2]; rfl) ?_
    refine .inl ⟨rfl, m - (k + 1), by omega, k + 1, ?_, ?_, ?_, ?_, ?_, ?_, hg, Nat.le_add_right_of_le hnx, ?_, ?_, by omega, rfl⟩
    rotate_left 6
    · rcases hA with ⟨h, _⟩ | ⟨h, t, t1, t2, t3, t4⟩
      · omega
      · exact .inr ⟨h, t, t1, Nat.lt_add_right _ t2, by simp (decide := true) (disch := first | omega | (simp (decide := true) only [List.length_set, hl]; done) | fail) only [sims, eqs, autos, T.cells, T.leaf, Nat.reduceLT, Nat.reduceAdd, Nat.reduceMul, Nat.reduceLeDiff, Nat.reduceEqDiff, reduceIte, Int.reduceBEq, Int.reduceBNe, Int.reduceLT, Int.reduceLE, Int.reduceGT, Int.reduceGE, Int.reduceNeg, reduceCtorEq, t3], t4⟩
    all_goals simp (decide := true) (disch := first | omega | (simp (decide := true) only [List.length_set, hl]; done) | fail) only [sims, eqs, autos, T.cells, T.leaf, Nat.reduceLT, Nat.reduceAdd, Nat.reduceMul, Nat.reduceLeDiff, Nat.reduceEqDiff, reduceIte, Int.reduceBEq, Int.reduceBNe, Int.reduceLT, Int.reduceLE, Int.reduceGT, Int.reduceGE, Int.reduceNeg, reduceCtorEq, hl, h0, h1, h4, h5, h6]
  refine W_seqn (W_block ?_)
  rcases hA with ⟨hk0, h7⟩ | ⟨hk0, t, t1, t2, h7, gt⟩
  · subst hk0
    rw [hr0, List.nil_append] at hrs
    refine W_region (fun k => by simp (decide := true) (disch := first | omega | (simp (decide := true) only [List.length_set, hl]; done) | fail) only [sims, eqs, autos, T.cells, T.leaf, Nat.reduceLT, Nat.reduceAdd, Nat.reduceMul, Nat.reduceLeDiff, Nat.reduceEqDiff, reduceIte, Int.reduceBEq, Int.reduceBNe, Int.reduceLT, Int.reduceLE, Int.reduceGT, Int.reduceGE, Int.reduceNeg, reduceCtorEq, hps, cellsOf, h7, h8, hzl, hzb, hzal, hzalf, hzall, hsp, hce, hr3]; rfl) (.inr (.inl ⟨by simp, rfl, ?_⟩))
    refine next _ ⟨?_, ?_, ?_, ?_, ?_, ?_, fun t ht => ?_, ?_, .inr ⟨by omega, st.nx + 5 + 4, ?_, ?_, ?_, ?_⟩, ?_⟩
    rotate_left 6
    · rw [← hg t ht]
      simp (decide := true) (disch := first | omega | (simp (decide := true) only [List.length_set, hl]; done) | fail) only [sims, eqs, autos, T.cells, T.leaf, Nat.reduceLT, Nat.reduceAdd, Nat.reduceMul, Nat.reduceLeDiff, Nat.reduceEqDiff, reduceIte, Int.reduceBEq, Int.reduceBNe, Int.reduceLT, Int.reduceLE, Int.reduceGT, Int.reduceGE, Int.reduceNeg, reduceCtorEq, hps]
    · exact Nat.le_add_right_of_le (Nat.le_add_right_of_le hnx)
    · omega
    · show st.nx + 5 + 4 < st.nx + 5 + 6; omega
    · simp (decide := true) (disch := first | omega | (simp (decide := true) only [List.length_set, hl]; done) | fail) only [sims, eqs, autos, T.cells, T.leaf, Nat.reduceLT, Nat.reduceAdd, Nat.reduceMul, Nat.reduceLeDiff, Nat.reduceEqDiff, reduceIte, Int.reduceBEq, Int.reduceBNe, Int.reduceLT, Int.reduceLE, Int.reduceGT, Int.reduceGE, Int.reduceNeg, reduceCtorEq, hps] <;> rfl
    · rw [hrk1, hrs]
      simp (decide := true) (disch := first | omega | (simp (decide := true) only [List.length_set, hl]; done) | fail) only [sims, eqs, autos, T.cells, T.leaf, Nat.reduceLT, Nat.reduceAdd, Nat.reduceMul, Nat.reduceLeDiff, Nat.reduceEqDiff, reduceIte, Int.reduceBEq, Int.reduceBNe, Int.reduceLT, Int.reduceLE, Int.reduceGT, Int.reduceGE, Int.reduceNeg, reduceCtorEq, hps] <;> rfl
    all_goals simp (decide := true) (disch := first | omega | (simp (decide := true) only [List.length_set, hl]; done) | fail) only [sims, eqs, autos, T.cells, T.leaf, Nat.reduceLT, Nat.reduceAdd, Nat.reduceMul, Nat.reduceLeDiff, Nat.reduceEqDiff, reduceIte, Int.reduceBEq, Int.reduceBNe, Int.reduceLT, Int.reduceLE, Int.reduceGT, Int.reduceGE, Int.reduceNeg, reduceCtorEq, hps, hl, h0, h1, h4, h5, h6, h8]
  · have hkk : (k = 0) = False := by simp; omega
    have htn : t ≠ st.nx + 5 + 3 := by omega
    have hb : k * 19 ≤ k * 19 := Nat.le_refl _
    refine W_region (fun k => by simp (decide := true) (disch := first | omega | (simp (decide := true) only [List.length_set, hl]; done) | fail) only [sims, eqs, autos, T.cells, T.leaf, Nat.reduceLT, Nat.reduceAdd, Nat.reduceMul, Nat.reduceLeDiff, Nat.reduceEqDiff, reduceIte, Int.reduceBEq, Int.reduceBNe, Int.reduceLT, Int.reduceLE, Int.reduceGT, Int.reduceGE, Int.reduceNeg, reduceCtorEq, hps, cellsOf, h7, h8, gt, hzl, hzb, hzal, hzalf, hzall, hsp, hce, hr1, hr2, hcl, hcr, hb]; rfl) (.inr (.inl ⟨by simp, rfl, ?_⟩))
    refine next _ ⟨?_, ?_, ?_, ?_, ?_, ?_, fun t' ht => ?_, ?_, .inr ⟨by omega, st.nx + 5 + 4, ?_, ?_, ?_, ?_⟩, ?_⟩
    rotate_left 6
    · rw [← hg t' ht]
      simp (decide := true) (disch := first | omega | (simp (decide := true) only [List.length_set, hl]; done) | fail) only [sims, eqs, autos, T.cells, T.leaf, Nat.reduceLT, Nat.reduceAdd, Nat.reduceMul, Nat.reduceLeDiff, Nat.reduceEqDiff, reduceIte, Int.reduceBEq, Int.reduceBNe, Int.reduceLT, Int.reduceLE, Int.reduceGT, Int.reduceGE, Int.reduceNeg, reduceCtorEq, hps]
    · exact Nat.le_add_right_of_le (Nat.le_add_right_of_le hnx)
    · omega
    · show st.nx + 5 + 4 < st.nx + 5 + 6; omega
    · simp (decide := true) (disch := first | omega | (simp (decide := true) only [List.length_set, hl]; done) | fail) only [sims, eqs, autos, T.cells, T.leaf, Nat.reduceLT, Nat.reduceAdd, Nat.reduceMul, Nat.reduceLeDiff, Nat.reduceEqDiff, reduceIte, Int.reduceBEq, Int.reduceBNe, Int.reduceLT, Int.reduceLE, Int.reduceGT, Int.reduceGE, Int.reduceNeg, reduceCtorEq, hps] <;> rfl
    · rw [hrk1, hrs]
      simp (decide := true) (disch := first | omega | (simp (decide := true) only [List.length_set, hl]; done) | fail) only [sims, eqs, autos, T.cells, T.leaf, Nat.reduceLT, Nat.reduceAdd, Nat.reduceMul, Nat.reduceLeDiff, Nat.reduceEqDiff, reduceIte, Int.reduceBEq, Int.reduceBNe, Int.reduceLT, Int.reduceLE, Int.reduceGT, Int.reduceGE, Int.reduceNeg, reduceCtorEq, hps] <;> rfl
    all_goals simp (decide := true) (disch := first | omega | (simp (decide := true) only [List.length_set, hl]; done) | fail) only [sims, eqs, autos, T.cells, T.leaf, Nat.reduceLT, Nat.reduceAdd, Nat.reduceMul, Nat.reduceLeDiff, Nat.reduceEqDiff, reduceIte, Int.reduceBEq, Int.reduceBNe, Int.reduceLT, Int.reduceLE, Int.reduceGT, Int.reduceGE, Int.reduceNeg, reduceCtorEq, hps, hl, h0, h1, h4, h5, h6, h8]
theorem rowN_newR (n m j : Nat) (h : j < n) : rowN (newR n m) j = newRow m := by
  unfold rowN newR; rw [List.getElem?_replicate, if_pos h]; rfl
theorem ng_out (sets ways : Int) (n m : Nat) (hn : n = clampN sets 8) (hm : m = clampN ways 4) (Q : AExit → St → Prop)
    (hQe : ∀ st : St, (∃ v, st.s.length = 35 ∧ rho st.s (.tmp 4) = .ptr 0 0 ∧ rho st.s (.tmp 5) = .ptr 1 0 ∧ st.g 0 = some [.imm true 0 []] ∧ st.g 1 = some [v] ∧ CopyAt st.g v (newR n m) 2 st.nx n) → Q (.exit 0) st) :
    ∀ (d : Nat) (st : St), (∃ (i : Nat) (v : T), st.s.length = 35 ∧ rho st.s (.tmp 0) = .int .i64 sets ∧ rho st.s (.tmp 1) = .int .i64 ways ∧ rho st.s (.tmp 4) = .ptr 0 0 ∧ rho st.s (.tmp 5) = .ptr 1 0 ∧ rho st.s (.tmp 6) = .int .i64 (i : Int) ∧ st.g 0 = some [.imm true 0 []] ∧ st.g 1 = some [v] ∧ CopyAt st.g v (newR n m) 2 st.nx i ∧ 2 ≤ st.nx ∧ i ≤ n ∧ d = n - i) → W ap (.loop ngOut) st Q := by
  have hnr := clampN_range sets 8 (by omega)
  have hmr := clampN_range ways 4 (by omega)
  have hnv := clamp_val sets 8 (by omega)
  rw [← hn] at hnr hnv
  rw [← hm] at hmr
  rw [show (((8 : Nat) : Int)) = 8 from rfl] at hnv
  refine W_loop _ ?_
  rintro d st ⟨i, v, hl, h0, h1, h4, h5, h6, g0, g1, hC, hnx, hi, hd⟩
  generalize hmx : (if (1 : Int) > sets then (1 : Int) else sets) = y at *
  by_cases hend : i = n
  · have hlt : decide ((i : Int) < (n : Int)) = false := decide_eq_false (by omega)
    refine W_seq (W_seqn (W_region (fun k => by simp (decide := true) (disch := first | omega | (simp (decide := true) only [List.length_set, hl]; done) | fail) only [sims, eqs, autos, T.cells, T.leaf, Nat.reduceLT, Nat.reduceAdd, Nat.reduceMul, Nat.reduceLeDiff, Nat.reduceEqDiff, reduceIte, Int.reduceBEq, Int.reduceBNe, Int.reduceLT, Int.reduceLE, Int.reduceGT, Int.reduceGE, Int.reduceNeg, reduceCtorEq, h0, h6, minL, maxL, List.foldlM_cons, List.foldlM_nil, hmx, hnv, bind, Option.bind_some, pure, hlt]; rfl) ⟨rfl, W_false (by simp (decide := true) (disch := first | omega | (simp (decide := true) only [List.length_set, hl]; done) | fail) only [sims, eqs, autos, T.cells, T.leaf, Nat.reduceLT, Nat.reduceAdd, Nat.reduceMul, Nat.reduceLeDiff, Nat.reduceEqDiff, reduceIte, Int.reduceBEq, Int.reduceBNe, Int.reduceLT, Int.reduceLE, Int.reduceGT, Int.reduceGE, Int.reduceNeg, reduceCtorEq] <;> rfl) (W_exit ?_)⟩))
    refine (.inr ⟨by simp, .inr ⟨by simp, hQe _ ⟨v, ?_, ?_, ?_, g0, g1, ?_⟩⟩⟩)
    rotate_right 1
    · rw [hend] at hC
      exact hC.mono (Nat.le_add_right _ _) (fun t _ _ => rfl)
    all_goals simp (decide := true) (disch := first | omega | (simp (decide := true) only [List.length_set, hl]; done) | fail) only [sims, eqs, autos, T.cells, T.leaf, Nat.reduceLT, Nat.reduceAdd, Nat.reduceMul, Nat.reduceLeDiff, Nat.reduceEqDiff, reduceIte, Int.reduceBEq, Int.reduceBNe, Int.reduceLT, Int.reduceLE, Int.reduceGT, Int.reduceGE, Int.reduceNeg, reduceCtorEq, hl, h4, h5]
  have hlt : decide ((i : Int) < (n : Int)) = true := decide_eq_true (by omega)
  have hin : i < n := by omega
  have hw2 : IntKind.i64.wrap ((i : Int) + 1) = ((i + 1 : Nat) : Int) := by rw [wrap_id (by omega)]; omega
  refine W_seqn (W_seqn (W_region (fun k => by simp (decide := true) (disch := first | omega | (simp (decide := true) only [List.length_set, hl]; done) | fail) only [sims, eqs, autos, T.cells, T.leaf, Nat.reduceLT, Nat.reduceAdd, Nat.reduceMul, Nat.reduceLeDiff, Nat.reduceEqDiff, reduceIte, Int.reduceBEq, Int.reduceBNe, Int.reduceLT, Int.reduceLE, Int.reduceGT, Int.reduceGE, Int.reduceNeg, reduceCtorEq, h0, h6, minL, maxL, List.foldlM_cons, List.foldlM_nil, hmx, hnv, bind, Option.bind_some, pure, hlt]; rfl) ⟨rfl, W_true (by simp (decide := true) (disch := first | omega | (simp (decide := true) only [List.length_set, hl]; done) | fail) only [sims, eqs, autos, T.cells, T.leaf, Nat.reduceLT, Nat.reduceAdd, Nat.reduceMul, Nat.reduceLeDiff, Nat.reduceEqDiff, reduceIte, Int.reduceBEq, Int.reduceBNe, Int.reduceLT, Int.reduceLE, Int.reduceGT, Int.reduceGE, Int.reduceNeg, reduceCtorEq] <;> rfl) (W_skip ⟨rfl, ?_⟩)⟩))
  refine W_seqn (W_block ?_)
  refine W_seqn (W_region (fun k => by simp (decide := true) (disch := first | omega | (simp (decide := true) only [List.length_set, hl]; done) | fail) only [sims, eqs, autos, T.cells, T.leaf, Nat.reduceLT, Nat.reduceAdd, Nat.reduceMul, Nat.reduceLeDiff, Nat.reduceEqDiff, reduceIte, Int.reduceBEq, Int.reduceBNe, Int.reduceLT, Int.reduceLE, Int.reduceGT, Int.reduceGE, Int.reduceNeg, reduceCtorEq]; rfl) ⟨rfl, ?_⟩)
  refine W_seqn (W_seqn (W_region (fun k => by simp (decide := true) (disch := first | omega | (simp (decide := true) only [List.length_set, hl]; done) | fail) only [sims, eqs, autos, T.cells, T.leaf, Nat.reduceLT, Nat.reduceAdd, Nat.reduceMul, Nat.reduceLeDiff, Nat.reduceEqDiff, reduceIte, Int.reduceBEq, Int.reduceBNe, Int.reduceLT, Int.reduceLE, Int.reduceGT, Int.reduceGE, Int.reduceNeg, reduceCtorEq]; rfl) ⟨rfl, W_block ?_⟩))
  refine ng_in ways m hm (st.nx + 5 + 1 + 1) st.g (.int .i64 sets) (.int .i64 (i : Int)) _ (fun st2 hst a0 a1 a4 a5 a6 hg hnx2 hA => ?_) (m - 0) _ ⟨0, ?_, ?_, ?_, ?_, ?_, ?_, fun t ht => rfl, Nat.le_refl _, .inl ⟨rfl, ?_⟩, ?_, by omega, rfl⟩
  · refine .inl ⟨rfl, rfl, ?_⟩
    clear hl
    have hl := hst
    rcases hA with ⟨h, _⟩ | ⟨_, b, b1, b2, h7, gb⟩
    · omega
    have k0 : st2.g 0 = some [.imm true 0 []] := by rw [hg 0 (by omega)]; exact g0
    have k1 : st2.g 1 = some [v] := by rw [hg 1 (by omega)]; exact g1
    have hrn := rowN_newR n m i hin
    have hrl := newRow_len m
    have next : ∀ (st' : St) (v' : T), (st'.s.length = 35 ∧ rho st'.s (.tmp 0) = .int .i64 sets ∧ rho st'.s (.tmp 1) = .int .i64 ways ∧ rho st'.s (.tmp 4) = .ptr 0 0 ∧ rho st'.s (.tmp 5) = .ptr 1 0 ∧ rho st'.s (.tmp 6) = .int .i64 (i : Int) ∧ st'.g 0 = some [.imm true 0 []] ∧ st'.g 1 = some [v'] ∧ CopyAt st'.g v' (newR n m) 2 st'.nx (i + 1) ∧ 2 ≤ st'.nx) → W ap (.region [⟨some 14, .mv (.tmp 6), none⟩, ⟨some 15, .bin .add (.tmp 14) (.con (.int .i64 1)), none⟩, ⟨some 6, .mv (.tmp 15), none⟩] []) st' (fun e s' => (e = .normal ∧ ∃ d', d' < d ∧ ∃ (i : Nat) (v : T), s'.s.length = 35 ∧ rho s'.s (.tmp 0) = .int .i64 sets ∧ rho s'.s (.tmp 1) = .int .i64 ways ∧ rho s'.s (.tmp 4) = .ptr 0 0 ∧ rho s'.s (.tmp 5) = .ptr 1 0 ∧ rho s'.s (.tmp 6) = .int .i64 (i : Int) ∧ s'.g 0 = some [.imm true 0 []] ∧ s'.g 1 = some [v] ∧ CopyAt s'.g v (newR n m) 2 s'.nx i ∧ 2 ≤ s'.nx ∧ i ≤ n ∧ d' = n - i) ∨ (e ≠ .normal ∧ Q e s')) := by
      rintro ⟨sl, g, nx⟩ v' ⟨hl, h0, h1, h4, h5, h6, g0, g1, hC, hnx⟩
      simp only at hl h0 h1 h4 h5 h6 g0 g1 hC hnx
      refine W_region (fun k => by simp (decide := true) (disch := first | omega | (simp (decide := true) only [List.length_set, hl]; done) | fail) only [sims, eqs, autos, T.cells, T.leaf, Nat.reduceLT, Nat.reduceAdd, Nat.reduceMul, Nat.reduceLeDiff, Nat.reduceEqDiff, reduceIte, Int.reduceBEq, Int.reduceBNe, Int.reduceLT, Int.reduceLE, Int.reduceGT, Int.reduceGE, Int.reduceNeg, reduceCtorEq, h6, hw2]; rfl) ?_
      refine .inl ⟨rfl, n - (i + 1), by omega, i + 1, v', ?_, ?_, ?_, ?_, ?_, ?_, g0, g1, hC.mono (Nat.le_add_right _ _) (fun t _ _ => rfl), Nat.le_add_right_of_le hnx, by omega, rfl⟩
      all_goals simp (decide := true) (disch := first | omega | (simp (decide := true) only [List.length_set, hl]; done) | fail) only [sims, eqs, autos, T.cells, T.leaf, Nat.reduceLT, Nat.reduceAdd, Nat.reduceMul, Nat.reduceLeDiff, Nat.reduceEqDiff, reduceIte, Int.reduceBEq, Int.reduceBNe, Int.reduceLT, Int.reduceLE, Int.reduceGT, Int.reduceGE, Int.reduceNeg, reduceCtorEq, hl, h0, h1, h4, h5]
    have hr3 : (0 + 1) * 24 ≤ 549755813888 := by omega
    have hc1 : cut [T.own b 0 m 19] 0 1 = [T.own b 0 m 19] := rfl
    rcases hC with ⟨hn0, hv⟩ | ⟨hn0, A, els, bf, hv, gA, hel, helf, hAh, hrest⟩
    · subst hn0
      subst hv
      have hC0 : CopyAt st.g (.imm true 0 []) (newR n m) 2 (st.nx + 5 + 1 + 1) 0 := .inl ⟨rfl, rfl⟩
      refine W_region (fun k => by simp (decide := true) (disch := first | omega | (simp (decide := true) only [List.length_set, hl]; done) | fail) only [sims, eqs, autos, T.cells, T.leaf, Nat.reduceLT, Nat.reduceAdd, Nat.reduceMul, Nat.reduceLeDiff, Nat.reduceEqDiff, reduceIte, Int.reduceBEq, Int.reduceBNe, Int.reduceLT, Int.reduceLE, Int.reduceGT, Int.reduceGE, Int.reduceNeg, reduceCtorEq, hps, cellsOf, a5, h7, k1, hc1, hr3, List.all]; rfl) (.inr (.inl ⟨by simp, rfl, ?_⟩))
      refine next _ (.own (st2.nx + 4) 0 (0 + 1) 1) ⟨?_, ?_, ?_, ?_, ?_, ?_, ?_, ?_, CopyAt.snoc (b := b) (els := []) (A := st2.nx + 4) hC0 (.inl ⟨rfl, rfl⟩) (by omega) b1 (by omega) (by show st2.nx + 4 < st2.nx + 7; omega) (fun t ht1 ht2 hne => ?_) ?_ ?_, Nat.le_add_right_of_le (by omega)⟩
      rotate_left 8
      · rw [← hg t ht2]
        simp (decide := true) (disch := first | omega | (simp (decide := true) only [List.length_set, hl]; done) | fail) only [sims, eqs, autos, T.cells, T.leaf, Nat.reduceLT, Nat.reduceAdd, Nat.reduceMul, Nat.reduceLeDiff, Nat.reduceEqDiff, reduceIte, Int.reduceBEq, Int.reduceBNe, Int.reduceLT, Int.reduceLE, Int.reduceGT, Int.reduceGE, Int.reduceNeg, reduceCtorEq, hps]
      · rw [hrn]
        simp (decide := true) (disch := first | omega | (simp (decide := true) only [List.length_set, hl]; done) | fail) only [sims, eqs, autos, T.cells, T.leaf, Nat.reduceLT, Nat.reduceAdd, Nat.reduceMul, Nat.reduceLeDiff, Nat.reduceEqDiff, reduceIte, Int.reduceBEq, Int.reduceBNe, Int.reduceLT, Int.reduceLE, Int.reduceGT, Int.reduceGE, Int.reduceNeg, reduceCtorEq, hps, gb]
      · rw [hrn, hrl]
        simp (decide := true) (disch := first | omega | (simp (decide := true) only [List.length_set, hl]; done) | fail) only [sims, eqs, autos, T.cells, T.leaf, Nat.reduceLT, Nat.reduceAdd, Nat.reduceMul, Nat.reduceLeDiff, Nat.reduceEqDiff, reduceIte, Int.reduceBEq, Int.reduceBNe, Int.reduceLT, Int.reduceLE, Int.reduceGT, Int.reduceGE, Int.reduceNeg, reduceCtorEq, hps] <;> rfl
      all_goals first | (simp (decide := true) (disch := first | omega | (simp (decide := true) only [List.length_set, hl]; done) | fail) only [sims, eqs, autos, T.cells, T.leaf, Nat.reduceLT, Nat.reduceAdd, Nat.reduceMul, Nat.reduceLeDiff, Nat.reduceEqDiff, reduceIte, Int.reduceBEq, Int.reduceBNe, Int.reduceLT, Int.reduceLE, Int.reduceGT, Int.reduceGE, Int.reduceNeg, reduceCtorEq, hps, hl, a0, a1, a4, a5, a6, k0]; done) | (simp (decide := true) (disch := first | omega | (simp (decide := true) only [List.length_set, hl]; done) | fail) only [sims, eqs, autos, T.cells, T.leaf, Nat.reduceLT, Nat.reduceAdd, Nat.reduceMul, Nat.reduceLeDiff, Nat.reduceEqDiff, reduceIte, Int.reduceBEq, Int.reduceBNe, Int.reduceLT, Int.reduceLE, Int.reduceGT, Int.reduceGE, Int.reduceNeg, reduceCtorEq, hps, hl, a0, a1, a4, a5, a6, k0]; rfl)
    · subst hv
      have hAlo : 2 < A := by obtain ⟨_, _, a, b, _⟩ := hrest 0 hn0; omega
      have hC0 : CopyAt st.g (.own A 0 i 1) (newR n m) 2 (st.nx + 5 + 1 + 1) i := (CopyAt.mono (.inr ⟨hn0, A, els, bf, rfl, gA, hel, helf, hAh, hrest⟩) (by omega) (fun t _ _ => rfl))
      have kA : st2.g A = some els := by rw [hg A (by omega)]; exact gA
      have hcA : cut els 0 (i * 1) = els := cut_all (by omega)
      have hr4 : (i + 1) * 24 ≤ 549755813888 := by omega
      have hr5 : i + 1 ≤ 549755813888 := by omega
      have hle1 : i * 1 ≤ i := by omega
      refine W_region (fun k => by simp (decide := true) (disch := first | omega | (simp (decide := true) only [List.length_set, hl]; done) | fail) only [sims, eqs, autos, T.cells, T.leaf, Nat.reduceLT, Nat.reduceAdd, Nat.reduceMul, Nat.reduceLeDiff, Nat.reduceEqDiff, reduceIte, Int.reduceBEq, Int.reduceBNe, Int.reduceLT, Int.reduceLE, Int.reduceGT, Int.reduceGE, Int.reduceNeg, reduceCtorEq, hps, cellsOf, a5, h7, k1, kA, hel, hcA, hle1, hc1, hr4, hr5, List.all]; rfl) (.inr (.inl ⟨by simp, rfl, ?_⟩))
      refine next _ (.own (st2.nx + 4) 0 (i + 1) 1) ⟨?_, ?_, ?_, ?_, ?_, ?_, ?_, ?_, CopyAt.snoc (b := b) (els := els) (A := st2.nx + 4) hC0 (.inr ⟨A, rfl, gA⟩) (by omega) b1 (by omega) (by show st2.nx + 4 < st2.nx + 7; omega) (fun t ht1 ht2 hne => ?_) ?_ ?_, Nat.le_add_right_of_le (by omega)⟩
      rotate_left 8
      · have hnA : A ≠ t := fun e => hne i (by rw [e])
        rw [← hg t ht2]
        simp (decide := true) (disch := first | omega | (simp (decide := true) only [List.length_set, hl]; done) | fail) only [sims, eqs, autos, T.cells, T.leaf, Nat.reduceLT, Nat.reduceAdd, Nat.reduceMul, Nat.reduceLeDiff, Nat.reduceEqDiff, reduceIte, Int.reduceBEq, Int.reduceBNe, Int.reduceLT, Int.reduceLE, Int.reduceGT, Int.reduceGE, Int.reduceNeg, reduceCtorEq, hps]
      · rw [hrn]
        simp (decide := true) (disch := first | omega | (simp (decide := true) only [List.length_set, hl]; done) | fail) only [sims, eqs, autos, T.cells, T.leaf, Nat.reduceLT, Nat.reduceAdd, Nat.reduceMul, Nat.reduceLeDiff, Nat.reduceEqDiff, reduceIte, Int.reduceBEq, Int.reduceBNe, Int.reduceLT, Int.reduceLE, Int.reduceGT, Int.reduceGE, Int.reduceNeg, reduceCtorEq, hps, gb]
      · rw [hrn, hrl]
        simp (decide := true) (disch := first | omega | (simp (decide := true) only [List.length_set, hl]; done) | fail) only [sims, eqs, autos, T.cells, T.leaf, Nat.reduceLT, Nat.reduceAdd, Nat.reduceMul, Nat.reduceLeDiff, Nat.reduceEqDiff, reduceIte, Int.reduceBEq, Int.reduceBNe, Int.reduceLT, Int.reduceLE, Int.reduceGT, Int.reduceGE, Int.reduceNeg, reduceCtorEq, hps] <;> rfl
      all_goals first | (simp (decide := true) (disch := first | omega | (simp (decide := true) only [List.length_set, hl]; done) | fail) only [sims, eqs, autos, T.cells, T.leaf, Nat.reduceLT, Nat.reduceAdd, Nat.reduceMul, Nat.reduceLeDiff, Nat.reduceEqDiff, reduceIte, Int.reduceBEq, Int.reduceBNe, Int.reduceLT, Int.reduceLE, Int.reduceGT, Int.reduceGE, Int.reduceNeg, reduceCtorEq, hps, hl, a0, a1, a4, a5, a6, k0]; done) | (simp (decide := true) (disch := first | omega | (simp (decide := true) only [List.length_set, hl]; done) | fail) only [sims, eqs, autos, T.cells, T.leaf, Nat.reduceLT, Nat.reduceAdd, Nat.reduceMul, Nat.reduceLeDiff, Nat.reduceEqDiff, reduceIte, Int.reduceBEq, Int.reduceBNe, Int.reduceLT, Int.reduceLE, Int.reduceGT, Int.reduceGE, Int.reduceNeg, reduceCtorEq, hps, hl, a0, a1, a4, a5, a6, k0]; rfl)
  all_goals first | (simp (decide := true) (disch := first | omega | (simp (decide := true) only [List.length_set, hl]; done) | fail) only [sims, eqs, autos, T.cells, T.leaf, Nat.reduceLT, Nat.reduceAdd, Nat.reduceMul, Nat.reduceLeDiff, Nat.reduceEqDiff, reduceIte, Int.reduceBEq, Int.reduceBNe, Int.reduceLT, Int.reduceLE, Int.reduceGT, Int.reduceGE, Int.reduceNeg, reduceCtorEq, hl, h0, h1, h4, h5, h6]; done) | (simp (decide := true) (disch := first | omega | (simp (decide := true) only [List.length_set, hl]; done) | fail) only [sims, eqs, autos, T.cells, T.leaf, Nat.reduceLT, Nat.reduceAdd, Nat.reduceMul, Nat.reduceLeDiff, Nat.reduceEqDiff, reduceIte, Int.reduceBEq, Int.reduceBNe, Int.reduceLT, Int.reduceLE, Int.reduceGT, Int.reduceGE, Int.reduceNeg, reduceCtorEq, hl, h0, h1, h4, h5, h6]; rfl)
theorem ref_new (sets ways : Int) : ∃ v, E ap 24 [.int .i64 sets, .int .i64 ways] v ∧ CacheOf (newC sets ways).sets v := by
  refine E_bodyV (F := f24) rfl rfl rfl (P := CacheOf (newC sets ways).sets) ?_
  generalize hs0 : (_ : List T) ++ List.replicate _ T.undef = s0
  have e0 : s0.length = 35 ∧ rho s0 (.tmp 0) = .int .i64 sets ∧ rho s0 (.tmp 1) = .int .i64 ways := by subst hs0; exact ⟨rfl, rfl, rfl⟩
  clear hs0
  obtain ⟨hl, h0, h1⟩ := e0
  have hmr := clampN_range ways 4 (by omega)
  refine W_seqn (W_region (fun k => by simp (decide := true) (disch := first | omega | (simp (decide := true) only [List.length_set, hl]; done) | fail) only [sims, eqs, autos, T.cells, T.leaf, Nat.reduceLT, Nat.reduceAdd, Nat.reduceMul, Nat.reduceLeDiff, Nat.reduceEqDiff, reduceIte, Int.reduceBEq, Int.reduceBNe, Int.reduceLT, Int.reduceLE, Int.reduceGT, Int.reduceGE, Int.reduceNeg, reduceCtorEq, hps]; rfl) ⟨rfl, ?_⟩)
  refine W_seqn (W_region (fun k => by simp (decide := true) (disch := first | omega | (simp (decide := true) only [List.length_set, hl]; done) | fail) only [sims, eqs, autos, T.cells, T.leaf, Nat.reduceLT, Nat.reduceAdd, Nat.reduceMul, Nat.reduceLeDiff, Nat.reduceEqDiff, reduceIte, Int.reduceBEq, Int.reduceBNe, Int.reduceLT, Int.reduceLE, Int.reduceGT, Int.reduceGE, Int.reduceNeg, reduceCtorEq, hps]; rfl) ⟨rfl, ?_⟩)
  refine W_seq (W_seqn (W_region (fun k => by simp (decide := true) (disch := first | omega | (simp (decide := true) only [List.length_set, hl]; done) | fail) only [sims, eqs, autos, T.cells, T.leaf, Nat.reduceLT, Nat.reduceAdd, Nat.reduceMul, Nat.reduceLeDiff, Nat.reduceEqDiff, reduceIte, Int.reduceBEq, Int.reduceBNe, Int.reduceLT, Int.reduceLE, Int.reduceGT, Int.reduceGE, Int.reduceNeg, reduceCtorEq, hps]; rfl) ⟨rfl, W_block ?_⟩))
  refine ng_out sets ways (clampN sets 8) (clampN ways 4) rfl rfl _ (fun st hex => ?_) (clampN sets 8 - 0) _ ⟨0, .imm true 0 [], ?_, ?_, ?_, ?_, ?_, ?_, ?_, ?_, .inl ⟨rfl, rfl⟩, ?_, by omega, rfl⟩
  · obtain ⟨v, hst, h4, h5, g0, g1, hC⟩ := hex
    have hl := hst
    have hvl := copy_leaf hC
    have hc1 : cut [v] 0 1 = [v] := rfl
    refine .inl ⟨rfl, .inl ⟨rfl, ?_⟩⟩
    refine W_seqn (W_region (fun k => by simp (decide := true) (disch := first | omega | (simp (decide := true) only [List.length_set, hl]; done) | fail) only [sims, eqs, autos, T.cells, T.leaf, Nat.reduceLT, Nat.reduceAdd, Nat.reduceMul, Nat.reduceLeDiff, Nat.reduceEqDiff, reduceIte, Int.reduceBEq, Int.reduceBNe, Int.reduceLT, Int.reduceLE, Int.reduceGT, Int.reduceGE, Int.reduceNeg, reduceCtorEq, hps, h4, h5, g0, g1, hc1, hvl]; rfl) ⟨rfl, W_ret ?_⟩)
    have hC2 : CopyAt (put1 st.g (0, some [v])) v (newR (clampN sets 8) (clampN ways 4)) 2 st.nx (newR (clampN sets 8) (clampN ways 4)).length := by
      rw [newR_len]
      exact hC.mono (Nat.le_refl _) (fun t ht1 ht2 => put1_ne (by omega))
    obtain ⟨f, ys, ids, e1, e2⟩ := frz_copy (nx := st.nx + 2) (d := 8) (newR_wf _ _ (by omega)) hC2
    refine ⟨rfl, _, ⟨f, ys, rfl, e2⟩, (fin_cellV (F := f24) (t := 4) (p := 0) rfl e1 ?_ ?_).2⟩
    · simp (decide := true) (disch := first | omega | (simp (decide := true) only [List.length_set, hl]; done) | fail) only [sims, eqs, autos, T.cells, T.leaf, Nat.reduceLT, Nat.reduceAdd, Nat.reduceMul, Nat.reduceLeDiff, Nat.reduceEqDiff, reduceIte, Int.reduceBEq, Int.reduceBNe, Int.reduceLT, Int.reduceLE, Int.reduceGT, Int.reduceGE, Int.reduceNeg, reduceCtorEq, h4]
    · simp (decide := true) (disch := first | omega | (simp (decide := true) only [List.length_set, hl]; done) | fail) only [sims, eqs, autos, T.cells, T.leaf, Nat.reduceLT, Nat.reduceAdd, Nat.reduceMul, Nat.reduceLeDiff, Nat.reduceEqDiff, reduceIte, Int.reduceBEq, Int.reduceBNe, Int.reduceLT, Int.reduceLE, Int.reduceGT, Int.reduceGE, Int.reduceNeg, reduceCtorEq, hps]
  rotate_right 1
  · show 2 ≤ 0 + 1 + 1 + 1; omega
  all_goals first | (simp (decide := true) (disch := first | omega | (simp (decide := true) only [List.length_set, hl]; done) | fail) only [sims, eqs, autos, T.cells, T.leaf, Nat.reduceLT, Nat.reduceAdd, Nat.reduceMul, Nat.reduceLeDiff, Nat.reduceEqDiff, reduceIte, Int.reduceBEq, Int.reduceBNe, Int.reduceLT, Int.reduceLE, Int.reduceGT, Int.reduceGE, Int.reduceNeg, reduceCtorEq, hps, hl, h0, h1]; done) | (simp (decide := true) (disch := first | omega | (simp (decide := true) only [List.length_set, hl]; done) | fail) only [sims, eqs, autos, T.cells, T.leaf, Nat.reduceLT, Nat.reduceAdd, Nat.reduceMul, Nat.reduceLeDiff, Nat.reduceEqDiff, reduceIte, Int.reduceBEq, Int.reduceBNe, Int.reduceLT, Int.reduceLE, Int.reduceGT, Int.reduceGE, Int.reduceNeg, reduceCtorEq, hps, hl, h0, h1]; rfl)
theorem newC_fit (sets ways : Int) : Fit (newC sets ways).sets := by
  have hnr := clampN_range sets 8 (by omega)
  have hmr := clampN_range ways 4 (by omega)
  refine ⟨by show (newR _ _).length ≤ 20; rw [newR_len]; omega, fun l hl => ?_⟩
  have hl : l ∈ newR (clampN sets 8) (clampN ways 4) := hl
  unfold newR at hl
  rw [List.mem_replicate] at hl
  rw [hl.2, newRow_len]
  exact ⟨by omega, newRow_wf _ (by omega)⟩
theorem newC_wf (sets ways : Int) : (newC sets ways).wf := by
  have h := newC_fit sets ways
  have hm : (1000 : Nat) ≤ maxLen := by decide
  exact ⟨by have := h.1; omega, fun l hl => ⟨by have := (h.2 l hl).1; omega, (h.2 l hl).2⟩⟩
end Go.Proofs.Ytikeeegkndnnfaa.Abs
