/- Words of other seats' texts, as they are used here: With. -/
import Derived.Test.YtabfinhkoihhfaaGreatG03
namespace Go.Proofs.YtabfinhkoihhfaaGreat.Abs
open Go Go.RowKit Fn
set_option linter.unusedVariables false
set_option linter.unusedSimpArgs false
set_option linter.unnecessarySimpa false
set_option maxRecDepth 100000
set_option maxHeartbeats 4000000

theorem conf_u8 : ∀ (d : List Int) (ks : List (Option IntKind)) (xs : List T), (∀ y ∈ d, (Lit.int .u8 y).wf = true) → conf (List.replicate d.length (some .u8) ++ ks) (d.flatMap (fun n => [T.int .u8 n]) ++ xs) = conf ks xs
  | [], ks, xs, _ => by simp
  | y :: d, ks, xs, h => by
    have hy := wf_u8 (h y (List.mem_cons_self ..))
    have e : conf1 (some .u8) (.int .u8 y) = (true && (decide ((0 : Int) ≤ y) && decide (y ≤ 2 ^ 8 - 1))) := rfl
    rw [List.length_cons, List.replicate_succ, List.flatMap_cons, List.cons_append, List.append_assoc, List.singleton_append, conf, conf_u8 d ks xs (fun z hz => h z (List.mem_cons_of_mem _ hz)), e, decide_eq_true (by omega), decide_eq_true (by omega)]
    try rfl
theorem eqL_ints : ∀ l : List T, (∀ x ∈ l, ∃ k n, x = .int k n) → eqL l l = true
  | [], _ => rfl
  | x :: l, h => by
    obtain ⟨k, n, rfl⟩ := h x (List.mem_cons_self ..)
    have e : eq1 (.int k n) (.int k n) = true := by simp [eq1]
    rw [eqL, e, eqL_ints l (fun y hy => h y (List.mem_cons_of_mem _ hy))]; rfl
theorem eq_way (w : Way) : eqL w.enc w.enc = true := eqL_ints _ (way_ints w)
theorem conf_way (w : Way) (h : w.wf) : conf [some .i64, some .u32, some .u8, some .u8, some .u8, some .u8, some .u8, some .u8, some .u8, some .u8, some .u8, some .u8, some .u8, some .u8, some .u8, some .u8, some .u8, some .u8, some .i64] w.enc = true := by
  have h1 := wf_i64 h.1
  have h2 := wf_u32 h.2.1
  have h3 := wf_i64 h.2.2.2
  have hd := conf_u8 w.data [some .i64] [T.int .i64 w.age] h.2.2.1.2
  rw [h.2.2.1.1] at hd
  have e1 : conf1 (some .i64) (.int .i64 w.state) = (true && (decide (-(2 ^ 63) ≤ w.state) && decide (w.state ≤ 2 ^ 63 - 1))) := rfl
  have e2 : conf1 (some .u32) (.int .u32 w.tag) = (true && (decide ((0 : Int) ≤ w.tag) && decide (w.tag ≤ 2 ^ 32 - 1))) := rfl
  have e3 : conf [some .i64] [T.int .i64 w.age] = ((true && (decide (-(2 ^ 63) ≤ w.age) && decide (w.age ≤ 2 ^ 63 - 1))) && true) := rfl
  have e4 : w.enc = T.int .i64 w.state :: T.int .u32 w.tag :: (w.data.flatMap (fun n => [T.int .u8 n]) ++ [T.int .i64 w.age]) := rfl
  rw [e4, conf, conf]
  have e5 : conf [some .u8, some .u8, some .u8, some .u8, some .u8, some .u8, some .u8, some .u8, some .u8, some .u8, some .u8, some .u8, some .u8, some .u8, some .u8, some .u8, some .i64] (w.data.flatMap (fun n => [T.int .u8 n]) ++ [T.int .i64 w.age]) = conf [some .i64] [T.int .i64 w.age] := hd
  rw [e5, e1, e2, e3, decide_eq_true (by omega), decide_eq_true (by omega), decide_eq_true (by omega), decide_eq_true (by omega), decide_eq_true (by omega), decide_eq_true (by omega)]
  try rfl
def sameOut : ACode := match f32.body with | .seq _ (.seq _ (.seq (.seq _ (.block _ (.loop c))) _)) => c | _ => .skip
def sameIn : ACode := match sameOut with | .seq _ (.seq (.block _ (.seq _ (.seq _ (.block _ (.loop c))))) _) => c | _ => .skip
theorem same_in (fx fy : Bool) (n : Nat) (xs ys : List T) (hxl : xs.length = n) (hyl : ys.length = n) (i : Nat) (hi : i < n) (f f' : Bool) (l : List Way) (hw : ∀ w ∈ l, w.wf) (hll : l.length ≤ 1000) (hx : xs[i * 1]? = some (.imm f l.length (l.flatMap Way.enc))) (hy : ys[i * 1]? = some (.imm f' l.length (l.flatMap Way.enc))) (Q : AExit → St → Prop)
    (hQe : ∀ st : St, st.s.length = 78 → rho st.s (.tmp 2) = .ptr 0 0 → rho st.s (.tmp 3) = .ptr 1 0 → st.g 0 = some [.imm fx n xs] → st.g 1 = some [.imm fy n ys] → rho st.s (.tmp 5) = .int .i64 (i : Int) → Q (.exit 2) st) :
    ∀ (m : Nat) (st : St), (∃ k : Nat, st.s.length = 78 ∧ rho st.s (.tmp 2) = .ptr 0 0 ∧ rho st.s (.tmp 3) = .ptr 1 0 ∧ st.g 0 = some [.imm fx n xs] ∧ st.g 1 = some [.imm fy n ys] ∧ rho st.s (.tmp 5) = .int .i64 (i : Int) ∧ rho st.s (.tmp 6) = .int .i64 (k : Int) ∧ k ≤ l.length ∧ m = l.length - k) → W ap (.loop sameIn) st Q := by
  refine W_loop _ ?_
  rintro m st ⟨k, hl, h2, h3, hg0, hg1, h5, h6, hk, hm⟩
  have hb : i * 1 + 1 ≤ n := by omega
  by_cases hend : k = l.length
  · have hlt : decide ((k : Int) < (l.length : Int)) = false := decide_eq_false (by omega)
    refine W_seq (W_seqn (W_region (fun k => by simp +decide only [s8, simprocAttr, hl, h2, h3, hg0, hg1, h5, h6, hxl, hyl, hi, hb, hx, hy, hlt]; rfl) ⟨rfl, W_fls (W_exit (.inr ⟨by simp, .inr ⟨by simp, hQe _ ?_ ?_ ?_ ?_ ?_ ?_⟩⟩))⟩)) <;> simp +decide only [s8, simprocAttr, hl, h2, h3, hg0, hg1, h5]
  · have hlt : decide ((k : Int) < (l.length : Int)) = true := decide_eq_true (by omega)
    have hkl : k < l.length := by omega
    have hw2 : IntKind.i64.wrap ((k : Int) + 1) = ((k + 1 : Nat) : Int) := by rw [wrap_id (by omega)]; omega
    have hfl := flat_lenM (f := Way.enc) l (fun w h => way_len (hw w h))
    have hb2 : k * 19 + 19 ≤ (l.flatMap Way.enc).length := by omega
    have hcw : cut (l.flatMap Way.enc) (k * 19) 19 = (l[k]).enc := flat_cutM l (fun w h => way_len (hw w h)) k hkl
    have hcf := conf_way l[k] (hw _ (List.getElem_mem hkl))
    have heq := eq_way l[k]
    generalize (l[k]).enc = we at *
    generalize l.flatMap Way.enc = ws at *
    refine W_seqn (W_seqn (W_region (fun k => by simp +decide only [s8, simprocAttr, hl, h2, h3, hg0, hg1, h5, h6, hxl, hyl, hi, hb, hx, hy, hlt]; rfl) ⟨rfl, W_tru (W_skip ⟨rfl, ?_⟩)⟩))
    refine W_seqn (W_block (W_seqn (W_region (fun k => by simp +decide only [s8, simprocAttr, hl, h2, h3, hg0, hg1, h5, h6, hxl, hyl, hi, hb, hx, hy, hkl, hb2, hcw, hcf, heq]; rfl) ⟨rfl, W_fls (W_skip (.inr (.inl ⟨by simp, rfl, ?_⟩)))⟩)))
    refine W_region (fun k => by simp +decide only [s8, simprocAttr, hl, h6, hw2]; rfl) (.inl ⟨rfl, l.length - (k + 1), by omega, k + 1, ?_, ?_, ?_, ?_, ?_, ?_, ?_, by omega, rfl⟩) <;> simp +decide only [s8, simprocAttr, hl, h2, h3, hg0, hg1, h5]
def Tells (xs : List T) (R : List (List Way)) : Prop := xs.length = R.length ∧ ∀ i (h : i < R.length), ∃ f, xs[i * 1]? = some (.imm f R[i].length (R[i].flatMap Way.enc))
theorem same_out (fx fy : Bool) (R : List (List Way)) (xs ys : List T) (hx : Tells xs R) (hy : Tells ys R) (hR : R.length ≤ 1000) (hw : ∀ l ∈ R, l.length ≤ 1000 ∧ ∀ w ∈ l, w.wf) (Q : AExit → St → Prop)
    (hQe : ∀ st : St, st.s.length = 78 → Q (.exit 0) st) :
    ∀ (m : Nat) (st : St), (∃ i : Nat, st.s.length = 78 ∧ rho st.s (.tmp 2) = .ptr 0 0 ∧ rho st.s (.tmp 3) = .ptr 1 0 ∧ st.g 0 = some [.imm fx R.length xs] ∧ st.g 1 = some [.imm fy R.length ys] ∧ rho st.s (.tmp 5) = .int .i64 (i : Int) ∧ i ≤ R.length ∧ m = R.length - i) → W ap (.loop sameOut) st Q := by
  refine W_loop _ ?_
  rintro m st ⟨i, hl, h2, h3, hg0, hg1, h5, hi, hm⟩
  by_cases hend : i = R.length
  · have hlt : decide ((i : Int) < (R.length : Int)) = false := decide_eq_false (by omega)
    refine W_seq (W_seqn (W_region (fun k => by simp +decide only [s8, simprocAttr, hl, h2, h3, hg0, hg1, h5, hlt]; rfl) ⟨rfl, W_fls (W_exit (.inr ⟨by simp, .inr ⟨by simp, hQe _ ?_⟩⟩))⟩))
    simp +decide only [s8, simprocAttr, hl]
  · have hlt : decide ((i : Int) < (R.length : Int)) = true := decide_eq_true (by omega)
    have hil : i < R.length := by omega
    have hb : i * 1 + 1 ≤ R.length := by omega
    have hxl := hx.1
    have hyl := hy.1
    obtain ⟨f, hxi⟩ := hx.2 i hil
    obtain ⟨f', hyi⟩ := hy.2 i hil
    obtain ⟨hll, hlw⟩ := hw _ (List.getElem_mem hil)
    have hne : ((R[i].length : Int) != (R[i].length : Int)) = false := by simp
    have hw2 : IntKind.i64.wrap ((i : Int) + 1) = ((i + 1 : Nat) : Int) := by rw [wrap_id (by omega)]; omega
    refine W_seqn (W_seqn (W_region (fun k => by simp +decide only [s8, simprocAttr, hl, h2, h3, hg0, hg1, h5, hlt]; rfl) ⟨rfl, W_tru (W_skip ⟨rfl, ?_⟩)⟩))
    refine W_seqn (W_block ?_)
    refine W_seqn (W_seqn (W_region (fun k => by simp +decide only [s8, simprocAttr, hl, h2, h3, hg0, hg1, h5, hxl, hyl, hil, hb, hxi, hyi, hne]; rfl) ⟨rfl, W_fls (W_skip ⟨rfl, ?_⟩)⟩))
    refine W_seqn (W_region (fun k => by simp +decide only [s8, simprocAttr]; rfl) ⟨rfl, W_block ?_⟩)
    refine same_in fx fy R.length xs ys hxl hyl i hil f f' R[i] hlw hll hxi hyi _ (fun st hl h2 h3 hg0 hg1 h5 => ?_) (R[i].length - 0) _ ⟨0, ?_, ?_, ?_, ?_, ?_, ?_, ?_, by omega, rfl⟩
    · refine .inl ⟨rfl, .inr (.inl ⟨by simp, rfl, ?_⟩)⟩
      refine W_region (fun k => by simp +decide only [s8, simprocAttr, hl, h5, hw2]; rfl) (.inl ⟨rfl, R.length - (i + 1), by omega, i + 1, ?_, ?_, ?_, ?_, ?_, ?_, by omega, rfl⟩) <;> simp +decide only [s8, simprocAttr, hl, h2, h3, hg0, hg1]
    all_goals first | (simp +decide only [s8, simprocAttr, hl, h2, h3, hg0, hg1, h5]; done) | (simp +decide only [s8, simprocAttr, hl, h2, h3, hg0, hg1, h5]; rfl)
theorem same_cache (fx fy : Bool) (R : List (List Way)) (xs ys : List T) (hx : Tells xs R) (hy : Tells ys R) (hR : R.length ≤ 1000) (hw : ∀ l ∈ R, l.length ≤ 1000 ∧ ∀ w ∈ l, w.wf) : E ap 32 [.agg [.imm fx R.length xs], .agg [.imm fy R.length ys]] (.bool true) := by
  refine E_body (F := f32) rfl rfl rfl ?_
  generalize hs0 : (_ : List T) ++ List.replicate _ T.undef = s0
  have e0 : s0.length = 78 ∧ rho s0 (.tmp 0) = .agg [.imm fx R.length xs] ∧ rho s0 (.tmp 1) = .agg [.imm fy R.length ys] := by subst hs0; exact ⟨rfl, rfl, rfl⟩
  clear hs0
  obtain ⟨hl, h0, h1⟩ := e0
  have hl1 : allLeaf [T.imm fx R.length xs] = true := rfl
  have hl2 : allLeaf [T.imm fy R.length ys] = true := rfl
  have hne : ((R.length : Int) != (R.length : Int)) = false := by simp
  refine W_seqn (W_region (fun k => by simp +decide only [s8, simprocAttr, hl, h0, h1, hl1, hl2]; rfl) ⟨rfl, ?_⟩)
  refine W_seqn (W_seqn (W_region (fun k => by simp +decide only [s8, simprocAttr, hl, hne]; rfl) ⟨rfl, W_fls (W_skip ⟨rfl, ?_⟩)⟩))
  refine W_seq (W_seqn (W_region (fun k => by simp +decide only [s8, simprocAttr]; rfl) ⟨rfl, W_block ?_⟩))
  refine same_out fx fy R xs ys hx hy hR hw _ (fun st hst => ?_) (R.length - 0) _ ⟨0, ?_, ?_, ?_, ?_, ?_, ?_, by omega, rfl⟩
  · refine .inl ⟨rfl, .inl ⟨rfl, W_seqn (W_region (fun k => by simp +decide only [s8, simprocAttr]; rfl) ⟨rfl, W_ret ?_⟩)⟩⟩
    refine fin_of (F := f32) rfl (fun _ => rfl) ?_
    simp +decide only [s8, simprocAttr, hst]
  all_goals first | (simp +decide only [s8, simprocAttr, hl]; done) | (simp +decide only [s8, simprocAttr, hl]; rfl)
theorem ap96 : ap 96 = some f96 := rfl
theorem n96 : f96.nat = some (1, 24) := rfl
theorem ap97 : ap 97 = some f97 := rfl
theorem n97 : f97.nat = some (19, 40) := rfl
theorem ap66 : ap 66 = some f66 := rfl
theorem p66 : f66.pure = false := rfl
theorem n66 : f66.nat = none := rfl
theorem tells_leaf {xs : List T} {R : List (List Way)} (h : Tells xs R) : allLeaf xs = true := by
  unfold allLeaf
  rw [List.all_eq_true]
  intro x hx
  obtain ⟨i, hi, rfl⟩ := List.getElem_of_mem hx
  obtain ⟨f, hf⟩ := h.2 i (by rw [← h.1]; exact hi)
  rw [Nat.mul_one, List.getElem?_eq_getElem hi] at hf
  rw [Option.some.inj hf]; rfl
def Withed (g : Mem) (nx : Nat) (n i wl : Nat) (xs ws : List T) (A B : Nat) (g' : Mem) (nx' : Nat) : Prop :=
  g' A = some (xs.set i (.own B 0 wl 19)) ∧ g' B = some ws ∧ nx ≤ A ∧ A < B ∧ B < nx' ∧ (∀ t, t < nx → g' t = g t)
theorem with_run (fx : Bool) (n : Nat) (xs : List T) (hxl : xs.length = n) (hxf : allLeaf xs = true) (hn : n ≤ 1000) (i : Nat) (hi : i < n) (f : Bool) (wl : Nat) (ws : List T) (hxi : xs[i * 1]? = some (.imm f wl ws)) (hwl : ws.length = wl * 19) (hwf : allLeaf ws = true) (hw0 : 0 < wl) (hw1 : wl ≤ 1000) (g : Mem) (nx : Nat) :
    ∃ N g' nx', (∀ k, N ≤ k → runBody (ev ap k) f66 [.agg [.imm fx n xs], .int .i64 (i : Int)] g nx = some (.agg [.own (nx + 2 + 2) 0 n 1], g', nx')) ∧ Withed g nx n i wl xs ws (nx + 2 + 2) (nx + 2 + 6 + 8) g' nx' := by
  refine EI_body (P := Withed g nx n i wl xs ws (nx + 2 + 2) (nx + 2 + 6 + 8)) ?_
  generalize hs0 : (_ : List T) ++ List.replicate _ T.undef = s0
  have e0 : s0.length = 21 ∧ rho s0 (.tmp 0) = .agg [.imm fx n xs] ∧ rho s0 (.tmp 1) = .int .i64 (i : Int) := by subst hs0; exact ⟨rfl, rfl, rfl⟩
  clear hs0
  obtain ⟨hl, h0, h1⟩ := e0
  have hleaf : allLeaf [T.imm fx n xs] = true := rfl
  have hn0 : (n = 0) = False := by simp; omega
  have hw00 : (wl = 0) = False := by simp; omega
  have hxl1 : (n = n * 1) = True := by simp
  have hr1 : n * 24 ≤ 549755813888 := by omega
  have hr2 : n ≤ 549755813888 := by omega
  have hr3 : wl * 40 ≤ 549755813888 := by omega
  have hr4 : wl ≤ 549755813888 := by omega
  have hb : i * 1 + 1 ≤ n := by omega
  have hi1 : 0 + i * 1 = i := by omega
  have hb2 : i + 1 ≤ n := by omega
  refine W_seqn (W_region (fun k => by simp +decide (disch := first | omega | simp +decide [hl]) only [s9, simprocAttr, h0, hleaf]; rfl) ⟨rfl, ?_⟩)
  refine W_seqn (W_region (fun k => by simp +decide (disch := first | omega | simp +decide [hl]) only [s9, simprocAttr, h0, ap96, n96, cloneRes, cellsOf, hxl, hxl1, hxf, hn0, hr1, hr2]; rfl) ⟨rfl, ?_⟩)
  refine W_seqn (W_region (fun k => by simp +decide (disch := first | omega | simp +decide [hl]) only [s9, simprocAttr, h1, ap97, n97, cloneRes, cellsOf, hxl, hwl, hwf, hw00, hr3, hr4, hi, hb, hxi, hi1, hb2]; rfl) ⟨rfl, ?_⟩)
  refine W_seqn (W_region (fun k => by simp +decide (disch := first | omega | simp +decide [hl]) only [s9, simprocAttr]; rfl) ⟨rfl, ?_⟩)
  refine W_ret ⟨rfl, ?_, ?_⟩
  · simp only [resT, resL, resOne, show f66.res = [.cell 4 false 1] from rfl]
    simp +decide (disch := first | omega | simp +decide [hl]) only [s9, simprocAttr]
    try rfl
  · refine ⟨?_, ?_, ?_, ?_, ?_, ?_⟩
    · simp +decide (disch := first | omega | simp +decide [hl]) only [s9, simprocAttr]
    · simp +decide (disch := first | omega | simp +decide [hl]) only [s9, simprocAttr]
    · omega
    · omega
    · show nx + 2 + 6 + 8 < nx + 2 + 6 + 11 + 2; omega
    · intro t ht
      simp +decide (disch := first | omega | simp +decide [hl]) only [s9, simprocAttr]
end Go.Proofs.YtabfinhkoihhfaaGreat.Abs
