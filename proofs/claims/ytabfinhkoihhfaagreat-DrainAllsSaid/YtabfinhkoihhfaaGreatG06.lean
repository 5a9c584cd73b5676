/- Words of other seats' texts, as they are used here: Rtouch2. -/
import Derived.Test.YtabfinhkoihhfaaGreatG05
namespace Go.Proofs.YtabfinhkoihhfaaGreat.Abs
open Go Go.RowKit Fn
set_option linter.unusedVariables false
set_option linter.unusedSimpArgs false
set_option linter.unnecessarySimpa false
set_option maxRecDepth 100000
set_option maxHeartbeats 4000000

theorem ap59 : ap 59 = some f59 := rfl
theorem p59 : f59.pure = false := rfl
theorem n59 : f59.nat = none := rfl
def rowN (R : List (List Way)) (j : Nat) : List Way := (R[j]?).getD []
def CopyAt (g : Mem) (v : T) (R : List (List Way)) (lo hi n : Nat) : Prop :=
  (n = 0 ∧ v = .imm true 0 []) ∨ (0 < n ∧ ∃ (A : Nat) (els : List T) (bf : Nat → Nat), v = .own A 0 n 1 ∧ g A = some els ∧ els.length = n ∧ allLeaf els = true ∧ A < hi ∧ ∀ j, j < n → els[j]? = some (.own (bf j) 0 (rowN R j).length 19) ∧ g (bf j) = some ((rowN R j).flatMap Way.enc) ∧ lo ≤ bf j ∧ bf j < A ∧ ∀ k, j < k → k < n → bf j < bf k)
theorem CopyAt.mono {g g' : Mem} {v : T} {R : List (List Way)} {lo hi hi' n : Nat} (h : CopyAt g v R lo hi n) (hh : hi ≤ hi') (hg : ∀ t, lo ≤ t → t < hi → g' t = g t) : CopyAt g' v R lo hi' n := by
  rcases h with h | ⟨h0, A, els, bf, h1, h2, h3, h4, h5, h6⟩
  · exact .inl h
  · have hA : lo ≤ A := by obtain ⟨_, _, a, b, _⟩ := h6 0 h0; omega
    refine .inr ⟨h0, A, els, bf, h1, by rw [hg A hA h5]; exact h2, h3, h4, by omega, fun j hj => ?_⟩
    obtain ⟨a, b, c, d, e⟩ := h6 j hj
    exact ⟨a, by rw [hg _ c (by omega)]; exact b, c, d, e⟩
theorem CopyAt.snoc {g g' : Mem} {v : T} {R : List (List Way)} {lo hi hi' n b A : Nat} {els : List T} (h : CopyAt g v R lo hi n) (hv : n = 0 ∧ els = [] ∨ (∃ B, v = .own B 0 n 1 ∧ g B = some els)) (hlo : lo ≤ hi) (hb : hi ≤ b) (hbA : b < A) (hA : A < hi') (hg : ∀ t, lo ≤ t → t < hi → (∀ k, v ≠ .own t 0 k 1) → g' t = g t) (hgb : g' b = some ((rowN R n).flatMap Way.enc)) (hgA : g' A = some (els ++ [.own b 0 (rowN R n).length 19])) : CopyAt g' (.own A 0 (n + 1) 1) R lo hi' (n + 1) := by
  rcases h with ⟨h0, h1⟩ | ⟨h0, B, els', bf, h1, h2, h3, h4, h5, h6⟩
  · subst h0
    have he : els = [] := by
      rcases hv with ⟨_, h⟩ | ⟨B, h, _⟩
      · exact h
      · rw [h1] at h; cases h
    subst he
    refine .inr ⟨by omega, A, _, fun _ => b, rfl, hgA, rfl, rfl, hA, fun j hj => ?_⟩
    obtain rfl : j = 0 := by omega
    exact ⟨rfl, hgb, by show lo ≤ b; omega, hbA, fun k h1 h2 => by omega⟩
  · have he : els = els' := by
      rcases hv with ⟨h, _⟩ | ⟨B', h, h'⟩
      · omega
      · rw [h1] at h; injection h with e1; subst e1
        rw [h2] at h'; exact (Option.some.inj h').symm
    subst he
    refine .inr ⟨by omega, A, _, fun j => if j = n then b else bf j, rfl, hgA, by rw [List.length_append, h3]; rfl, leaf_append h4 leaf_own, hA, fun j hj => ?_⟩
    by_cases hjn : j = n
    · subst hjn
      simp only [if_true]
      refine ⟨by rw [List.getElem?_append_right (by omega), h3, Nat.sub_self]; rfl, hgb, by omega, hbA, fun k a b => by omega⟩
    · simp only [if_neg hjn]
      obtain ⟨a, b', c, d, e⟩ := h6 j (by omega)
      refine ⟨by rw [List.getElem?_append_left (by omega)]; exact a, ?_, c, by omega, fun k hk1 hk2 => ?_⟩
      · rw [hg _ c (by omega) (fun k he => by rw [h1] at he; injection he with e1; omega)]; exact b'
      · by_cases hkn : k = n
        · rw [if_pos hkn]; omega
        · rw [if_neg hkn]; exact e k hk1 (by omega)
def copyLoop : ACode := match f59.body with | .seq _ (.seq _ (.seq (.seq _ (.block _ (.loop c))) _)) => c | _ => .skip
def copyReg : ACode := match copyLoop with | .seq _ (.seq (.block _ c) _) => c | _ => .skip
theorem copy_row (fx : Bool) (R : List (List Way)) (xs : List T) (hx : Tells xs R) (hR : R.length ≤ 1000) (hw : ∀ l ∈ R, l.length ≤ 1000 ∧ ∀ w ∈ l, w.wf) (p q lo i : Nat) (v : T) (hi : i < R.length) (st : St) (hl : st.s.length = 25) (h1 : rho st.s (.tmp 1) = .ptr p 0) (h3 : rho st.s (.tmp 3) = .ptr q 0) (h4 : rho st.s (.tmp 4) = .int .i64 (i : Int)) (gp : st.g p = some [.imm fx R.length xs]) (gq : st.g q = some [v]) (hp : p < lo) (hq : q < lo) (hC : CopyAt st.g v R lo st.nx i) (hlo : lo ≤ st.nx) (Q : AExit → St → Prop)
    (hQ : ∀ st' v', st'.s.length = 25 → rho st'.s (.tmp 1) = .ptr p 0 → rho st'.s (.tmp 2) = rho st.s (.tmp 2) → rho st'.s (.tmp 3) = .ptr q 0 → rho st'.s (.tmp 4) = .int .i64 (i : Int) → st'.g q = some [v'] → CopyAt st'.g v' R lo st'.nx (i + 1) → (∀ t, t < lo → t ≠ q → st'.g t = st.g t) → lo ≤ st'.nx → Q .normal st') : W ap copyReg st Q := by
  obtain ⟨f, hxi⟩ := hx.2 i hi
  obtain ⟨hrl, hrw⟩ := hw _ (List.getElem_mem hi)
  have hxl := hx.1
  have hb : i * 1 + 1 ≤ R.length := by omega
  have hrn : rowN R i = R[i] := by unfold rowN; rw [List.getElem?_eq_getElem hi]; rfl
  have hcl : (R[i].flatMap Way.enc).length = R[i].length * 19 := flat_lenM (f := Way.enc) _ (fun w h => way_len (hrw w h))
  have hcf : allLeaf (R[i].flatMap Way.enc) = true := leaf_ints _ (fun x hx => by
    rw [List.mem_flatMap] at hx
    obtain ⟨w, _, hw⟩ := hx
    exact way_ints w x hw)
  obtain ⟨s, g, nx⟩ := st
  simp only at hl h1 h3 h4 gp gq hC hlo hQ
  have hpq : (q = p) = False := by
    refine eq_false (fun e => ?_)
    subst e
    rw [gq] at gp
    injection gp with e1; injection e1 with e2; subst e2
    rcases hC with ⟨_, e⟩ | ⟨_, A, els, bf, e, _⟩
    · injection e with a b c
      omega
    · cases e
  have hnn : (nx = nx) = True := by simp
  have hc1 : ∀ x y : Nat, cut [T.own x 0 y 19] 0 1 = [T.own x 0 y 19] := fun _ _ => rfl
  have hc0 : cut ([] : List T) 0 0 = [] := rfl
  have hle : allLeaf ([] : List T) = true := rfl
  have hw0' : ∀ m : Nat, (0 + m) = m := fun m => Nat.zero_add m
  by_cases hz : R[i].length = 0
  · have hce : R[i].flatMap Way.enc = [] := by rw [List.length_eq_zero_iff.mp hz]; rfl
    rw [hce, hz] at hxi
    rcases hC with hC0 | hC1
    · obtain ⟨hn0, hv⟩ := id hC0
      have hC : CopyAt g v R lo nx i := .inl hC0
      subst hn0
      subst hv
      refine W_region (fun k => by simp +decide (disch := first | omega | simp +decide [hl]) only [s9, simprocAttr, cellsOf, h1, h3, h4, gp, gq, hxl, hi, hb, hxi, hc1, hc0, hle, List.all]; rfl) ?_
      refine hQ _ (.own (nx + 10) 0 (0 + 1) 1) (by simp +decide (disch := first | omega | simp +decide [hl]) only [s8, simprocAttr, hl]) (by simp +decide (disch := first | omega | simp +decide [hl]) only [s8, simprocAttr, h1]) (by simp +decide (disch := first | omega | simp +decide [hl]) only [s8, simprocAttr]) (by simp +decide (disch := first | omega | simp +decide [hl]) only [s8, simprocAttr, h3]) (by simp +decide (disch := first | omega | simp +decide [hl]) only [s8, simprocAttr, h4]) (by simp +decide (disch := first | omega | simp +decide [hl]) only [s9, simprocAttr] <;> rfl) ?_ ?_ ?_
      · refine CopyAt.snoc (g := g) (b := nx + 2) (A := nx + 10) (els := []) (hi := nx) hC (.inl ⟨rfl, rfl⟩) hlo (by omega) (by omega) (by show nx + 10 < nx + 13; omega) (fun t ht1 ht2 hne => ?_) ?_ ?_
        · simp +decide (disch := first | omega | simp +decide [hl]) only [s9, simprocAttr]
        · rw [hrn, hce]
          simp +decide (disch := first | omega | simp +decide [hl]) only [s9, simprocAttr] <;> rfl
        · rw [hrn, hz]
          simp +decide (disch := first | omega | simp +decide [hl]) only [s9, simprocAttr] <;> rfl
      · intro t ht1 ht2
        simp +decide (disch := first | omega | simp +decide [hl]) only [s9, simprocAttr] <;> rfl
      · show lo ≤ nx + 13; omega
    · obtain ⟨hn0, A, els, bf, hv, gA, hel, helf, hA, hrest⟩ := id hC1
      have hC : CopyAt g v R lo nx i := .inr hC1
      subst hv
      have hAlo : lo < A := by obtain ⟨_, _, a, b, _⟩ := hrest 0 hn0; omega
      have hcA : cut els 0 (i * 1) = els := cut_all (by omega)
      have hr3 : (i + 1) * 24 ≤ 549755813888 := by omega
      have hr4 : i + 1 ≤ 549755813888 := by omega
      have hle1 : i * 1 ≤ i := by omega
      have hAn : (A = nx) = False := by simp; omega
      refine W_region (fun k => by simp +decide (disch := first | omega | simp +decide [hl]) only [s9, simprocAttr, cellsOf, h1, h3, h4, gp, gq, hxl, hi, hb, hxi, hc1, hc0, hle, List.all, gA, hel, hcA, hr3, hr4, hle1, hAn]; rfl) ?_
      refine hQ _ (.own (nx + 10) 0 (i + 1) 1) (by simp +decide (disch := first | omega | simp +decide [hl]) only [s8, simprocAttr, hl]) (by simp +decide (disch := first | omega | simp +decide [hl]) only [s8, simprocAttr, h1]) (by simp +decide (disch := first | omega | simp +decide [hl]) only [s8, simprocAttr]) (by simp +decide (disch := first | omega | simp +decide [hl]) only [s8, simprocAttr, h3]) (by simp +decide (disch := first | omega | simp +decide [hl]) only [s8, simprocAttr, h4]) (by simp +decide (disch := first | omega | simp +decide [hl]) only [s9, simprocAttr] <;> rfl) ?_ ?_ ?_
      · refine CopyAt.snoc (g := g) (b := nx + 2) (A := nx + 10) (els := els) (hi := nx) hC (.inr ⟨A, rfl, gA⟩) hlo (by omega) (by omega) (by show nx + 10 < nx + 13; omega) (fun t ht1 ht2 hne => ?_) ?_ ?_
        · have hnA : A ≠ t := fun e => hne i (by rw [e])
          simp +decide (disch := first | omega | simp +decide [hl]) only [s9, simprocAttr] <;> rfl
        · rw [hrn, hce]
          simp +decide (disch := first | omega | simp +decide [hl]) only [s9, simprocAttr] <;> rfl
        · rw [hrn, hz]
          simp +decide (disch := first | omega | simp +decide [hl]) only [s9, simprocAttr] <;> rfl
      · intro t ht1 ht2
        simp +decide (disch := first | omega | simp +decide [hl]) only [s9, simprocAttr] <;> rfl
      · show lo ≤ nx + 13; omega
  · have hw00 : (R[i].length = 0) = False := eq_false hz
    have hr1 : R[i].length * 40 ≤ 549755813888 := by omega
    have hr2 : R[i].length ≤ 549755813888 := by omega
    have hcw : cut ([] : List T) 0 0 = [] := rfl
    generalize hce : R[i].flatMap Way.enc = ws at *
    rcases hC with hC0 | hC1
    · obtain ⟨hn0, hv⟩ := id hC0
      have hC : CopyAt g v R lo nx i := .inl hC0
      subst hn0
      subst hv
      refine W_region (fun k => by simp +decide (disch := first | omega | simp +decide [hl]) only [s9, simprocAttr, cellsOf, h1, h3, h4, gp, gq, hxl, hi, hb, hxi, hc1, hc0, hle, List.all, hcl, hcf, hw00, hr1, hr2, hcw]; rfl) ?_
      refine hQ _ (.own (nx + 10) 0 (0 + 1) 1) (by simp +decide (disch := first | omega | simp +decide [hl]) only [s8, simprocAttr, hl]) (by simp +decide (disch := first | omega | simp +decide [hl]) only [s8, simprocAttr, h1]) (by simp +decide (disch := first | omega | simp +decide [hl]) only [s8, simprocAttr]) (by simp +decide (disch := first | omega | simp +decide [hl]) only [s8, simprocAttr, h3]) (by simp +decide (disch := first | omega | simp +decide [hl]) only [s8, simprocAttr, h4]) (by simp +decide (disch := first | omega | simp +decide [hl]) only [s9, simprocAttr] <;> rfl) ?_ ?_ ?_
      · refine CopyAt.snoc (g := g) (b := nx + 8) (A := nx + 10) (els := []) (hi := nx) hC (.inl ⟨rfl, rfl⟩) hlo (by omega) (by omega) (by show nx + 10 < nx + 13; omega) (fun t ht1 ht2 hne => ?_) ?_ ?_
        · simp +decide (disch := first | omega | simp +decide [hl]) only [s9, simprocAttr]
        · rw [hrn, hce]
          simp +decide (disch := first | omega | simp +decide [hl]) only [s9, simprocAttr] <;> rfl
        · rw [hrn]
          simp +decide (disch := first | omega | simp +decide [hl]) only [s9, simprocAttr] <;> rfl
      · intro t ht1 ht2
        simp +decide (disch := first | omega | simp +decide [hl]) only [s9, simprocAttr] <;> rfl
      · show lo ≤ nx + 13; omega
    · obtain ⟨hn0, A, els, bf, hv, gA, hel, helf, hA, hrest⟩ := id hC1
      have hC : CopyAt g v R lo nx i := .inr hC1
      subst hv
      have hAlo : lo < A := by obtain ⟨_, _, a, b, _⟩ := hrest 0 hn0; omega
      have hcA : cut els 0 (i * 1) = els := cut_all (by omega)
      have hr3 : (i + 1) * 24 ≤ 549755813888 := by omega
      have hr4 : i + 1 ≤ 549755813888 := by omega
      have hle1 : i * 1 ≤ i := by omega
      have hAn : (A = nx) = False := by simp; omega
      refine W_region (fun k => by simp +decide (disch := first | omega | simp +decide [hl]) only [s9, simprocAttr, cellsOf, h1, h3, h4, gp, gq, hxl, hi, hb, hxi, hc1, hc0, hle, List.all, gA, hel, hcA, hr3, hr4, hle1, hAn, hcl, hcf, hw00, hr1, hr2, hcw]; rfl) ?_
      refine hQ _ (.own (nx + 10) 0 (i + 1) 1) (by simp +decide (disch := first | omega | simp +decide [hl]) only [s8, simprocAttr, hl]) (by simp +decide (disch := first | omega | simp +decide [hl]) only [s8, simprocAttr, h1]) (by simp +decide (disch := first | omega | simp +decide [hl]) only [s8, simprocAttr]) (by simp +decide (disch := first | omega | simp +decide [hl]) only [s8, simprocAttr, h3]) (by simp +decide (disch := first | omega | simp +decide [hl]) only [s8, simprocAttr, h4]) (by simp +decide (disch := first | omega | simp +decide [hl]) only [s9, simprocAttr] <;> rfl) ?_ ?_ ?_
      · refine CopyAt.snoc (g := g) (b := nx + 8) (A := nx + 10) (els := els) (hi := nx) hC (.inr ⟨A, rfl, gA⟩) hlo (by omega) (by omega) (by show nx + 10 < nx + 13; omega) (fun t ht1 ht2 hne => ?_) ?_ ?_
        · have hnA : A ≠ t := fun e => hne i (by rw [e])
          simp +decide (disch := first | omega | simp +decide [hl]) only [s9, simprocAttr] <;> rfl
        · rw [hrn, hce]
          simp +decide (disch := first | omega | simp +decide [hl]) only [s9, simprocAttr] <;> rfl
        · rw [hrn]
          simp +decide (disch := first | omega | simp +decide [hl]) only [s9, simprocAttr] <;> rfl
      · intro t ht1 ht2
        simp +decide (disch := first | omega | simp +decide [hl]) only [s9, simprocAttr] <;> rfl
      · show lo ≤ nx + 13; omega
theorem EI_bodyV {AP : AProg} {F : AFun} {args : List T} {g : Mem} {nx : Nat} {P : T → Mem → Nat → Prop} (h : W AP F.body ⟨args ++ List.replicate (F.ntmps - args.length) .undef, g, nx⟩ (fun e st => e.leaves = true ∧ ∃ v, resT st.s st.g F.res = some v ∧ P v st.g st.nx)) : ∃ N v g' nx', (∀ k, N ≤ k → runBody (ev AP k) F args g nx = some (v, g', nx')) ∧ P v g' nx' := by
  obtain ⟨N, e, st, h1, h2, v, h3, h4⟩ := h
  refine ⟨N, v, st.g, st.nx, fun k hk => ?_, h4⟩
  have := ev_add AP N (k - N) _ _ _ h1
  rw [Nat.add_sub_cancel' hk] at this
  unfold runBody
  rw [this]
  simp only [h2, if_true, h3]
theorem CopyAt.low {g : Mem} {v : T} {R : List (List Way)} {lo lo' hi n : Nat} (h : CopyAt g v R lo hi n) (hh : lo' ≤ lo) : CopyAt g v R lo' hi n := by
  rcases h with h | ⟨h0, A, els, bf, h1, h2, h3, h4, h5, h6⟩
  · exact .inl h
  · refine .inr ⟨h0, A, els, bf, h1, h2, h3, h4, h5, fun j hj => ?_⟩
    obtain ⟨a, b, c, d, e⟩ := h6 j hj
    exact ⟨a, b, by omega, d, e⟩
theorem copy_loop (fx : Bool) (R : List (List Way)) (xs : List T) (hx : Tells xs R) (hR : R.length ≤ 1000) (hw : ∀ l ∈ R, l.length ≤ 1000 ∧ ∀ w ∈ l, w.wf) (p q lo : Nat) (g0 : Mem) (v2 : T) (hp : p < lo) (hq : q < lo) (hpq : p ≠ q) (Q : AExit → St → Prop)
    (hQ : ∀ st v, st.s.length = 25 → rho st.s (.tmp 2) = v2 → rho st.s (.tmp 3) = .ptr q 0 → st.g q = some [v] → CopyAt st.g v R lo st.nx R.length → (∀ t, t < lo → t ≠ q → st.g t = g0 t) → lo ≤ st.nx → Q (.exit 0) st) :
    ∀ (m : Nat) (st : St), (∃ (i : Nat) (v : T), st.s.length = 25 ∧ rho st.s (.tmp 1) = .ptr p 0 ∧ rho st.s (.tmp 2) = v2 ∧ rho st.s (.tmp 3) = .ptr q 0 ∧ rho st.s (.tmp 4) = .int .i64 (i : Int) ∧ st.g p = some [.imm fx R.length xs] ∧ st.g q = some [v] ∧ CopyAt st.g v R lo st.nx i ∧ (∀ t, t < lo → t ≠ q → st.g t = g0 t) ∧ lo ≤ st.nx ∧ i ≤ R.length ∧ m = R.length - i) → W ap (.loop copyLoop) st Q := by
  refine W_loop _ ?_
  rintro m st ⟨i, v, hl, h1, h2, h3, h4, gp, gq, hC, hg, hlo, hi, hm⟩
  by_cases hend : i = R.length
  · have hlt : decide ((i : Int) < (R.length : Int)) = false := decide_eq_false (by omega)
    refine W_seq (W_seqn (W_region (fun k => by simp +decide (disch := first | omega | simp +decide [hl]) only [s9, simprocAttr, h1, h4, gp, hlt]; rfl) ⟨rfl, W_fls (W_exit (.inr ⟨by simp, .inr ⟨by simp, hQ _ v ?_ ?_ ?_ ?_ ?_ ?_ ?_⟩⟩))⟩))
    · simp +decide (disch := first | omega | simp +decide [hl]) only [s8, simprocAttr, hl]
    · simp +decide (disch := first | omega | simp +decide [hl]) only [s8, simprocAttr, h2]
    · simp +decide (disch := first | omega | simp +decide [hl]) only [s8, simprocAttr, h3]
    · exact gq
    · rw [hend] at hC
      exact hC.mono (by show st.nx ≤ st.nx + 5; omega) (fun t _ _ => rfl)
    · exact hg
    · show lo ≤ st.nx + 5; omega
  · have hlt : decide ((i : Int) < (R.length : Int)) = true := decide_eq_true (by omega)
    have hw2 : IntKind.i64.wrap ((i : Int) + 1) = ((i + 1 : Nat) : Int) := by rw [wrap_id (by omega)]; omega
    refine W_seqn (W_seqn (W_region (fun k => by simp +decide (disch := first | omega | simp +decide [hl]) only [s9, simprocAttr, h1, h4, gp, hlt]; rfl) ⟨rfl, W_tru (W_skip ⟨rfl, ?_⟩)⟩))
    refine W_seqn (W_block ?_)
    refine copy_row fx R xs hx hR hw p q lo i v (by omega) _ ?_ ?_ ?_ ?_ ?_ ?_ hp hq ?_ ?_ _ ?_
    · simp +decide (disch := first | omega | simp +decide [hl]) only [s8, simprocAttr, hl]
    · simp +decide (disch := first | omega | simp +decide [hl]) only [s8, simprocAttr, h1]
    · simp +decide (disch := first | omega | simp +decide [hl]) only [s8, simprocAttr, h3]
    · simp +decide (disch := first | omega | simp +decide [hl]) only [s8, simprocAttr, h4]
    · exact gp
    · exact gq
    · exact hC.mono (by show st.nx ≤ st.nx + 5; omega) (fun t _ _ => rfl)
    · show lo ≤ st.nx + 5; omega
    · intro st' v' hl' a1 a2 a3 a4 gq' hC' hg' hlo'
      have e2 : rho st'.s (.tmp 2) = v2 := by rw [a2]; simp +decide (disch := first | omega | simp +decide [hl]) only [s8, simprocAttr, h2]
      refine .inr (.inl ⟨by simp, rfl, ?_⟩)
      clear hl
      have hl := hl'
      refine W_region (fun k => by simp +decide (disch := first | omega | simp +decide [hl]) only [s8, simprocAttr, a4, hw2]; rfl) ?_
      refine (.inl ⟨rfl, R.length - (i + 1), by omega, i + 1, v', ?_, ?_, ?_, ?_, ?_, ?_, gq', hC'.mono (by show st'.nx ≤ st'.nx + 3; omega) (fun t _ _ => rfl), fun t h1 h2 => ?_, by show lo ≤ st'.nx + 3; omega, by omega, rfl⟩)
      · simp +decide (disch := first | omega | simp +decide [hl]) only [s8, simprocAttr, hl]
      · simp +decide (disch := first | omega | simp +decide [hl]) only [s8, simprocAttr, a1]
      · simp +decide (disch := first | omega | simp +decide [hl]) only [s8, simprocAttr, e2]
      · simp +decide (disch := first | omega | simp +decide [hl]) only [s8, simprocAttr, a3]
      · simp +decide (disch := first | omega | simp +decide [hl]) only [s8, simprocAttr]
      · rw [← gp]; exact hg' p hp hpq
      · rw [← hg t h1 h2]; exact hg' t h1 h2
theorem copied_run (fx : Bool) (R : List (List Way)) (xs : List T) (hx : Tells xs R) (hR : R.length ≤ 1000) (hw : ∀ l ∈ R, l.length ≤ 1000 ∧ ∀ w ∈ l, w.wf) (g : Mem) (nx : Nat) :
    ∃ N v g' nx', (∀ k, N ≤ k → runBody (ev ap k) f59 [.agg [.imm fx R.length xs]] g nx = some (v, g', nx')) ∧ ∃ c, v = .agg [c] ∧ CopyAt g' c R nx nx' R.length ∧ (∀ t, t < nx → g' t = g t) ∧ nx ≤ nx' := by
  refine EI_bodyV (P := fun v g' nx' => ∃ c, v = .agg [c] ∧ CopyAt g' c R nx nx' R.length ∧ (∀ t, t < nx → g' t = g t) ∧ nx ≤ nx') ?_
  generalize hs0 : (_ : List T) ++ List.replicate _ T.undef = s0
  have e0 : s0.length = 25 ∧ rho s0 (.tmp 0) = .agg [.imm fx R.length xs] := by subst hs0; exact ⟨rfl, rfl⟩
  clear hs0
  obtain ⟨hl, h0⟩ := e0
  have hleaf : allLeaf [T.imm fx R.length xs] = true := rfl
  refine W_seqn (W_region (fun k => by simp +decide (disch := first | omega | simp +decide [hl]) only [s9, simprocAttr, h0, hleaf]; rfl) ⟨rfl, ?_⟩)
  refine W_seqn (W_region (fun k => by simp +decide (disch := first | omega | simp +decide [hl]) only [s9, simprocAttr]; rfl) ⟨rfl, ?_⟩)
  refine W_seq (W_seqn (W_region (fun k => by simp +decide (disch := first | omega | simp +decide [hl]) only [s9, simprocAttr]; rfl) ⟨rfl, W_block ?_⟩))
  refine copy_loop fx R xs hx hR hw nx (nx + 2) (nx + 3) (put1 (put1 (put1 g (nx, some [.imm fx R.length xs])) (nx + 1, some [.imm true 0 []])) (nx + 2, some [.imm true 0 []])) (.ptr (nx + 1) 0) (by omega) (by omega) (by omega) _ (fun st v hl h2 h3 gq hC hg hlo => ?_) (R.length - 0) _ ⟨0, .imm true 0 [], ?_, ?_, ?_, ?_, ?_, ?_, ?_, .inl ⟨rfl, rfl⟩, fun t _ _ => ?_, by show nx + 3 ≤ nx + 2 + 1 + 1; omega, by omega, rfl⟩
  · have g1 : st.g (nx + 1) = some [.imm true 0 []] := by rw [hg _ (by omega) (by omega)]; simp +decide (disch := first | omega | simp +decide [hl]) only [s9, simprocAttr]
    have hc1 : cut [v] 0 1 = [v] := rfl
    have hvl : allLeaf [v] = true := by
      rcases hC with ⟨_, e⟩ | ⟨_, A, _, _, e, _⟩ <;> (subst e; rfl)
    refine .inl ⟨rfl, .inl ⟨rfl, ?_⟩⟩
    refine W_seqn (W_region (fun k => by simp +decide (disch := first | omega | simp +decide [hl]) only [s9, simprocAttr, h2, h3, gq, g1, hc1, hvl]; rfl) ⟨rfl, W_ret ?_⟩)
    refine ⟨rfl, .agg [v], ?_, v, rfl, (hC.mono (g' := put1 st.g (nx + 1, some [v])) (by show st.nx ≤ st.nx + 2; omega) (fun t ht1 ht2 => put1_ne (by omega))).low (by omega), fun t ht => ?_, by show nx ≤ st.nx + 2; omega⟩
    · simp only [resT, resL, resOne, show f59.res = [.cell 2 false 1] from rfl]
      simp +decide (disch := first | omega | simp +decide [hl]) only [s9, simprocAttr, h2] <;> rfl
    · simp +decide (disch := first | omega | simp +decide [hl]) only [s9, simprocAttr]
      rw [hg _ (by omega) (by omega)]
      simp +decide (disch := first | omega | simp +decide [hl]) only [s9, simprocAttr]
  all_goals first | (simp +decide (disch := first | omega | simp +decide [hl]) only [s9, simprocAttr, hl]; done) | (simp +decide (disch := first | omega | simp +decide [hl]) only [s9, simprocAttr, hl] <;> rfl)
theorem ap86 : ap 86 = some f86 := rfl
theorem p86 : f86.pure = true := rfl
theorem n86 : f86.nat = none := rfl
theorem is_bad (fx : Bool) (R : List (List Way)) (xs : List T) (hx : Tells xs R) (a b : Int) (h : Bad R a b) : E ap 86 [.agg [.imm fx R.length xs], .int .i64 a, .int .i64 b] (.bool false) := by
  refine E_body (F := f86) rfl rfl rfl ?_
  generalize hs0 : (_ : List T) ++ List.replicate _ T.undef = s0
  have e0 : s0.length = 30 ∧ rho s0 (.tmp 0) = .agg [.imm fx R.length xs] ∧ rho s0 (.tmp 1) = .int .i64 a ∧ rho s0 (.tmp 2) = .int .i64 b := by subst hs0; exact ⟨rfl, rfl, rfl, rfl⟩
  clear hs0
  obtain ⟨hl, h0, h1, h2⟩ := e0
  have hxl := hx.1
  refine W_seqn (W_region (fun k => by simp +decide (disch := first | omega | simp +decide [hl]) only [s9, simprocAttr, h0]; rfl) ⟨rfl, ?_⟩)
  rcases bad_cases h with hb | ⟨ha, hb⟩ | ⟨i, rfl, hi, hb⟩ | ⟨i, hi, rfl, hb0, hb⟩
  · have d1 : decide (a ≥ 0) = false := decide_eq_false (by omega)
    refine W_seqn (W_region (fun k => by simp +decide (disch := first | omega | simp +decide [hl]) only [s9, simprocAttr, h1, h2, d1]; rfl) ⟨rfl, W_ret ?_⟩)
    refine fin_of (F := f86) rfl (fun _ => rfl) ?_
    simp +decide (disch := first | omega | simp +decide [hl]) only [s9, simprocAttr]
  · have d1 : decide (a ≥ 0) = true := decide_eq_true ha
    have d2 : decide (a < (R.length : Int)) = false := decide_eq_false (by omega)
    refine W_seqn (W_region (fun k => by simp +decide (disch := first | omega | simp +decide [hl]) only [s9, simprocAttr, h1, h2, d1, d2]; rfl) ⟨rfl, W_ret ?_⟩)
    refine fin_of (F := f86) rfl (fun _ => rfl) ?_
    simp +decide (disch := first | omega | simp +decide [hl]) only [s9, simprocAttr]
  · have d1 : decide ((i : Int) ≥ 0) = true := decide_eq_true (by omega)
    have d2 : decide ((i : Int) < (R.length : Int)) = true := decide_eq_true (by omega)
    have d3 : decide (b ≥ 0) = false := decide_eq_false (by omega)
    refine W_seqn (W_region (fun k => by simp +decide (disch := first | omega | simp +decide [hl]) only [s9, simprocAttr, h1, h2, d1, d2, d3]; rfl) ⟨rfl, W_ret ?_⟩)
    refine fin_of (F := f86) rfl (fun _ => rfl) ?_
    simp +decide (disch := first | omega | simp +decide [hl]) only [s9, simprocAttr]
  · have d1 : decide ((i : Int) ≥ 0) = true := decide_eq_true (by omega)
    have d2 : decide ((i : Int) < (R.length : Int)) = true := decide_eq_true (by omega)
    have d3 : decide (b ≥ 0) = true := decide_eq_true (by omega)
    have d4 : decide (b < (R[i].length : Int)) = false := decide_eq_false (by omega)
    obtain ⟨f, hxi⟩ := hx.2 i hi
    have hbb : i * 1 + 1 ≤ R.length := by omega
    refine W_seqn (W_region (fun k => by simp +decide (disch := first | omega | simp +decide [hl]) only [s9, simprocAttr, h1, h2, d1, d2, d3, d4, hxl, hi, hbb, hxi]; rfl) ⟨rfl, W_ret ?_⟩)
    refine fin_of (F := f86) rfl (fun _ => rfl) ?_
    simp +decide (disch := first | omega | simp +decide [hl]) only [s9, simprocAttr]
theorem is_ok (fx : Bool) (R : List (List Way)) (xs : List T) (hx : Tells xs R) (i w : Nat) (hi : i < R.length) (hwl : w < R[i].length) : E ap 86 [.agg [.imm fx R.length xs], .int .i64 (i : Int), .int .i64 (w : Int)] (.bool true) := by
  refine E_body (F := f86) rfl rfl rfl ?_
  generalize hs0 : (_ : List T) ++ List.replicate _ T.undef = s0
  have e0 : s0.length = 30 ∧ rho s0 (.tmp 0) = .agg [.imm fx R.length xs] ∧ rho s0 (.tmp 1) = .int .i64 (i : Int) ∧ rho s0 (.tmp 2) = .int .i64 (w : Int) := by subst hs0; exact ⟨rfl, rfl, rfl, rfl⟩
  clear hs0
  obtain ⟨hl, h0, h1, h2⟩ := e0
  have hxl := hx.1
  have d1 : decide ((i : Int) ≥ 0) = true := decide_eq_true (by omega)
  have d2 : decide ((i : Int) < (R.length : Int)) = true := decide_eq_true (by omega)
  have d3 : decide ((w : Int) ≥ 0) = true := decide_eq_true (by omega)
  have d4 : decide ((w : Int) < (R[i].length : Int)) = true := decide_eq_true (by omega)
  obtain ⟨f, hxi⟩ := hx.2 i hi
  have hbb : i * 1 + 1 ≤ R.length := by omega
  refine W_seqn (W_region (fun k => by simp +decide (disch := first | omega | simp +decide [hl]) only [s9, simprocAttr, h0]; rfl) ⟨rfl, ?_⟩)
  refine W_seqn (W_region (fun k => by simp +decide (disch := first | omega | simp +decide [hl]) only [s9, simprocAttr, h1, h2, d1, d2, d3, d4, hxl, hi, hbb, hxi]; rfl) ⟨rfl, W_ret ?_⟩)
  refine fin_of (F := f86) rfl (fun _ => rfl) ?_
  simp +decide (disch := first | omega | simp +decide [hl]) only [s9, simprocAttr]
def RowsAt (g : Mem) (els : List T) (L : List (List Way)) : Prop := els.length = L.length ∧ ∀ j (h : j < L.length), ∃ b, els[j]? = some (.own b 0 L[j].length 19) ∧ g b = some (L[j].flatMap Way.enc)
def rowsT (L : List (List Way)) : List T := L.map fun l => .imm false l.length (l.flatMap Way.enc)
theorem tells_rows (L : List (List Way)) : Tells (rowsT L) L := by
  refine ⟨by unfold rowsT; rw [List.length_map], fun i h => ⟨false, ?_⟩⟩
  unfold rowsT
  rw [Nat.mul_one, List.getElem?_map, List.getElem?_eq_getElem h]; rfl
theorem frz_copied {g : Mem} {nx d A : Nat} {els : List T} {L : List (List Way)} (hL : ∀ l ∈ L, ∀ w ∈ l, w.wf) (hA : g A = some els) (hr : RowsAt g els L) : ∃ ids, frz ⟨g, nx⟩ (d + 4) (.agg [.own A 0 L.length 1]) = some (.agg [.imm false L.length (rowsT L)], ids) := by
  refine frz_agg1 (frz_own (h := ⟨g, nx⟩) hA (by rw [hr.1]; omega) (frzAll_pt _ _ (by rw [hr.1]; unfold rowsT; rw [List.length_map]) (fun j hj hj' => ?_)))
  have hj2 : j < L.length := by rw [← hr.1]; exact hj
  obtain ⟨b, h1, h2⟩ := hr.2 j hj2
  rw [List.getElem?_eq_getElem hj] at h1
  rw [Option.some.inj h1]
  have e : (rowsT L)[j] = .imm false L[j].length (L[j].flatMap Way.enc) := by simp [rowsT]
  rw [e]
  exact frz_own h2 (enc_len _ (hL _ (List.getElem_mem hj2))) ⟨[], frzAll_int _ (enc_ints _)⟩
def rtLoop : ACode := match f60.body with | .seq _ (.seq _ (.seq _ (.seq (.seq _ (.block _ (.loop c))) _))) => c | _ => .skip
theorem rt_loop (fx : Bool) (n i w A B : Nat) (a : Int) (xs els : List T) (hxl : xs.length = n) (hel : els.length = n) (hi : i < n) (f : Bool) (l : List Way) (hw : ∀ x ∈ l, x.wf) (hll : l.length ≤ 1000) (hwl : w < l.length) (haw : a = (wayN l w).age) (hxi : xs[i * 1]? = some (.imm f l.length (l.flatMap Way.enc))) (hei : els[i * 1]? = some (.own B 0 l.length 19)) (g1 : Mem) (g10 : g1 0 = some [.imm fx n xs]) (g14 : g1 4 = some [.own A 0 n 1]) (g1A : g1 A = some els) (hB0 : 6 ≤ B) (hAB : B < A) (Q : AExit → St → Prop)
    (hQe : ∀ st : St, st.s.length = 73 → rho st.s (.tmp 1) = .int .i64 (i : Int) → rho st.s (.tmp 2) = .int .i64 (w : Int) → rho st.s (.tmp 6) = .ptr 1 0 → rho st.s (.tmp 7) = .ptr 4 0 → (∀ t, t ≠ B → st.g t = g1 t) → st.g B = some ((bumpK a l.length l).flatMap Way.enc) → Q (.exit 0) st) :
    ∀ (m : Nat) (st : St), (∃ k : Nat, st.s.length = 73 ∧ rho st.s (.tmp 1) = .int .i64 (i : Int) ∧ rho st.s (.tmp 2) = .int .i64 (w : Int) ∧ rho st.s (.tmp 3) = .ptr 0 0 ∧ rho st.s (.tmp 6) = .ptr 1 0 ∧ rho st.s (.tmp 7) = .ptr 4 0 ∧ (∀ t, t ≠ B → st.g t = g1 t) ∧ st.g B = some ((bumpK a k l).flatMap Way.enc) ∧ rho st.s (.tmp 8) = .int .i64 (k : Int) ∧ k ≤ l.length ∧ m = l.length - k) → W ap (.loop rtLoop) st Q := by
  refine W_loop _ ?_
  rintro m st ⟨k, hl, h1, h2, h3, h6, h7, hg, gB, h8, hk, hm⟩
  have hb : i * 1 + 1 ≤ n := by omega
  have g0 := hg 0 (by omega)
  have g4 := hg 4 (by omega)
  have gA := hg A (by omega)
  rw [g10] at g0
  rw [g14] at g4
  rw [g1A] at gA
  by_cases hend : k = l.length
  · have hlt : decide ((k : Int) < (l.length : Int)) = false := decide_eq_false (by omega)
    refine W_seq (W_seqn (W_region (fun k => by simp +decide (disch := first | omega | simp +decide [hl]) only [s8, simprocAttr, h7, h1, h8, g4, gA, hel, hi, hb, hei, hlt]; rfl) ⟨rfl, W_fls (W_exit ?_)⟩))
    refine (.inr ⟨by simp, .inr ⟨by simp, hQe _ ?_ ?_ ?_ ?_ ?_ hg (by rw [← hend]; exact gB)⟩⟩)
    all_goals simp +decide (disch := first | omega | simp +decide [hl]) only [s8, simprocAttr, hl, h1, h2, h6, h7]
  · have hlt : decide ((k : Int) < (l.length : Int)) = true := decide_eq_true (by omega)
    have hkl : k < l.length := by omega
    have hw2 : IntKind.i64.wrap ((k : Int) + 1) = ((k + 1 : Nat) : Int) := by rw [wrap_id (by omega)]; omega
    have hww := wf_i64 (wayN_wf hw hwl).2.2.2
    have ha : a ≤ 9223372036854775807 := by rw [haw]; exact hww.2
    have hbw := mem_bump (k := k) hw ha
    have hbl := bump_len a k l
    have hcl := enc_len _ hbw
    have hset := set_age _ hbw k (by omega)
    have hsucc := bump_succ a k l hkl
    have hagk := age_at l hw k hkl
    have hagw := age_at l hw w hwl
    rw [← haw] at hagw
    have hcl0 := enc_len l hw
    rw [hbl] at hcl
    have hb2 : k * 19 + 18 + 1 ≤ l.length * 19 := by omega
    have hb4 : k * 19 + 19 ≤ l.length * 19 := by omega
    have hb5 : w * 19 + 19 ≤ l.length * 19 := by omega
    have hb3 : w * 19 + 18 + 1 ≤ l.length * 19 := by omega
    have hwk := wf_i64 (wayN_wf hw hkl).2.2.2
    have hagb := age_at _ hbw k (by omega)
    rw [bump_get a k l hkl] at hset hagb
    generalize hx : wayN l k = x at *
    generalize hws : (bumpK a k l).flatMap Way.enc = ws at *
    generalize l.flatMap Way.enc = ls at *
    refine W_seqn (W_seqn (W_region (fun k => by simp +decide (disch := first | omega | simp +decide [hl]) only [s8, simprocAttr, h7, h1, h8, g4, gA, hel, hi, hb, hei, hlt]; rfl) ⟨rfl, W_tru (W_skip ⟨rfl, ?_⟩)⟩))
    by_cases hlt2 : x.age < a
    · have hd : decide (x.age < a) = true := decide_eq_true hlt2
      have hw3 : IntKind.i64.wrap (x.age + 1) = x.age + 1 := wrap_id (by omega)
      have hup : up a x = aged x (x.age + 1) := by unfold up; rw [if_pos hlt2]
      refine W_seqn (W_block (W_seqn (W_region (fun k => by simp +decide (disch := first | omega | simp +decide [hl]) only [s8, simprocAttr, h3, h1, h2, h8, g0, hxl, hi, hb, hxi, hkl, hwl, hcl0, hb2, hb3, hb4, hb5, hagk, hagw, hd]; rfl) ⟨rfl, W_tru ?_⟩)))
      refine W_region (fun k => by simp +decide (disch := first | omega | simp +decide [hl]) only [s9, simprocAttr, h3, h7, h1, h2, h8, g0, g4, gA, gB, hel, hei, hxl, hi, hb, hxi, hkl, hwl, hcl0, hcl, hb2, hb4, hagk, hw3]; rfl) (.inr (.inl ⟨by simp, rfl, ?_⟩))
      refine W_region (fun k => by simp +decide (disch := first | omega | simp +decide [hl]) only [s8, simprocAttr, h8, hw2]; rfl) ?_
      refine (.inl ⟨rfl, l.length - (k + 1), by omega, k + 1, ?_, ?_, ?_, ?_, ?_, ?_, ?_, ?_, ?_, by omega, rfl⟩)
      rotate_left 6
      · intro t ht
        rw [← hg t ht]
        simp +decide (disch := first | omega | simp +decide [hl]) only [s9, simprocAttr]
      · rw [hsucc, hup, hset]
        simp +decide (disch := first | omega | simp +decide [hl]) only [s9, simprocAttr]
      all_goals simp +decide (disch := first | omega | simp +decide [hl]) only [s8, simprocAttr, hl, h1, h2, h3, h6, h7, h8]
    · have hd : decide (x.age < a) = false := decide_eq_false hlt2
      have hup : up a x = aged x x.age := by unfold up; rw [if_neg hlt2]; rfl
      have hsame : ws.set (k * 19 + 18) (.int .i64 x.age) = ws := by
        apply List.ext_getElem?
        intro j
        rw [List.getElem?_set]
        by_cases hj : k * 19 + 18 = j
        · subst hj; rw [if_pos rfl, if_pos (by omega), hagb]
        · rw [if_neg hj]
      refine W_seqn (W_block (W_seqn (W_region (fun k => by simp +decide (disch := first | omega | simp +decide [hl]) only [s8, simprocAttr, h3, h1, h2, h8, g0, hxl, hi, hb, hxi, hkl, hwl, hcl0, hb2, hb3, hb4, hb5, hagk, hagw, hd]; rfl) ⟨rfl, W_fls (W_skip (.inr (.inl ⟨by simp, rfl, ?_⟩)))⟩)))
      refine W_region (fun k => by simp +decide (disch := first | omega | simp +decide [hl]) only [s8, simprocAttr, h8, hw2]; rfl) ?_
      refine (.inl ⟨rfl, l.length - (k + 1), by omega, k + 1, ?_, ?_, ?_, ?_, ?_, ?_, hg, ?_, ?_, by omega, rfl⟩)
      rotate_left 6
      · rw [hsucc, hup, hset, hsame]
        exact gB
      all_goals simp +decide (disch := first | omega | simp +decide [hl]) only [s8, simprocAttr, hl, h1, h2, h3, h6, h7, h8]
theorem rows_copy {g : Mem} {v : T} {R : List (List Way)} {lo hi : Nat} (h : CopyAt g v R lo hi R.length) (h0 : 0 < R.length) : ∃ A els, v = .own A 0 R.length 1 ∧ g A = some els ∧ lo < A ∧ RowsAt g els R := by
  rcases h with ⟨h, _⟩ | ⟨_, A, els, bf, h1, h2, h3, h4, h5, h6⟩
  · omega
  · refine ⟨A, els, h1, h2, by obtain ⟨_, _, a, b, _⟩ := h6 0 h0; omega, h3, fun j hj => ?_⟩
    obtain ⟨a, b, _⟩ := h6 j hj
    unfold rowN at a b
    rw [List.getElem?_eq_getElem hj, Option.getD_some] at a b
    exact ⟨bf j, a, b⟩
theorem frz_copy {g : Mem} {nx d lo hi : Nat} {v : T} {R : List (List Way)} (hw : ∀ l ∈ R, ∀ w ∈ l, w.wf) (h : CopyAt g v R lo hi R.length) : ∃ f ys ids, frz ⟨g, nx⟩ (d + 4) (.agg [v]) = some (.agg [.imm f R.length ys], ids) ∧ Tells ys R := by
  by_cases h0 : R.length = 0
  · rcases h with ⟨_, rfl⟩ | ⟨h1, _⟩
    · exact ⟨true, [], [], by rw [h0]; rfl, by rw [h0]; rfl, fun i hi => by omega⟩
    · omega
  · obtain ⟨A, els, rfl, h2, _, h3⟩ := rows_copy h (by omega)
    obtain ⟨ids, h4⟩ := frz_copied (nx := nx) (d := d) hw h2 h3
    exact ⟨false, _, ids, h4, tells_rows R⟩
theorem fin_cellV {F : AFun} {t p : Nat} {v w : T} (hF : F.res = [.cell t false 1]) {s : List T} {g : Mem} {nx : Nat} {ids : List Nat} (hv : frz ⟨g, nx⟩ frzDepth (.agg [v]) = some (w, ids)) (hs : rho s (.tmp t) = .ptr p 0) (hg : g p = some [v]) : AExit.ret.leaves = true ∧ ∃ u ids, resT s g F.res = some u ∧ frz ⟨g, nx⟩ frzDepth u = some (w, ids) := by
  refine ⟨rfl, .agg [v], ids, ?_, hv⟩
  rw [hF]
  simp only [resT, resL, resOne, opRes, hs, hg]
  try rfl
theorem E_bodyV {AP : AProg} {f : Nat} {F : AFun} (hF : AP f = some F) (hp : F.pure = true) (hn : F.nat = none) {args : List T} {P : T → Prop} (h : W AP F.body ⟨args ++ List.replicate (F.ntmps - args.length) .undef, fun _ => none, 0⟩ (fun e st => e.leaves = true ∧ ∃ v, P v ∧ ∃ u ids, resT st.s st.g F.res = some u ∧ frz ⟨st.g, st.nx⟩ frzDepth u = some (v, ids))) : ∃ v, E AP f args v ∧ P v := by
  obtain ⟨k, e, st, h1, h2, v, hv, u, ids, h3, h4⟩ := h
  exact ⟨v, E_body hF hp hn ⟨k, e, st, h1, h2, u, ids, h3, h4⟩, hv⟩
def CacheOf (R : List (List Way)) (v : T) : Prop := ∃ f ys, v = .agg [.imm f R.length ys] ∧ Tells ys R
theorem ref_touch (fx : Bool) (R : List (List Way)) (xs : List T) (hx : Tells xs R) (hR : R.length ≤ 1000) (hw : ∀ l ∈ R, l.length ≤ 1000 ∧ ∀ w ∈ l, w.wf) (a b : Int) :
    ∃ v, E ap 60 [.agg [.imm fx R.length xs], .int .i64 a, .int .i64 b] v ∧ CacheOf (touchR R a b) v := by
  refine E_bodyV (F := f60) rfl rfl rfl (P := CacheOf (touchR R a b)) ?_
  generalize hs0 : (_ : List T) ++ List.replicate _ T.undef = s0
  have e0 : s0.length = 73 ∧ rho s0 (.tmp 0) = .agg [.imm fx R.length xs] ∧ rho s0 (.tmp 1) = .int .i64 a ∧ rho s0 (.tmp 2) = .int .i64 b := by subst hs0; exact ⟨rfl, rfl, rfl, rfl⟩
  clear hs0
  obtain ⟨hl, h0, h1, h2⟩ := e0
  have hleaf : allLeaf [T.imm fx R.length xs] = true := rfl
  have hc1 : cut [T.imm fx R.length xs] 0 1 = [T.imm fx R.length xs] := rfl
  have hxl := hx.1
  refine W_seqn (W_region (fun k => by simp +decide (disch := first | omega | simp +decide [hl]) only [s9, simprocAttr, h0, hleaf]; rfl) ⟨rfl, ?_⟩)
  refine W_abs (fun st => st.s.length = 73 ∧ rho st.s (.tmp 1) = .int .i64 a ∧ rho st.s (.tmp 2) = .int .i64 b ∧ rho st.s (.tmp 3) = .ptr 0 0 ∧ rho st.s (.tmp 6) = .ptr 1 0 ∧ st.g 0 = some [.imm fx R.length xs] ∧ st.g 1 = some [.imm true 0 []] ∧ st.nx = 2) ⟨by simp +decide (disch := first | omega | simp +decide [hl]) only [s9, simprocAttr, hl], by simp +decide (disch := first | omega | simp +decide [hl]) only [s9, simprocAttr, h1], by simp +decide (disch := first | omega | simp +decide [hl]) only [s9, simprocAttr, h2], by simp +decide (disch := first | omega | simp +decide [hl]) only [s9, simprocAttr], by simp +decide (disch := first | omega | simp +decide [hl]) only [s9, simprocAttr], by simp +decide (disch := first | omega | simp +decide [hl]) only [s9, simprocAttr], by simp +decide (disch := first | omega | simp +decide [hl]) only [s9, simprocAttr], by show (0 + 2 : Nat) = 2; rfl⟩ ?_
  clear hl h0 h1 h2
  rintro ⟨s, g, nx⟩ ⟨hl, h1, h2, h3, h6, g0, g1, hnx⟩
  simp only at hl h1 h2 h3 h6 g0 g1 hnx
  subst hnx
  obtain ⟨N, v, g', nx', hN, c, rfl, hC, hg', hnx'⟩ := copied_run fx R xs hx hR hw g (2 + 4)
  have q41 := hN N (Nat.le_refl _)
  have w0' : g' 0 = some [.imm fx R.length xs] := by rw [hg' 0 (by omega)]; exact g0
  have w1' : g' 1 = some [.imm true 0 []] := by rw [hg' 1 (by omega)]; exact g1
  have hcl : allLeaf [c] = true := by
    rcases hC with ⟨_, e⟩ | ⟨_, A, _, _, e, _⟩ <;> (subst e; rfl)
  have hc2 : cut [c] 0 1 = [c] := rfl
  refine W_seqn (W_regionN ⟨N, by simp +decide (disch := first | omega | simp +decide [hl]) only [s9, simprocAttr, evI, h3, g0, hc1, ap59, p59, n59, q41, hcl]; rfl⟩ ⟨rfl, ?_⟩)
  refine W_abs (fun st => st.s.length = 73 ∧ rho st.s (.tmp 1) = .int .i64 a ∧ rho st.s (.tmp 2) = .int .i64 b ∧ rho st.s (.tmp 3) = .ptr 0 0 ∧ rho st.s (.tmp 6) = .ptr 1 0 ∧ rho st.s (.tmp 7) = .ptr 4 0 ∧ st.g 0 = some [.imm fx R.length xs] ∧ st.g 1 = some [.imm true 0 []] ∧ st.g 4 = some [c] ∧ CopyAt st.g c R 6 nx' R.length) ?_ ?_
  · refine ⟨?_, ?_, ?_, ?_, ?_, ?_, ?_, ?_, ?_, hC.mono (Nat.le_refl _) (fun t ht1 ht2 => ?_)⟩
    rotate_right 1
    · simp +decide (disch := first | omega | simp +decide [hl]) only [s9, simprocAttr]
    all_goals first | (simp +decide (disch := first | omega | simp +decide [hl]) only [s9, simprocAttr, hl, h1, h2, h3, h6, w0', w1']; done) | (simp +decide (disch := first | omega | simp +decide [hl]) only [s9, simprocAttr, hl, h1, h2, h3, h6, w0', w1']; rfl)
  clear hl h1 h2 h3 h6 g0 g1 w0' w1' hC hg'
  rintro ⟨s, g, nx⟩ ⟨hl, h1, h2, h3, h6, h7, g0, g1, g4, hC⟩
  simp only at hl h1 h2 h3 h6 h7 g0 g1 g4 hC
  by_cases hbad : Bad R a b
  · obtain ⟨N2, c42⟩ := (is_bad fx R xs hx a b hbad).call ap86 (fun g => rfl)
    have q42 := c42 N2 (Nat.le_refl _)
    refine W_seq (W_seqn (W_regionN ⟨N2, by simp +decide (disch := first | omega | simp +decide [hl]) only [s9, simprocAttr, h3, h1, h2, g0, hc1, ap86, p86, n86, q42]; rfl⟩ ⟨rfl, W_tru ?_⟩))
    refine W_seqn (W_region (fun k => by simp +decide (disch := first | omega | simp +decide [hl]) only [s9, simprocAttr, h7, h6, g4, g1, hc2, hcl]; rfl) ⟨rfl, W_ret ?_⟩)
    simp only [reduceCtorEq, false_and, false_or, or_false, exists_false, exists_const, ne_eq, not_false_eq_true, true_and, implies_true]
    have hC2 : CopyAt (put1 g (1, some [c])) c R 6 nx' R.length := hC.mono (Nat.le_refl _) (fun t ht1 ht2 => put1_ne (by omega))
    obtain ⟨f, ys, ids, e1, e2⟩ := frz_copy (nx := nx + 5 + 2) (d := 8) (fun l h => (hw l h).2) hC2
    refine ⟨rfl, .agg [.imm f R.length ys], by rw [touch_bad hbad]; exact ⟨f, ys, rfl, e2⟩, (fin_cellV (F := f60) (t := 6) (p := 1) rfl e1 ?_ ?_).2⟩
    · simp +decide (disch := first | omega | simp +decide [hl]) only [s8, simprocAttr, h6]
    · simp +decide (disch := first | omega | simp +decide [hl]) only [s9, simprocAttr]
  · obtain ⟨i, w, hi, rfl, rfl, hwl⟩ := not_bad hbad
    obtain ⟨N2, c42⟩ := (is_ok fx R xs hx i w hi hwl).call ap86 (fun g => rfl)
    have q42 := c42 N2 (Nat.le_refl _)
    obtain ⟨hrl, hrw⟩ := hw _ (List.getElem_mem hi)
    obtain ⟨f, hxi⟩ := hx.2 i hi
    rcases hC with ⟨hz, _⟩ | ⟨_, A, els, bf, rfl, gA, hel, helf, hA, hrest⟩
    · omega
    obtain ⟨hei, gB, hB1, hB2, _⟩ := hrest i hi
    have hrn : ∀ j (h : j < R.length), rowN R j = R[j] := fun j h => by unfold rowN; rw [List.getElem?_eq_getElem h]; rfl
    rw [hrn i hi] at hei gB
    refine W_seqn (W_seqn (W_regionN ⟨N2, by simp +decide (disch := first | omega | simp +decide [hl]) only [s9, simprocAttr, h3, h1, h2, g0, hc1, ap86, p86, n86, q42]; rfl⟩ ⟨rfl, W_fls (W_skip ⟨rfl, ?_⟩)⟩))
    refine W_seq (W_seqn (W_region (fun k => by simp +decide (disch := first | omega | simp +decide [hl]) only [s9, simprocAttr]; rfl) ⟨rfl, W_block ?_⟩))
    refine rt_loop fx R.length i w A (bf i) _ xs els hxl hel hi f R[i] hrw hrl hwl rfl hxi (by rw [Nat.mul_one]; exact hei) g g0 g4 gA hB1 hB2 _ (fun st hst h1 h2 h6 h7 hg hgB => ?_) (R[i].length - 0) _ ⟨0, ?_, ?_, ?_, ?_, ?_, ?_, fun t ht => rfl, ?_, ?_, by omega, rfl⟩
    · have hl := hst
      have hb : i * 1 + 1 ≤ R.length := by omega
      have hei2 : els[i * 1]? = some (.own (bf i) 0 R[i].length 19) := by rw [Nat.mul_one]; exact hei
      have hbw := mem_bump (a := (wayN R[i] w).age) (k := R[i].length) hrw (wf_i64 (wayN_wf hrw hwl).2.2.2).2
      have hcl2 := enc_len _ hbw
      rw [bump_len] at hcl2
      have hb2 : w * 19 + 18 + 1 ≤ R[i].length * 19 := by omega
      have g4' := hg 4 (by omega)
      have gA' := hg A (by omega)
      have g1' := hg 1 (by omega)
      rw [g4] at g4'
      rw [gA] at gA'
      rw [g1] at g1'
      have hset := set_age (bumpK (wayN R[i] w).age R[i].length R[i]) hbw w (by rw [bump_len]; exact hwl) 0
      have htd : touchL R[i] w = (bumpK (wayN R[i] w).age R[i].length R[i]).set w (aged (wayN (bumpK (wayN R[i] w).age R[i].length R[i]) w) 0) := rfl
      have htw := touch_wf hrw w hwl
      have htl := touch_len R[i] w
      rw [← htd] at hset
      obtain ⟨tl, htl'⟩ : ∃ tl, tl = touchL R[i] w := ⟨_, rfl⟩
      rw [← htl'] at hset htw htl
      generalize hbc : (bumpK (wayN R[i] w).age R[i].length R[i]).flatMap Way.enc = bc at *
      have hc3 : cut [T.own A 0 R.length 1] 0 1 = [T.own A 0 R.length 1] := rfl
      refine .inl ⟨rfl, .inl ⟨rfl, ?_⟩⟩
      refine W_seqn (W_region (fun k => by simp +decide (disch := first | omega | simp +decide [hl]) only [s9, simprocAttr, h7, h1, h2, g4', gA', hgB, hel, hi, hb, hei2, hwl, hcl2, hb2]; rfl) ⟨rfl, ?_⟩)
      refine W_seqn (W_region (fun k => by simp +decide (disch := first | omega | simp +decide [hl]) only [s9, simprocAttr, h7, h6, g4', g1', hc3]; rfl) ⟨rfl, W_ret ?_⟩)
      have hL : ∀ l ∈ R.set i tl, ∀ w ∈ l, w.wf := by
        intro l hl
        rcases List.mem_or_eq_of_mem_set hl with h | rfl
        · exact (hw l h).2
        · exact htw
      have hgA3 : put1 (put1 st.g (bf i, some (bc.set (w * 19 + 18) (.int .i64 0)))) (1, some [.own A 0 R.length 1]) A = some els := by simp +decide (disch := first | omega | simp +decide [hl]) only [s9, simprocAttr, gA']
      have hrows : RowsAt (put1 (put1 st.g (bf i, some (bc.set (w * 19 + 18) (.int .i64 0)))) (1, some [.own A 0 R.length 1])) els (R.set i tl) := by
        refine ⟨by rw [List.length_set]; exact hel, fun j hj => ?_⟩
        rw [List.length_set] at hj
        by_cases hij : i = j
        · subst hij
          refine ⟨bf i, by rw [hei, List.getElem_set_self, htl], ?_⟩
          rw [List.getElem_set_self, hset]
          simp +decide (disch := first | omega | simp +decide [hl]) only [s9, simprocAttr]
        · obtain ⟨a1, a2, a3, a4, a5⟩ := hrest j hj
          rw [hrn j hj] at a1 a2
          have hbij : bf i ≠ bf j := by
            rcases Nat.lt_or_gt_of_ne hij with h | h
            · have := (hrest i hi).2.2.2.2 j h hj; omega
            · have := a5 i h hi; omega
          refine ⟨bf j, by rw [List.getElem_set_ne hij]; exact a1, ?_⟩
          rw [List.getElem_set_ne hij, ← a2, ← hg (bf j) (fun e => hbij e.symm)]
          simp +decide (disch := first | omega | simp +decide [hl]) only [s9, simprocAttr]
      have hlen : (R.set i tl).length = R.length := List.length_set
      obtain ⟨ids, e1⟩ := frz_copied (nx := st.nx + 9 + 2) (d := 8) hL hgA3 hrows
      rw [hlen] at e1
      refine ⟨rfl, .agg [.imm false R.length (rowsT (R.set i tl))], ?_, (fin_cellV (F := f60) (t := 6) (p := 1) rfl e1 ?_ ?_).2⟩
      · rw [touch_some R i w hi hwl, ← htl']
        exact ⟨false, rowsT (R.set i tl), by rw [hlen], tells_rows _⟩
      · simp +decide (disch := first | omega | simp +decide [hl]) only [s8, simprocAttr, h6]
      · simp +decide (disch := first | omega | simp +decide [hl]) only [s9, simprocAttr]
    rotate_right 2
    · rw [bump_zero]; exact gB
    all_goals first | (simp +decide (disch := first | omega | simp +decide [hl]) only [s8, simprocAttr, hl, h1, h2, h3, h6, h7]; done) | (simp +decide (disch := first | omega | simp +decide [hl]) only [s8, simprocAttr, hl, h1, h2, h3, h6, h7]; rfl)
end Go.Proofs.YtabfinhkoihhfaaGreat.Abs
