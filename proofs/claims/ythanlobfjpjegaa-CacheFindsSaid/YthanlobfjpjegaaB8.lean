/- Regions. -/
import Derived.Test.YthanlobfjpjegaaB7
namespace Go.Proofs.Ythanlobfjpjegaa.Abs
open Go Go.RowKit
set_option linter.unusedVariables false
set_option linter.unusedSimpArgs false

def compOper (P : Program) (ops : Array Oper) (o : Oper) : Option AOper :=
  match compOp P o.op with
  | some ao => match o.guard with
    | none => some ⟨o.dst, ao, none⟩
    | some (j, want) => match (ops[j]?).bind (·.dst) with
      | some t => some ⟨o.dst, ao, some (t, want)⟩
      | none => none
  | none => none
def compOpers (P : Program) (ops : Array Oper) : List Oper → Option (List AOper)
  | [] => some []
  | o :: r => match compOper P ops o, compOpers P ops r with | some x, some xs => some (x :: xs) | _, _ => none

section
variable {P : Program} {ops : Array Oper} {a : Act} {B : Nat} {W0 w : World} {Z0 Z : Nat → Nat → Prop} {μ : Nat → Option Loc} {AP : AProg} {ih : Run}

theorem guard_ok {o : Oper} {ao : AOper} (hc : compOper P ops o = some ao) {s : List T} (hs : VRL w Z μ s a.tmps.toList) {b : Bool} (hg : guardT s ao.guard = some b) : Region.wanted o (yielded ops a.tmps) = b := by
  unfold compOper at hc
  split at hc
  · rename_i op hop
    split at hc
    · rename_i hn
      obtain rfl := Option.some.inj hc
      simp [guardT] at hg
      simp [Region.wanted, hn, hg]
    · rename_i j want hn
      split at hc
      · rename_i t ht
        obtain rfl := Option.some.inj hc
        simp only [guardT] at hg
        have hv := rho_ok hs (x := .tmp t) (y := .tmp t) rfl
        simp only [Region.wanted, hn, yielded, ht, Option.bind_some]
        split at hg
        · rename_i b' e
          obtain rfl := Option.some.inj hg
          have := vr_bool hv e
          simp only [Act.eval] at this
          cases hx : a.tmps[t]? with
          | none => rw [Array.getD_eq_getD_getElem?, hx] at this; cases this
          | some v =>
            rw [Array.getD_eq_getD_getElem?, hx] at this
            simp only [Option.getD_some] at this
            subst this
            simp
        · rename_i e
          obtain rfl := Option.some.inj hg
          rw [e] at hv
          simp only [VR, VI, Act.eval] at hv
          cases hx : a.tmps[t]? with
          | none => simp
          | some v =>
            rw [Array.getD_eq_getD_getElem?, hx] at hv
            simp only [Option.getD_some] at hv
            subst hv
            simp [Go.undef]
        · cases hg
      · cases hc
  · cases hc
theorem compOper_op {o : Oper} {ao : AOper} (hc : compOper P ops o = some ao) : compOp P o.op = some ao.op ∧ ao.dst = o.dst := by
  unfold compOper at hc
  split at hc
  · rename_i op hop
    split at hc
    · obtain rfl := Option.some.inj hc; exact ⟨hop, rfl⟩
    · split at hc
      · obtain rfl := Option.some.inj hc; exact ⟨hop, rfl⟩
      · cases hc
  · cases hc

theorem evOp_sound (hE : Enters P AP) (HC : ClonesOk P AP) (HP : PureOk P AP ih) (HI : ImpOk P AP ih) {i : Nat} {o : Oper} (ho : ops[i]? = some o) {ao : AOper} (hc : compOper P ops o = some ao) {st st' : St} {fp : Fp} {fr : Nat} (h : evOp AP ih fr ao st = some (st', fp))
    (hs : VRL w Z μ st.s a.tmps.toList) (hi : Inv B W0 Z0 st.g w Z μ) (hfr : μ fr = none) (hfn : fr < st.nx) (hnx : ∀ t, st.nx ≤ t → μ t = none) {K : Act → World → Prop} {Q : Exit → Act → World → Prop}
    (hk : ∀ a' w' Z' μ', a'.defers = a.defers → VRL w' Z' μ' st'.s a'.tmps.toList → Inv B W0 Z0 st'.g w' Z' μ' → ZLe w w' Z Z' → MLe μ μ' → st.nx ≤ st'.nx → (∀ t, t < st.nx → t ≠ fr → μ' t = μ t) → (∀ t, st'.nx ≤ t → μ' t = none) → K a' w') :
    wpOp P ops Q i K a w := by
  obtain ⟨hcop, hdst⟩ := compOper_op hc
  have hdef : ∀ (d : Option Tmp) (v : Value), (a.put d v).defers = a.defers := fun d v => by cases d <;> rfl
  have enter : (Region.wanted o (yielded ops a.tmps) = true → o.wp P a w K Q) → Region.wanted o (yielded ops a.tmps) = true → wpOp P ops Q i K a w := fun h1 h2 => by
    unfold wpOp; simp only [ho, h2, if_true]; exact .inl (h1 h2)
  unfold evOp at h
  split at h
  · rename_i r hr
    simp at h
    obtain ⟨rfl, rfl⟩ := h
    unfold evG at hr
    split at hr
    · rename_i hg
      have hw := guard_ok hc hs hg
      refine enter (fun _ => ?_) hw
      unfold evR at hr
      split at hr
      · rename_i f args hce
        split at hr
        · rename_i F hF
          split at hr
          · rename_i es bytes hnat
            obtain ⟨vs, k1, k2⟩ := callee_ok hE hs hcop hce hF
            unfold cloneRes at hr
            split at hr
            · rename_i x
              simp only [VRL] at k1
              obtain ⟨v, vs', rfl, hvx, rfl⟩ := k1
              split at hr
              · rename_i n c rd hcl
                split at hr
                · rename_i hcc
                  obtain ⟨q1, q2, q3, q4⟩ := hcc
                  have hcall := HC f F es bytes hF hnat B W0 Z0 st.g w Z μ fr x v n c rd hi hfr hvx hcl q1 q2 q3 q4
                  refine enter_wp k2 hcall fun e w' ⟨u, μ', he, hu, hinv, hz, hm, hold⟩ => ⟨u, he, ?_⟩
                  refine hk _ w' Z μ' (hdef _ _) ?_ ?_ hz hm (Nat.le_refl _) (fun t _ ht => hold t ht) (fun t ht => by rw [hold t (by simp only at ht; omega)]; exact hnx t ht)
                  · rw [hdst]
                    refine put_ok (VRL.mono hz hm _ _ hs) ?_
                    split at hr
                    · rename_i h0; obtain rfl := Option.some.inj hr; rw [if_pos h0] at hu; exact hu
                    · rename_i h0; obtain rfl := Option.some.inj hr; rw [if_neg h0] at hu; exact hu
                  · split at hr
                    · rename_i h0; obtain rfl := Option.some.inj hr; rw [if_pos h0] at hinv; exact hinv
                    · rename_i h0; obtain rfl := Option.some.inj hr; rw [if_neg h0] at hinv; exact hinv
                · cases hr
              · cases hr
            · cases hr
          rename_i hnat
          split at hr
          · rename_i hp
            obtain ⟨vs, k1, k2⟩ := callee_ok hE hs hcop hce hF
            unfold callPure at hr
            split at hr
            · rename_i args' ids hfz
              split at hr
              · rename_i v hv
                obtain rfl := Option.some.inj hr
                have hvi := frzAll_ok (Z := Z) (g := st.g) (fun x y us u h1 h2 => frz_ok hi frzDepth x y us u h1 h2) _ _ _ _ hfz k1
                have hzin : ∀ b q, ZOf Z st.g μ ids b q → b < w.heap.size := fun b q hz => by
                  rcases hz with hz | ⟨t, ht, c, m, h1, h2, h3, _, _⟩
                  · exact hi.zin b q hz
                  · obtain ⟨m', j1, j2, j3, _⟩ := hi.blk t c h1
                    rw [h2] at j1; obtain rfl := Option.some.inj j1
                    omega
                have hcall := HP f F args' v hF hnat hp hv w (ZOf Z st.g μ ids) vs hvi hzin
                refine enter_wp k2 hcall fun e w' ⟨u, Z', he, hb, hz, hin, hnew, hvu⟩ => ⟨u, he, ?_⟩
                by_cases hfl : v.flat = true
                · have hz0 : ZLe w w' Z Z := zle_below hi.zin hb
                  have hinv := hi.below hb hz0 (fun b q hq => Nat.lt_of_lt_of_le (hi.zin b q hq) hb.size) (ids := []) (fun b q hq => .inl (.inl hq))
                  refine hk _ w' Z μ (hdef _ _) ?_ ?_ hz0 MLe.refl (Nat.le_refl _) (fun _ _ _ => rfl) hnx
                  · rw [hdst]
                    exact put_ok (VRL.mono hz0 MLe.refl _ _ hs) (VI.vr _ _ (flat_any hfl hvu))
                  · simp only [hfl, if_true, putAll, List.foldl_nil]
                    simpa [putAll] using hinv
                · have hz0 : ZLe w w' Z Z' := ZLe.trans z_zof hz
                  have hinv := hi.below hb hz0 hin (ids := ids) hnew
                  refine hk _ w' Z' μ (hdef _ _) ?_ ?_ hz0 MLe.refl (Nat.le_refl _) (fun _ _ _ => rfl) hnx
                  · rw [hdst]
                    exact put_ok (VRL.mono hz0 MLe.refl _ _ hs) (VI.vr _ _ hvu)
                  · simp only [hfl]; exact hinv
              · cases hr
            · cases hr
          · cases hr
        · cases hr
      · obtain ⟨v, w', μ', q1, q2, q3, q4, q5, q6⟩ := opRes_sound hi hfr hs hcop hr
        refine q1 K Q ?_
        refine hk _ w' Z μ' (hdef _ _) ?_ q3 q4 q5 (Nat.le_refl _) (fun t _ ht => q6 t ht) (fun t ht => by rw [q6 t (by simp only at ht; omega)]; exact hnx t ht)
        rw [hdst]
        exact put_ok (VRL.mono q4 q5 _ _ hs) q2
    · rename_i hg
      obtain rfl := Option.some.inj hr
      have hw := guard_ok hc hs hg
      unfold wpOp
      simp only [ho, hw, Bool.false_eq_true, if_false]
      refine hk _ w Z μ (hdef _ _) ?_ hi ZLe.refl MLe.refl (Nat.le_refl _) (fun _ _ _ => rfl) hnx
      rw [hdst]
      exact put_ok hs (by simp only [VR, VI])
    · cases hr
  · rename_i hr
    split at h
    · rename_i hg
      have hw := guard_ok hc hs hg
      refine enter (fun _ => ?_) hw
      split at h
      · rename_i v g nx hI
        simp at h
        obtain ⟨rfl, rfl⟩ := h
        unfold evI at hI
        split at hI
        · rename_i f args hce
          split at hI
          · rename_i F hF
            split at hI
            · cases hI
            · rename_i hp
              obtain ⟨vs, k1, k2⟩ := callee_ok hE hs hcop hce hF
              have hcall := HI f F args st.g st.nx v g nx hF (by simpa using hp) hI B W0 Z0 w Z μ vs k1 hi hnx
              refine enter_wp k2 hcall fun e w' ⟨u, Z', μ', he, hvu, hinv, hpr⟩ => ⟨u, he, ?_⟩
              refine hk _ w' Z' μ' (hdef _ _) ?_ hinv hpr.z hpr.m hpr.n (fun t ht _ => hpr.old t ht) hpr.new
              rw [hdst]
              exact put_ok (VRL.mono hpr.z hpr.m _ _ hs) hvu
          · cases hI
        · cases hI
      · cases h
    · cases h

/-- All operations have been told. -/
theorem compOpers_get : ∀ (l : List Oper) (al : List AOper), compOpers P ops l = some al → al.length = l.length ∧ ∀ (i : Nat) o, l[i]? = some o → ∃ ao, al[i]? = some ao ∧ compOper P ops o = some ao
  | [], al, h => by simp [compOpers] at h; subst h; simp
  | o :: l, al, h => by
    simp only [compOpers] at h
    split at h
    · rename_i x xs h1 h2
      obtain rfl := Option.some.inj h
      obtain ⟨k1, k2⟩ := compOpers_get l xs h2
      refine ⟨by simp [k1], fun i o' ho => ?_⟩
      cases i with
      | zero => simp at ho; subst ho; exact ⟨x, by simp, h1⟩
      | succ i => simp at ho; obtain ⟨ao, j1, j2⟩ := k2 i o' ho; exact ⟨ao, by simpa using j1, j2⟩
    · cases h

/-- In the text's order. -/
theorem plain_sound (hE : Enters P AP) (HC : ClonesOk P AP) (HP : PureOk P AP ih) (HI : ImpOk P AP ih) {al : List AOper} (hal : compOpers P ops ops.toList = some al) {base : Nat} {st' : St} {Q : Exit → Act → World → Prop}
    {w0 : World} {Zs : Nat → Nat → Prop} {μ0 : Nat → Option Loc} {defs : List Deferred}
    (hQ : ∀ a' w' Z' μ', a'.defers = defs → VRL w' Z' μ' st'.s a'.tmps.toList → Inv B W0 Z0 st'.g w' Z' μ' → Pr w0 Zs μ0 base w' Z' μ' st'.nx → Q .normal a' w') :
    ∀ (n i : Nat) (a : Act) (w : World) (Z : Nat → Nat → Prop) (μ : Nat → Option Loc) (st : St) (fps : List Fp), i + n = al.length → evOps AP ih (base + i) (al.drop i) st = some (st', fps) → base + al.length ≤ st.nx → a.defers = defs →
      VRL w Z μ st.s a.tmps.toList → Inv B W0 Z0 st.g w Z μ → ZLe w0 w Zs Z → MLe μ0 μ → (∀ t, t < base → μ t = μ0 t) → (∀ j, i ≤ j → j < al.length → μ (base + j) = none) → (∀ t, st.nx ≤ t → μ t = none) →
      wpOps P ops Q (List.range' i n) a w
  | 0, i, a, w, Z, μ, st, fps, hn, h, hb, hd, hs, hi, hz, hm, ho, hf, hx => by
    have : al.drop i = [] := List.drop_eq_nil_of_le (by omega)
    rw [this] at h
    simp [evOps] at h
    obtain ⟨rfl, rfl⟩ := h
    exact hQ a w Z μ hd hs hi ⟨hz, hm, by omega, ho, hx⟩
  | n + 1, i, a, w, Z, μ, st, fps, hn, h, hb, hd, hs, hi, hz, hm, ho, hf, hx => by
    obtain ⟨c1, c2⟩ := compOpers_get _ _ hal
    have hil : i < ops.size := by simp at c1; omega
    obtain ⟨ao, k1, k2⟩ := c2 i ops[i] (by simp [hil])
    have hdrop : al.drop i = ao :: al.drop (i + 1) := by
      have hlt : i < al.length := by omega
      rw [List.drop_eq_getElem_cons hlt]
      congr 1
      exact Option.some.inj ((List.getElem?_eq_getElem hlt).symm.trans k1)
    rw [hdrop] at h
    simp only [evOps] at h
    split at h
    · rename_i st1 fp h1
      split at h
      · rename_i st2 fps2 h2
        simp at h
        obtain ⟨rfl, rfl⟩ := h
        rw [List.range'_succ, wpOps_cons]
        refine evOp_sound hE HC HP HI (by simp [hil]) k2 h1 hs hi (hf i (Nat.le_refl _) (by omega)) (by omega) hx fun a' w' Z' μ' d1 d2 d3 d4 d5 d6 d7 d8 => ?_
        exact plain_sound hE HC HP HI hal hQ n (i + 1) a' w' Z' μ' st1 fps2 (by omega) h2 (by omega) (d1.trans hd) d2 d3 (hz.trans d4) (hm.trans d5) (fun t ht => by rw [d7 t (by omega) (by omega)]; exact ho t ht)
          (fun j hj1 hj2 => by rw [d7 _ (by omega) (by omega)]; exact hf j (by omega) hj2) d8
      · cases h
    · cases h

/-! ### Regions that draw their order -/
def ordOf (ops : Array Oper) (i j : Nat) : Bool := ((Region.before ops).getD j 0).testBit i
end
end Go.Proofs.Ythanlobfjpjegaa.Abs
