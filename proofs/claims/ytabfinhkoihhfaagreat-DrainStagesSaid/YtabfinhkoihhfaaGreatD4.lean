/- Trees that tell of more room: code, calls, functions. -/
import Derived.Test.YtabfinhkoihhfaaGreatD3
namespace Go.Proofs.YtabfinhkoihhfaaGreat.Abs
open Go Go.RowKit
set_option linter.unusedVariables false
set_option linter.unusedSimpArgs false
set_option linter.unnecessarySimpa false
set_option maxRecDepth 100000
set_option maxHeartbeats 2000000

def UpS (a b : St) : Prop := UpL a.s b.s ∧ UpM a.g b.g ∧ b.nx = a.nx
def Up (a : Run) : Prop := ∀ c st st' e r, UpS st st' → a c st = some (e, r) → ∃ r', a c st' = some (e, r') ∧ UpS r r'
theorem resOne_up {s s' : List T} {g g' : Mem} (hs : UpL s s') (hg : UpM g g') {r : ARes} {v : T} (h : resOne s g r = some v) : ∃ v', resOne s' g' r = some v' ∧ UpT v v' := by
  cases r with
  | tmp t =>
    obtain rfl := Option.some.inj h
    exact ⟨_, rfl, rho_up hs _⟩
  | cell t one n =>
    unfold resOne at h ⊢
    simp only at h ⊢
    split at h
    · rename_i q hq
      obtain ⟨q', h1, h2, _⟩ := opRes_up hs hg hq
      obtain rfl := Option.some.inj h
      rw [h1]
      exact ⟨_, rfl, h2⟩
    · cases h
theorem resL_up {s s' : List T} {g g' : Mem} (hs : UpL s s') (hg : UpM g g') : ∀ {l : List ARes} {v : List T}, resL s g l = some v → ∃ v', resL s' g' l = some v' ∧ UpL v v'
  | [], v, h => by
    obtain rfl := Option.some.inj h
    exact ⟨[], rfl, UpL.nil⟩
  | r :: l, v, h => by
    simp only [resL] at h
    split at h
    · rename_i x xs e1 e2
      obtain rfl := Option.some.inj h
      obtain ⟨x', h1, h2⟩ := resOne_up hs hg e1
      obtain ⟨xs', h3, h4⟩ := resL_up hs hg e2
      exact ⟨_, by simp only [resL, h1, h3], UpL.cons h2 h4⟩
    · cases h
theorem resT_up {s s' : List T} {g g' : Mem} (hs : UpL s s') (hg : UpM g g') {l : List ARes} {v : T} (h : resT s g l = some v) : ∃ v', resT s' g' l = some v' ∧ UpT v v' := by
  unfold resT at h
  split at h
  · rename_i x e
    obtain rfl := Option.some.inj h
    obtain ⟨q, h1, h2⟩ := resL_up hs hg e
    simp only [UpL] at h2
    obtain ⟨y, ys, rfl, h3, rfl⟩ := h2
    exact ⟨y, by unfold resT; rw [h1], h3⟩
  · rename_i q hne e
    obtain rfl := Option.some.inj h
    obtain ⟨q', h1, h2⟩ := resL_up hs hg e
    refine ⟨.tup q', ?_, upT_tup h2⟩
    unfold resT
    rw [h1]
    match q', h2 with
    | [], _ => rfl
    | [y], h2 =>
      have hl := h2.len
      match q, hl with
      | [x], _ => exact absurd rfl (hne x)
    | _ :: _ :: _, _ => rfl
  · cases h
theorem runBody_up {a : Run} (ha : Up a) {F : AFun} {args args' : List T} {g g' : Mem} {nx : Nat} {r : T × Mem × Nat} (hs : UpL args args') (hg : UpM g g') (h : runBody a F args g nx = some r) : ∃ v' m', runBody a F args' g' nx = some (v', m', r.2.2) ∧ UpT r.1 v' ∧ UpM r.2.1 m' := by
  unfold runBody at h
  split at h
  · rename_i e st he
    have hl := hs.len
    obtain ⟨st', h1, h2, h3, h4⟩ := ha _ ⟨args ++ List.replicate (F.ntmps - args.length) .undef, g, nx⟩ ⟨args' ++ List.replicate (F.ntmps - args'.length) .undef, g', nx⟩ _ _ ⟨by show UpL (args ++ List.replicate (F.ntmps - args.length) T.undef) (args' ++ List.replicate (F.ntmps - args'.length) T.undef); rw [hl]; exact hs.append (UpL.refl _), hg, rfl⟩ he
    split at h
    · rename_i hlv
      split at h
      · rename_i v hv
        obtain ⟨v', h5, h6⟩ := resT_up h2 h3 hv
        obtain rfl := Option.some.inj h
        exact ⟨v', st'.g, by unfold runBody; rw [h1]; simp only [hlv, if_true, h5, h4], h6, h3⟩
      · cases h
    · cases h
  · cases h
theorem runPure_up {a : Run} (ha : Up a) {F : AFun} {args args' : List T} {v : T} (hs : UpL args args') (h : runPure a F args = some v) : ∃ v', runPure a F args' = some v' ∧ UpT v v' := by
  unfold runPure at h
  split at h
  · rename_i x g nx e
    split at h
    · rename_i y is hf
      obtain rfl := Option.some.inj h
      obtain ⟨x', m', h1, h2, h3⟩ := runBody_up ha hs (UpM.refl _) e
      obtain ⟨y', h4, h5⟩ := frz_up (h := ⟨g, nx⟩) (h' := ⟨m', nx⟩) h3 _ _ _ _ _ h2 hf
      exact ⟨y', by unfold runPure; rw [h1]; simp only [h4], h5⟩
    · cases h
  · cases h
theorem frzL_up {g g' : Mem} (hg : UpM g g') {d : Nat} : ∀ {l l' : List T} {m : List T} {is : List Nat}, UpL l l' → frzL ⟨g, 0⟩ d l = some (m, is) → ∃ m', frzL ⟨g', 0⟩ d l' = some (m', is) ∧ UpL m m' := by
  intro l l' m is h he
  unfold frzL at he ⊢
  exact frzAll_up (fun x y u is hx hu => frz_up (h := ⟨g, 0⟩) (h' := ⟨g', 0⟩) hg d x y u is hx hu) h he
theorem callPure_up {a : Run} (ha : Up a) {F : AFun} {args args' : List T} {g g' : Mem} {r : Res} (hs : UpL args args') (hg : UpM g g') (h : callPure a F args g = some r) : ∃ r', callPure a F args' g' = some r' ∧ UpR r r' := by
  unfold callPure at h
  split at h
  · rename_i l is hf
    split at h
    · rename_i v hv
      obtain rfl := Option.some.inj h
      obtain ⟨l', h1, h2⟩ := frzL_up hg hs hf
      obtain ⟨v', h3, h4⟩ := runPure_up ha h2 hv
      exact ⟨⟨v', is, if v.flat then [] else is.map fun t => (t, none)⟩, by unfold callPure; rw [h1]; simp only [h3]; rw [h4.flat], h4, rfl, UpE.refl _⟩
    · cases h
  · cases h
theorem cellsOf_none {g g' : Mem} (hg : UpM g g') {es : Nat} {x y : T} (hx : UpT x y) (h : cellsOf g es x = none) : cellsOf g' es y = none := by
  cases x <;> simp only [cellsOf] at h
  case imm => cases h
  case own t off len es' =>
    obtain rfl := hx.own
    simp only [cellsOf]
    split at h
    · rename_i he
      rw [if_pos he]
      have hgt := hg t
      split at h
      · rename_i c hc
        rw [hc] at hgt
        obtain ⟨c', h1, h2⟩ := hgt
        rw [h1]
        simp only
        split at h
        · cases h
        · rename_i hb; rw [if_neg (by rw [h2.len]; exact hb)]
      · rename_i hc
        rw [hc] at hgt
        have hgt : g' t = none := hgt
        rw [hgt]
    · rename_i he; rw [if_neg he]
  case int => rw [hx.int]; rfl
  case bool => rw [hx.bool]; rfl
  case ptr => rw [hx.ptr]; rfl
  case undef => rw [hx.undef]; rfl
  case iptr => obtain ⟨c', rfl, _⟩ := hx.iptr; rfl
  case agg => obtain ⟨c', rfl, _⟩ := hx.agg; rfl
  case tup => obtain ⟨c', rfl, _⟩ := hx.tup; rfl
  case fn => obtain ⟨_, _, rfl, _⟩ := hx.fn; rfl
  all_goals (simp only [UpT] at hx; rw [hx]; rfl)
theorem allLeaf_eq {c c' : List T} (h : UpL c c') : allLeaf c' = allLeaf c := by unfold allLeaf; rw [h.allLeaf]
theorem cloneRes_up {es bytes fr : Nat} {args args' : List T} {g g' : Mem} (hs : UpL args args') (hg : UpM g g') : (∀ r, cloneRes es bytes fr args g = some r → ∃ r', cloneRes es bytes fr args' g' = some r' ∧ UpR r r') ∧ (cloneRes es bytes fr args g = none → cloneRes es bytes fr args' g' = none) := by
  match args, args', hs with
  | [], l, hs => simp only [UpL] at hs; subst hs; exact ⟨fun r h => absurd (show (none : Option Res) = some r from h) (by simp), fun _ => rfl⟩
  | [x], l, hs =>
    simp only [UpL] at hs
    obtain ⟨y, ys, rfl, hx, rfl⟩ := hs
    cases hc : cellsOf g es x with
    | none =>
      have := cellsOf_none hg hx hc
      constructor
      · intro r h; unfold cloneRes at h; simp only [hc] at h; cases h
      · intro _; unfold cloneRes; simp only [this]
    | some q =>
      obtain ⟨n, c, rd⟩ := q
      obtain ⟨c', h1, h2⟩ := cellsOf_up hg hx hc
      have hcond : (c'.length = n * es ∧ allLeaf c' = true ∧ n * bytes ≤ room ∧ n ≤ room) ↔ (c.length = n * es ∧ allLeaf c = true ∧ n * bytes ≤ room ∧ n ≤ room) := by rw [h2.len, allLeaf_eq h2]
      constructor
      · intro r h
        unfold cloneRes at h ⊢
        simp only [hc] at h
        simp only [h1]
        split at h
        · rename_i hb
          rw [if_pos (hcond.mpr hb)]
          split at h
          · rename_i h0
            rw [if_pos h0]
            obtain rfl := Option.some.inj h
            exact ⟨_, rfl, UpT.refl _, rfl, UpE.refl _⟩
          · rename_i h0
            rw [if_neg h0]
            obtain rfl := Option.some.inj h
            exact ⟨_, rfl, UpT.refl _, rfl, upE_one (upO_some h2)⟩
        · cases h
      · intro h
        unfold cloneRes at h ⊢
        simp only [hc] at h
        simp only [h1]
        split at h
        · split at h <;> cases h
        · rename_i hb
          rw [if_neg (fun hh => hb (hcond.mp hh))]
  | x :: y :: l, l', hs =>
    have hl := hs.len
    match l', hl with
    | _ :: _ :: _, _ => exact ⟨fun r h => absurd (show (none : Option Res) = some r from h) (by simp), fun _ => rfl⟩
theorem callee_up {s s' : List T} (hs : UpL s s') {op : AOp} {f : Nat} {args : List T} (h : callee s op = some (f, args)) : ∃ args', callee s' op = some (f, args') ∧ UpL args args' := by
  cases op <;> simp only [callee] at h
  case call f' l =>
    simp only [Option.some.injEq, Prod.mk.injEq] at h
    obtain ⟨rfl, rfl⟩ := h
    exact ⟨_, rfl, rhos_up hs _⟩
  case callv x l =>
    have hx := rho_up hs x
    split at h
    · rename_i q fs cs e
      rw [e] at hx
      obtain ⟨fs', cs', e', h1, h2⟩ := hx.fn
      simp only [Option.some.injEq, Prod.mk.injEq] at h
      obtain ⟨rfl, rfl⟩ := h
      exact ⟨_, by simp only [callee, e'], (h1.append (rhos_up hs _)).append h2⟩
    · cases h
  all_goals cases h
theorem callee_none {s s' : List T} (hs : UpL s s') {op : AOp} {fr : Nat} {g : Mem} {r : Res} (h : callee s op = none) (ho : opRes op fr s g = some r) : callee s' op = none := by
  cases op <;> simp only [callee] at h ⊢ <;> first | (cases h; done) | (cases ho; done)
theorem still1_up {x y : T} (h : UpT x y) : still1 y = still1 x := by
  cases x <;> simp only [UpT] at h
  case imm => obtain ⟨_, _, rfl, _⟩ := h; rfl
  case iptr => obtain ⟨_, rfl, _⟩ := h; rfl
  case agg => obtain ⟨_, rfl, _⟩ := h; rfl
  case tup => obtain ⟨_, rfl, _⟩ := h; rfl
  case fn => obtain ⟨_, _, rfl, _⟩ := h; rfl
  all_goals rw [h]
theorem all_up {f : T → Bool} (hf : ∀ x y, UpT x y → f y = f x) : ∀ {l l' : List T}, UpL l l' → l'.all f = l.all f
  | [], l', h => by simp only [UpL] at h; rw [h]
  | x :: l, l', h => by
    simp only [UpL] at h
    obtain ⟨v, vs, rfl, h1, h2⟩ := h
    rw [List.all_cons, List.all_cons, hf _ _ h1, all_up hf h2]
theorem still_up {x y : T} (h : UpT x y) : y.still = x.still := by
  have h0 := still1_up h
  cases x <;> simp only [UpT] at h
  case imm => obtain ⟨_, _, rfl, _⟩ := h; rfl
  case iptr => obtain ⟨_, rfl, _⟩ := h; rfl
  case agg l => obtain ⟨l', rfl, h⟩ := h; exact all_up (fun x y => still1_up) h
  case tup => obtain ⟨_, rfl, _⟩ := h; rfl
  case fn => obtain ⟨_, _, rfl, _⟩ := h; rfl
  all_goals rw [h]
theorem calm_up {F : AFun} {args args' : List T} (h : UpL args args') : F.calm args' = F.calm args := by
  unfold AFun.calm; rw [all_up (fun x y => still_up) h]
theorem evR_up {AP : AProg} {a : Run} (ha : Up a) {fr : Nat} {op : AOp} {s s' : List T} {g g' : Mem} (hs : UpL s s') (hg : UpM g g') {r : Res} (h : evR AP a fr op s g = some r) : ∃ r', evR AP a fr op s' g' = some r' ∧ UpR r r' := by
  unfold evR at h
  split at h
  · rename_i f args hc
    obtain ⟨args', h1, h2⟩ := callee_up hs hc
    unfold evR
    rw [h1]
    simp only
    split at h
    · rename_i F hF
      try simp only [hF]
      split at h
      · exact (cloneRes_up h2 hg).1 _ h
      · rename_i hn
        split at h
        · rename_i hp
          rw [calm_up h2, if_pos hp]
          exact callPure_up ha h2 hg h
        · cases h
    · cases h
  · rename_i hc
    unfold evR
    rw [callee_none hs hc h]
    exact opRes_up hs hg h
theorem evI_up {AP : AProg} {a : Run} (ha : Up a) {fr : Nat} {op : AOp} {s s' : List T} {g g' : Mem} {nx : Nat} (hs : UpL s s') (hg : UpM g g') {r : T × Mem × Nat} (h : evI AP a op s g nx = some r) (hr : evR AP a fr op s g = none) : (∃ v' m', evI AP a op s' g' nx = some (v', m', r.2.2) ∧ UpT r.1 v' ∧ UpM r.2.1 m') ∧ evR AP a fr op s' g' = none := by
  unfold evI at h
  split at h
  · rename_i f args hc
    obtain ⟨args', h1, h2⟩ := callee_up hs hc
    unfold evR at hr
    rw [hc] at hr
    simp only at hr
    split at h
    · rename_i F hF
      rw [hF] at hr
      simp only at hr
      split at h
      · cases h
      · rename_i hp
        constructor
        · obtain ⟨v', m', h3, h4, h5⟩ := runBody_up ha h2 hg h
          exact ⟨v', m', by unfold evI; rw [h1]; simp only [hF]; rw [calm_up h2, if_neg hp]; exact h3, h4, h5⟩
        · unfold evR
          rw [h1]
          simp only [hF]
          split at hr
          · rename_i hn
            try simp only [hn]
            exact (cloneRes_up h2 hg).2 hr
          · rename_i hn
            try simp only [hn]
            rw [calm_up h2, if_neg hp]
    · cases h
  · cases h
theorem guardT_up {s s' : List T} (hs : UpL s s') {o : Option (Nat × Bool)} {b : Bool} (h : guardT s o = some b) : guardT s' o = some b := by
  cases o with
  | none => exact h
  | some p =>
    obtain ⟨t, want⟩ := p
    have hx := rho_up hs (.tmp t)
    unfold guardT at h ⊢
    try simp only at h ⊢
    split at h
    · rename_i c e; rw [e] at hx; rw [hx.bool]; exact h
    · rename_i e; rw [e] at hx; rw [hx.undef]; exact h
    · cases h
theorem setDst_up {s s' : List T} (hs : UpL s s') {v v' : T} (hv : UpT v v') (d : Option Nat) : UpL (setDst s d v) (setDst s' d v') := by
  cases d with
  | none => exact hs
  | some d => exact hs.set d hv
theorem evOp_up {AP : AProg} {a : Run} (ha : Up a) {fr : Nat} {o : AOper} {st st' : St} (hs : UpS st st') {r : St × Fp} (h : evOp AP a fr o st = some r) : ∃ q, evOp AP a fr o st' = some (q, r.2) ∧ UpS r.1 q := by
  obtain ⟨hs, hg, hn⟩ := hs
  unfold evOp at h
  split at h
  · rename_i q hq
    obtain rfl := Option.some.inj h
    have : ∃ q', evG AP a fr o st'.s st'.g = some q' ∧ UpR q q' := by
      unfold evG at hq ⊢
      split at hq
      · rename_i hgd
        rw [guardT_up hs hgd]
        exact evR_up ha hs hg hq
      · rename_i hgd
        rw [guardT_up hs hgd]
        obtain rfl := Option.some.inj hq
        exact ⟨_, rfl, UpT.refl _, rfl, UpE.refl _⟩
      · cases hq
    obtain ⟨q', h1, h2, h3, h4⟩ := this
    refine ⟨⟨setDst st'.s o.dst q'.v, putAll st'.g q'.ed, st'.nx⟩, by unfold evOp; rw [h1]; simp only [h3, h4.ids], setDst_up hs h2 _, hg.putAll h4, hn⟩
  · rename_i hq
    split at h
    · rename_i hgd
      split at h
      · rename_i v g nx hI
        obtain rfl := Option.some.inj h
        have h0 : evR AP a fr o.op st.s st.g = none := by
          unfold evG at hq
          rw [hgd] at hq
          exact hq
        obtain ⟨⟨v', m', h1, h2, h3⟩, h4⟩ := evI_up ha hs hg hI h0
        have h5 := guardT_up hs hgd
        refine ⟨⟨setDst st'.s o.dst v', m', nx⟩, ?_, setDst_up hs h2 _, h3, rfl⟩
        unfold evOp
        have h6 : evG AP a fr o st'.s st'.g = none := by unfold evG; rw [h5]; exact h4
        rw [h6]
        simp only [h5]
        rw [hn, h1]
      · cases h
    · cases h
theorem evOps_up {AP : AProg} {a : Run} (ha : Up a) : ∀ {ops : List AOper} {fr : Nat} {st st' : St} {r : St × List Fp}, UpS st st' → evOps AP a fr ops st = some r → ∃ q, evOps AP a fr ops st' = some (q, r.2) ∧ UpS r.1 q
  | [], fr, st, st', r, hs, h => by
    obtain rfl := Option.some.inj h
    exact ⟨st', rfl, hs⟩
  | o :: ops, fr, st, st', r, hs, h => by
    simp only [evOps] at h
    split at h
    · rename_i st1 fp h1
      split at h
      · rename_i st2 fps h2
        obtain rfl := Option.some.inj h
        obtain ⟨q, h3, h4⟩ := evOp_up ha hs h1
        obtain ⟨q2, h5, h6⟩ := evOps_up ha h4 h2
        exact ⟨q2, by simp only [evOps, h3, h5], h6⟩
      · cases h
    · cases h
theorem killAll_up : ∀ (l : List Nat) {s s' : List T}, UpL s s' → UpL (killAll s l) (killAll s' l)
  | [], _, _, h => h
  | t :: l, s, s', h => killAll_up l (h.set t (UpT.refl .junk))
theorem evStep_up {AP : AProg} {a : Run} (ha : Up a) : Up (evStep AP a) := by
  intro c st st' e r hs h
  cases c <;> simp only [evStep] at h ⊢
  case skip | label | exit | ret | goto =>
    simp only [Option.some.injEq, Prod.mk.injEq] at h
    obtain ⟨rfl, rfl⟩ := h
    exact ⟨st', rfl, hs⟩
  case region ops chk =>
    unfold evRegion at h ⊢
    split at h
    · rename_i st1 fps he
      obtain ⟨q, h1, h2⟩ := evOps_up ha (st := ⟨st.s, st.g, st.nx + ops.length⟩) (st' := ⟨st'.s, st'.g, st'.nx + ops.length⟩) ⟨hs.1, hs.2.1, by show st'.nx + ops.length = st.nx + ops.length; rw [hs.2.2]⟩ he
      rw [hs.2.2] at h1 ⊢
      rw [h1]
      simp only
      split at h
      · rename_i hc
        simp only [Option.some.injEq, Prod.mk.injEq] at h
        obtain ⟨rfl, rfl⟩ := h
        rw [if_pos hc]
        exact ⟨q, rfl, h2⟩
      · cases h
    · cases h
  case seq x y =>
    split at h
    · rename_i s1 h1
      obtain ⟨q, h2, h3⟩ := ha _ _ _ _ _ hs h1
      rw [h2]
      exact ha _ _ _ _ _ h3 h
    · rename_i hn
      obtain ⟨q, h2, h3⟩ := ha _ _ _ _ _ hs h
      rw [h2]
      refine ⟨q, ?_, h3⟩
      split
      · rename_i s2 e2
        simp only [Option.some.injEq, Prod.mk.injEq] at e2
        obtain ⟨rfl, rfl⟩ := e2
        exact absurd h (hn r)
      · rfl
  case cond x y z =>
    have hx := rho_up hs.1 x
    split at h
    · rename_i e1; rw [e1] at hx; rw [hx.bool]; exact ha _ _ _ _ _ hs h
    · rename_i e1; rw [e1] at hx; rw [hx.bool]; exact ha _ _ _ _ _ hs h
    · cases h
  case block i x =>
    split at h
    · rename_i j s1 h1
      obtain ⟨q, h2, h3⟩ := ha _ _ _ _ _ hs h1
      rw [h2]
      simp only
      split at h
      · rename_i hj
        simp only [Option.some.injEq, Prod.mk.injEq] at h
        obtain ⟨rfl, rfl⟩ := h
        rw [if_pos hj]
        exact ⟨q, rfl, h3⟩
      · rename_i hj
        simp only [Option.some.injEq, Prod.mk.injEq] at h
        obtain ⟨rfl, rfl⟩ := h
        rw [if_neg hj]
        exact ⟨q, rfl, h3⟩
    · rename_i hn
      obtain ⟨q, h2, h3⟩ := ha _ _ _ _ _ hs h
      rw [h2]
      refine ⟨q, ?_, h3⟩
      split
      · rename_i j s2 e2
        simp only [Option.some.injEq, Prod.mk.injEq] at e2
        obtain ⟨rfl, rfl⟩ := e2
        exact absurd h (hn j r)
      · rfl
  case loop x =>
    split at h
    · rename_i s1 h1
      obtain ⟨q, h2, h3⟩ := ha _ _ _ _ _ hs h1
      rw [h2]
      exact ha _ _ _ _ _ h3 h
    · rename_i hn
      obtain ⟨q, h2, h3⟩ := ha _ _ _ _ _ hs h
      rw [h2]
      refine ⟨q, ?_, h3⟩
      split
      · rename_i s2 e2
        simp only [Option.some.injEq, Prod.mk.injEq] at e2
        obtain ⟨rfl, rfl⟩ := e2
        exact absurd h (hn r)
      · rfl
  case scope x y =>
    split at h
    · rename_i l s1 h1
      obtain ⟨q, h2, h3⟩ := ha _ _ _ _ _ hs h1
      rw [h2]
      simp only
      split at h
      · rename_i w hw
        try simp only [hw]
        exact ha _ _ _ _ _ h3 h
      · cases h
    · rename_i hn
      obtain ⟨q, h2, h3⟩ := ha _ _ _ _ _ hs h
      rw [h2]
      refine ⟨q, ?_, h3⟩
      split
      · rename_i j s2 e2
        simp only [Option.some.injEq, Prod.mk.injEq] at e2
        obtain ⟨rfl, rfl⟩ := e2
        exact absurd h (hn j r)
      · rfl
  case kill l x => exact ha _ ⟨killAll st.s l, st.g, st.nx⟩ _ _ _ ⟨killAll_up l hs.1, hs.2⟩ h
theorem ev_up (AP : AProg) : ∀ k, Up (ev AP k)
  | 0 => fun _ _ _ _ _ _ h => by simp [ev] at h
  | k + 1 => evStep_up (ev_up AP k)
/-- What a pure function answers to trees, it answers to trees that tell of more room. -/
theorem E.up {AP : AProg} {f : Nat} {args args' : List T} {v : T} (h : E AP f args v) (ha : UpL args args') : ∃ v', E AP f args' v' ∧ UpT v v' := by
  obtain ⟨k, h⟩ := h.get
  unfold evF at h
  split at h
  · rename_i F hF
    split at h
    · rename_i hp
      obtain ⟨v', h1, h2⟩ := runPure_up (ev_up AP k) ha h
      refine ⟨v', E_of (k := k) ?_, h2⟩
      unfold evF
      rw [hF]
      simp only [hp, if_true, h1]
    · cases h
  · cases h
end Go.Proofs.YtabfinhkoihhfaaGreat.Abs
