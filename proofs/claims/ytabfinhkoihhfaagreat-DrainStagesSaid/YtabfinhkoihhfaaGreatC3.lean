/- The plain machine, part C3: texts C1 C2 C3 in one. -/
import Derived.Test.YtabfinhkoihhfaaGreatB9
import Derived.Lib.SliceRun
/- The plain machine's runs are the model's. -/
namespace Go.Proofs.YtabfinhkoihhfaaGreat.Abs
open Go Go.RowKit
set_option linter.unusedVariables false
set_option linter.unusedSimpArgs false
set_option linter.unnecessarySimpa false

/-- The code, but for slots that are let go. -/
def OkC (P : Program) : ACode → Code → Prop
  | .kill _ c, k => OkC P c k
  | .skip, .skip => True
  | .region al chk, .region _ ops draw => compOpers P ops ops.toList = some al ∧ (draw = true → drawOk ops al chk = true)
  | .seq a b, .seq c d => OkC P a c ∧ OkC P b d
  | .cond c a b, .cond c' k l => opd c' = some c ∧ OkC P a k ∧ OkC P b l
  | .block i c, .block j k => i = j ∧ OkC P c k
  | .loop c, .loop k => OkC P c k
  | .exit i, .exit j => i = j
  | .ret, .ret => True
  | .label i, .label j => i = j
  | .goto i, .goto j => i = j
  | .scope c d, .scope k => OkC P c k ∧ OkC P d k
  | _, _ => False

def AExit.toE : AExit → Exit
  | .normal => .normal
  | .exit i => .exit i
  | .goto l => .goto l
  | .ret => .ret

def okRes (P : Program) : List ResultVar → List ARes → Prop
  | [], [] => True
  | .tmp t :: r, .tmp u :: s => t = u ∧ okRes P r s
  | .cell a t :: r, .cell b one n :: s => a = b ∧ oneOf P t = some (one, n) ∧ okRes P r s
  | _, _ => False

/-- The function F of the plain program stands for the program's function f. -/
def FnOk (P : Program) (f : Nat) (F : AFun) : Prop := (∃ es bytes, F.nat = some (es, bytes) ∧ F.pure = true ∧ CloneOk P f es bytes ∧ ∃ fn, P.funcs[f]? = some fn ∧ (fn.name == "runtime.NumGoroutine") = false ∧ fn.body.isNone = false) ∨
  F.nat = none ∧ ∃ fn c, P.funcs[f]? = some fn ∧ (fn.name == "runtime.NumGoroutine") = false ∧ fn.body = some c ∧ OkC P F.body c ∧ fn.ntmps = F.ntmps ∧ okRes P fn.results.toList F.res

theorem afind_ok {P : Program} : ∀ (whole : ACode) (k : Code) (l : Nat) (r : ACode), OkC P whole k → afind whole l = some r → ∃ r', findLabel k l = some r' ∧ OkC P r r'
  | .kill _ c, k, l, r, h, hf => by simp only [OkC] at h; simp only [afind] at hf; exact afind_ok c k l r h hf
  | .seq a b, k, l, r, h, hf => by
    cases k <;> simp only [OkC] at h
    rename_i c d
    simp only [afind] at hf
    simp only [findLabel]
    split at hf
    · rename_i x hx
      obtain rfl := Option.some.inj hf
      obtain ⟨r', k1, k2⟩ := afind_ok a c l x h.1 hx
      exact ⟨.seq r' d, by rw [k1], by simp only [OkC]; exact ⟨k2, h.2⟩⟩
    · rename_i hx
      obtain ⟨r', k1, k2⟩ := afind_ok b d l r h.2 hf
      have hn : findLabel c l = none := by
        cases hc : findLabel c l with
        | none => rfl
        | some q =>
          exfalso
          have : ∀ (a : ACode) (c : Code) (q : Code), OkC P a c → findLabel c l = some q → afind a l ≠ none := by
            intro a
            induction a with
            | kill _ a ih => intro c q h hq; simp only [OkC] at h; simp only [afind]; exact ih c q h hq
            | seq a b iha ihb =>
              intro c q h hq
              cases c <;> simp only [OkC] at h
              rename_i c d
              simp only [findLabel] at hq
              simp only [afind]
              split at hq
              · rename_i x hx
                have := iha c x h.1 hx
                cases ha : afind a l with
                | none => exact absurd ha this
                | some y => simp
              · have := ihb d q h.2 hq
                cases ha : afind a l with
                | none => simpa using this
                | some y => simp
            | label i =>
              intro c q h hq
              cases c <;> simp only [OkC] at h
              subst h
              simp only [findLabel] at hq
              simp only [afind]
              split at hq
              · rename_i e; rw [if_pos e]; simp
              · cases hq
            | _ =>
              intro c q h hq
              cases c <;> simp only [OkC] at h <;> simp [findLabel] at hq
          exact this a c q h.1 hc hx
      exact ⟨r', by rw [hn]; exact k1, k2⟩
  | .label i, k, l, r, h, hf => by
    cases k <;> simp only [OkC] at h
    subst h
    simp only [afind] at hf
    simp only [findLabel]
    split at hf
    · rename_i e
      obtain rfl := Option.some.inj hf
      exact ⟨.skip, by rw [if_pos e], by simp only [OkC]⟩
    · cases hf
  | .skip, _, _, _, _, hf => by simp [afind] at hf
  | .region .., _, _, _, _, hf => by simp [afind] at hf
  | .cond .., _, _, _, _, hf => by simp [afind] at hf
  | .block .., _, _, _, _, hf => by simp [afind] at hf
  | .loop .., _, _, _, _, hf => by simp [afind] at hf
  | .exit .., _, _, _, _, hf => by simp [afind] at hf
  | .ret, _, _, _, _, hf => by simp [afind] at hf
  | .scope .., _, _, _, _, hf => by simp [afind] at hf
  | .goto .., _, _, _, _, hf => by simp [afind] at hf

section
variable {P : Program} {AP : AProg}

/-- rest runs inside the scope of c. -/
def wpScope (P : Program) (c rest : Code) (Q : Exit → Act → World → Prop) (a : Act) (w : World) : Prop :=
  ∀ (b : Frame) (k : List Item) (cs : List Frame), ∃ e a' w', Q e a' w' ∧ Arrives P (lone (b.at a (.code rest :: .inScope c :: k)) cs w) b k cs e a' w'
theorem wp_of_scope {c : Code} {Q : Exit → Act → World → Prop} {a : Act} {w : World} (h : wpScope P c c Q a w) : (Code.scope c).wp P Q a w := by
  intro b k cs
  obtain ⟨e, a', w', hq, harr⟩ := h b k cs
  exact ⟨e, a', w', hq, .of_steps (.one step_scope) harr⟩
theorem wpScope_of {c rest : Code} {Q : Exit → Act → World → Prop} {a : Act} {w : World} (h : rest.wp P (fun e a' w' => match e with
    | .goto l => ∃ r, findLabel c l = some r ∧ wpScope P c r Q a' w'
    | e => Q e a' w') a w) : wpScope P c rest Q a w := by
  intro b k cs
  obtain ⟨e, a₁, w₁, hq, harr⟩ := h b (.inScope c :: k) cs
  cases e with
  | normal => exact ⟨.normal, a₁, w₁, hq, Steps.trans harr (.one step_inScope)⟩
  | exit id => exact ⟨.exit id, a₁, w₁, hq, fun k' hk => harr k' (by simp [exitTo, hk])⟩
  | goto l =>
    obtain ⟨r, hr, hw⟩ := hq
    obtain ⟨e₂, a₂, w₂, hq₂, harr₂⟩ := hw b k cs
    exact ⟨e₂, a₂, w₂, hq₂, .of_steps (harr _ (by simp [gotoIn, hr])) harr₂⟩
  | ret => exact ⟨_, a₁, w₁, hq, harr⟩
  | panic ch => exact ⟨_, a₁, w₁, hq, harr⟩
  | outgrown => exact ⟨_, a₁, w₁, hq, harr⟩

def Sound (P : Program) (run : Run) : Prop :=
  ∀ (ac : ACode) (c : Code) (st st' : St) (e : AExit), OkC P ac c → run ac st = some (e, st') →
    ∀ (B : Nat) (W0 : World) (Z0 : Nat → Nat → Prop) (a : Act) (w : World) (Z : Nat → Nat → Prop) (μ : Nat → Option Loc) (Q : Exit → Act → World → Prop),
      VRL w Z μ st.s a.tmps.toList → Inv B W0 Z0 st.g w Z μ → (∀ t, st.nx ≤ t → μ t = none) →
      (∀ a' w' Z' μ', a'.defers = a.defers → VRL w' Z' μ' st'.s a'.tmps.toList → Inv B W0 Z0 st'.g w' Z' μ' → Pr w Z μ st.nx w' Z' μ' st'.nx → Q e.toE a' w') → c.wp P Q a w
def SoundL (P : Program) (n : Nat) (run : Run) : Prop :=
  ∀ (ac : ACode) (c : Code) (st st' : St) (e : AExit), OkC P ac c → run (.loop ac) st = some (e, st') →
    ∀ (B : Nat) (W0 : World) (Z0 : Nat → Nat → Prop) (a : Act) (w : World) (Z : Nat → Nat → Prop) (μ : Nat → Option Loc) (Q : Exit → Act → World → Prop),
      VRL w Z μ st.s a.tmps.toList → Inv B W0 Z0 st.g w Z μ → (∀ t, st.nx ≤ t → μ t = none) →
      (∀ a' w' Z' μ', a'.defers = a.defers → VRL w' Z' μ' st'.s a'.tmps.toList → Inv B W0 Z0 st'.g w' Z' μ' → Pr w Z μ st.nx w' Z' μ' st'.nx → Q e.toE a' w') → Code.rounds P c Q n a w
def SoundS (P : Program) (run : Run) : Prop :=
  ∀ (whole rest : ACode) (c r : Code) (st st' : St) (e : AExit), OkC P whole c → OkC P rest r → run (.scope whole rest) st = some (e, st') →
    ∀ (B : Nat) (W0 : World) (Z0 : Nat → Nat → Prop) (a : Act) (w : World) (Z : Nat → Nat → Prop) (μ : Nat → Option Loc) (Q : Exit → Act → World → Prop),
      VRL w Z μ st.s a.tmps.toList → Inv B W0 Z0 st.g w Z μ → (∀ t, st.nx ≤ t → μ t = none) →
      (∀ a' w' Z' μ', a'.defers = a.defers → VRL w' Z' μ' st'.s a'.tmps.toList → Inv B W0 Z0 st'.g w' Z' μ' → Pr w Z μ st.nx w' Z' μ' st'.nx → Q e.toE a' w') → wpScope P c r Q a w

theorem Pr.refl {w : World} {Z : Nat → Nat → Prop} {μ : Nat → Option Loc} {nx : Nat} (h : ∀ t, nx ≤ t → μ t = none) : Pr w Z μ nx w Z μ nx := ⟨ZLe.refl, MLe.refl, Nat.le_refl _, fun _ _ => rfl, h⟩
theorem Pr.trans {w w' w'' : World} {Z Z' Z'' : Nat → Nat → Prop} {μ μ' μ'' : Nat → Option Loc} {n n' n'' : Nat} (h : Pr w Z μ n w' Z' μ' n') (k : Pr w' Z' μ' n' w'' Z'' μ'' n'') : Pr w Z μ n w'' Z'' μ'' n'' :=
  ⟨h.z.trans k.z, h.m.trans k.m, Nat.le_trans h.n k.n, fun t ht => (k.old t (Nat.lt_of_lt_of_le ht h.n)).trans (h.old t ht), k.new⟩

theorem load_val {a : Act} {B : Nat} {W0 w : World} {Z0 Z : Nat → Nat → Prop} {g : Mem} {μ : Nat → Option Loc} {s : List T} (hi : Inv B W0 Z0 g w Z μ) (hs : VRL w Z μ s a.tmps.toList) {t : Nat} {ty : TypeId} {one : Bool} {n fr : Nat} (h1 : oneOf P ty = some (one, n)) {r : Res}
    (hr : opRes (.load one n (.tmp t)) fr s g = some r) : ∃ v ad, a.tmps.getD t undef = .pointer (some ad) ∧ (loadVar ty ad).run P w = .ok v w ∧ VR w Z μ r.v v := by
  have hv := rho_ok hs (x := .tmp t) (y := .tmp t) rfl
  simp only [Act.eval] at hv
  simp only [opRes] at hr
  have fin : ∀ {b p off : Nat} {c : List T} {rd : List Nat}, VD w Z μ b p c → off + n ≤ c.length → a.tmps.getD t undef = .pointer (some ⟨b, p + off, none⟩) →
      (if one then (match c[off]? with | some x => some (Res.mk x rd []) | none => none) else some ⟨.agg (cut c off n), rd, []⟩) = some r → ∃ v ad, a.tmps.getD t undef = .pointer (some ad) ∧ (loadVar ty ad).run P w = .ok v w ∧ VR w Z μ r.v v := by
    intro b p off c rd hd hn he hr
    have hl := load_run h1 hd hn
    cases one with
    | true =>
      obtain ⟨z, v, m1, m2, m3⟩ := hl
      simp only [if_true, m1] at hr
      obtain rfl := Option.some.inj hr
      exact ⟨v, _, he, by simpa [Instr.loadAt, Instr.sureAddr] using m3, m2⟩
    | false =>
      obtain ⟨vs, m1, m2⟩ := hl
      simp only [Bool.false_eq_true, if_false] at hr
      obtain rfl := Option.some.inj hr
      exact ⟨_, _, he, by simpa [Instr.loadAt, Instr.sureAddr] using m2, by simp only [VR]; exact ⟨_, rfl, by simpa using m1⟩⟩
  split at hr
  · rename_i t' off e
    rw [e] at hv
    split at hr
    · rename_i c hc
      split at hr
      · rename_i hn
        obtain ⟨m, k1, k2, k3, k4, k5, k6, k7⟩ := hi.blk _ _ hc
        simp only [VR] at hv
        obtain ⟨m', j1, j2⟩ := hv
        obtain rfl : m' = m := by rw [k1] at j1; exact (Option.some.inj j1).symm
        exact fin k7 hn j2 hr
      · cases hr
    · cases hr
  · rename_i c off e
    rw [e] at hv
    split at hr
    · rename_i hn
      simp only [VR, VI] at hv
      obtain ⟨b, p, j1, j2⟩ := hv
      exact fin (VC.vd j2) hn j1 hr
    · cases hr
  · cases hr

def resF (a : Act) : ResultVar → Sem Value
  | .tmp t => pure (a.tmps.getD t undef)
  | .cell q t => do loadVar t (← asAddr (a.tmps.getD q undef))
theorem results_eq (fn : Func) (a : Act) : results fn a.tmps = (do let vs ← fn.results.mapM (resF a); pure (if h : vs.size = 1 then vs[0] else .tuple vs)) := rfl
theorem results_ok {a : Act} {B : Nat} {W0 w : World} {Z0 Z : Nat → Nat → Prop} {g : Mem} {μ : Nat → Option Loc} {s : List T} (hi : Inv B W0 Z0 g w Z μ) (hs : VRL w Z μ s a.tmps.toList) : ∀ (rs : List ResultVar) (as : List ARes) (vs : List T), okRes P rs as → resL s g as = some vs →
    ∃ us : List Value, VRL w Z μ vs us ∧ (rs.mapM (resF a) : Sem (List Value)).run P w = .ok us w
  | [], [], vs, _, h => by simp [resL] at h; subst h; exact ⟨[], by simp [VRL], by simp⟩
  | .tmp t :: rs, .tmp u :: as, vs, ho, h => by
    simp only [okRes] at ho
    obtain ⟨rfl, ho⟩ := ho
    simp only [resL, resOne] at h
    split at h
    · rename_i v vs' e1 e2
      obtain rfl := Option.some.inj h
      obtain rfl := Option.some.inj e1
      obtain ⟨us, k1, k2⟩ := results_ok hi hs rs as vs' ho e2
      refine ⟨a.tmps.getD t undef :: us, by simp only [VRL]; exact ⟨_, _, rfl, rho_ok hs (x := .tmp t) (y := .tmp t) rfl, k1⟩, ?_⟩
      have hF : (resF a (.tmp t)).run P w = .ok (a.tmps.getD t undef) w := rfl
      rw [List.mapM_cons, Sem.run_bind, hF, Result.andThen_ok, Sem.run_bind, k2]; rfl
    · cases h
  | .cell q t :: rs, .cell b one n :: as, vs, ho, h => by
    simp only [okRes] at ho
    obtain ⟨rfl, h1, ho⟩ := ho
    simp only [resL, resOne] at h
    split at h
    · rename_i v vs' e1 e2
      obtain rfl := Option.some.inj h
      split at e1
      · rename_i r hr
        obtain rfl := Option.some.inj e1
        obtain ⟨u, ad, j1, j2, j3⟩ := load_val hi hs h1 hr
        obtain ⟨us, k1, k2⟩ := results_ok hi hs rs as vs' ho e2
        refine ⟨u :: us, by simp only [VRL]; exact ⟨_, _, rfl, j3, k1⟩, ?_⟩
        have hF : (resF a (.cell q t)).run P w = .ok u w := by
          show (do loadVar t (← asAddr (a.tmps.getD q undef)) : Sem Value).run P w = .ok u w
          rw [j1]
          simp only [asAddr, Sem.run_bind, Sem.run_pure, Result.andThen_ok]
          exact j2
        rw [List.mapM_cons, Sem.run_bind, hF, Result.andThen_ok, Sem.run_bind, k2]; rfl
      · cases e1
    · cases h
  | [], _ :: _, _, ho, _ => by simp [okRes] at ho
  | .tmp _ :: _, [], _, ho, _ => by simp [okRes] at ho
  | .cell _ _ :: _, [], _, ho, _ => by simp [okRes] at ho
  | .tmp _ :: _, .cell .. :: _, _, ho, _ => by simp [okRes] at ho
  | .cell _ _ :: _, .tmp _ :: _, _, ho, _ => by simp [okRes] at ho

theorem resT_ok {a : Act} {B : Nat} {W0 w : World} {Z0 Z : Nat → Nat → Prop} {g : Mem} {μ : Nat → Option Loc} {s : List T} (hi : Inv B W0 Z0 g w Z μ) (hs : VRL w Z μ s a.tmps.toList) {fn : Func} {as : List ARes} {v : T} (ho : okRes P fn.results.toList as) (h : resT s g as = some v) :
    ∃ u, VR w Z μ v u ∧ (results fn a.tmps).run P w = .ok u w := by
  unfold resT at h
  have hmap : ∀ us : List Value, (fn.results.toList.mapM (resF a) : Sem (List Value)).run P w = .ok us w →
      (fn.results.mapM (resF a) : Sem (Array Value)).run P w = .ok us.toArray w := fun us h => by
    rw [← Array.toArray_toList (xs := fn.results), List.mapM_toArray, map_eq_pure_bind, Sem.run_bind, h]; rfl
  split at h
  · rename_i x e
    obtain rfl := Option.some.inj h
    obtain ⟨us, k1, k2⟩ := results_ok hi hs _ _ _ ho e
    simp only [VRL] at k1
    obtain ⟨u, us', rfl, j1, rfl⟩ := k1
    refine ⟨u, j1, ?_⟩
    rw [results_eq, Sem.run_bind, hmap _ k2]
    rfl
  · rename_i vs hne e
    obtain rfl := Option.some.inj h
    obtain ⟨us, k1, k2⟩ := results_ok hi hs _ _ _ ho e
    refine ⟨.tuple us.toArray, by simp only [VR]; exact ⟨_, rfl, by simpa using k1⟩, ?_⟩
    rw [results_eq, Sem.run_bind, hmap _ k2]
    have hl := k1.len
    have hne1 : us.toArray.size ≠ 1 := by
      intro h1
      simp at h1
      rw [h1] at hl
      match vs, hl with
      | [x], _ => exact hne x rfl
    simp only [Result.andThen_ok]
    rw [dif_neg hne1]
    rfl
  · cases h

/-- From bodies to calls. -/
theorem body_calls (hA : ∀ f F, AP f = some F → FnOk P f F) {run : Run} (hS : Sound P run) {f : Nat} {F : AFun} (hF : AP f = some F) (hnat : F.nat = none) {args : List T} {g : Mem} {nx : Nat} {v : T} {g' : Mem} {nx' : Nat} (h : runBody run F args g nx = some (v, g', nx'))
    {B : Nat} {W0 w : World} {Z0 Z : Nat → Nat → Prop} {μ : Nat → Option Loc} {vs : List Value} (hv : VRL w Z μ args vs) (hi : Inv B W0 Z0 g w Z μ) (hx : ∀ t, nx ≤ t → μ t = none) :
    Calls P f vs.toArray w (fun e w' => ∃ u Z' μ', e = .returned u ∧ VR w' Z' μ' v u ∧ Inv B W0 Z0 g' w' Z' μ' ∧ Pr w Z μ nx w' Z' μ' nx') := by
  obtain ⟨_, _, hφ, _⟩ | ⟨_, fn, c, f1, f2, f3, f4, f5, f6⟩ := hA f F hF
  · rw [hnat] at hφ; cases hφ
  unfold runBody at h
  split at h
  · rename_i e st he
    split at h
    · rename_i hl
      split at h
      · rename_i v' hv'
        simp at h
        obtain ⟨rfl, rfl, rfl⟩ := h
        refine calls_of_wp f1 f3 ?_
        refine hS F.body c _ _ _ f4 he B W0 Z0 _ w Z μ _ ?_ hi hx ?_
        · simp only [Array.toList_append]
          have hlen := hv.len
          refine hv.append ?_
          refine VRL.mk (by simp [f5, hlen]) fun i x u hx hu => ?_
          have e1 : x = .undef := by
            rw [List.getElem?_replicate] at hx
            split at hx
            · exact (Option.some.inj hx).symm
            · cases hx
          have e2 : u = Go.undef := by
            simp only [Array.toList_replicate, List.getElem?_replicate] at hu
            split at hu
            · exact (Option.some.inj hu).symm
            · cases hu
          rw [e1, e2]; simp only [VR, VI]
        · intro a' w' Z' μ' d1 d2 d3 d4
          obtain ⟨u, k1, k2⟩ := resT_ok d3 d2 f6 hv'
          cases e <;> simp [AExit.leaves] at hl
          · exact ⟨d1, u, k2, u, Z', μ', rfl, k1, d3, d4⟩
          · exact ⟨d1, u, k2, u, Z', μ', rfl, k1, d3, d4⟩
      · cases h
    · cases h
  · cases h

theorem enters_of (hA : ∀ f F, AP f = some F → FnOk P f F) : Enters P AP := fun f F hF => by
  obtain ⟨_, _, _, _, _, fn, f1, f2, f3⟩ | ⟨_, fn, c, f1, f2, f3, _⟩ := hA f F hF
  · exact ⟨fn, f1, f2, f3⟩
  exact ⟨fn, f1, f2, by rw [f3]; rfl⟩
theorem imp_of (hA : ∀ f F, AP f = some F → FnOk P f F) {run : Run} (hS : Sound P run) : ImpOk P AP run := fun f F args g nx v g' nx' hF hp h B W0 Z0 w Z μ vs hv hi hx => by
  have hnat : F.nat = none := by
    obtain ⟨_, _, _, h1, _⟩ | ⟨h1, _⟩ := hA f F hF
    · rw [hp] at h1; cases h1
    · exact h1
  exact body_calls hA hS hF hnat h hv hi hx
theorem pure_of (hA : ∀ f F, AP f = some F → FnOk P f F) {run : Run} (hS : Sound P run) : PureOk P AP run := by
  intro f F args v hF hnat h w Z vs hv hz
  unfold runPure at h
  split at h
  · rename_i v0 g nx h0
    split at h
    · rename_i v1 ids hf
      obtain rfl := Option.some.inj h
      have hi0 : Inv w.heap.size w Z (fun _ => none) w Z (fun _ => none) := ⟨Below.refl _ _, Nat.le_refl _, hz, fun (b o : Nat) h => .inl h, (fun t c h => by cases h), (fun t u ct cu m m' _ h _ _ _ => by cases h)⟩
      refine (body_calls hA hS hF hnat h0 (VIL.vr _ _ hv) hi0 (fun _ _ => rfl)).mono fun e w' ⟨u, Z', μ', he, hu, hi, hpr⟩ => ?_
      refine ⟨u, ZOf Z' g μ' ids, he, hi.bel, ZLe.trans hpr.z z_zof, ?_, ?_, frz_ok hi _ _ _ _ _ hf hu⟩
      · intro b o hb
        rcases hb with hb | ⟨t, ht, c, m, k1, k2, k3, _, _⟩
        · exact hi.zin b o hb
        · obtain ⟨m', j1, j2, j3, _⟩ := hi.blk t c k1
          rw [k2] at j1; obtain rfl := Option.some.inj j1
          omega
      · intro b o hb
        rcases hb with hb | ⟨t, ht, c, m, k1, k2, k3, _, _⟩
        · exact hi.zold b o hb
        · obtain ⟨m', j1, j2, j3, _⟩ := hi.blk t c k1
          rw [k2] at j1; obtain rfl := Option.some.inj j1
          right; omega
    · cases h
  · cases h

theorem clones_of (hA : ∀ f F, AP f = some F → FnOk P f F) : ClonesOk P AP := by
  intro f F es bytes hF hn
  obtain ⟨_, _, h1, _, h2, _⟩ | ⟨h1, _⟩ := hA f F hF
  · rw [hn] at h1; cases h1; exact h2
  · rw [hn] at h1; cases h1
theorem kill_ok {w : World} {Z : Nat → Nat → Prop} {μ : Nat → Option Loc} : ∀ (l : List Nat) (s : List T) (vs : List Value), VRL w Z μ s vs → VRL w Z μ (killAll s l) vs
  | [], s, vs, h => h
  | t :: l, s, vs, h => by
    refine kill_ok l (s.set t .junk) vs ?_
    refine VRL.mk (by simp [h.len]) fun i x v hx hv => ?_
    rw [List.getElem?_set] at hx
    split at hx
    · split at hx
      · obtain rfl := Option.some.inj hx; simp only [VR, VI]
      · cases hx
    · obtain ⟨u, k1, k2⟩ := h.get hx
      rw [hv] at k1; obtain rfl := Option.some.inj k1; exact k2

theorem sound_step (hM : P.follows .mixedOrders = true) (hA : ∀ f F, AP f = some F → FnOk P f F) {run : Run} {n : Nat} (hS : Sound P run) (hSS : SoundS P run) (hSL : SoundL P n run) : Sound P (evStep AP run) ∧ SoundS P (evStep AP run) ∧ SoundL P (n + 1) (evStep AP run) := by
  have hE := enters_of hA
  have HP := pure_of hA hS
  have HI := imp_of hA hS
  have HC := clones_of hA
  have hSS' : SoundS P (evStep AP run) := by
    intro whole rest c r st st' e ho hr h B W0 Z0 a w Z μ Q hs hi hx hk
    simp only [evStep] at h
    refine wpScope_of ?_
    split at h
    · rename_i l st1 h1
      split at h
      · rename_i ar ha
        obtain ⟨r', q1, q2⟩ := afind_ok whole c l ar ho ha
        refine hS rest r st st1 _ hr h1 B W0 Z0 a w Z μ _ hs hi hx fun a' w' Z' μ' d1 d2 d3 d4 => ?_
        exact ⟨r', q1, hSS whole ar c r' st1 st' e ho q2 h B W0 Z0 a' w' Z' μ' Q d2 d3 d4.new fun a'' w'' Z'' μ'' e1 e2 e3 e4 => hk a'' w'' Z'' μ'' (e1.trans d1) e2 e3 (d4.trans e4)⟩
      · cases h
    · rename_i hng
      refine hS rest r st st' e hr h B W0 Z0 a w Z μ _ hs hi hx fun a' w' Z' μ' d1 d2 d3 d4 => ?_
      cases e with
      | goto l => exact absurd h (hng l st')
      | normal => exact hk a' w' Z' μ' d1 d2 d3 d4
      | exit i => exact hk a' w' Z' μ' d1 d2 d3 d4
      | ret => exact hk a' w' Z' μ' d1 d2 d3 d4
  have hSL' : SoundL P (n + 1) (evStep AP run) := by
    intro x cx st st' e ho h B W0 Z0 a w Z μ Q hs hi hx hk
    simp only [evStep] at h
    rw [rounds_succ]
    split at h
    · rename_i st1 h1
      refine hS x cx st st1 .normal ho h1 B W0 Z0 a w Z μ _ hs hi hx fun a' w' Z' μ' d1 d2 d3 d4 => ?_
      exact hSL x cx st1 st' e ho h B W0 Z0 a' w' Z' μ' Q d2 d3 d4.new fun a'' w'' Z'' μ'' e1 e2 e3 e4 => hk a'' w'' Z'' μ'' (e1.trans d1) e2 e3 (d4.trans e4)
    · rename_i hng
      refine hS x cx st st' e ho h B W0 Z0 a w Z μ _ hs hi hx fun a' w' Z' μ' d1 d2 d3 d4 => ?_
      cases e with
      | normal => exact absurd h (hng st')
      | goto l => exact hk a' w' Z' μ' d1 d2 d3 d4
      | exit i => exact hk a' w' Z' μ' d1 d2 d3 d4
      | ret => exact hk a' w' Z' μ' d1 d2 d3 d4
  refine ⟨?_, hSS', hSL'⟩
  intro ac c st st' e ho h B W0 Z0 a w Z μ Q hs hi hx hk
  cases ac with
  | skip =>
    cases c <;> simp only [OkC] at ho
    simp only [evStep] at h
    simp at h; obtain ⟨rfl, rfl⟩ := h
    exact wp_skip (hk a w Z μ rfl hs hi (Pr.refl hx))
  | label l =>
    cases c <;> simp only [OkC] at ho
    simp only [evStep] at h
    simp at h; obtain ⟨rfl, rfl⟩ := h
    exact wp_label (hk a w Z μ rfl hs hi (Pr.refl hx))
  | exit i =>
    cases c <;> simp only [OkC] at ho
    subst ho
    simp only [evStep] at h
    simp at h; obtain ⟨rfl, rfl⟩ := h
    exact wp_exit (hk a w Z μ rfl hs hi (Pr.refl hx))
  | goto i =>
    cases c <;> simp only [OkC] at ho
    subst ho
    simp only [evStep] at h
    simp at h; obtain ⟨rfl, rfl⟩ := h
    exact wp_goto (hk a w Z μ rfl hs hi (Pr.refl hx))
  | ret =>
    cases c <;> simp only [OkC] at ho
    simp only [evStep] at h
    simp at h; obtain ⟨rfl, rfl⟩ := h
    exact wp_ret (hk a w Z μ rfl hs hi (Pr.refl hx))
  | kill l c' =>
    simp only [OkC] at ho
    simp only [evStep] at h
    exact hS c' c _ st' e ho h B W0 Z0 a w Z μ Q (kill_ok l _ _ hs) hi hx hk
  | seq x y =>
    cases c <;> simp only [OkC] at ho
    rename_i cx cy
    simp only [evStep] at h
    refine wp_seq ?_
    split at h
    · rename_i st1 h1
      refine hS x cx st st1 .normal ho.1 h1 B W0 Z0 a w Z μ _ hs hi hx fun a' w' Z' μ' d1 d2 d3 d4 => ?_
      exact hS y cy st1 st' e ho.2 h B W0 Z0 a' w' Z' μ' Q d2 d3 d4.new fun a'' w'' Z'' μ'' e1 e2 e3 e4 => hk a'' w'' Z'' μ'' (e1.trans d1) e2 e3 (d4.trans e4)
    · rename_i hng
      refine hS x cx st st' e ho.1 h B W0 Z0 a w Z μ _ hs hi hx fun a' w' Z' μ' d1 d2 d3 d4 => ?_
      cases e with
      | normal => exact absurd h (hng st')
      | goto l => exact hk a' w' Z' μ' d1 d2 d3 d4
      | exit i => exact hk a' w' Z' μ' d1 d2 d3 d4
      | ret => exact hk a' w' Z' μ' d1 d2 d3 d4
  | cond x y z =>
    cases c <;> simp only [OkC] at ho
    rename_i cc cy cz
    obtain ⟨o1, o2, o3⟩ := ho
    simp only [evStep] at h
    split at h
    · rename_i he
      exact wp_cond_true (vr_bool (rho_ok hs o1) he) (hS y cy st st' e o2 h B W0 Z0 a w Z μ Q hs hi hx hk)
    · rename_i he
      exact wp_cond_false (vr_bool (rho_ok hs o1) he) (hS z cz st st' e o3 h B W0 Z0 a w Z μ Q hs hi hx hk)
    · cases h
  | block i x =>
    cases c <;> simp only [OkC] at ho
    rename_i j cx
    obtain ⟨rfl, ho⟩ := ho
    simp only [evStep] at h
    refine wp_block ?_
    split at h
    · rename_i q st1 h1
      refine hS x cx st st1 (.exit q) ho h1 B W0 Z0 a w Z μ _ hs hi hx fun a' w' Z' μ' d1 d2 d3 d4 => ?_
      simp only [AExit.toE, Exit.inBlock]
      split at h
      · rename_i hq
        simp at h; obtain ⟨rfl, rfl⟩ := h
        rw [if_pos hq]; exact hk a' w' Z' μ' d1 d2 d3 d4
      · rename_i hq
        simp at h; obtain ⟨rfl, rfl⟩ := h
        rw [if_neg hq]; exact hk a' w' Z' μ' d1 d2 d3 d4
    · rename_i hng
      refine hS x cx st st' e ho h B W0 Z0 a w Z μ _ hs hi hx fun a' w' Z' μ' d1 d2 d3 d4 => ?_
      cases e with
      | exit q => exact absurd h (hng q st')
      | goto l => exact hk a' w' Z' μ' d1 d2 d3 d4
      | normal => exact hk a' w' Z' μ' d1 d2 d3 d4
      | ret => exact hk a' w' Z' μ' d1 d2 d3 d4
  | scope x y =>
    cases c <;> simp only [OkC] at ho
    rename_i cx
    obtain ⟨o1, o2⟩ := ho
    exact wp_of_scope (hSS' _ _ cx cx st st' e o1 o2 h B W0 Z0 a w Z μ Q hs hi hx hk)
  | region al chk =>
    cases c <;> simp only [OkC] at ho
    rename_i id ops draw
    obtain ⟨o1, o2⟩ := ho
    simp only [evStep, evRegion] at h
    split at h
    · rename_i st1 fps h1
      split at h
      · rename_i hck
        simp at h; obtain ⟨rfl, rfl⟩ := h
        obtain ⟨c1, c2⟩ := compOpers_get _ _ o1
        have c1' : al.length = ops.size := by simpa using c1
        cases draw with
        | false =>
          refine wp_region ?_
          rw [List.range_eq_range']
          refine plain_sound hE HC HP HI o1 (base := st.nx) (st' := st1) (w0 := w) (Zs := Z) (μ0 := μ) (defs := a.defers) hk ops.size 0 a w Z μ ⟨st.s, st.g, st.nx + al.length⟩ fps (by omega) (by simpa using h1) (by simp) rfl hs hi ZLe.refl MLe.refl (fun _ _ => rfl) (fun j _ _ => hx _ (by omega)) (fun t ht => hx t (by have := ht; simp only at this; omega))
        | true =>
          have hok := o2 rfl
          refine wp_region_any hM ?_
          obtain ⟨k1, k2⟩ := evOps_evL al 0 _ _ _ (by simpa using h1)
          have hs' : VRL w.drew Z μ st.s a.tmps.toList := VRL.mono ZLe.drew MLe.refl _ _ hs
          refine draw_sound hE HC HP HI o1 hok (base := st.nx) (st' := st1) (w0 := w) (Zs := Z) (μ0 := μ) (defs := a.defers) hk ops.size (al.zipIdx 0) _ a w.drew Z μ _ _ (by simp [c1']) (by simp) ?_ ?_ ?_ ?_ k1 ?_ (by simp) rfl hs' hi.drew ZLe.drew MLe.refl (fun _ _ => rfl) (fun x _ => hx _ (by omega)) (fun t ht => hx t (by simp only at ht; omega))
          · rw [List.pairwise_iff_getElem]
            intro i j hi hj hij
            simp only [List.getElem_zipIdx]
            omega
          · intro x hx
            exact List.mem_zipIdx_iff_getElem?.1 hx
          · intro i hi
            simp [Array.getD_eq_getD_getElem?, hi]
            exact ⟨al[i]'(by omega), by simp [List.mem_zipIdx_iff_getElem?]⟩
          · intro k o hk'
            simp [Array.getD_eq_getD_getElem?, Array.getElem?_replicate] at hk'
            split at hk' <;> simp at hk'
          · rw [List.pairwise_iff_getElem]
            intro i j hi hj hij hord
            simp only [List.getElem_map, List.getElem_zipIdx, Nat.zero_add] at hord ⊢
            simp at hi hj
            obtain ⟨d1, d2⟩ := drawOk_spec hok
            have hil : i < al.length := by omega
            have hjl : j < al.length := by omega
            obtain ⟨p, p1, p2⟩ := evOps_fp al _ _ _ _ h1 i al[i] (List.getElem?_eq_getElem hil)
            obtain ⟨q, q1, q2⟩ := evOps_fp al _ _ _ _ h1 j al[j] (List.getElem?_eq_getElem hjl)
            have e1 : fps[i] = p := by rw [List.getElem?_eq_getElem hi] at p1; exact Option.some.inj p1
            have e2 : fps[j] = q := by rw [List.getElem?_eq_getElem hj] at q1; exact Option.some.inj q1
            rcases (d2 i j al[i] al[j] hij (List.getElem?_eq_getElem hil) (List.getElem?_eq_getElem hjl) hord).2 with hq | hc
            · rw [e1, e2]; exact quiet_ind hq p2 q2
            · have := List.all_eq_true.1 hck (i, j) hc
              simp only [List.getD_eq_getElem?_getD, List.getElem?_eq_getElem hi, List.getElem?_eq_getElem hj, Option.getD_some] at this
              exact apart_ind this
      · cases h
    · cases h
  | loop x =>
    cases c <;> simp only [OkC] at ho
    rename_i cx
    exact wp_loop_rounds (n + 1) (hSL' x cx st st' e ho h B W0 Z0 a w Z μ Q hs hi hx hk)
theorem sound_all (hM : P.follows .mixedOrders = true) (hA : ∀ f F, AP f = some F → FnOk P f F) : ∀ k, Sound P (ev AP k) ∧ SoundS P (ev AP k) ∧ SoundL P k (ev AP k)
  | 0 => ⟨fun _ _ _ _ _ _ h => by simp [ev] at h, fun _ _ _ _ _ _ _ _ _ h => by simp [ev] at h, fun _ _ _ _ _ _ h => by simp [ev] at h⟩
  | k + 1 => by
    obtain ⟨h1, h2, h3⟩ := sound_all hM hA k
    exact sound_step hM hA h1 h2 h3
/-- THE LAW: what a pure function of the plain program yields, the program's function returns, and nothing that was there is changed. -/
theorem evF_calls (hM : P.follows .mixedOrders = true) (hA : ∀ f F, AP f = some F → FnOk P f F) {k f : Nat} {args : List T} {v : T} (h : evF AP k f args = some v) {w : World} {Z : Nat → Nat → Prop} {vs : List Value} (hv : VIL w Z args vs) (hz : ∀ b o, Z b o → b < w.heap.size) :
    Calls P f vs.toArray w (fun e w' => ∃ u Z', e = .returned u ∧ Below w.heap.size w w' ∧ ZLe w w' Z Z' ∧ (∀ b o, Z' b o → b < w'.heap.size) ∧ (∀ b o, Z' b o → Z b o ∨ w.heap.size ≤ b) ∧ VI w' Z' v u) := by
  unfold evF at h
  split at h
  · rename_i F hF
    split at h
    · rename_i hp
      simp only [Bool.and_eq_true, Option.isNone_iff_eq_none] at hp
      exact pure_of hA (sound_all hM hA k).1 f F args v hF hp.2 h w Z vs hv hz
    · cases h
  · cases h
end
end Go.Proofs.YtabfinhkoihhfaaGreat.Abs

/- From the program's functions to the plain machine's. -/
namespace Go.Proofs.YtabfinhkoihhfaaGreat.Abs
open Go Go.RowKit
set_option linter.unusedVariables false
set_option linter.unusedSimpArgs false
set_option linter.unnecessarySimpa false

def chkOf (ops : Array Oper) (al : List AOper) : List (Nat × Nat) :=
  al.zipIdx.flatMap fun (y, j) => al.zipIdx.filterMap fun (x, i) => if decide (i < j) && !ordOf ops i j && !quiet x.op y.op then some (i, j) else none
def compC (P : Program) : Code → Option ACode
  | .skip => some .skip
  | .region _ ops draw => match compOpers P ops ops.toList with
    | some al => if draw then (if drawOk ops al (chkOf ops al) then some (.region al (chkOf ops al)) else none) else some (.region al [])
    | none => none
  | .seq a b => match compC P a, compC P b with | some x, some y => some (.seq x y) | _, _ => none
  | .cond c a b => match opd c, compC P a, compC P b with | some c, some x, some y => some (.cond c x y) | _, _, _ => none
  | .block i c => match compC P c with | some x => some (.block i x) | none => none
  | .loop c => match compC P c with | some x => some (.loop x) | none => none
  | .exit i => some (.exit i)
  | .ret => some .ret
  | .label l => some (.label l)
  | .goto l => some (.goto l)
  | .scope c => match compC P c with | some x => some (.scope x x) | none => none
  | _ => none
def strip : ACode → ACode
  | .kill _ c => strip c
  | .seq a b => .seq (strip a) (strip b)
  | .cond c a b => .cond c (strip a) (strip b)
  | .block i c => .block i (strip c)
  | .loop c => .loop (strip c)
  | .scope c d => .scope (strip c) (strip d)
  | c => c
theorem compC_ok {P : Program} : ∀ (ac : ACode) (c : Code), compC P c = some (strip ac) → OkC P ac c
  | .kill l a, c, h => by simp only [OkC]; exact compC_ok a c (by simpa only [strip] using h)
  | .skip, c, h => by cases c <;> simp only [compC, strip] at h <;> (repeat' split at h) <;> first | (simp at h; done) | simp only [OkC]
  | .region al chk, c, h => by
    cases c <;> simp only [compC, strip] at h <;> (repeat' split at h) <;> first
      | (simp at h; done)
      | (rename_i al' h1 h2 h3; simp at h; obtain ⟨rfl, rfl⟩ := h; simp only [OkC]; exact ⟨h1, fun _ => h3⟩)
      | (rename_i al' h1 h2; simp at h; obtain ⟨rfl, rfl⟩ := h; simp only [OkC]; exact ⟨h1, fun h => absurd h h2⟩)
  | .seq a b, c, h => by
    cases c <;> simp only [compC, strip] at h <;> (repeat' split at h) <;> first
      | (simp at h; done)
      | (rename_i x y h1 h2; simp at h; obtain ⟨rfl, rfl⟩ := h; simp only [OkC]; exact ⟨compC_ok a _ h1, compC_ok b _ h2⟩)
  | .cond q a b, c, h => by
    cases c <;> simp only [compC, strip] at h <;> (repeat' split at h) <;> first
      | (simp at h; done)
      | (rename_i z x y h0 h1 h2; simp at h; obtain ⟨rfl, rfl, rfl⟩ := h; simp only [OkC]; exact ⟨h0, compC_ok a _ h1, compC_ok b _ h2⟩)
  | .block i a, c, h => by
    cases c <;> simp only [compC, strip] at h <;> (repeat' split at h) <;> first
      | (simp at h; done)
      | (rename_i x h1; simp at h; obtain ⟨rfl, rfl⟩ := h; simp only [OkC]; exact ⟨trivial, compC_ok a _ h1⟩)
  | .loop a, c, h => by
    cases c <;> simp only [compC, strip] at h <;> (repeat' split at h) <;> first
      | (simp at h; done)
      | (rename_i x h1; simp at h; subst h; simp only [OkC]; exact compC_ok a _ h1)
  | .exit i, c, h => by cases c <;> simp only [compC, strip] at h <;> (repeat' split at h) <;> first | (simp at h; done) | (simp at h; subst h; simp only [OkC])
  | .ret, c, h => by cases c <;> simp only [compC, strip] at h <;> (repeat' split at h) <;> first | (simp at h; done) | simp only [OkC]
  | .label l, c, h => by cases c <;> simp only [compC, strip] at h <;> (repeat' split at h) <;> first | (simp at h; done) | (simp at h; subst h; simp only [OkC])
  | .goto l, c, h => by cases c <;> simp only [compC, strip] at h <;> (repeat' split at h) <;> first | (simp at h; done) | (simp at h; subst h; simp only [OkC])
  | .scope a b, c, h => by
    cases c <;> simp only [compC, strip] at h <;> (repeat' split at h) <;> first
      | (simp at h; done)
      | (rename_i x h1; simp at h; obtain ⟨h2, h3⟩ := h; simp only [OkC]; exact ⟨compC_ok a _ (by rw [h1, h2]), compC_ok b _ (by rw [h1, h3])⟩)

def compRes (P : Program) : List ResultVar → Option (List ARes)
  | [] => some []
  | .tmp t :: r => match compRes P r with | some s => some (.tmp t :: s) | none => none
  | .cell a t :: r => match oneOf P t, compRes P r with | some (one, n), some s => some (.cell a one n :: s) | _, _ => none
theorem compRes_ok {P : Program} : ∀ (l : List ResultVar) (as : List ARes), compRes P l = some as → okRes P l as
  | [], as, h => by simp [compRes] at h; subst h; simp only [okRes]
  | .tmp t :: r, as, h => by
    simp only [compRes] at h
    split at h
    · rename_i s h1; obtain rfl := Option.some.inj h; simp only [okRes]; exact ⟨trivial, compRes_ok r s h1⟩
    · cases h
  | .cell a t :: r, as, h => by
    simp only [compRes] at h
    split at h
    · rename_i one n s h1 h2; obtain rfl := Option.some.inj h; simp only [okRes]; exact ⟨trivial, h1, compRes_ok r s h2⟩
    · cases h
/-- A function, told: one equation for the kernel. -/
theorem fnOk_of {P : Program} {f : Nat} {F : AFun} {fn : Func} {c : Code} (h1 : P.funcs[f]? = some fn) (h2 : (fn.name == "runtime.NumGoroutine") = false) (h3 : fn.body = some c) (h4 : compC P c = some (strip F.body)) (h5 : fn.ntmps = F.ntmps) (h6 : compRes P fn.results.toList = some F.res) (h7 : F.nat = none) : FnOk P f F :=
  .inr ⟨h7, fn, c, h1, h2, h3, compC_ok _ _ h4, h5, compRes_ok _ _ h6⟩
end Go.Proofs.YtabfinhkoihhfaaGreat.Abs

/- slices.Clone: told by its answer alone, for it asks whether its argument is nil. -/
namespace Go.Proofs.YtabfinhkoihhfaaGreat.Abs
open Go Go.RowKit
set_option linter.unusedVariables false
set_option linter.unusedSimpArgs false
set_option linter.unnecessarySimpa false

section
variable {P : Program} {f : Nat} {fn : Func} {ty E : TypeId} {i : TypeInfo} {z : List T} {r0 r1 r2 r3 : Nat} {o0 o1 o2 o3 o4 o5 o6 o7 : Oper} {t2 : TypeId}
theorem Inv.allocX {B : Nat} {W0 w : World} {Z0 Z : Nat → Nat → Prop} {g : Mem} {μ : Nat → Option Loc} (h : Inv B W0 Z0 g w Z μ) (ob : Obj) : Inv B W0 Z0 g (w.alloc ob) Z μ := by
  have hsz : (w.alloc ob).heap.size = w.heap.size + 1 := by simp
  refine ⟨h.bel.alloc h.base _, by rw [hsz]; have := h.base; omega, fun b o hb => by rw [hsz]; have := h.zin b o hb; omega, h.zold, fun u cu hu => ?_, h.dis⟩
  obtain ⟨mu, k1, k2, k3, k4, k5, k6, k7⟩ := h.blk u cu hu
  exact ⟨mu, k1, k2, by rw [hsz]; omega, k4, World.there_alloc k5 _, k6, k7.mono (ZLe.alloc h.zin _) MLe.refl fun i hi => World.cell?_alloc_lt _ _ _ k3⟩
theorem wpOp_goes {ops : Array Oper} {j : Nat} {o : Oper} {v : Value} {a : Act} {w w' : World} {Q : Exit → Act → World → Prop} {K : Act → World → Prop} (ho : ops[j]? = some o) (hg : o.guard = none) (h : Goes P o a w v w') (hk : K (a.put o.dst v) w') : wpOp P ops Q j K a w := by
  unfold wpOp
  simp only [ho, Region.wanted, hg, if_true]
  exact .inl (h _ _ hk)
theorem region1 {id : Nat} {o : Oper} {v : Value} {a : Act} {w : World} {Q : Exit → Act → World → Prop} (hg : o.guard = none) (h : Goes P o a w v w) (hq : Q .normal (a.put o.dst v) w) : (Code.region id #[o] false).wp P Q a w := by
  refine wp_region ?_
  have : List.range (#[o] : Array Oper).size = [0] := rfl
  rw [this, wpOps_cons]
  exact wpOp_goes (o := o) rfl hg h hq
theorem region2 {id : Nat} {o o' : Oper} {v v' : Value} {a : Act} {w : World} {Q : Exit → Act → World → Prop} (hg : o.guard = none) (hg' : o'.guard = none) (h : Goes P o a w v w) (h' : Goes P o' (a.put o.dst v) w v' w) (hq : Q .normal ((a.put o.dst v).put o'.dst v') w) : (Code.region id #[o, o'] false).wp P Q a w := by
  refine wp_region ?_
  have : List.range (#[o, o'] : Array Oper).size = [0, 1] := rfl
  rw [this, wpOps_cons]
  refine wpOp_goes (o := o) rfl hg h ?_
  rw [wpOps_cons]
  exact wpOp_goes (o := o') rfl hg' h' hq

theorem clone_ok (hf : P.funcs[f]? = some fn)
    (hb : fn.body = some (Code.seq (.region r0 #[o0] false) (.seq (.seq (.region r1 #[o1, o2] false) (.cond (.tmp 4) (.seq (.region r2 #[o3] false) .ret) .skip)) (.seq (.region r3 #[o4, o5, o6, o7] false) .ret))))
    (h0 : o0.op = .assign (.const (.slice none 0 0)) ∧ o0.dst = some 2 ∧ o0.guard = none) (h1 : o1.op = .move (.tmp 0) ∧ o1.dst = some 3 ∧ o1.guard = none)
    (h2 : o2.op = .binOp .eql ty (.tmp 3) (.const (.slice none 0 0)) t2 ∧ o2.dst = some 4 ∧ o2.guard = none) (h3 : o3.op = .assign (.const (.slice none 0 0)) ∧ o3.dst = some 2 ∧ o3.guard = none)
    (h4 : o4.op = .buildSlice ty 0 #[] ∧ o4.dst = some 5 ∧ o4.guard = none) (h5 : o5.op = .move (.tmp 0) ∧ o5.dst = some 6 ∧ o5.guard = none)
    (h6 : o6.op = .call { callee := .builtin .append, args := #[.tmp 5, .tmp 6], argTypes := #[ty, ty] } ∧ o6.dst = some 7 ∧ o6.guard = none) (h7 : o7.op = .assign (.tmp 7) ∧ o7.dst = some 2 ∧ o7.guard = none)
    (hn : fn.ntmps = 8) (hr : fn.results = #[.tmp 2]) (hT : P.underlying ty = some (.slice E)) (hz : zc P E = some z) (hi : P.info? E = some i) : CloneOk P f i.size i.bytes := by
  intro B W0 Z0 g w Z μ fr x v n c rd hinv hfr hvx hcl c1 c2 c3 c4
  obtain ⟨i', zv, z1, z2, z3, hpos, z5⟩ := zc_ok hz
  obtain rfl : i' = i := by rw [hi] at z1; exact (Option.some.inj z1).symm
  obtain ⟨a, cap, news, rfl, k2, k3, k4, k5, k6⟩ := src_ok hinv hcl hvx hpos c1 c2
  refine calls_of_wp hf hb ?_
  have htm : (#[Value.slice a n cap] ++ Array.replicate (fn.ntmps - (#[Value.slice a n cap] : Array Value).size) Go.undef) = #[.slice a n cap, Go.undef, Go.undef, Go.undef, Go.undef, Go.undef, Go.undef, Go.undef] := by rw [hn]; rfl
  rw [htm]
  have hres2 : ∀ (a : Act) (w : World), (results fn a.tmps).run P w = .ok (a.tmps.getD 2 Go.undef) w := fun a w => by
    have hl : (#[ResultVar.tmp 2] : Array ResultVar) = [ResultVar.tmp 2].toArray := rfl
    rw [results_eq, hr, hl, List.mapM_toArray]
    simp [resF]
  have nilcase : ∀ {o : Oper} {a' : Act}, o.op = .assign (.const (.slice none 0 0)) → Goes P o a' w (.slice none 0 0) w := fun {o a'} ho => goes_value (by unfold execOp; rw [ho]; rfl)
  have hnil : ∀ {w : World}, VR w Z μ (.imm true 0 []) (.slice none 0 0) := fun {w} => by simp only [VR, VI]; exact ⟨none, 0, rfl, Nat.le_refl _, by simp, .inl trivial⟩
  have hu : ∀ {w : World}, VR w Z μ .undef Go.undef := fun {w} => by simp only [VR, VI]
  refine wp_seq (region1 h0.2.2 (nilcase h0.1) ?_)
  rw [h0.2.1]
  refine wp_seq (wp_seq (region2 (v := .slice a n cap) (v' := .bool a.isNone) h1.2.2 h2.2.2 (goes_value ?_) (goes_value ?_) ?_))
  · unfold execOp; rw [h1.1]; rfl
  · unfold execOp; rw [h2.1, h1.2.1]
    have he : (binOp .eql ty (.slice a n cap) (.slice none 0 0)).run P w = .ok (.bool a.isNone) w := Lib.run_eql_slice_nil w ty E a n cap 0 0 hT
    have hgd : (eqGuard .eql ty (.tmp 3) (.const (.slice none 0 0)) (.slice a n cap) (.slice none 0 0)).run P w = .ok () w := by simp [eqGuard]
    have h4' : (do eqGuard .eql ty (.tmp 3) (.const (.slice none 0 0)) (.slice a n cap) (.slice none 0 0); binOp .eql ty (.slice a n cap) (.slice none 0 0) : Sem Value).run P w = .ok (.bool a.isNone) w := by
      rw [Sem.run_bind, hgd, Result.andThen_ok, he]
    exact run_v h4'
  · rw [h1.2.1, h2.2.1]
    cases ha : a with
    | none =>
      refine wp_cond_true (by simp [Act.eval, Act.put, ha]) (wp_seq (region1 h3.2.2 (nilcase h3.1) (wp_ret ?_)))
      have hn0 : n = 0 := by
        rcases Nat.eq_zero_or_pos n with h | h
        · exact h
        · obtain ⟨b, p, e⟩ := k4 h; rw [ha] at e; cases e
      subst hn0
      rw [h3.2.1]
      refine ⟨rfl, .slice none 0 0, by rw [hres2]; rfl, .slice none 0 0, μ, rfl, by rw [if_pos rfl]; exact hnil, by rw [if_pos rfl]; exact hinv, ZLe.refl, MLe.refl, fun _ _ => rfl⟩
    | some ad =>
      rw [ha] at hvx
      refine wp_cond_false (by simp [Act.eval, Act.put, ha]) (wp_skip ?_)
      refine wp_seq (wp_region ?_)
      have hrange : List.range (#[o4, o5, o6, o7] : Array Oper).size = [0, 1, 2, 3] := rfl
      rw [hrange, wpOps_cons]
      -- an empty slice, in a block of its own
      have g4 : ∀ a' : Act, Goes P o4 a' w (.slice (some ⟨w.heap.size, 0, none⟩) 0 0) (w.alloc (.cells #[] E)) := fun a' => goes_value (by
        unfold execOp; rw [h4.1]
        refine run_v ?_
        have hr0 : Array.range 0 = #[] := rfl
        simp [Instr.buildSlice, run_underlying hT, sizeOf, typeInfo, hi, newRow, hr0, Instr.fill])
      refine wpOp_goes (o := o4) rfl h4.2.2 (g4 _) ?_
      rw [wpOps_cons, h4.2.1]
      refine wpOp_goes (o := o5) rfl h5.2.2 (v := .slice (some ad) n cap) (goes_value (by unfold execOp; rw [h5.1]; rfl)) ?_
      rw [wpOps_cons, h5.2.1]
      have hinv1 := hinv.allocX (.cells #[] E)
      have hz1 : ZLe w (w.alloc (.cells #[] E)) Z Z := ZLe.alloc hinv.zin _
      have hvx1 := VR.mono (w' := w.alloc (.cells #[] E)) hz1 MLe.refl _ _ hvx
      have hem : VR (w.alloc (.cells #[] E)) Z μ (.imm true 0 []) (.slice (some ⟨w.heap.size, 0, none⟩) 0 0) := by simp only [VR, VI]; exact ⟨_, 0, rfl, Nat.le_refl _, by simp, .inl trivial⟩
      have hslots : ∀ (a' : Act), a'.tmps = #[.slice (some ad) n cap, Go.undef, .slice none 0 0, .slice (some ad) n cap, .bool false, .slice (some ⟨w.heap.size, 0, none⟩) 0 0, .slice (some ad) n cap, Go.undef] →
          VRL (w.alloc (.cells #[] E)) Z μ [x, .undef, .imm true 0 [], x, .bool false, .imm true 0 [], x, .undef] a'.tmps.toList := fun a' h => by
        rw [h]
        have hbf : VR (w.alloc (.cells #[] E)) Z μ (.bool false) (.bool false) := by simp only [VR, VI]
        exact ⟨_, _, rfl, hvx1, _, _, rfl, hu, _, _, rfl, hnil, _, _, rfl, hvx1, _, _, rfl, hbf, _, _, rfl, hem, _, _, rfl, hvx1, _, _, rfl, hu, rfl⟩
      have hallnil : allLeaf ([] : List T) = true := rfl
      by_cases hn0 : n = 0
      · subst hn0
        have hc0 : c = [] := List.eq_nil_of_length_eq_zero (by simpa using c1)
        have hop : opRes (.append i'.size i'.bytes (.tmp 5) (.tmp 6)) fr [x, .undef, .imm true 0 [], x, .bool false, .imm true 0 [], x, .undef] g = some ⟨.imm true 0 [], rd, []⟩ := by
          simp [opRes, rho, hcl, hc0]
        obtain ⟨v, w', μ', q1, q2, q3, q4, q5, q6⟩ := append_ok (a := ⟨#[.slice (some ad) 0 cap, Go.undef, .slice none 0 0, .slice (some ad) 0 cap, .bool false, .slice (some ⟨w.heap.size, 0, none⟩) 0 0, .slice (some ad) 0 cap, Go.undef], []⟩) hinv1 hfr (hslots _ rfl) h6.1 rfl rfl hT hT hz hi (sl' := .tmp 5) (x' := .tmp 6) rfl rfl hop
        refine wpOp_goes (o := o6) rfl h6.2.2 q1 ?_
        rw [wpOps_cons, h6.2.1]
        refine wpOp_goes (o := o7) rfl h7.2.2 (v := v) (goes_value (by unfold execOp; rw [h7.1]; rfl)) ?_
        rw [h7.2.1]
        refine wp_ret ⟨rfl, v, by rw [hres2]; rfl, v, μ', rfl, by rw [if_pos rfl]; exact q2, by rw [if_pos rfl]; simpa [putAll] using q3, hz1.trans q4, q5, q6⟩
      · have hsz : (0 + n) * i'.bytes ≤ room ∧ 0 + n ≤ room := by rw [Nat.zero_add]; exact ⟨c3, c4⟩
        have hop : opRes (.append i'.size i'.bytes (.tmp 5) (.tmp 6)) fr [x, .undef, .imm true 0 [], x, .bool false, .imm true 0 [], x, .undef] g = some ⟨.own fr 0 n i'.size, rd, [(fr, some c)]⟩ := by
          simp [opRes, rho, hcl, hn0, c1, c2, c3, c4, hallnil]
        obtain ⟨v, w', μ', q1, q2, q3, q4, q5, q6⟩ := append_ok (a := ⟨#[.slice (some ad) n cap, Go.undef, .slice none 0 0, .slice (some ad) n cap, .bool false, .slice (some ⟨w.heap.size, 0, none⟩) 0 0, .slice (some ad) n cap, Go.undef], []⟩) hinv1 hfr (hslots _ rfl) h6.1 rfl rfl hT hT hz hi (sl' := .tmp 5) (x' := .tmp 6) rfl rfl hop
        refine wpOp_goes (o := o6) rfl h6.2.2 q1 ?_
        rw [wpOps_cons, h6.2.1]
        refine wpOp_goes (o := o7) rfl h7.2.2 (v := v) (goes_value (by unfold execOp; rw [h7.1]; rfl)) ?_
        rw [h7.2.1]
        refine wp_ret ⟨rfl, v, by rw [hres2]; rfl, v, μ', rfl, by rw [if_neg hn0]; exact q2, by rw [if_neg hn0]; simpa [putAll] using q3, hz1.trans q4, q5, q6⟩
theorem clone_ok2 {es bytes : Nat} (hf : P.funcs[f]? = some fn)
    (hb : fn.body = some (Code.seq (.region r0 #[o0] false) (.seq (.seq (.region r1 #[o1, o2] false) (.cond (.tmp 4) (.seq (.region r2 #[o3] false) .ret) .skip)) (.seq (.region r3 #[o4, o5, o6, o7] false) .ret))))
    (h0 : o0.op = .assign (.const (.slice none 0 0)) ∧ o0.dst = some 2 ∧ o0.guard = none) (h1 : o1.op = .move (.tmp 0) ∧ o1.dst = some 3 ∧ o1.guard = none)
    (h2 : o2.op = .binOp .eql ty (.tmp 3) (.const (.slice none 0 0)) t2 ∧ o2.dst = some 4 ∧ o2.guard = none) (h3 : o3.op = .assign (.const (.slice none 0 0)) ∧ o3.dst = some 2 ∧ o3.guard = none)
    (h4 : o4.op = .buildSlice ty 0 #[] ∧ o4.dst = some 5 ∧ o4.guard = none) (h5 : o5.op = .move (.tmp 0) ∧ o5.dst = some 6 ∧ o5.guard = none)
    (h6 : o6.op = .call { callee := .builtin .append, args := #[.tmp 5, .tmp 6], argTypes := #[ty, ty] } ∧ o6.dst = some 7 ∧ o6.guard = none) (h7 : o7.op = .assign (.tmp 7) ∧ o7.dst = some 2 ∧ o7.guard = none)
    (hn : fn.ntmps = 8) (hr : fn.results = #[.tmp 2]) (hT : P.underlying ty = some (.slice E)) (hz : (zc P E).isSome = true) (hi : (P.info? E).map (fun i => (i.size, i.bytes)) = some (es, bytes)) : CloneOk P f es bytes := by
  cases hz' : zc P E with
  | none => rw [hz'] at hz; cases hz
  | some z =>
    cases hi' : P.info? E with
    | none => rw [hi'] at hi; cases hi
    | some i =>
      rw [hi'] at hi
      simp at hi
      obtain ⟨rfl, rfl⟩ := hi
      exact clone_ok hf hb h0 h1 h2 h3 h4 h5 h6 h7 hn hr hT hz' hi'
end
end Go.Proofs.YtabfinhkoihhfaaGreat.Abs
