/- From the program's functions to the plain machine's. -/
import Derived.Test.YthanlobfjpjegaaC1
namespace Go.Proofs.Ythanlobfjpjegaa.Abs
open Go Go.RowKit
set_option linter.unusedVariables false
set_option linter.unusedSimpArgs false
set_option linter.unnecessarySimpa false

def chkOf (ops : Array Oper) (al : List AOper) : List (Nat × Nat) :=
  al.zipIdx.flatMap fun (y, j) => al.zipIdx.filterMap fun (x, i) => if decide (i < j) && !ordOf ops i j && !quiet x.op y.op then some (i, j) else none
def compC (P : Program) : Code → Option ACode
  | .skip => some .skip
  | .region _ ops draw => match compOpers P ops ops.toList with
    | some al => if draw then (if drawOk ops al (chkOf ops al) then some (.region al (chkOf ops al)) else none) else some (.region al [])
    | none => none
  | .seq a b => match compC P a, compC P b with | some x, some y => some (.seq x y) | _, _ => none
  | .cond c a b => match opd c, compC P a, compC P b with | some c, some x, some y => some (.cond c x y) | _, _, _ => none
  | .block i c => match compC P c with | some x => some (.block i x) | none => none
  | .loop c => match compC P c with | some x => some (.loop x) | none => none
  | .exit i => some (.exit i)
  | .ret => some .ret
  | .label l => some (.label l)
  | .goto l => some (.goto l)
  | .scope c => match compC P c with | some x => some (.scope x x) | none => none
  | _ => none
def strip : ACode → ACode
  | .kill _ c => strip c
  | .seq a b => .seq (strip a) (strip b)
  | .cond c a b => .cond c (strip a) (strip b)
  | .block i c => .block i (strip c)
  | .loop c => .loop (strip c)
  | .scope c d => .scope (strip c) (strip d)
  | c => c
theorem compC_ok {P : Program} : ∀ (ac : ACode) (c : Code), compC P c = some (strip ac) → OkC P ac c
  | .kill l a, c, h => by simp only [OkC]; exact compC_ok a c (by simpa only [strip] using h)
  | .skip, c, h => by cases c <;> simp only [compC, strip] at h <;> (repeat' split at h) <;> first | (simp at h; done) | simp only [OkC]
  | .region al chk, c, h => by
    cases c <;> simp only [compC, strip] at h <;> (repeat' split at h) <;> first
      | (simp at h; done)
      | (rename_i al' h1 h2 h3; simp at h; obtain ⟨rfl, rfl⟩ := h; simp only [OkC]; exact ⟨h1, fun _ => h3⟩)
      | (rename_i al' h1 h2; simp at h; obtain ⟨rfl, rfl⟩ := h; simp only [OkC]; exact ⟨h1, fun h => absurd h h2⟩)
  | .seq a b, c, h => by
    cases c <;> simp only [compC, strip] at h <;> (repeat' split at h) <;> first
      | (simp at h; done)
      | (rename_i x y h1 h2; simp at h; obtain ⟨rfl, rfl⟩ := h; simp only [OkC]; exact ⟨compC_ok a _ h1, compC_ok b _ h2⟩)
  | .cond q a b, c, h => by
    cases c <;> simp only [compC, strip] at h <;> (repeat' split at h) <;> first
      | (simp at h; done)
      | (rename_i z x y h0 h1 h2; simp at h; obtain ⟨rfl, rfl, rfl⟩ := h; simp only [OkC]; exact ⟨h0, compC_ok a _ h1, compC_ok b _ h2⟩)
  | .block i a, c, h => by
    cases c <;> simp only [compC, strip] at h <;> (repeat' split at h) <;> first
      | (simp at h; done)
      | (rename_i x h1; simp at h; obtain ⟨rfl, rfl⟩ := h; simp only [OkC]; exact ⟨trivial, compC_ok a _ h1⟩)
  | .loop a, c, h => by
    cases c <;> simp only [compC, strip] at h <;> (repeat' split at h) <;> first
      | (simp at h; done)
      | (rename_i x h1; simp at h; subst h; simp only [OkC]; exact compC_ok a _ h1)
  | .exit i, c, h => by cases c <;> simp only [compC, strip] at h <;> (repeat' split at h) <;> first | (simp at h; done) | (simp at h; subst h; simp only [OkC])
  | .ret, c, h => by cases c <;> simp only [compC, strip] at h <;> (repeat' split at h) <;> first | (simp at h; done) | simp only [OkC]
  | .label l, c, h => by cases c <;> simp only [compC, strip] at h <;> (repeat' split at h) <;> first | (simp at h; done) | (simp at h; subst h; simp only [OkC])
  | .goto l, c, h => by cases c <;> simp only [compC, strip] at h <;> (repeat' split at h) <;> first | (simp at h; done) | (simp at h; subst h; simp only [OkC])
  | .scope a b, c, h => by
    cases c <;> simp only [compC, strip] at h <;> (repeat' split at h) <;> first
      | (simp at h; done)
      | (rename_i x h1; simp at h; obtain ⟨h2, h3⟩ := h; simp only [OkC]; exact ⟨compC_ok a _ (by rw [h1, h2]), compC_ok b _ (by rw [h1, h3])⟩)

def compRes (P : Program) : List ResultVar → Option (List ARes)
  | [] => some []
  | .tmp t :: r => match compRes P r with | some s => some (.tmp t :: s) | none => none
  | .cell a t :: r => match oneOf P t, compRes P r with | some (one, n), some s => some (.cell a one n :: s) | _, _ => none
theorem compRes_ok {P : Program} : ∀ (l : List ResultVar) (as : List ARes), compRes P l = some as → okRes P l as
  | [], as, h => by simp [compRes] at h; subst h; simp only [okRes]
  | .tmp t :: r, as, h => by
    simp only [compRes] at h
    split at h
    · rename_i s h1; obtain rfl := Option.some.inj h; simp only [okRes]; exact ⟨trivial, compRes_ok r s h1⟩
    · cases h
  | .cell a t :: r, as, h => by
    simp only [compRes] at h
    split at h
    · rename_i one n s h1 h2; obtain rfl := Option.some.inj h; simp only [okRes]; exact ⟨trivial, h1, compRes_ok r s h2⟩
    · cases h
/-- A function, told: one equation for the kernel. -/
theorem fnOk_of {P : Program} {f : Nat} {F : AFun} {fn : Func} {c : Code} (h1 : P.funcs[f]? = some fn) (h2 : (fn.name == "runtime.NumGoroutine") = false) (h3 : fn.body = some c) (h4 : compC P c = some (strip F.body)) (h5 : fn.ntmps = F.ntmps) (h6 : compRes P fn.results.toList = some F.res) (h7 : F.nat = none) : FnOk P f F :=
  .inr ⟨h7, fn, c, h1, h2, h3, compC_ok _ _ h4, h5, compRes_ok _ _ h6⟩
end Go.Proofs.Ythanlobfjpjegaa.Abs
