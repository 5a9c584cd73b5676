/- From the model's operations to the plain machine's. -/
import Derived.Test.YthanlobfjpjegaaA4
import GoSem.ClaimKeys
import GoSem.ClaimJoined
namespace Go.Proofs.Ythanlobfjpjegaa.Abs
open Go Go.RowKit
set_option linter.unusedVariables false
set_option linter.unusedSimpArgs false

def ofV1 : Value → Option T
  | .int k n => some (.int k n)
  | .bool b => some (.bool b)
  | .slice none 0 0 => some (.imm true 0 [])
  | _ => none
def ofVL : List Value → Option (List T)
  | [] => some []
  | v :: vs => match ofV1 v, ofVL vs with | some x, some xs => some (x :: xs) | _, _ => none
def ofV : Value → Option T
  | .agg cs => match ofVL cs.toList with | some l => some (.agg l) | none => none
  | v => ofV1 v

def opd : Operand → Option Opd
  | .tmp t => some (.tmp t)
  | .const v => match ofV v with | some x => some (.con x) | none => none
  | .func f => some (.con (.fn f [] []))
  | .global _ => none
def opds : List Operand → Option (List Opd)
  | [] => some []
  | x :: xs => match opd x, opds xs with | some y, some ys => some (y :: ys) | _, _ => none
def opdo : Option Operand → Option (Option Opd)
  | none => some none
  | some x => match opd x with | some y => some (some y) | none => none

/-- A type's zero, as cells. -/
def zc (P : Program) (t : TypeId) : Option (List T) :=
  match P.info? t with
  | some i => match i.zero with
    | some z => if z.cells.size = i.size ∧ 0 < i.size then ofVL z.cells.toList else none
    | none => none
  | none => none
/-- Is a value of the type no aggregate; how many cells. -/
def oneOf (P : Program) (t : TypeId) : Option (Bool × Nat) :=
  match P.underlying t, P.info? t with
  | some (.struct _), some i => some (false, i.size)
  | some (.array _ _), some i => some (false, i.size)
  | some _, some i => if i.size = 1 then some (true, 1) else none
  | _, _ => none
def szOf (P : Program) (t : TypeId) : Option Nat :=
  match P.info? t with
  | some i => if 0 < i.size then some i.size else none
  | none => none

/-- The kinds of a type's cells, if its values can be compared cell by cell. -/
def fieldsK (P : Program) (κ : TypeId → Option (List (Option IntKind))) : List Field → Nat → Option (List (Option IntKind))
  | [], _ => some []
  | f :: fs, o => match κ f.type with
    | some ks => if f.offset = o ∧ P.cellsOf f.type = ks.length then match fieldsK P κ fs (o + ks.length) with
        | some r => some (ks ++ r)
        | none => none
      else none
    | none => none
def kindsOf (P : Program) : Nat → TypeId → Option (List (Option IntKind))
  | 0, _ => none
  | d + 1, t => match P.underlying t with
    | some .bool => some [none]
    | some (.int k) => some [some k]
    | some (.array n e) => match kindsOf P d e with
      | some ks => if P.cellsOf t = n * ks.length ∧ P.cellsOf e = ks.length then some (List.replicate n ks).flatten else none
      | none => none
    | some (.struct fs) => if fs.all (·.name != "_") then match fieldsK P (kindsOf P d) fs.toList 0 with
        | some ks => if P.cellsOf t = ks.length then some ks else none
        | none => none
      else none
    | _ => none
/-- The kinds of a struct's or an array's cells. -/
def eqKinds (P : Program) (t : TypeId) : Option (List (Option IntKind)) :=
  match P.underlying t with
  | some (.struct _) | some (.array _ _) => if P.keyTypeAt 6 t && !P.eqGuardType P.depth t then kindsOf P 6 t else none
  | _ => none

/-- The places of a struct's fields, of an array's elements. -/
def fplaces (P : Program) : List Field → Option (List (Nat × Nat))
  | [] => some []
  | f :: fs => match P.info? f.type, fplaces P fs with | some i, some r => some ((f.offset, i.size) :: r) | _, _ => none
def partsOf (pl : Nat → Option (Nat × Nat)) : List (Nat × Operand) → Option (List (Nat × Nat × Opd))
  | [] => some []
  | (i, x) :: r => match pl i, opd x, partsOf pl r with | some (o, n), some y, some q => some ((o, n, y) :: q) | _, _, _ => none

def compOp (P : Program) : Op → Option AOp
  | .build t ps => match P.underlying t, zc P t with
    | some (.struct fs), some z => match fplaces P fs.toList with
      | some pl => match partsOf (pl[·]?) ps.toList with | some q => some (.build z q) | none => none
      | none => none
    | some (.array _ e), some z => match P.info? e with
      | some i => match partsOf (fun j => some (j * i.size, i.size)) ps.toList with | some q => some (.build z q) | none => none
      | none => none
    | _, _ => none
  | .buildSlice t len ps => match P.underlying t with
    | some (.slice e) => match zc P e, P.info? e with
      | some z, some i => if len * i.size ≤ 2 ^ 24 then match partsOf (fun j => some (j * i.size, i.size)) ps.toList with | some q => some (.bsl (List.replicate len z).flatten len i.size q) | none => none else none
      | _, _ => none
    | _ => none
  | .move x => match opd x with | some y => some (.mv y) | none => none
  | .assign x => match opd x with | some y => some (.mv y) | none => none
  | .pick c a b => match opd c, opd a, opd b with | some c, some a, some b => some (.pick c a b) | _, _, _ => none
  | .alloc e => match zc P e with | some z => some (.alloc z) | none => none
  | .box e x => match opd x with | some y => some (.box y) | none => none
  | .load t a => match oneOf P t, opd a with | some (one, n), some a => some (.load one n a) | _, _ => none
  | .store t a x => match szOf P t, opd a, opd x with | some n, some a, some x => some (.store n a x) | _, _, _ => none
  | .nilCheck x => match opd x with | some y => some (.nilchk y) | none => none
  | .binOp op t x y _ => match opd x, opd y with
    | some x, some y => match P.underlying t with
      | some (.int _) => some (.bin op x y)
      | some .bool => match op with | .eql => some (.beq false x y) | .neq => some (.beq true x y) | _ => none
      | _ => match eqKinds P t with
        | some ks => match op with | .eql => some (.aeq false ks x y) | .neq => some (.aeq true ks x y) | _ => none
        | none => none
    | _, _ => none
  | .unOp op _ x => match opd x with | some y => some (.un op y) | none => none
  | .convert s d x => match P.underlying s, P.underlying d, opd x with | some _, some (.int k), some y => some (.conv k y) | _, _, _ => none
  | .makeFunc (.func f) fs cs => match opds fs.toList, opds cs.toList with | some fs, some cs => some (.mkfn f fs cs) | _, _ => none
  | .makeSlice t l c => match P.underlying t with
    | some (.slice e) => match zc P e, P.info? e, opd l, opd c with | some z, some i, some l, some c => some (.mksl z i.size i.bytes l c) | _, _, _, _ => none
    | _ => none
  | .slice t x lo hi mx => match P.underlying t with
    | some (.array n e) => match szOf P e, opd x, opdo lo, opdo hi, opdo mx with | some es, some x, some lo, some hi, some mx => if mx.isNone || hi.isSome then some (.slArr n es x lo hi mx) else none | _, _, _, _, _ => none
    | some (.slice e) => match szOf P e, opd x, opdo lo, opdo hi, opdo mx with | some es, some x, some lo, some hi, some mx => if mx.isNone || hi.isSome then some (.slSl es x lo hi mx) else none | _, _, _, _, _ => none
    | _ => none
  | .fieldAddr s x f => match P.underlying s with
    | some (.struct fs) => match fs[f]? with
      | some fd => match szOf P fd.type, opd x with | some _, some x => some (.faddr x fd.offset) | _, _ => none
      | none => none
    | _ => none
  | .field s x f => match P.underlying s with
    | some (.struct fs) => match fs[f]? with
      | some fd => match oneOf P fd.type, opd x with | some (one, n), some x => some (.field one fd.offset n x) | _, _ => none
      | none => none
    | _ => none
  | .indexAddr t x i => match P.underlying t with
    | some (.array n e) => match szOf P e, opd x, opd i with | some es, some x, some i => some (.iarr n es x i) | _, _, _ => none
    | some (.slice e) => match szOf P e, opd x, opd i with | some es, some x, some i => some (.isl es x i) | _, _, _ => none
    | _ => none
  | .index t x i => match P.underlying t with
    | some (.array n e) => match oneOf P e, opd x, opd i with | some (one, es), some x, some i => some (.index one n es x i) | _, _, _ => none
    | _ => none
  | .extract x i => match opd x with | some y => some (.extract y i) | none => none
  | .call { callee := .value (.func f), args, .. } => match opds args.toList with | some l => some (.call f l) | none => none
  | .call { callee := .value (.tmp t), args, .. } => match opds args.toList with | some l => some (.callv (.tmp t) l) | none => none
  | .call { callee := .builtin .len, args, argTypes } => match argTypes[0]?, args.toList with
    | some t, [x] => match P.underlying t, opd x with
      | some (.slice _), some y => some (.len y)
      | some (.array n _), some _ => some (.mv (.con (.int .i64 n)))
      | _, _ => none
    | _, _ => none
  | .call { callee := .builtin .append, args, argTypes } => match argTypes.toList, args.toList with
    | [t, u], [s, x] => match P.underlying t, P.underlying u with
      | some (.slice e), some (.slice _) => match zc P e, P.info? e, opd s, opd x with | some z, some i, some s, some x => some (.append i.size i.bytes s x) | _, _, _, _ => none
      | _, _ => none
    | _, _ => none
  | .call { callee := .builtin .copy, args, argTypes } => match argTypes.toList, args.toList with
    | [t, u], [s, x] => match P.underlying t with
      | some (.slice e) => match szOf P e, opd s, opd x with | some n, some s, some x => some (.copy n s x) | _, _, _ => none
      | _ => none
    | _, _ => none
  | .call { callee := .builtin .min, args, .. } => match opds args.toList with | some l => some (.mn l) | none => none
  | .call { callee := .builtin .max, args, .. } => match opds args.toList with | some l => some (.mx l) | none => none
  | _ => none

section
variable {w : World} {Z : Nat → Nat → Prop} {μ : Nat → Option Loc}
theorem ofV1_ok {v : Value} {x : T} (h : ofV1 v = some x) : VI w Z x v ∧ x.leaf = true := by
  unfold ofV1 at h
  split at h <;> simp at h <;> subst h <;> simp [VI, T.leaf]
theorem ofVL_ok : ∀ {vs : List Value} {l : List T}, ofVL vs = some l → VIL w Z l vs ∧ allLeaf l = true
  | [], _, h => by simp [ofVL] at h; subst h; simp [VIL, allLeaf]
  | v :: vs, l, h => by
    simp only [ofVL] at h
    split at h
    · rename_i x xs h1 h2
      obtain rfl := Option.some.inj h
      have k1 := ofV1_ok (w := w) (Z := Z) h1
      have k2 := ofVL_ok h2
      refine ⟨by simp only [VIL]; exact ⟨v, vs, rfl, k1.1, k2.1⟩, by have := k2.2; simp only [allLeaf, List.all_cons, k1.2, Bool.true_and] at *; exact this⟩
    · cases h
theorem ofV_ok {v : Value} {x : T} (h : ofV v = some x) : VI w Z x v := by
  cases v with
  | agg cs =>
    simp only [ofV] at h
    split at h
    · rename_i l hl
      obtain rfl := Option.some.inj h
      simp only [VI]
      exact ⟨cs, rfl, (ofVL_ok hl).1⟩
    · cases h
  | _ => exact (ofV1_ok (by simpa only [ofV] using h)).1
theorem rho_ok {a : Act} {s : List T} (hs : VRL w Z μ s a.tmps.toList) {x : Operand} {y : Opd} (h : opd x = some y) : VR w Z μ (rho s y) (a.eval x) := by
  cases x with
  | tmp t =>
    simp [opd] at h; subst h
    simp only [rho, Act.eval, List.getD_eq_getElem?_getD]
    cases hx : s[t]? with
    | none =>
      have : a.tmps.size ≤ t := by have h1 := hs.len; have := List.getElem?_eq_none_iff.1 hx; simp at h1; omega
      simp only [Option.getD_none, VR, VI]
      simp [this]
    | some x =>
      obtain ⟨v, hv, hr⟩ := hs.get hx
      have : a.tmps.getD t undef = v := by
        simp at hv
        simp [Array.getD_eq_getD_getElem?, hv]
      simp only [Option.getD_some, this]; exact hr
  | const v =>
    simp only [opd] at h
    split at h
    · rename_i x hx; obtain rfl := Option.some.inj h; exact VI.vr _ _ (ofV_ok hx)
    · cases h
  | global g => simp [opd] at h
  | func f =>
    simp [opd] at h; subst h
    simp only [rho, Act.eval, VR]
    exact ⟨#[], #[], rfl, by simp [VRL], by simp [VRL]⟩
theorem rhos_ok {a : Act} {s : List T} (hs : VRL w Z μ s a.tmps.toList) : ∀ {xs : List Operand} {ys : List Opd}, opds xs = some ys → VRL w Z μ (ys.map (rho s)) (xs.map a.eval)
  | [], ys, h => by simp [opds] at h; subst h; simp [VRL]
  | x :: xs, ys, h => by
    simp only [opds] at h
    split at h
    · rename_i y ys' h1 h2
      obtain rfl := Option.some.inj h
      simp only [List.map_cons, VRL]
      exact ⟨_, _, rfl, rho_ok hs h1, rhos_ok hs h2⟩
    · cases h
/-- Writing a slot. -/
theorem VRL.set {l : List T} {vs : List Value} (h : VRL w Z μ l vs) {i : Nat} {x : T} {v : Value} (hv : VR w Z μ x v) : VRL w Z μ (l.set i x) (vs.set i v) := by
  refine VRL.mk (by simp [h.len]) fun j y u hy hu => ?_
  rw [List.getElem?_set] at hy hu
  split at hy
  · rename_i e; subst e
    rw [if_pos rfl] at hu
    have h1 := h.len
    split at hy
    · split at hu
      · obtain rfl := Option.some.inj hy; obtain rfl := Option.some.inj hu; exact hv
      · cases hu
    · cases hy
  · rename_i e
    rw [if_neg e] at hu
    obtain ⟨u', h1, h2⟩ := h.get hy
    rw [hu] at h1; obtain rfl := Option.some.inj h1; exact h2
theorem put_ok {a : Act} {s : List T} (hs : VRL w Z μ s a.tmps.toList) {d : Option Nat} {x : T} {v : Value} (hv : VR w Z μ x v) : VRL w Z μ (setDst s d x) (a.put d v).tmps.toList := by
  cases d with
  | none => exact hs
  | some d =>
    simp only [setDst, Act.put, Array.toList_setIfInBounds]
    exact hs.set hv
end

/-- The operation comes to value v and world w'. -/
def Goes (P : Program) (o : Oper) (a : Act) (w : World) (v : Value) (w' : World) : Prop :=
  ∀ (next : Act → World → Prop) (Q : Exit → Act → World → Prop), next (a.put o.dst v) w' → o.wp P a w next Q
theorem goes_value {P : Program} {o : Oper} {a : Act} {w w' : World} {v : Value} (h : (execOp a.eval o).run P w = .ok (.value v) w') : Goes P o a w v w' := by
  intro next Q hn; unfold Oper.wp; rw [h]; exact hn
theorem goes_skip {P : Program} {o : Oper} {a : Act} {w w' : World} (h : (execOp a.eval o).run P w = .ok .skip w') : Goes P o a w undef w' := by
  intro next Q hn; unfold Oper.wp; rw [h]; exact hn
end Go.Proofs.Ythanlobfjpjegaa.Abs
