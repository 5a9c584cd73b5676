/- The plain machine, part A9: texts A1 A2 A3 A4 A5 A6 A7 A8 A9 in one. -/
import Derived.Below
import Derived.Calls
import Derived.Orders
import Derived.LoopN
import Derived.ScopeJumps
import Derived.Deep.MidRow
import Derived.Deep.AppendSrc
import Derived.Laws.IdiomCopy
import Derived.Laws.Slices
import Derived.WalkKit
import GoSem.ClaimKeys
import GoSem.ClaimJoined
import Derived.Laws.MakeOwn
/- A plain machine of trees: values that are told by what they hold, memory of a call's own, code without types; and what stands for what in the model's world. -/
namespace Go.Proofs.YtabfinhkoihhfaaGreat.Abs
open Go Go.RowKit
set_option linter.unusedVariables false
set_option linter.unusedSimpArgs false

/-! ### Values -/
/-- A value: 'imm' a slice that nobody writes any more, with its cells; 'own' one in a block of the call's own; 'ptr' a place in such a block; 'iptr' a place among cells that nobody writes. -/
inductive T where
  | int (k : IntKind) (n : Int)
  | bool (b : Bool)
  | str (s : ByteArray)
  | imm (full : Bool) (len : Nat) (cells : List T)
  | own (t off len es : Nat)
  | ptr (t off : Nat)
  | iptr (cells : List T) (off : Nat)
  | agg (l : List T)
  | tup (l : List T)
  | fn (f : Nat) (first cap : List T)
  | undef
  | junk
  deriving Inhabited

/-- Does it fit into one cell? -/
def T.leaf : T → Bool
  | .agg _ | .tup _ | .undef | .junk => false
  | _ => true

/-- Its cells. -/
def T.cells : T → List T
  | .agg l => l
  | v => [v]

/-- Does it lead to no memory? -/
def T.flatL : List T → Bool
  | [] => true
  | .int _ _ :: r | .bool _ :: r | .str _ :: r => T.flatL r
  | .imm _ 0 [] :: r => T.flatL r
  | _ => false
def T.flat : T → Bool
  | .int _ _ | .bool _ | .str _ => true
  | .imm _ 0 [] => true
  | .agg l | .tup l => T.flatL l
  | _ => false

/-! ### Memory of the call's own -/
structure Hp where
  get : Nat → Option (List T)
  next : Nat
def Hp.empty : Hp := ⟨fun _ => none, 0⟩
def Hp.set (h : Hp) (t : Nat) (c : List T) : Hp := ⟨fun u => if u = t then some c else h.get u, h.next⟩
def Hp.add (h : Hp) (c : List T) : Hp := ⟨fun u => if u = h.next then some c else h.get u, h.next + 1⟩
def Hp.del (h : Hp) (t : Nat) : Hp := ⟨fun u => if u = t then none else h.get u, h.next⟩
def Hp.dels (h : Hp) (l : List Nat) : Hp := l.foldl Hp.del h

def frzAll (f : T → Option (T × List Nat)) : List T → Option (List T × List Nat)
  | [] => some ([], [])
  | x :: l => match f x, frzAll f l with
    | some (y, us), some (l', ts) => some (y :: l', us ++ ts)
    | _, _ => none
/-- A value as one that nobody writes any more, and the blocks that it then lays hold of. -/
def frz (h : Hp) : Nat → T → Option (T × List Nat)
  | 0, _ => none
  | d + 1, v => match v with
    | .int k n => some (.int k n, [])
    | .bool b => some (.bool b, [])
    | .str s => some (.str s, [])
    | .imm f n c => some (.imm f n c, [])
    | .iptr c o => some (.iptr c o, [])
    | .own t off len es => match h.get t with
      | none => none
      | some c => if ((c.drop off).take (len * es)).length = len * es then match frzAll (frz h d) ((c.drop off).take (len * es)) with
          | some (l, ts) => some (.imm false len l, t :: ts)
          | none => none
        else none
    | .agg l => match frzAll (frz h d) l with | some (l, ts) => some (.agg l, ts) | none => none
    | .tup l => match frzAll (frz h d) l with | some (l, ts) => some (.tup l, ts) | none => none
    | .fn f a b => match frzAll (frz h d) a, frzAll (frz h d) b with | some (a, ts), some (b, us) => some (.fn f a b, ts ++ us) | _, _ => none
    | _ => none
def frzL (h : Hp) (d : Nat) : List T → Option (List T × List Nat) := frzAll (frz h d)

/-! ### What stands for what -/
abbrev Loc := Nat × Nat × Nat   -- block, offset, extent
section
variable (w : World) (Z : Nat → Nat → Prop) (μ : Nat → Option Loc)
mutual
/-- Value v of the world w is what the tree tells; cells that nobody writes are of Z. -/
def VI : T → Value → Prop
  | .int k n, v => v = .int k n
  | .bool b, v => v = .bool b
  | .str s, v => v = .string s
  | .imm full len cells, v => ∃ a cap, v = .slice a len cap ∧ len ≤ cap ∧ (full = true → cap = len) ∧ (cells = [] ∨ ∃ b o, a = some ⟨b, o, none⟩ ∧ VC b o cells)
  | .own _ _ _ _, _ => False
  | .ptr _ _, _ => False
  | .iptr cells off, v => ∃ b o, v = .pointer (some ⟨b, o + off, none⟩) ∧ VC b o cells
  | .agg l, v => ∃ vs, v = .agg vs ∧ VIL l vs.toList
  | .tup l, v => ∃ vs, v = .tuple vs ∧ VIL l vs.toList
  | .fn f fs cs, v => ∃ a b, v = .func (.func f) a b ∧ VIL fs a.toList ∧ VIL cs b.toList
  | .undef, v => v = Go.undef
  | .junk, _ => True
/-- The cells from offset o of block b on. -/
def VC : Nat → Nat → List T → Prop
  | _, _, [] => True
  | b, o, c :: cs => (∃ v, w.cell? ⟨b, o, none⟩ = some v ∧ Z b o ∧ VI c v ∧ c.leaf = true) ∧ VC b (o + 1) cs
def VIL : List T → List Value → Prop
  | [], l => l = []
  | c :: cs, l => ∃ v vs, l = v :: vs ∧ VI c v ∧ VIL cs vs
end
mutual
/-- The same of values that may lead into the call's own memory. -/
def VR : T → Value → Prop
  | .own t off len es, v => ∃ a cap m, v = .slice a len cap ∧ len ≤ cap ∧ μ t = some m ∧ (0 < cap → a = some ⟨m.1, m.2.1 + off, none⟩) ∧ off + cap * es ≤ m.2.2
  | .ptr t off, v => ∃ m, μ t = some m ∧ v = .pointer (some ⟨m.1, m.2.1 + off, none⟩)
  | .agg l, v => ∃ vs, v = .agg vs ∧ VRL l vs.toList
  | .tup l, v => ∃ vs, v = .tuple vs ∧ VRL l vs.toList
  | .fn f fs cs, v => ∃ a b, v = .func (.func f) a b ∧ VRL fs a.toList ∧ VRL cs b.toList
  | x, v => VI w Z x v
def VRL : List T → List Value → Prop
  | [], l => l = []
  | c :: cs, l => ∃ v vs, l = v :: vs ∧ VR c v ∧ VRL cs vs
end
end
end Go.Proofs.YtabfinhkoihhfaaGreat.Abs

/- What stands for what stays so while the world grows. -/
namespace Go.Proofs.YtabfinhkoihhfaaGreat.Abs
open Go Go.RowKit
set_option linter.unusedVariables false
set_option linter.unusedSimpArgs false

section
variable {w w' : World} {Z Z' : Nat → Nat → Prop} {μ μ' : Nat → Option Loc}
/-- Z grows, and its cells stay. -/
def ZLe (w w' : World) (Z Z' : Nat → Nat → Prop) : Prop := ∀ b o, Z b o → Z' b o ∧ w'.cell? ⟨b, o, none⟩ = w.cell? ⟨b, o, none⟩
theorem ZLe.refl : ZLe w w Z Z := fun _ _ h => ⟨h, rfl⟩
theorem ZLe.trans {w'' : World} {Z'' : Nat → Nat → Prop} (h : ZLe w w' Z Z') (k : ZLe w' w'' Z' Z'') : ZLe w w'' Z Z'' :=
  fun b o hz => ⟨(k b o (h b o hz).1).1, ((k b o (h b o hz).1).2).trans (h b o hz).2⟩
mutual
theorem VI.mono (h : ZLe w w' Z Z') : ∀ (x : T) (v : Value), VI w Z x v → VI w' Z' x v
  | .int _ _, _, hv => by simpa only [VI] using hv
  | .bool _, _, hv => by simpa only [VI] using hv
  | .str _, _, hv => by simpa only [VI] using hv
  | .imm full len cells, v, hv => by
    simp only [VI] at hv ⊢
    obtain ⟨a, cap, h1, h2, h3, h4⟩ := hv
    exact ⟨a, cap, h1, h2, h3, h4.imp id fun ⟨b, o, e, hc⟩ => ⟨b, o, e, VC.mono h cells b o hc⟩⟩
  | .own .., _, hv => by simp only [VI] at hv
  | .ptr .., _, hv => by simp only [VI] at hv
  | .iptr cells off, v, hv => by
    simp only [VI] at hv ⊢
    obtain ⟨b, o, e, hc⟩ := hv
    exact ⟨b, o, e, VC.mono h cells b o hc⟩
  | .agg l, v, hv => by
    simp only [VI] at hv ⊢
    obtain ⟨vs, e, hl⟩ := hv
    exact ⟨vs, e, VIL.mono h l _ hl⟩
  | .tup l, v, hv => by
    simp only [VI] at hv ⊢
    obtain ⟨vs, e, hl⟩ := hv
    exact ⟨vs, e, VIL.mono h l _ hl⟩
  | .fn f fs cs, v, hv => by
    simp only [VI] at hv ⊢
    obtain ⟨a, b, e, h1, h2⟩ := hv
    exact ⟨a, b, e, VIL.mono h fs _ h1, VIL.mono h cs _ h2⟩
  | .undef, _, hv => by simpa only [VI] using hv
  | .junk, _, hv => by simp only [VI]
theorem VC.mono (h : ZLe w w' Z Z') : ∀ (l : List T) (b o : Nat), VC w Z b o l → VC w' Z' b o l
  | [], _, _, _ => by simp only [VC]
  | c :: cs, b, o, hv => by
    simp only [VC] at hv ⊢
    obtain ⟨⟨v, h1, h2, h3, h4⟩, hr⟩ := hv
    exact ⟨⟨v, ((h b o h2).2).trans h1, (h b o h2).1, VI.mono h c v h3, h4⟩, VC.mono h cs b (o + 1) hr⟩
theorem VIL.mono (h : ZLe w w' Z Z') : ∀ (l : List T) (vs : List Value), VIL w Z l vs → VIL w' Z' l vs
  | [], _, hv => by simpa only [VIL] using hv
  | c :: cs, vs, hv => by
    simp only [VIL] at hv ⊢
    obtain ⟨v, vs', e, h1, h2⟩ := hv
    exact ⟨v, vs', e, VI.mono h c v h1, VIL.mono h cs vs' h2⟩
end
/-- What is known of the call's own blocks stays. -/
def MLe (μ μ' : Nat → Option Loc) : Prop := ∀ t m, μ t = some m → μ' t = some m
theorem MLe.refl : MLe μ μ := fun _ _ h => h
theorem MLe.trans {μ'' : Nat → Option Loc} (h : MLe μ μ') (k : MLe μ' μ'') : MLe μ μ'' := fun t m e => k t m (h t m e)
mutual
theorem VR.mono (h : ZLe w w' Z Z') (hm : MLe μ μ') : ∀ (x : T) (v : Value), VR w Z μ x v → VR w' Z' μ' x v
  | .int _ _, _, hv => by simpa only [VR, VI] using hv
  | .bool _, _, hv => by simpa only [VR, VI] using hv
  | .str _, _, hv => by simpa only [VR, VI] using hv
  | .imm .., _, hv => by simp only [VR] at hv ⊢; exact VI.mono h _ _ hv
  | .own .., _, hv => by
    simp only [VR] at hv ⊢
    obtain ⟨a, cap, m, h1, h2, h3, h4, h5⟩ := hv
    exact ⟨a, cap, m, h1, h2, hm _ _ h3, h4, h5⟩
  | .ptr .., _, hv => by
    simp only [VR] at hv ⊢
    obtain ⟨m, h1, h2⟩ := hv
    exact ⟨m, hm _ _ h1, h2⟩
  | .iptr .., _, hv => by simp only [VR] at hv ⊢; exact VI.mono h _ _ hv
  | .agg l, v, hv => by
    simp only [VR] at hv ⊢
    obtain ⟨vs, e, hl⟩ := hv
    exact ⟨vs, e, VRL.mono h hm l _ hl⟩
  | .tup l, v, hv => by
    simp only [VR] at hv ⊢
    obtain ⟨vs, e, hl⟩ := hv
    exact ⟨vs, e, VRL.mono h hm l _ hl⟩
  | .fn f fs cs, v, hv => by
    simp only [VR] at hv ⊢
    obtain ⟨a, b, e, h1, h2⟩ := hv
    exact ⟨a, b, e, VRL.mono h hm fs _ h1, VRL.mono h hm cs _ h2⟩
  | .undef, _, hv => by simpa only [VR, VI] using hv
  | .junk, _, hv => by simp only [VR, VI]
theorem VRL.mono (h : ZLe w w' Z Z') (hm : MLe μ μ') : ∀ (l : List T) (vs : List Value), VRL w Z μ l vs → VRL w' Z' μ' l vs
  | [], _, hv => by simpa only [VRL] using hv
  | c :: cs, vs, hv => by
    simp only [VRL] at hv ⊢
    obtain ⟨v, vs', e, h1, h2⟩ := hv
    exact ⟨v, vs', e, VR.mono h hm c v h1, VRL.mono h hm cs vs' h2⟩
end
mutual
theorem VI.vr : ∀ (x : T) (v : Value), VI w Z x v → VR w Z μ x v
  | .int _ _, _, hv => by simpa only [VR, VI] using hv
  | .bool _, _, hv => by simpa only [VR, VI] using hv
  | .str _, _, hv => by simpa only [VR, VI] using hv
  | .imm .., _, hv => by simp only [VR]; exact hv
  | .own .., _, hv => by simp only [VI] at hv
  | .ptr .., _, hv => by simp only [VI] at hv
  | .iptr .., _, hv => by simp only [VR]; exact hv
  | .agg l, v, hv => by
    simp only [VR, VI] at hv ⊢
    obtain ⟨vs, e, hl⟩ := hv
    exact ⟨vs, e, VIL.vr l _ hl⟩
  | .tup l, v, hv => by
    simp only [VR, VI] at hv ⊢
    obtain ⟨vs, e, hl⟩ := hv
    exact ⟨vs, e, VIL.vr l _ hl⟩
  | .fn f fs cs, v, hv => by
    simp only [VR, VI] at hv ⊢
    obtain ⟨a, b, e, h1, h2⟩ := hv
    exact ⟨a, b, e, VIL.vr fs _ h1, VIL.vr cs _ h2⟩
  | .undef, _, hv => by simpa only [VR, VI] using hv
  | .junk, _, hv => by simp only [VR, VI]
theorem VIL.vr : ∀ (l : List T) (vs : List Value), VIL w Z l vs → VRL w Z μ l vs
  | [], _, hv => by simpa only [VIL, VRL] using hv
  | c :: cs, vs, hv => by
    simp only [VIL, VRL] at hv ⊢
    obtain ⟨v, vs', e, h1, h2⟩ := hv
    exact ⟨v, vs', e, VI.vr c v h1, VIL.vr cs vs' h2⟩
end
/-- Lists, by places. -/
theorem VRL.len : ∀ {l : List T} {vs : List Value}, VRL w Z μ l vs → vs.length = l.length
  | [], _, h => by simp only [VRL] at h; subst h; rfl
  | c :: cs, _, h => by simp only [VRL] at h; obtain ⟨v, vs', rfl, _, h2⟩ := h; simp [VRL.len h2]
theorem VRL.get : ∀ {l : List T} {vs : List Value}, VRL w Z μ l vs → ∀ {i : Nat} {x : T}, l[i]? = some x → ∃ v, vs[i]? = some v ∧ VR w Z μ x v
  | [], _, h, i, x, e => by simp at e
  | c :: cs, _, h, i, x, e => by
    simp only [VRL] at h
    obtain ⟨v, vs', rfl, h1, h2⟩ := h
    cases i with
    | zero => simp at e; subst e; exact ⟨v, rfl, h1⟩
    | succ i => simp at e; obtain ⟨u, hu, hr⟩ := VRL.get h2 e; exact ⟨u, by simpa using hu, hr⟩
theorem VRL.mk : ∀ {l : List T} {vs : List Value}, vs.length = l.length → (∀ (i : Nat) x v, l[i]? = some x → vs[i]? = some v → VR w Z μ x v) → VRL w Z μ l vs
  | [], vs, hl, _ => by simp only [VRL]; exact List.eq_nil_of_length_eq_zero hl
  | c :: cs, [], hl, _ => by simp at hl
  | c :: cs, v :: vs, hl, h => by
    simp only [VRL]
    exact ⟨v, vs, rfl, h 0 c v rfl rfl, VRL.mk (by simpa using hl) fun i x u hx hu => h (i + 1) x u (by simpa using hx) (by simpa using hu)⟩
theorem VIL.len : ∀ {l : List T} {vs : List Value}, VIL w Z l vs → vs.length = l.length
  | [], _, h => by simp only [VIL] at h; subst h; rfl
  | c :: cs, _, h => by simp only [VIL] at h; obtain ⟨v, vs', rfl, _, h2⟩ := h; simp [VIL.len h2]
theorem VIL.get : ∀ {l : List T} {vs : List Value}, VIL w Z l vs → ∀ {i : Nat} {x : T}, l[i]? = some x → ∃ v, vs[i]? = some v ∧ VI w Z x v
  | [], _, h, i, x, e => by simp at e
  | c :: cs, _, h, i, x, e => by
    simp only [VIL] at h
    obtain ⟨v, vs', rfl, h1, h2⟩ := h
    cases i with
    | zero => simp at e; subst e; exact ⟨v, rfl, h1⟩
    | succ i => simp at e; obtain ⟨u, hu, hr⟩ := VIL.get h2 e; exact ⟨u, by simpa using hu, hr⟩
theorem VIL.mk : ∀ {l : List T} {vs : List Value}, vs.length = l.length → (∀ (i : Nat) x v, l[i]? = some x → vs[i]? = some v → VI w Z x v) → VIL w Z l vs
  | [], vs, hl, _ => by simp only [VIL]; exact List.eq_nil_of_length_eq_zero hl
  | c :: cs, [], hl, _ => by simp at hl
  | c :: cs, v :: vs, hl, h => by
    simp only [VIL]
    exact ⟨v, vs, rfl, h 0 c v rfl rfl, VIL.mk (by simpa using hl) fun i x u hx hu => h (i + 1) x u (by simpa using hx) (by simpa using hu)⟩
theorem VC.get : ∀ {l : List T} {b o : Nat}, VC w Z b o l → ∀ {i : Nat} {x : T}, l[i]? = some x → ∃ v, w.cell? ⟨b, o + i, none⟩ = some v ∧ Z b (o + i) ∧ VI w Z x v ∧ x.leaf = true
  | [], _, _, h, i, x, e => by simp at e
  | c :: cs, b, o, h, i, x, e => by
    simp only [VC] at h
    obtain ⟨h1, h2⟩ := h
    cases i with
    | zero => simp at e; subst e; exact h1
    | succ i => simp at e; have := VC.get h2 e; rwa [show o + 1 + i = o + (i + 1) by omega] at this
theorem VC.mk : ∀ {l : List T} {b o : Nat}, (∀ (i : Nat) x, l[i]? = some x → ∃ v, w.cell? ⟨b, o + i, none⟩ = some v ∧ Z b (o + i) ∧ VI w Z x v ∧ x.leaf = true) → VC w Z b o l
  | [], _, _, _ => by simp only [VC]
  | c :: cs, b, o, h => by
    simp only [VC]
    exact ⟨h 0 c rfl, VC.mk fun i x hx => by have := h (i + 1) x (by simpa using hx); rwa [show o + (i + 1) = o + 1 + i by omega] at this⟩
theorem VR.oneCell {x : T} {v : Value} (h : VR w Z μ x v) (hl : x.leaf = true) : v.oneCell' = true := by
  cases x <;> simp [T.leaf] at hl <;> simp only [VR, VI] at h
  · subst h; rfl
  · subst h; rfl
  · subst h; rfl
  · obtain ⟨a, c, rfl, _⟩ := h; rfl
  · obtain ⟨a, c, m, rfl, _⟩ := h; rfl
  · obtain ⟨m, _, rfl⟩ := h; rfl
  · obtain ⟨b, o, rfl, _⟩ := h; rfl
  · obtain ⟨a, b, rfl, _⟩ := h; rfl
/-- The cells of a value. -/
theorem VR.cells {x : T} {v : Value} (h : VR w Z μ x v) (hx : x ≠ .junk) (hu : x ≠ .undef) (ht : ∀ l, x ≠ .tup l) : VRL w Z μ x.cells v.cells.toList := by
  cases x with
  | agg l => simp only [VR] at h; obtain ⟨vs, rfl, hl⟩ := h; exact hl
  | tup l => exact absurd rfl (ht l)
  | junk => exact absurd rfl hx
  | undef => exact absurd rfl hu
  | int k n => have := h; simp only [VR, VI] at this; subst this; exact (by simp only [T.cells, Value.cells, VRL]; exact ⟨_, [], rfl, h, rfl⟩)
  | bool b => have := h; simp only [VR, VI] at this; subst this; exact (by simp only [T.cells, Value.cells, VRL]; exact ⟨_, [], rfl, h, rfl⟩)
  | str s => have := h; simp only [VR, VI] at this; subst this; exact (by simp only [T.cells, Value.cells, VRL]; exact ⟨_, [], rfl, h, rfl⟩)
  | imm f n c => have h' := h; simp only [VR, VI] at h'; obtain ⟨a, c, rfl, _⟩ := h'; exact (by simp only [T.cells, Value.cells, VRL]; exact ⟨_, [], rfl, h, rfl⟩)
  | own t o n e => have h' := h; simp only [VR] at h'; obtain ⟨a, c, m, rfl, _⟩ := h'; exact (by simp only [T.cells, Value.cells, VRL]; exact ⟨_, [], rfl, h, rfl⟩)
  | ptr t o => have h' := h; simp only [VR] at h'; obtain ⟨m, _, rfl⟩ := h'; exact (by simp only [T.cells, Value.cells, VRL]; exact ⟨_, [], rfl, h, rfl⟩)
  | iptr c o => have h' := h; simp only [VR, VI] at h'; obtain ⟨b, p, rfl, _⟩ := h'; exact (by simp only [T.cells, Value.cells, VRL]; exact ⟨_, [], rfl, h, rfl⟩)
  | fn f a b => have h' := h; simp only [VR] at h'; obtain ⟨x, y, rfl, _⟩ := h'; exact (by simp only [T.cells, Value.cells, VRL]; exact ⟨_, [], rfl, h, rfl⟩)
end
end Go.Proofs.YtabfinhkoihhfaaGreat.Abs

/- The plain machine: its operations, its code, how it runs. -/
namespace Go.Proofs.YtabfinhkoihhfaaGreat.Abs
open Go Go.RowKit
set_option linter.unusedVariables false

inductive Opd where
  | tmp (t : Nat)
  | con (v : T)
  deriving Inhabited

inductive AOp where
  | mv (x : Opd)
  | pick (c a b : Opd)
  | alloc (z : List T)
  | box (x : Opd)
  | build (z : List T) (parts : List (Nat × Nat × Opd))
  | bsl (z : List T) (len es : Nat) (parts : List (Nat × Nat × Opd))
  | load (one : Bool) (n : Nat) (a : Opd)
  | store (n : Nat) (a x : Opd)
  | nilchk (x : Opd)
  | bin (op : BinOp) (x y : Opd)
  | beq (neg : Bool) (x y : Opd)
  | aeq (neg : Bool) (ks : List (Option IntKind)) (x y : Opd)
  | un (op : UnOp) (x : Opd)
  | conv (k : IntKind) (x : Opd)
  | mkfn (f : Nat) (fs cs : List Opd)
  | mksl (z : List T) (es bytes : Nat) (n c : Opd)
  | slArr (n es : Nat) (x : Opd) (lo hi mx : Option Opd)
  | slSl (es : Nat) (x : Opd) (lo hi mx : Option Opd)
  | faddr (x : Opd) (off : Nat)
  | field (one : Bool) (off n : Nat) (x : Opd)
  | iarr (n es : Nat) (x i : Opd)
  | isl (es : Nat) (x i : Opd)
  | index (one : Bool) (n es : Nat) (x i : Opd)
  | extract (x : Opd) (i : Nat)
  | len (x : Opd)
  | append (es bytes : Nat) (s x : Opd)
  | copy (es : Nat) (d x : Opd)
  | mn (args : List Opd)
  | mx (args : List Opd)
  | call (f : Nat) (args : List Opd)
  | callv (x : Opd) (args : List Opd)
  deriving Inhabited

structure AOper where
  dst : Option Nat
  op : AOp
  guard : Option (Nat × Bool)
  deriving Inhabited

inductive ACode where
  | skip
  | region (ops : List AOper) (chk : List (Nat × Nat))
  | seq (a b : ACode)
  | cond (c : Opd) (a b : ACode)
  | block (id : Nat) (c : ACode)
  | loop (c : ACode)
  | exit (id : Nat)
  | ret
  | scope (whole rest : ACode)
  | label (l : Nat)
  | goto (l : Nat)
  | kill (l : List Nat) (c : ACode)
  deriving Inhabited

inductive ARes where
  | tmp (t : Nat)
  | cell (t : Nat) (one : Bool) (n : Nat)

structure AFun where
  ntmps : Nat
  body : ACode
  res : List ARes
  pure : Bool
  nat : Option (Nat × Nat) := none   -- slices.Clone, of elements of so many cells and bytes
  auto : Bool := false   -- pure where its arguments hold no memory of anyone's

abbrev AProg := Nat → Option AFun

inductive AExit where
  | normal | exit (id : Nat) | goto (l : Nat) | ret

/-! ### Operations -/
abbrev Mem := Nat → Option (List T)
structure Res where
  v : T
  rd : List Nat
  ed : List (Nat × Option (List T))

def rho (s : List T) : Opd → T
  | .tmp t => s.getD t .undef
  | .con v => v

def put1 (g : Mem) (e : Nat × Option (List T)) : Mem := fun u => if u = e.1 then e.2 else g u
def putAll (g : Mem) (es : List (Nat × Option (List T))) : Mem := es.foldl put1 g

def splice : List T → Nat → List T → List T
  | c, _, [] => c
  | c, o, v :: l => splice (c.set o v) (o + 1) l

def T.isBool : T → Option Bool
  | .bool b => some b
  | _ => none
def T.asInt : T → Option Int
  | .int _ n => some n
  | _ => none
def natOf (x : T) : Option Nat := match x with
  | .int _ n => if 0 ≤ n then some n.toNat else none
  | _ => none
def bnd (x : Option T) (dflt : Nat) : Option Nat := match x with
  | some x => natOf x
  | none => some dflt

def binT (op : BinOp) (x y : T) : Option T :=
  match x, y with
  | .int k a, .int k' b =>
    match op with
    | .shl => if b < 0 then none else some (.int k (k.wrap (a * 2 ^ (min b.toNat k.bits))))
    | .shr => if b < 0 then none else some (.int k (a.fdiv (2 ^ (min b.toNat k.bits))))
    | _ => if k = k' then match op with
      | .add => some (.int k (k.wrap (a + b)))
      | .sub => some (.int k (k.wrap (a - b)))
      | .mul => some (.int k (k.wrap (a * b)))
      | .quo => if b = 0 then none else some (.int k (k.wrap (a.tdiv b)))
      | .rem => if b = 0 then none else some (.int k (a.tmod b))
      | .and => some (.int k (k.wrap (BitVec.ofInt k.bits a &&& BitVec.ofInt k.bits b).toNat))
      | .or => some (.int k (k.wrap (BitVec.ofInt k.bits a ||| BitVec.ofInt k.bits b).toNat))
      | .xor => some (.int k (k.wrap (BitVec.ofInt k.bits a ^^^ BitVec.ofInt k.bits b).toNat))
      | .andNot => some (.int k (k.wrap (BitVec.ofInt k.bits a &&& ~~~(BitVec.ofInt k.bits b)).toNat))
      | .eql => some (.bool (a == b))
      | .neq => some (.bool (a != b))
      | .lss => some (.bool (a < b))
      | .leq => some (.bool (a ≤ b))
      | .gtr => some (.bool (a > b))
      | .geq => some (.bool (a ≥ b))
      | _ => none
      else none
  | _, _ => none

/-- Are cells of these kinds, and in their kinds' ranges? -/
def conf1 : Option IntKind → T → Bool
  | some k, .int k' n => k' == k && (decide (k.min ≤ n) && decide (n ≤ k.max))
  | none, .bool _ => true
  | _, _ => false
def conf : List (Option IntKind) → List T → Bool
  | [], [] => true
  | k :: ks, x :: xs => conf1 k x && conf ks xs
  | _, _ => false
def eq1 : T → T → Bool
  | .int _ a, .int _ b => a == b
  | .bool a, .bool b => a == b
  | _, _ => false
def eqL : List T → List T → Bool
  | [], [] => true
  | x :: xs, y :: ys => eq1 x y && eqL xs ys
  | _, _ => false

def unT (op : UnOp) (x : T) : Option T :=
  match op, x with
  | .neg, .int k n => some (.int k (k.wrap (0 - n)))
  | .not, .bool b => some (.bool !b)
  | .xor, .int k n => some (.int k (k.wrap (BitVec.ofInt k.bits (if k.signed then -1 else k.max) ^^^ BitVec.ofInt k.bits n).toNat))
  | _, _ => none

def fillT (c : List T) : List (Nat × Nat × T) → Option (List T)
  | [] => some c
  | (off, size, v) :: r => if v.cells.length = size ∧ off + size ≤ c.length ∧ v.cells.all T.leaf then fillT (splice c off v.cells) r else none

def allLeaf (l : List T) : Bool := l.all T.leaf

def cut (c : List T) (o n : Nat) : List T := (c.drop o).take n

def minL : List T → Option T
  | [] => none
  | x :: r => r.foldlM (fun x y => match x, y with | .int k a, .int k' b => some (.int k (if b < a then b else a)) | _, _ => none) x
def maxL : List T → Option T
  | [] => none
  | x :: r => r.foldlM (fun x y => match x, y with | .int k a, .int k' b => some (.int k (if b > a then b else a)) | _, _ => none) x

def pureR (v : T) : Option Res := some ⟨v, [], []⟩

/-- A slice's cells, and the block that was read. -/
def cellsOf (g : Mem) (es : Nat) : T → Option (Nat × List T × List Nat)
  | .imm _ len c => some (len, c, [])
  | .own t off len es' => if es' = es then match g t with
    | some c => if off + len * es ≤ c.length then some (len, cut c off (len * es), [t]) else none
    | none => none
    else none
  | _ => none

def room : Nat := 2 ^ 39

/-- What an operation that calls nothing yields: its value, the blocks that it reads, what it changes. -/
def opRes (op : AOp) (fr : Nat) (s : List T) (g : Mem) : Option Res :=
  match op with
  | .mv x => pureR (rho s x)
  | .pick c a b => match rho s c with | .bool true => pureR (rho s a) | .bool false => pureR (rho s b) | _ => none
  | .alloc z => if allLeaf z then some ⟨.ptr fr 0, [], [(fr, some z)]⟩ else none
  | .box x => if allLeaf (rho s x).cells then some ⟨.ptr fr 0, [], [(fr, some (rho s x).cells)]⟩ else none
  | .build z ps => match fillT z (ps.map fun p => (p.1, p.2.1, rho s p.2.2)) with | some c => pureR (.agg c) | none => none
  | .bsl z len es ps => match fillT z (ps.map fun p => (p.1, p.2.1, rho s p.2.2)) with
    | some c => if allLeaf c ∧ c.length = len * es then some ⟨.own fr 0 len es, [], [(fr, some c)]⟩ else none
    | none => none
  | .load one n a => match rho s a with
    | .ptr t off => match g t with
      | some c => if off + n ≤ c.length then (if one then match c[off]? with | some x => some ⟨x, [t], []⟩ | none => none else some ⟨.agg (cut c off n), [t], []⟩) else none
      | none => none
    | .iptr c off => if off + n ≤ c.length then (if one then match c[off]? with | some x => pureR x | none => none else pureR (.agg (cut c off n))) else none
    | _ => none
  | .store n a x => match rho s a with
    | .ptr t off => match g t with
      | some c => if off + n ≤ c.length ∧ (rho s x).cells.length = n ∧ allLeaf (rho s x).cells then some ⟨.undef, [t], [(t, some (splice c off (rho s x).cells))]⟩ else none
      | none => none
    | _ => none
  | .nilchk x => match rho s x with | .ptr t o => pureR (.ptr t o) | .iptr c o => pureR (.iptr c o) | .fn f a b => pureR (.fn f a b) | _ => none
  | .bin op x y => match binT op (rho s x) (rho s y) with | some v => pureR v | none => none
  | .beq neg x y => match rho s x, rho s y with | .bool a, .bool b => pureR (.bool (if neg then !(a == b) else a == b)) | _, _ => none
  | .aeq neg ks x y => match rho s x, rho s y with
    | .agg a, .agg b => if conf ks a && conf ks b then pureR (.bool (if neg then !eqL a b else eqL a b)) else none
    | _, _ => none
  | .un op x => match unT op (rho s x) with | some v => pureR v | none => none
  | .conv k x => match rho s x with | .int _ n => pureR (.int k (k.wrap n)) | _ => none
  | .mkfn f fs cs => pureR (.fn f (fs.map (rho s)) (cs.map (rho s)))
  | .mksl z es bytes n c => match natOf (rho s n), natOf (rho s c) with
    | some n, some c => if n ≤ c ∧ c * bytes ≤ room ∧ z.length = es ∧ allLeaf z ∧ c ≤ room then some ⟨.own fr 0 n es, [], [(fr, some ((List.replicate c z).flatten))]⟩ else none
    | _, _ => none
  | .slArr n es x lo hi mx => match bnd (lo.map (rho s)) 0, bnd (hi.map (rho s)) n, bnd (mx.map (rho s)) n with
    | some l, some h, some m => if l ≤ h ∧ h ≤ m ∧ m ≤ n then match rho s x with
      | .ptr t off => match g t with
        | some c => if off + n * es ≤ c.length then some ⟨.own t (off + l * es) (h - l) es, [t], []⟩ else none
        | none => none
      | .iptr c off => if off + n * es ≤ c.length then pureR (.imm (m == h) (h - l) (cut c (off + l * es) ((h - l) * es))) else none
      | _ => none
      else none
    | _, _, _ => none
  | .slSl es x lo hi mx => match rho s x with
    | .imm full len c => match bnd (lo.map (rho s)) 0, bnd (hi.map (rho s)) len, bnd (mx.map (rho s)) len with
      | some l, some h, some m => if l ≤ h ∧ h ≤ m ∧ m ≤ len then
          pureR (.imm (if mx.isSome then m == h else full && (h == len)) (h - l) (cut c (l * es) ((h - l) * es)))
        else none
      | _, _, _ => none
    | .own t off len es' => match bnd (lo.map (rho s)) 0, bnd (hi.map (rho s)) len, bnd (mx.map (rho s)) len with
      | some l, some h, some m => if l ≤ h ∧ h ≤ m ∧ m ≤ len ∧ es' = es then pureR (.own t (off + l * es) (h - l) es) else none
      | _, _, _ => none
    | _ => none
  | .faddr x off => match rho s x with | .ptr t o => pureR (.ptr t (o + off)) | .iptr c o => pureR (.iptr c (o + off)) | _ => none
  | .field one off n x => match rho s x with
    | .agg c => if off + n ≤ c.length then (if one then match c[off]? with | some x => pureR x | none => none else pureR (.agg (cut c off n))) else none
    | _ => none
  | .iarr n es x i => match natOf (rho s i) with
    | some i => if i < n then match rho s x with | .ptr t o => pureR (.ptr t (o + i * es)) | .iptr c o => pureR (.iptr c (o + i * es)) | _ => none else none
    | none => none
  | .isl es x i => match natOf (rho s i) with
    | some i => match rho s x with
      | .imm _ len c => if i < len ∧ i * es + es ≤ c.length then pureR (.iptr c (i * es)) else none
      | .own t off len es' => if i < len ∧ es' = es then pureR (.ptr t (off + i * es)) else none
      | _ => none
    | none => none
  | .index one n es x i => match natOf (rho s i) with
    | some i => match rho s x with
      | .agg c => if i < n ∧ i * es + es ≤ c.length then (if one then match c[i * es]? with | some x => pureR x | none => none else pureR (.agg (cut c (i * es) es))) else none
      | _ => none
    | none => none
  | .extract x i => match rho s x with | .tup l => (match l[i]? with | some v => pureR v | none => none) | _ => none
  | .len x => match rho s x with | .imm _ n _ => pureR (.int .i64 n) | .own _ _ n _ => pureR (.int .i64 n) | _ => none
  | .append es bytes sl x => match cellsOf g es (rho s x) with
    | some (n, new, rd) => if n = 0 then (if new.length = 0 then match rho s sl with | .imm f l c => some ⟨.imm f l c, rd, []⟩ | .own t p l e => some ⟨.own t p l e, rd, []⟩ | _ => none else none) else
      if new.length = n * es ∧ allLeaf new then match rho s sl with
      | .imm true len c => if (len + n) * bytes ≤ room ∧ len + n ≤ room ∧ c.length = len * es ∧ allLeaf c then some ⟨.own fr 0 (len + n) es, rd, [(fr, some (c ++ new))]⟩ else none
      | .own t off len es' => if es' = es ∧ (len + n) * bytes ≤ room ∧ len + n ≤ room then match g t with
        | some c => if off + len * es ≤ c.length then some ⟨.own fr 0 (len + n) es, t :: rd, [(t, none), (fr, some (cut c off (len * es) ++ new))]⟩ else none
        | none => none
        else none
      | _ => none
      else none
    | none => none
  | .copy es d x => match cellsOf g es (rho s x), rho s d with
    | some (n, new, rd), .own t off len es' => match g t with
      | some c => if es' = es ∧ off + len * es ≤ c.length ∧ new.length = n * es ∧ allLeaf new then
          some ⟨.int .i64 ((min n len : Nat) : Int), t :: rd, [(t, some (splice c off (new.take (min n len * es))))]⟩ else none
      | none => none
    | _, _ => none
  | .mn args => match minL (args.map (rho s)) with | some v => pureR v | none => none
  | .mx args => match maxL (args.map (rho s)) with | some v => pureR v | none => none
  | .call _ _ | .callv _ _ => none

/-! ### How it runs -/
structure St where
  s : List T
  g : Mem
  nx : Nat

abbrev Run := ACode → St → Option (AExit × St)

def resOne (s : List T) (g : Mem) : ARes → Option T
  | .tmp t => some (rho s (.tmp t))
  | .cell t one n => match opRes (.load one n (.tmp t)) 0 s g with | some r => some r.v | none => none
def resL (s : List T) (g : Mem) : List ARes → Option (List T)
  | [] => some []
  | r :: rs => match resOne s g r, resL s g rs with | some v, some vs => some (v :: vs) | _, _ => none
def resT (s : List T) (g : Mem) (rs : List ARes) : Option T := match resL s g rs with
  | some [v] => some v
  | some vs => some (.tup vs)
  | none => none

def AExit.leaves : AExit → Bool
  | .normal | .ret => true
  | _ => false

/-- The body of a function, from its arguments, in memory g. -/
def runBody (ih : Run) (F : AFun) (args : List T) (g : Mem) (nx : Nat) : Option (T × Mem × Nat) :=
  match ih F.body ⟨args ++ List.replicate (F.ntmps - args.length) .undef, g, nx⟩ with
  | some (e, st) => if e.leaves then match resT st.s st.g F.res with
    | some v => some (v, st.g, st.nx)
    | none => none
    else none
  | none => none

def frzDepth : Nat := 12
/-- A pure call: its arguments become such as nobody writes, its body has memory of its own, so does its result. -/
def runPure (ih : Run) (F : AFun) (args : List T) : Option T :=
  match runBody ih F args (fun _ => none) 0 with
  | some (v, g, nx) => match frz ⟨g, nx⟩ frzDepth v with
    | some (v, _) => some v
    | none => none
  | none => none
def callPure (ih : Run) (F : AFun) (args : List T) (g : Mem) : Option Res :=
  match frzL ⟨g, 0⟩ frzDepth args with
  | some (args, ids) => match runPure ih F args with
    | some v => some ⟨v, ids, if v.flat then [] else ids.map fun t => (t, none)⟩
    | none => none
  | none => none

/-- Who is called, with what. -/
def callee (s : List T) : AOp → Option (Nat × List T)
  | .call f args => some (f, args.map (rho s))
  | .callv x args => match rho s x with
    | .fn f fs cs => some (f, fs ++ args.map (rho s) ++ cs)
    | _ => none
  | _ => none

abbrev Fp := Option (List Nat × List Nat)   -- what was read, what was written; none: anything

def setDst (s : List T) (d : Option Nat) (v : T) : List T := match d with
  | some d => s.set d v
  | none => s

/-- Is an operation to be done? -/
def guardT (s : List T) : Option (Nat × Bool) → Option Bool
  | none => some true
  | some (t, want) => match rho s (.tmp t) with
    | .bool b => some (b == want)
    | .undef => some false
    | _ => none
def cloneRes (es bytes fr : Nat) (args : List T) (g : Mem) : Option Res :=
  match args with
  | [x] => match cellsOf g es x with
    | some (n, c, rd) => if c.length = n * es ∧ allLeaf c ∧ n * bytes ≤ room ∧ n ≤ room then (if n = 0 then some ⟨.imm true 0 [], rd, []⟩ else some ⟨.own fr 0 n es, rd, [(fr, some c)]⟩) else none
    | none => none
  | _ => none
def still1 : T → Bool
  | .imm _ _ _ | .int _ _ | .bool _ | .str _ => true
  | _ => false
/-- No memory of anyone's in it. -/
def T.still : T → Bool
  | .agg l => l.all still1
  | x => still1 x
/-- Is a call to be taken as a pure one? -/
def AFun.calm (F : AFun) (args : List T) : Bool := F.pure || (F.auto && args.all T.still)
theorem calm_pure {F : AFun} {args : List T} (h : F.pure = true) : F.calm args = true := by unfold AFun.calm; rw [h]; rfl
theorem calm_imp {F : AFun} {args : List T} (h : F.pure = false) (h' : F.auto = false) : F.calm args = false := by unfold AFun.calm; rw [h, h']; rfl
theorem calm_not {F : AFun} {args : List T} (h : ¬ F.calm args = true) : F.pure = false := by
  unfold AFun.calm at h
  cases hp : F.pure with
  | false => rfl
  | true => rw [hp] at h; exact absurd rfl h
/-- What an operation yields that calls nothing, or a pure function. -/
def evR (AP : AProg) (ih : Run) (fr : Nat) (op : AOp) (s : List T) (g : Mem) : Option Res :=
  match callee s op with
  | some (f, args) => match AP f with
    | some F => match F.nat with
      | some (es, bytes) => cloneRes es bytes fr args g
      | none => if F.calm args then callPure ih F args g else none
    | none => none
  | none => opRes op fr s g
def evI (AP : AProg) (ih : Run) (op : AOp) (s : List T) (g : Mem) (nx : Nat) : Option (T × Mem × Nat) :=
  match callee s op with
  | some (f, args) => match AP f with
    | some F => if F.calm args then none else runBody ih F args g nx
    | none => none
  | none => none
def evG (AP : AProg) (ih : Run) (fr : Nat) (o : AOper) (s : List T) (g : Mem) : Option Res :=
  match guardT s o.guard with
  | some true => evR AP ih fr o.op s g
  | some false => some ⟨.undef, [], []⟩
  | none => none
/-- One operation (number i of a region whose new blocks are numbered from b on; fr: b + i). -/
def evOp (AP : AProg) (ih : Run) (fr : Nat) (o : AOper) (st : St) : Option (St × Fp) :=
  match evG AP ih fr o st.s st.g with
  | some r => some (⟨setDst st.s o.dst r.v, putAll st.g r.ed, st.nx⟩, some (r.rd, r.ed.map (·.1)))
  | none => match guardT st.s o.guard with
    | some true => match evI AP ih o.op st.s st.g st.nx with
      | some (v, g, nx) => some (⟨setDst st.s o.dst v, g, nx⟩, none)
      | none => none
    | _ => none

def evOps (AP : AProg) (ih : Run) : Nat → List AOper → St → Option (St × List Fp)
  | _, [], st => some (st, [])
  | fr, o :: r, st => match evOp AP ih fr o st with
    | some (st, fp) => match evOps AP ih (fr + 1) r st with
      | some (st, fps) => some (st, fp :: fps)
      | none => none
    | none => none

def disj (a b : List Nat) : Bool := a.all fun x => !b.contains x
def Fp.apart : Fp → Fp → Bool
  | some (r1, w1), some (r2, w2) => disj w1 r2 && disj w1 w2 && disj w2 r1
  | _, _ => false

def evRegion (AP : AProg) (ih : Run) (ops : List AOper) (chk : List (Nat × Nat)) (st : St) : Option (AExit × St) :=
  match evOps AP ih st.nx ops ⟨st.s, st.g, st.nx + ops.length⟩ with
  | some (st', fps) => if chk.all fun (i, j) => Fp.apart (fps.getD i none) (fps.getD j none) then some (.normal, st') else none
  | none => none

def afind : ACode → Nat → Option ACode
  | .seq a b, l => match afind a l with
    | some r => some (.seq r b)
    | none => afind b l
  | .label l', l => if l' == l then some .skip else none
  | .kill _ c, l => afind c l
  | _, _ => none

def killAll (s : List T) (l : List Nat) : List T := l.foldl (fun s t => s.set t .junk) s

def evStep (AP : AProg) (ih : Run) : Run
  | .skip, st => some (.normal, st)
  | .label _, st => some (.normal, st)
  | .region ops chk, st => evRegion AP ih ops chk st
  | .seq a b, st => match ih a st with
    | some (.normal, st') => ih b st'
    | r => r
  | .cond c a b, st => match rho st.s c with
    | .bool true => ih a st
    | .bool false => ih b st
    | _ => none
  | .block id c, st => match ih c st with
    | some (.exit i, st') => if i = id then some (.normal, st') else some (.exit i, st')
    | r => r
  | .loop c, st => match ih c st with
    | some (.normal, st') => ih (.loop c) st'
    | r => r
  | .exit id, st => some (.exit id, st)
  | .ret, st => some (.ret, st)
  | .goto l, st => some (.goto l, st)
  | .scope whole rest, st => match ih rest st with
    | some (.goto l, st') => match afind whole l with
      | some r => ih (.scope whole r) st'
      | none => none
    | r => r
  | .kill l c, st => ih c { st with s := killAll st.s l }

def ev (AP : AProg) : Nat → Run
  | 0 => fun _ _ => none
  | k + 1 => evStep AP (ev AP k)

/-- A pure function, called. -/
def evF (AP : AProg) (k : Nat) (f : Nat) (args : List T) : Option T :=
  match AP f with
  | some F => if F.pure && F.nat.isNone then runPure (ev AP k) F args else none
  | none => none
end Go.Proofs.YtabfinhkoihhfaaGreat.Abs

/- The call's own memory: what is known of it, and how each kind of write keeps that. -/
namespace Go.Proofs.YtabfinhkoihhfaaGreat.Abs
open Go Go.RowKit
set_option linter.unusedVariables false
set_option linter.unusedSimpArgs false

/-- The cells of a block of the call's own. -/
def VD (w : World) (Z : Nat → Nat → Prop) (μ : Nat → Option Loc) (b o : Nat) (c : List T) : Prop :=
  ∀ (i : Nat) (x : T), c[i]? = some x → x.leaf = true ∧ ∃ v, w.cell? ⟨b, o + i, none⟩ = some v ∧ VR w Z μ x v

structure Inv (B : Nat) (W0 : World) (Z0 : Nat → Nat → Prop) (g : Mem) (w : World) (Z : Nat → Nat → Prop) (μ : Nat → Option Loc) : Prop where
  bel : Below B W0 w
  base : B ≤ w.heap.size
  zin : ∀ b o, Z b o → b < w.heap.size
  zold : ∀ b o, Z b o → Z0 b o ∨ B ≤ b
  blk : ∀ (t : Nat) c, g t = some c → ∃ m, μ t = some m ∧ B ≤ m.1 ∧ m.1 < w.heap.size ∧ c.length ≤ m.2.2 ∧ w.there m.1 m.2.1 m.2.2 ∧ (∀ i, i < m.2.2 → ¬ Z m.1 (m.2.1 + i)) ∧ VD w Z μ m.1 m.2.1 c
  dis : ∀ (t u : Nat) ct cu m m', t ≠ u → g t = some ct → g u = some cu → μ t = some m → μ u = some m' → m.1 ≠ m'.1 ∨ m.2.1 + m.2.2 ≤ m'.2.1 ∨ m'.2.1 + m'.2.2 ≤ m.2.1

section
variable {B : Nat} {W0 w w' : World} {Z0 Z Z' : Nat → Nat → Prop} {g g' : Mem} {μ μ' : Nat → Option Loc}

theorem VD.mono {b o : Nat} {c : List T} (h : VD w Z μ b o c) (hz : ZLe w w' Z Z') (hm : MLe μ μ') (hc : ∀ i, i < c.length → w'.cell? ⟨b, o + i, none⟩ = w.cell? ⟨b, o + i, none⟩) : VD w' Z' μ' b o c := by
  intro i x hx
  obtain ⟨h1, v, h2, h3⟩ := h i x hx
  exact ⟨h1, v, (hc i (List.getElem?_eq_some_iff.1 hx).1).trans h2, VR.mono hz hm x v h3⟩

theorem Inv.zsome (h : Inv B W0 Z0 g w Z μ) : True := trivial

theorem setCells_size (b : Nat) : ∀ (vs : List Value) (o : Nat) (w : World), (w.setCells b o vs).heap.size = w.heap.size
  | [], _, _ => rfl
  | v :: vs, o, w => by
    rw [World.setCells, setCells_size b vs]
    simp [World.setCell]
theorem setCells_below {b : Nat} (hb : B ≤ b) : ∀ (vs : List Value) (o : Nat) (w a : World), Below B a w → Below B a (w.setCells b o vs)
  | [], _, _, _, h => h
  | v :: vs, o, w, a, h => by
    rw [World.setCells]
    exact setCells_below hb vs _ _ _ (h.setCell hb v)
theorem ZLe.setCells {b o : Nat} {vs : List Value} (h : ∀ i, i < vs.length → ¬ Z b (o + i)) : ZLe w (w.setCells b o vs) Z Z := by
  intro b' o' hz
  refine ⟨hz, World.cell?_setCells_out b vs o w _ fun hb _ => ?_⟩
  simp only at hb
  subst hb
  by_cases h1 : o' < o
  · exact .inl h1
  · by_cases h2 : o + vs.length ≤ o'
    · exact .inr h2
    · exact absurd hz (by have := h (o' - o) (by omega); rwa [show o + (o' - o) = o' by omega] at this)
theorem ZLe.alloc (h : ∀ b o, Z b o → b < w.heap.size) (ob : Obj) : ZLe w (w.alloc ob) Z Z := fun b o hz => ⟨hz, World.cell?_alloc_lt _ _ _ (h b o hz)⟩
theorem ZLe.drew : ZLe w w.drew Z Z := fun b o hz => ⟨hz, rfl⟩

/-- A block less. -/
theorem Inv.del (h : Inv B W0 Z0 g w Z μ) (t : Nat) : Inv B W0 Z0 (put1 g (t, none)) w Z μ where
  bel := h.bel
  base := h.base
  zin := h.zin
  zold := h.zold
  blk u c hu := by
    simp only [put1] at hu
    split at hu
    · cases hu
    · exact h.blk u c hu
  dis u v cu cv m m' hn hu hv := by
    simp only [put1] at hu hv
    split at hu
    · cases hu
    · split at hv
      · cases hv
      · exact h.dis u v cu cv m m' hn hu hv

theorem Inv.drew (h : Inv B W0 Z0 g w Z μ) : Inv B W0 Z0 g w.drew Z μ where
  bel := h.bel.drew
  base := h.base
  zin := h.zin
  zold := h.zold
  blk t c ht := by
    obtain ⟨m, h1, h2, h3, h4, h5, h6, h7⟩ := h.blk t c ht
    exact ⟨m, h1, h2, h3, h4, by simpa using h5, h6, h7.mono ZLe.drew MLe.refl fun _ _ => rfl⟩
  dis := h.dis

/-- Cells are written in the extent of block t, which is given up. -/
theorem Inv.write (h : Inv B W0 Z0 g w Z μ) {t : Nat} {c : List T} {m : Loc} (ht : g t = some c) (hm : μ t = some m) (k : Nat) (vs : List Value) (hk : k + vs.length ≤ m.2.2) :
    Inv B W0 Z0 (put1 g (t, none)) (w.setCells m.1 (m.2.1 + k) vs) Z μ ∧ ZLe w (w.setCells m.1 (m.2.1 + k) vs) Z Z := by
  obtain ⟨m', h1, h2, h3, h4, h5, h6, h7⟩ := h.blk t c ht
  obtain rfl : m' = m := by rw [hm] at h1; exact (Option.some.inj h1).symm
  have hz : ZLe w (w.setCells m'.1 (m'.2.1 + k) vs) Z Z := ZLe.setCells fun i hi => by
    have := h6 (k + i) (by omega); rwa [← Nat.add_assoc] at this
  refine ⟨⟨setCells_below h2 _ _ _ _ h.bel, by rw [setCells_size]; exact h.base, by rw [setCells_size]; exact h.zin, h.zold, fun u cu hu => ?_, (h.del t).dis⟩, hz⟩
  have hne : u ≠ t := fun e => by simp [put1, e] at hu
  have hu' : g u = some cu := by simpa [put1, hne] using hu
  obtain ⟨mu, k1, k2, k3, k4, k5, k6, k7⟩ := h.blk u cu hu'
  refine ⟨mu, k1, k2, by rw [setCells_size]; exact k3, k4, World.there_setCells k5 _ _ _, k6, k7.mono hz MLe.refl fun i hi => ?_⟩
  refine World.cell?_setCells_out _ _ _ _ _ fun hb _ => ?_
  simp only at hb ⊢
  rcases h.dis u t cu c mu m' hne hu' ht k1 h1 with hd | hd | hd
  · exact absurd hb.symm (fun e => hd e.symm)
  · left; omega
  · right; omega

/-- A block more: cells that are there and that nobody else has. -/
theorem Inv.put (h : Inv B W0 Z0 g w Z μ) {t : Nat} {c : List T} {m : Loc} (hm : μ t = some m) (hB : B ≤ m.1) (hs : m.1 < w.heap.size) (hc : c.length ≤ m.2.2) (hth : w.there m.1 m.2.1 m.2.2)
    (hZ : ∀ i, i < m.2.2 → ¬ Z m.1 (m.2.1 + i)) (hD : VD w Z μ m.1 m.2.1 c)
    (hd : ∀ (u : Nat) cu m', u ≠ t → g u = some cu → μ u = some m' → m.1 ≠ m'.1 ∨ m.2.1 + m.2.2 ≤ m'.2.1 ∨ m'.2.1 + m'.2.2 ≤ m.2.1) : Inv B W0 Z0 (put1 g (t, some c)) w Z μ where
  bel := h.bel
  base := h.base
  zin := h.zin
  zold := h.zold
  blk u cu hu := by
    simp only [put1] at hu
    split at hu
    · rename_i e; subst e; obtain rfl := Option.some.inj hu; exact ⟨m, hm, hB, hs, hc, hth, hZ, hD⟩
    · exact h.blk u cu hu
  dis u v cu cv mu mv hn hu hv k1 k2 := by
    simp only [put1] at hu hv
    split at hu
    · rename_i e; subst e
      rw [if_neg (fun e => hn e.symm)] at hv
      rw [hm] at k1; obtain rfl := Option.some.inj k1
      exact hd v cv mv (fun e => hn e.symm) hv k2
    · rename_i hne
      split at hv
      · rename_i e; subst e
        rw [hm] at k2; obtain rfl := Option.some.inj k2
        rcases hd u cu mu hne hu k1 with h1 | h1 | h1
        · exact .inl fun e => h1 e.symm
        · exact .inr (.inr h1)
        · exact .inr (.inl h1)
      · exact h.dis u v cu cv mu mv hn hu hv k1 k2

def upd (μ : Nat → Option Loc) (t : Nat) (m : Loc) : Nat → Option Loc := fun u => if u = t then some m else μ u
theorem MLe.upd {t : Nat} {m : Loc} (h : μ t = none) : MLe μ (upd μ t m) := fun u k hu => by
  have : u ≠ t := fun e => by subst e; rw [h] at hu; cases hu
  simp [Abs.upd, this, hu]

/-- A name more for blocks. -/
theorem Inv.name (h : Inv B W0 Z0 g w Z μ) {t : Nat} {m : Loc} (hn : μ t = none) : Inv B W0 Z0 g w Z (upd μ t m) where
  bel := h.bel
  base := h.base
  zin := h.zin
  zold := h.zold
  blk u c hu := by
    obtain ⟨mu, h1, h2, h3, h4, h5, h6, h7⟩ := h.blk u c hu
    exact ⟨mu, MLe.upd hn u mu h1, h2, h3, h4, h5, h6, h7.mono ZLe.refl (MLe.upd hn) fun _ _ => rfl⟩
  dis u v cu cv mu mv hne hu hv k1 k2 := by
    obtain ⟨m1, h1, _⟩ := h.blk u cu hu
    obtain ⟨m2, h2, _⟩ := h.blk v cv hv
    have e1 := MLe.upd (m := m) hn u m1 h1
    have e2 := MLe.upd (m := m) hn v m2 h2
    rw [e1] at k1; rw [e2] at k2
    obtain rfl := Option.some.inj k1
    obtain rfl := Option.some.inj k2
    exact h.dis u v cu cv _ _ hne hu hv h1 h2

/-- A block of memory is made. -/
theorem Inv.alloc (h : Inv B W0 Z0 g w Z μ) {t : Nat} {c : List T} (arr : Array Value) (e : TypeId) (hn : μ t = none) (hl : allLeaf c = true) (hc : c.length ≤ arr.size)
    (hv : ∀ (i : Nat) x, c[i]? = some x → ∃ v, arr[i]? = some v ∧ VR w Z μ x v) :
    Inv B W0 Z0 (put1 g (t, some c)) (w.alloc (.cells arr e)) Z (upd μ t (w.heap.size, 0, arr.size)) ∧ ZLe w (w.alloc (.cells arr e)) Z Z := by
  have hz : ZLe w (w.alloc (.cells arr e)) Z Z := ZLe.alloc h.zin _
  have hsz : (w.alloc (.cells arr e)).heap.size = w.heap.size + 1 := by simp
  have h0 := h.name (t := t) (m := (w.heap.size, 0, arr.size)) hn
  have h1 : Inv B W0 Z0 g (w.alloc (.cells arr e)) Z (upd μ t (w.heap.size, 0, arr.size)) :=
    ⟨h.bel.alloc h.base _, by rw [hsz]; have := h.base; omega, fun b o hb => by rw [hsz]; have := h.zin b o hb; omega, h.zold, fun u cu hu => by
      obtain ⟨mu, k1, k2, k3, k4, k5, k6, k7⟩ := h0.blk u cu hu
      exact ⟨mu, k1, k2, by rw [hsz]; omega, k4, World.there_alloc k5 _, k6, k7.mono hz MLe.refl fun i hi => World.cell?_alloc_lt _ _ _ k3⟩, h0.dis⟩
  refine ⟨h1.put (m := (w.heap.size, 0, arr.size)) (by simp [upd]) h.base (by rw [hsz]; omega) hc ?_ ?_ ?_ ?_, hz⟩
  · intro j hj
    simp only [Nat.zero_add]
    refine ⟨?_, ?_⟩
    · rw [World.cell?_alloc_new]; simp at hj; simp [hj]
    · rw [World.frozen?_alloc_new]
  · intro i hi hzz
    have := h.zin _ _ hzz
    simp at this
  · intro i x hx
    obtain ⟨v, k1, k2⟩ := hv i x hx
    refine ⟨List.all_eq_true.1 hl x (List.mem_of_getElem? hx), v, ?_, VR.mono hz (MLe.upd hn) x v k2⟩
    simp only [Nat.zero_add]
    rw [World.cell?_alloc_new]; exact k1
  · intro u cu m' hne hu hm'
    obtain ⟨mu, k1, k2, k3, _⟩ := h.blk u cu hu
    rw [MLe.upd hn u mu k1] at hm'
    obtain rfl := Option.some.inj hm'
    left; simp only; omega
end
end Go.Proofs.YtabfinhkoihhfaaGreat.Abs

/- From the model's operations to the plain machine's. -/
namespace Go.Proofs.YtabfinhkoihhfaaGreat.Abs
open Go Go.RowKit
set_option linter.unusedVariables false
set_option linter.unusedSimpArgs false

def ofV1 : Value → Option T
  | .int k n => some (.int k n)
  | .bool b => some (.bool b)
  | .slice none 0 0 => some (.imm true 0 [])
  | _ => none
def ofVL : List Value → Option (List T)
  | [] => some []
  | v :: vs => match ofV1 v, ofVL vs with | some x, some xs => some (x :: xs) | _, _ => none
def ofV : Value → Option T
  | .agg cs => match ofVL cs.toList with | some l => some (.agg l) | none => none
  | v => ofV1 v

def opd : Operand → Option Opd
  | .tmp t => some (.tmp t)
  | .const v => match ofV v with | some x => some (.con x) | none => none
  | .func f => some (.con (.fn f [] []))
  | .global _ => none
def opds : List Operand → Option (List Opd)
  | [] => some []
  | x :: xs => match opd x, opds xs with | some y, some ys => some (y :: ys) | _, _ => none
def opdo : Option Operand → Option (Option Opd)
  | none => some none
  | some x => match opd x with | some y => some (some y) | none => none

/-- A type's zero, as cells. -/
def zc (P : Program) (t : TypeId) : Option (List T) :=
  match P.info? t with
  | some i => match i.zero with
    | some z => if z.cells.size = i.size ∧ 0 < i.size then ofVL z.cells.toList else none
    | none => none
  | none => none
/-- Is a value of the type no aggregate; how many cells. -/
def oneOf (P : Program) (t : TypeId) : Option (Bool × Nat) :=
  match P.underlying t, P.info? t with
  | some (.struct _), some i => some (false, i.size)
  | some (.array _ _), some i => some (false, i.size)
  | some _, some i => if i.size = 1 then some (true, 1) else none
  | _, _ => none
def szOf (P : Program) (t : TypeId) : Option Nat :=
  match P.info? t with
  | some i => if 0 < i.size then some i.size else none
  | none => none

/-- The kinds of a type's cells, if its values can be compared cell by cell. -/
def fieldsK (P : Program) (κ : TypeId → Option (List (Option IntKind))) : List Field → Nat → Option (List (Option IntKind))
  | [], _ => some []
  | f :: fs, o => match κ f.type with
    | some ks => if f.offset = o ∧ P.cellsOf f.type = ks.length then match fieldsK P κ fs (o + ks.length) with
        | some r => some (ks ++ r)
        | none => none
      else none
    | none => none
def kindsOf (P : Program) : Nat → TypeId → Option (List (Option IntKind))
  | 0, _ => none
  | d + 1, t => match P.underlying t with
    | some .bool => some [none]
    | some (.int k) => some [some k]
    | some (.array n e) => match kindsOf P d e with
      | some ks => if P.cellsOf t = n * ks.length ∧ P.cellsOf e = ks.length then some (List.replicate n ks).flatten else none
      | none => none
    | some (.struct fs) => if fs.all (·.name != "_") then match fieldsK P (kindsOf P d) fs.toList 0 with
        | some ks => if P.cellsOf t = ks.length then some ks else none
        | none => none
      else none
    | _ => none
/-- The kinds of a struct's or an array's cells. -/
def eqKinds (P : Program) (t : TypeId) : Option (List (Option IntKind)) :=
  match P.underlying t with
  | some (.struct _) | some (.array _ _) => if P.keyTypeAt 9 t && !P.eqGuardType P.depth t then kindsOf P 9 t else none
  | _ => none

/-- The places of a struct's fields, of an array's elements. -/
def fplaces (P : Program) : List Field → Option (List (Nat × Nat))
  | [] => some []
  | f :: fs => match P.info? f.type, fplaces P fs with | some i, some r => some ((f.offset, i.size) :: r) | _, _ => none
def partsOf (pl : Nat → Option (Nat × Nat)) : List (Nat × Operand) → Option (List (Nat × Nat × Opd))
  | [] => some []
  | (i, x) :: r => match pl i, opd x, partsOf pl r with | some (o, n), some y, some q => some ((o, n, y) :: q) | _, _, _ => none

def compOp (P : Program) : Op → Option AOp
  | .build t ps => match P.underlying t, zc P t with
    | some (.struct fs), some z => match fplaces P fs.toList with
      | some pl => match partsOf (pl[·]?) ps.toList with | some q => some (.build z q) | none => none
      | none => none
    | some (.array _ e), some z => match P.info? e with
      | some i => match partsOf (fun j => some (j * i.size, i.size)) ps.toList with | some q => some (.build z q) | none => none
      | none => none
    | _, _ => none
  | .buildSlice t len ps => match P.underlying t with
    | some (.slice e) => match zc P e, P.info? e with
      | some z, some i => if len * i.size ≤ 2 ^ 24 then match partsOf (fun j => some (j * i.size, i.size)) ps.toList with | some q => some (.bsl (List.replicate len z).flatten len i.size q) | none => none else none
      | _, _ => none
    | _ => none
  | .move x => match opd x with | some y => some (.mv y) | none => none
  | .assign x => match opd x with | some y => some (.mv y) | none => none
  | .pick c a b => match opd c, opd a, opd b with | some c, some a, some b => some (.pick c a b) | _, _, _ => none
  | .alloc e => match zc P e with | some z => some (.alloc z) | none => none
  | .box e x => match opd x with | some y => some (.box y) | none => none
  | .load t a => match oneOf P t, opd a with | some (one, n), some a => some (.load one n a) | _, _ => none
  | .store t a x => match szOf P t, opd a, opd x with | some n, some a, some x => some (.store n a x) | _, _, _ => none
  | .nilCheck x => match opd x with | some y => some (.nilchk y) | none => none
  | .binOp op t x y _ => match opd x, opd y with
    | some x, some y => match P.underlying t with
      | some (.int _) => some (.bin op x y)
      | some .bool => match op with | .eql => some (.beq false x y) | .neq => some (.beq true x y) | _ => none
      | _ => match eqKinds P t with
        | some ks => match op with | .eql => some (.aeq false ks x y) | .neq => some (.aeq true ks x y) | _ => none
        | none => none
    | _, _ => none
  | .unOp op _ x => match opd x with | some y => some (.un op y) | none => none
  | .convert s d x => match P.underlying s, P.underlying d, opd x with | some _, some (.int k), some y => some (.conv k y) | _, _, _ => none
  | .makeFunc (.func f) fs cs => match opds fs.toList, opds cs.toList with | some fs, some cs => some (.mkfn f fs cs) | _, _ => none
  | .makeSlice t l c => match P.underlying t with
    | some (.slice e) => match zc P e, P.info? e, opd l, opd c with | some z, some i, some l, some c => some (.mksl z i.size i.bytes l c) | _, _, _, _ => none
    | _ => none
  | .slice t x lo hi mx => match P.underlying t with
    | some (.array n e) => match szOf P e, opd x, opdo lo, opdo hi, opdo mx with | some es, some x, some lo, some hi, some mx => if mx.isNone || hi.isSome then some (.slArr n es x lo hi mx) else none | _, _, _, _, _ => none
    | some (.slice e) => match szOf P e, opd x, opdo lo, opdo hi, opdo mx with | some es, some x, some lo, some hi, some mx => if mx.isNone || hi.isSome then some (.slSl es x lo hi mx) else none | _, _, _, _, _ => none
    | _ => none
  | .fieldAddr s x f => match P.underlying s with
    | some (.struct fs) => match fs[f]? with
      | some fd => match szOf P fd.type, opd x with | some _, some x => some (.faddr x fd.offset) | _, _ => none
      | none => none
    | _ => none
  | .field s x f => match P.underlying s with
    | some (.struct fs) => match fs[f]? with
      | some fd => match oneOf P fd.type, opd x with | some (one, n), some x => some (.field one fd.offset n x) | _, _ => none
      | none => none
    | _ => none
  | .indexAddr t x i => match P.underlying t with
    | some (.array n e) => match szOf P e, opd x, opd i with | some es, some x, some i => some (.iarr n es x i) | _, _, _ => none
    | some (.slice e) => match szOf P e, opd x, opd i with | some es, some x, some i => some (.isl es x i) | _, _, _ => none
    | _ => none
  | .index t x i => match P.underlying t with
    | some (.array n e) => match oneOf P e, opd x, opd i with | some (one, es), some x, some i => some (.index one n es x i) | _, _, _ => none
    | _ => none
  | .extract x i => match opd x with | some y => some (.extract y i) | none => none
  | .call { callee := .value (.func f), args, .. } => match opds args.toList with | some l => some (.call f l) | none => none
  | .call { callee := .value (.tmp t), args, .. } => match opds args.toList with | some l => some (.callv (.tmp t) l) | none => none
  | .call { callee := .builtin .len, args, argTypes } => match argTypes[0]?, args.toList with
    | some t, [x] => match P.underlying t, opd x with
      | some (.slice _), some y => some (.len y)
      | some (.array n _), some _ => some (.mv (.con (.int .i64 n)))
      | _, _ => none
    | _, _ => none
  | .call { callee := .builtin .append, args, argTypes } => match argTypes.toList, args.toList with
    | [t, u], [s, x] => match P.underlying t, P.underlying u with
      | some (.slice e), some (.slice _) => match zc P e, P.info? e, opd s, opd x with | some z, some i, some s, some x => some (.append i.size i.bytes s x) | _, _, _, _ => none
      | _, _ => none
    | _, _ => none
  | .call { callee := .builtin .copy, args, argTypes } => match argTypes.toList, args.toList with
    | [t, u], [s, x] => match P.underlying t with
      | some (.slice e) => match szOf P e, opd s, opd x with | some n, some s, some x => some (.copy n s x) | _, _, _ => none
      | _ => none
    | _, _ => none
  | .call { callee := .builtin .min, args, .. } => match opds args.toList with | some l => some (.mn l) | none => none
  | .call { callee := .builtin .max, args, .. } => match opds args.toList with | some l => some (.mx l) | none => none
  | _ => none

section
variable {w : World} {Z : Nat → Nat → Prop} {μ : Nat → Option Loc}
theorem ofV1_ok {v : Value} {x : T} (h : ofV1 v = some x) : VI w Z x v ∧ x.leaf = true := by
  unfold ofV1 at h
  split at h <;> simp at h <;> subst h <;> simp [VI, T.leaf]
theorem ofVL_ok : ∀ {vs : List Value} {l : List T}, ofVL vs = some l → VIL w Z l vs ∧ allLeaf l = true
  | [], _, h => by simp [ofVL] at h; subst h; simp [VIL, allLeaf]
  | v :: vs, l, h => by
    simp only [ofVL] at h
    split at h
    · rename_i x xs h1 h2
      obtain rfl := Option.some.inj h
      have k1 := ofV1_ok (w := w) (Z := Z) h1
      have k2 := ofVL_ok h2
      refine ⟨by simp only [VIL]; exact ⟨v, vs, rfl, k1.1, k2.1⟩, by have := k2.2; simp only [allLeaf, List.all_cons, k1.2, Bool.true_and] at *; exact this⟩
    · cases h
theorem ofV_ok {v : Value} {x : T} (h : ofV v = some x) : VI w Z x v := by
  cases v with
  | agg cs =>
    simp only [ofV] at h
    split at h
    · rename_i l hl
      obtain rfl := Option.some.inj h
      simp only [VI]
      exact ⟨cs, rfl, (ofVL_ok hl).1⟩
    · cases h
  | _ => exact (ofV1_ok (by simpa only [ofV] using h)).1
theorem rho_ok {a : Act} {s : List T} (hs : VRL w Z μ s a.tmps.toList) {x : Operand} {y : Opd} (h : opd x = some y) : VR w Z μ (rho s y) (a.eval x) := by
  cases x with
  | tmp t =>
    simp [opd] at h; subst h
    simp only [rho, Act.eval, List.getD_eq_getElem?_getD]
    cases hx : s[t]? with
    | none =>
      have : a.tmps.size ≤ t := by have h1 := hs.len; have := List.getElem?_eq_none_iff.1 hx; simp at h1; omega
      simp only [Option.getD_none, VR, VI]
      simp [this]
    | some x =>
      obtain ⟨v, hv, hr⟩ := hs.get hx
      have : a.tmps.getD t undef = v := by
        simp at hv
        simp [Array.getD_eq_getD_getElem?, hv]
      simp only [Option.getD_some, this]; exact hr
  | const v =>
    simp only [opd] at h
    split at h
    · rename_i x hx; obtain rfl := Option.some.inj h; exact VI.vr _ _ (ofV_ok hx)
    · cases h
  | global g => simp [opd] at h
  | func f =>
    simp [opd] at h; subst h
    simp only [rho, Act.eval, VR]
    exact ⟨#[], #[], rfl, by simp [VRL], by simp [VRL]⟩
theorem rhos_ok {a : Act} {s : List T} (hs : VRL w Z μ s a.tmps.toList) : ∀ {xs : List Operand} {ys : List Opd}, opds xs = some ys → VRL w Z μ (ys.map (rho s)) (xs.map a.eval)
  | [], ys, h => by simp [opds] at h; subst h; simp [VRL]
  | x :: xs, ys, h => by
    simp only [opds] at h
    split at h
    · rename_i y ys' h1 h2
      obtain rfl := Option.some.inj h
      simp only [List.map_cons, VRL]
      exact ⟨_, _, rfl, rho_ok hs h1, rhos_ok hs h2⟩
    · cases h
/-- Writing a slot. -/
theorem VRL.set {l : List T} {vs : List Value} (h : VRL w Z μ l vs) {i : Nat} {x : T} {v : Value} (hv : VR w Z μ x v) : VRL w Z μ (l.set i x) (vs.set i v) := by
  refine VRL.mk (by simp [h.len]) fun j y u hy hu => ?_
  rw [List.getElem?_set] at hy hu
  split at hy
  · rename_i e; subst e
    rw [if_pos rfl] at hu
    have h1 := h.len
    split at hy
    · split at hu
      · obtain rfl := Option.some.inj hy; obtain rfl := Option.some.inj hu; exact hv
      · cases hu
    · cases hy
  · rename_i e
    rw [if_neg e] at hu
    obtain ⟨u', h1, h2⟩ := h.get hy
    rw [hu] at h1; obtain rfl := Option.some.inj h1; exact h2
theorem put_ok {a : Act} {s : List T} (hs : VRL w Z μ s a.tmps.toList) {d : Option Nat} {x : T} {v : Value} (hv : VR w Z μ x v) : VRL w Z μ (setDst s d x) (a.put d v).tmps.toList := by
  cases d with
  | none => exact hs
  | some d =>
    simp only [setDst, Act.put, Array.toList_setIfInBounds]
    exact hs.set hv
end

/-- The operation comes to value v and world w'. -/
def Goes (P : Program) (o : Oper) (a : Act) (w : World) (v : Value) (w' : World) : Prop :=
  ∀ (next : Act → World → Prop) (Q : Exit → Act → World → Prop), next (a.put o.dst v) w' → o.wp P a w next Q
theorem goes_value {P : Program} {o : Oper} {a : Act} {w w' : World} {v : Value} (h : (execOp a.eval o).run P w = .ok (.value v) w') : Goes P o a w v w' := by
  intro next Q hn; unfold Oper.wp; rw [h]; exact hn
theorem goes_skip {P : Program} {o : Oper} {a : Act} {w w' : World} (h : (execOp a.eval o).run P w = .ok .skip w') : Goes P o a w undef w' := by
  intro next Q hn; unfold Oper.wp; rw [h]; exact hn
end Go.Proofs.YtabfinhkoihhfaaGreat.Abs

/- Each operation of the model does what the plain machine's does. -/
namespace Go.Proofs.YtabfinhkoihhfaaGreat.Abs
open Go Go.RowKit
set_option linter.unusedVariables false
set_option linter.unusedSimpArgs false

def OpOk (P : Program) (o : Oper) (a : Act) (B : Nat) (W0 : World) (Z0 : Nat → Nat → Prop) (g : Mem) (w : World) (Z : Nat → Nat → Prop) (μ : Nat → Option Loc) (fr : Nat) (r : Res) : Prop :=
  ∃ v w' μ', Goes P o a w v w' ∧ VR w' Z μ' r.v v ∧ Inv B W0 Z0 (putAll g r.ed) w' Z μ' ∧ ZLe w w' Z Z ∧ MLe μ μ' ∧ ∀ u, u ≠ fr → μ' u = μ u

section
variable {P : Program} {o : Oper} {a : Act} {B : Nat} {W0 w : World} {Z0 Z : Nat → Nat → Prop} {g : Mem} {μ : Nat → Option Loc} {fr : Nat} {r : Res} {s : List T}

theorem opok_quiet (hi : Inv B W0 Z0 g w Z μ) {v : Value} {x : T} {rd : List Nat} (hg : Goes P o a w v w) (hv : VR w Z μ x v) : OpOk P o a B W0 Z0 g w Z μ fr ⟨x, rd, []⟩ :=
  ⟨v, w, μ, hg, hv, hi, ZLe.refl, MLe.refl, fun _ _ => rfl⟩

theorem asg_ok (hi : Inv B W0 Z0 g w Z μ) (hs : VRL w Z μ s a.tmps.toList) {x : Operand} {y : Opd} (ho : o.op = .move x ∨ o.op = .assign x) (hx : opd x = some y) : OpOk P o a B W0 Z0 g w Z μ fr ⟨rho s y, [], []⟩ := by
  refine opok_quiet hi (goes_value ?_) (rho_ok hs hx)
  unfold execOp; rcases ho with ho | ho <;> rw [ho] <;> rfl

theorem vr_bool {x : T} {v : Value} {b : Bool} (h : VR w Z μ x v) (e : x = .bool b) : v = .bool b := by subst e; simpa only [VR, VI] using h
theorem vr_int {x : T} {v : Value} {k : IntKind} {n : Int} (h : VR w Z μ x v) (e : x = .int k n) : v = .int k n := by subst e; simpa only [VR, VI] using h

theorem pick_ok (hi : Inv B W0 Z0 g w Z μ) (hs : VRL w Z μ s a.tmps.toList) {c x y : Operand} {c' x' y' : Opd} (ho : o.op = .pick c x y) (hc : opd c = some c') (hx : opd x = some x') (hy : opd y = some y')
    (hr : opRes (.pick c' x' y') fr s g = some r) : OpOk P o a B W0 Z0 g w Z μ fr r := by
  simp only [opRes] at hr
  split at hr
  · rename_i e
    obtain rfl := Option.some.inj hr
    refine opok_quiet hi (goes_value ?_) (rho_ok hs hx)
    unfold execOp; rw [ho]; simp [vr_bool (rho_ok hs hc) e, asBool]
  · rename_i e
    obtain rfl := Option.some.inj hr
    refine opok_quiet hi (goes_value ?_) (rho_ok hs hy)
    unfold execOp; rw [ho]; simp [vr_bool (rho_ok hs hc) e, asBool]
  · cases hr

theorem zc_ok {t : TypeId} {z : List T} (h : zc P t = some z) : ∃ i zv, P.info? t = some i ∧ i.zero = some zv ∧ zv.cells.size = i.size ∧ 0 < i.size ∧ ofVL zv.cells.toList = some z := by
  unfold zc at h
  split at h
  · rename_i i hi
    split at h
    · rename_i zv hz
      split at h
      · rename_i hc; exact ⟨i, zv, hi, hz, hc.1, hc.2, h⟩
      · cases h
    · cases h
  · cases h

theorem new_ok (hi : Inv B W0 Z0 g w Z μ) (hn : μ fr = none) {c : List T} {arr : Array Value} (e : TypeId) {x : T} {v : Value} (hl : allLeaf c = true) (hc : VRL w Z μ c arr.toList)
    (hg : Goes P o a w v (w.alloc (.cells arr e))) (hv : VR (w.alloc (.cells arr e)) Z (upd μ fr (w.heap.size, 0, arr.size)) x v) {rd : List Nat} : OpOk P o a B W0 Z0 g w Z μ fr ⟨x, rd, [(fr, some c)]⟩ := by
  have hsz : arr.size = c.length := by have := hc.len; simpa using this
  obtain ⟨h1, h2⟩ := hi.alloc (t := fr) (c := c) arr e hn hl (by omega) fun i y hy => by
    obtain ⟨u, k1, k2⟩ := hc.get hy
    exact ⟨u, by simpa using k1, k2⟩
  exact ⟨v, _, _, hg, hv, h1, h2, MLe.upd hn, fun u hu => by simp [upd, hu]⟩

theorem alloc_ok (hi : Inv B W0 Z0 g w Z μ) (hn : μ fr = none) {e : TypeId} {z : List T} (ho : o.op = .alloc e) (hz : zc P e = some z) (hr : opRes (.alloc z) fr s g = some r) : OpOk P o a B W0 Z0 g w Z μ fr r := by
  simp only [opRes] at hr
  obtain ⟨i, zv, h1, h2, h3, h4, h5⟩ := zc_ok hz
  obtain ⟨k1, k2⟩ := ofVL_ok (w := w) (Z := Z) h5
  rw [if_pos k2] at hr
  obtain rfl := Option.some.inj hr
  refine new_ok hi hn e k2 (VIL.vr _ _ k1) (v := .pointer (some ⟨w.heap.size, 0, none⟩)) (goes_value ?_) ?_
  · unfold execOp; rw [ho]; simp [Instr.alloc, zeroValue, typeInfo, h1, h2, newVar, newRow]
  · simp only [VR]; exact ⟨(w.heap.size, 0, _), by simp [upd]; rfl, by simp⟩

theorem leaf_cells {x : T} (h : allLeaf x.cells = true) : x ≠ .junk ∧ x ≠ .undef ∧ ∀ l, x ≠ .tup l := by
  refine ⟨?_, ?_, ?_⟩ <;> intros <;> rintro rfl <;> simp [T.cells, allLeaf, T.leaf] at h

theorem box_ok (hi : Inv B W0 Z0 g w Z μ) (hn : μ fr = none) (hs : VRL w Z μ s a.tmps.toList) {e : TypeId} {x : Operand} {y : Opd} (ho : o.op = .box e x) (hx : opd x = some y) (hr : opRes (.box y) fr s g = some r) : OpOk P o a B W0 Z0 g w Z μ fr r := by
  simp only [opRes] at hr
  split at hr
  · rename_i hl
    obtain rfl := Option.some.inj hr
    obtain ⟨n1, n2, n3⟩ := leaf_cells hl
    refine new_ok hi hn e hl ((rho_ok hs hx).cells n1 n2 n3) (v := .pointer (some ⟨w.heap.size, 0, none⟩)) (goes_value ?_) ?_
    · unfold execOp; rw [ho]; simp [Instr.box, newVar, newRow]
    · simp only [VR]; exact ⟨(w.heap.size, 0, _), by simp [upd]; rfl, by simp⟩
  · cases hr

theorem nilchk_ok (hi : Inv B W0 Z0 g w Z μ) (hs : VRL w Z μ s a.tmps.toList) {x : Operand} {y : Opd} (ho : o.op = .nilCheck x) (hx : opd x = some y) (hr : opRes (.nilchk y) fr s g = some r) : OpOk P o a B W0 Z0 g w Z μ fr r := by
  simp only [opRes] at hr
  have hv := rho_ok hs hx
  split at hr
  · rename_i t p e
    obtain rfl := Option.some.inj hr
    rw [e] at hv
    refine opok_quiet hi (goes_value ?_) hv
    simp only [VR] at hv
    obtain ⟨m, _, hv⟩ := hv
    unfold execOp; rw [ho]; simp [hv]
  · rename_i t p e
    obtain rfl := Option.some.inj hr
    rw [e] at hv
    refine opok_quiet hi (goes_value ?_) hv
    simp only [VR, VI] at hv
    obtain ⟨b, q, hv, _⟩ := hv
    unfold execOp; rw [ho]; simp [hv]
  · rename_i f p q e
    obtain rfl := Option.some.inj hr
    rw [e] at hv
    refine opok_quiet hi (goes_value ?_) hv
    simp only [VR] at hv
    obtain ⟨b, q, hv, _⟩ := hv
    unfold execOp; rw [ho]; simp [hv]
  · cases hr

def T.v : T → Value
  | .int k n => .int k n
  | .bool b => .bool b
  | _ => Go.undef
theorem binT_run {op : BinOp} {t : TypeId} {x y z : T} {u v : Value} (h : binT op x y = some z) (hu : VR w Z μ x u) (hv : VR w Z μ y v) (p q : Operand) : VR w Z μ z z.v ∧ (do eqGuard op t p q u v; binOp op t u v : Sem Value).run P w = .ok z.v w := by
  unfold binT at h
  split at h
  · rename_i k m k' n
    simp only [VR, VI] at hu hv
    subst hu; subst hv
    have hq : ∀ f : Unit → Sem Value, (do eqGuard op t p q (.int k m) (.int k' n); f () : Sem Value).run P w = (f ()).run P w := by
      intro f; unfold eqGuard; split <;> simp
    have hq' := hq fun _ => binOp op t (.int k m) (.int k' n)
    rw [hq']
    cases op <;> dsimp only at h
    case shl => split at h
                · cases h
                · rename_i hb; obtain rfl := Option.some.inj h; exact ⟨by simp only [VR, VI, T.v], by simp [binOp, Op.shift, hb, T.v]⟩
    case shr => split at h
                · cases h
                · rename_i hb; obtain rfl := Option.some.inj h; exact ⟨by simp only [VR, VI, T.v], by simp [binOp, Op.shift, hb, T.v]⟩
    all_goals
      split at h
      · rename_i hk; subst hk
        first
          | (obtain rfl := Option.some.inj h; exact ⟨by simp only [VR, VI, T.v], by simp [binOp, Op.intArith, Op.intCmp, Op.intBits, T.v]⟩)
          | (split at h
             · cases h
             · rename_i hb; obtain rfl := Option.some.inj h; exact ⟨by simp only [VR, VI, T.v], by simp [binOp, Op.intDiv, hb, T.v]⟩)
      · cases h
  · cases h

theorem bin_ok (hi : Inv B W0 Z0 g w Z μ) (hs : VRL w Z μ s a.tmps.toList) {op : BinOp} {t u : TypeId} {x y : Operand} {x' y' : Opd} (ho : o.op = .binOp op t x y u) (hx : opd x = some x') (hy : opd y = some y')
    (hr : opRes (.bin op x' y') fr s g = some r) : OpOk P o a B W0 Z0 g w Z μ fr r := by
  simp only [opRes] at hr
  split at hr
  · rename_i z e
    obtain rfl := Option.some.inj hr
    obtain ⟨k1, k2⟩ := binT_run (P := P) (t := t) e (rho_ok hs hx) (rho_ok hs hy) x y
    refine opok_quiet hi (goes_value ?_) k1
    unfold execOp; rw [ho]; simp only [map_eq_pure_bind, Sem.run_bind] at k2 ⊢; simp [k2]
  · cases hr

theorem equal_bool1 {t : TypeId} (ht : P.underlying t = some .bool) (m n : Bool) (w : World) (d : Nat) : (Op.equalIn (d + 1) t (.bool m) (.bool n)).run P w = .ok (m == n) w := by
  simp only [Op.equalIn, Sem.run_bind, run_underlying ht, Result.andThen_ok, Sem.run_pure]
theorem equal_bool {t : TypeId} (ht : P.underlying t = some .bool) (m n : Bool) (w : World) : (Op.equal t (.bool m) (.bool n)).run P w = .ok (m == n) w := by
  unfold Op.equal
  exact equal_bool1 ht m n w 9999
theorem beq_ok (hi : Inv B W0 Z0 g w Z μ) (hs : VRL w Z μ s a.tmps.toList) {op : BinOp} {t u : TypeId} {x y : Operand} {x' y' : Opd} {neg : Bool} (ho : o.op = .binOp op t x y u) (hop : op = if neg then .neq else .eql) (ht : P.underlying t = some .bool)
    (hx : opd x = some x') (hy : opd y = some y') (hr : opRes (.beq neg x' y') fr s g = some r) : OpOk P o a B W0 Z0 g w Z μ fr r := by
  simp only [opRes] at hr
  split at hr
  · rename_i m n e1 e2
    obtain rfl := Option.some.inj hr
    refine opok_quiet hi (v := .bool (if neg then !(m == n) else m == n)) (goes_value ?_) (by simp only [VR, VI])
    have h1 := vr_bool (rho_ok hs hx) e1
    have h2 := vr_bool (rho_ok hs hy) e2
    have h3 := equal_bool ht m n w
    unfold execOp; rw [ho]
    cases neg <;> simp only [Bool.false_eq_true, if_false, if_true] at hop <;> subst hop
    · have h4 : (do eqGuard .eql t x y (.bool m) (.bool n); binOp .eql t (.bool m) (.bool n) : Sem Value).run P w = .ok (.bool (m == n)) w := by
        simp only [eqGuard, binOp, Sem.run_bind]
        simp [h3]
      simp only [h1, h2]
      rw [Sem.run_bind, h4]
      rfl
    · have h4 : (do eqGuard .neq t x y (.bool m) (.bool n); binOp .neq t (.bool m) (.bool n) : Sem Value).run P w = .ok (.bool !(m == n)) w := by
        simp only [eqGuard, binOp, Sem.run_bind]
        simp [h3]
      simp only [h1, h2]
      rw [Sem.run_bind, h4]
      rfl
  · cases hr

theorem un_ok (hi : Inv B W0 Z0 g w Z μ) (hs : VRL w Z μ s a.tmps.toList) {op : UnOp} {t : TypeId} {x : Operand} {x' : Opd} (ho : o.op = .unOp op t x) (hx : opd x = some x')
    (hr : opRes (.un op x') fr s g = some r) : OpOk P o a B W0 Z0 g w Z μ fr r := by
  simp only [opRes] at hr
  split at hr
  · rename_i z e
    obtain rfl := Option.some.inj hr
    have hv := rho_ok hs hx
    unfold unT at e
    split at e
    · rename_i k n ex
      obtain rfl := Option.some.inj e
      exact opok_quiet hi (v := .int k (k.wrap (0 - n))) (goes_value (by unfold execOp; rw [ho]; simp [vr_int hv ex, Op.unary, Op.intArith])) (by simp only [VR, VI])
    · rename_i k ex
      obtain rfl := Option.some.inj e
      exact opok_quiet hi (v := .bool (!k)) (goes_value (by unfold execOp; rw [ho]; simp [vr_bool hv ex, Op.unary, Op.intArith])) (by simp only [VR, VI])
    · rename_i k n ex
      obtain rfl := Option.some.inj e
      exact opok_quiet hi (v := .int k (k.wrap (BitVec.ofInt k.bits (if k.signed then -1 else k.max) ^^^ BitVec.ofInt k.bits n).toNat)) (goes_value (by unfold execOp; rw [ho]; simp [vr_int hv ex, Op.unary, Op.intBits])) (by simp only [VR, VI])
    · cases e
  · cases hr

theorem conv_ok (hi : Inv B W0 Z0 g w Z μ) (hs : VRL w Z μ s a.tmps.toList) {t u : TypeId} {k : IntKind} {d : TypeDesc} {x : Operand} {x' : Opd} (ho : o.op = .convert t u x) (ht : P.underlying t = some d) (hu : P.underlying u = some (.int k)) (hx : opd x = some x')
    (hr : opRes (.conv k x') fr s g = some r) : OpOk P o a B W0 Z0 g w Z μ fr r := by
  simp only [opRes] at hr
  split at hr
  · rename_i k' n e
    obtain rfl := Option.some.inj hr
    refine opok_quiet hi (v := .int k (k.wrap n)) (goes_value ?_) (by simp only [VR, VI])
    unfold execOp; rw [ho]
    simp [convert, run_underlying ht, run_underlying hu, vr_int (rho_ok hs hx) e, Conv.intToInt]
  · cases hr

theorem mkfn_ok (hi : Inv B W0 Z0 g w Z μ) (hs : VRL w Z μ s a.tmps.toList) {f : Nat} {fs cs : Array Operand} {fs' cs' : List Opd} (ho : o.op = .makeFunc (.func f) fs cs) (hf : opds fs.toList = some fs') (hc : opds cs.toList = some cs') :
    OpOk P o a B W0 Z0 g w Z μ fr ⟨.fn f (fs'.map (rho s)) (cs'.map (rho s)), [], []⟩ := by
  refine opok_quiet hi (v := .func (.func f) (fs.map a.eval) (cs.map a.eval)) (goes_value ?_) ?_
  · unfold execOp; rw [ho]; simp [Instr.makeFunc]
  · simp only [VR]
    exact ⟨_, _, rfl, by rw [Array.toList_map]; exact rhos_ok hs hf, by rw [Array.toList_map]; exact rhos_ok hs hc⟩

theorem extract_ok (hi : Inv B W0 Z0 g w Z μ) (hs : VRL w Z μ s a.tmps.toList) {x : Operand} {x' : Opd} {i : Nat} (ho : o.op = .extract x i) (hx : opd x = some x') (hr : opRes (.extract x' i) fr s g = some r) : OpOk P o a B W0 Z0 g w Z μ fr r := by
  simp only [opRes] at hr
  split at hr
  · rename_i l e
    split at hr
    · rename_i v e2
      obtain rfl := Option.some.inj hr
      have hv := rho_ok hs hx
      rw [e] at hv; simp only [VR] at hv
      obtain ⟨vs, hv, hl⟩ := hv
      obtain ⟨u, h1, h2⟩ := hl.get e2
      refine opok_quiet hi (goes_value ?_) h2
      have h1' : vs[i]? = some u := by simpa using h1
      unfold execOp; rw [ho]; simp [hv, Instr.extract, h1']
    · cases hr
  · cases hr

theorem one_ok {t : TypeId} {one : Bool} {n : Nat} (h : oneOf P t = some (one, n)) : ∃ d i, P.underlying t = some d ∧ P.info? t = some i ∧ i.size = n ∧ (one = true → n = 1) ∧ (∀ w : World, (isAgg t).run P w = .ok (!one) w) ∧ (one = false → d.isRow = true) := by
  unfold oneOf at h
  split at h
  · rename_i fs i h1 h2
    simp at h; obtain ⟨rfl, rfl⟩ := h
    exact ⟨_, _, h1, h2, rfl, by simp, fun w => by simp [isAgg, run_underlying h1], fun _ => rfl⟩
  · rename_i m e i h1 h2
    simp at h; obtain ⟨rfl, rfl⟩ := h
    exact ⟨_, _, h1, h2, rfl, by simp, fun w => by simp [isAgg, run_underlying h1], fun _ => rfl⟩
  · rename_i d i n1 n2 h1 h2
    split at h
    · rename_i hs
      simp at h; obtain ⟨rfl, rfl⟩ := h
      refine ⟨_, _, h1, h2, hs, fun _ => rfl, fun w => ?_, by simp⟩
      unfold isAgg; rw [Sem.run_bind, run_underlying h1]
      cases d <;> first | rfl | exact absurd rfl (n1 _ i) | exact absurd rfl (n2 _ _ i) | simp_all
    · cases h
  · cases h
end
end Go.Proofs.YtabfinhkoihhfaaGreat.Abs

/- The operations on memory. -/
namespace Go.Proofs.YtabfinhkoihhfaaGreat.Abs
open Go Go.RowKit
set_option linter.unusedVariables false
set_option linter.unusedSimpArgs false

theorem run_v {P : Program} {x : Sem Value} {w w' : World} {v : Value} (h : x.run P w = .ok v w') : (do pure (.value (← x)) : Sem Next).run P w = .ok (.value v) w' := by
  rw [Sem.run_bind, h]; rfl
theorem list_of {Q : Nat → Value → Prop} : ∀ (n : Nat), (∀ i, i < n → ∃ v, Q i v) → ∃ vs : List Value, vs.length = n ∧ ∀ i v, vs[i]? = some v → Q i v
  | 0, _ => ⟨[], rfl, by simp⟩
  | n + 1, h => by
    obtain ⟨vs, h1, h2⟩ := list_of n fun i hi => h i (by omega)
    obtain ⟨v, hv⟩ := h n (by omega)
    refine ⟨vs ++ [v], by simp [h1], fun i u hu => ?_⟩
    rcases Nat.lt_or_ge i vs.length with hlt | hge
    · rw [List.getElem?_append_left hlt] at hu; exact h2 i u hu
    · have hi : i = n := by have := (List.getElem?_eq_some_iff.1 hu).1; simp at this; omega
      subst hi
      rw [List.getElem?_append_right hge, h1] at hu
      simp at hu; subst hu; exact hv
theorem splice_len : ∀ (l c : List T) (o : Nat), (splice c o l).length = c.length
  | [], _, _ => rfl
  | v :: l, c, o => by rw [splice, splice_len l]; simp
theorem splice_get : ∀ (l c : List T) (o i : Nat), o + l.length ≤ c.length → (splice c o l)[i]? = if o ≤ i ∧ i < o + l.length then l[i - o]? else c[i]?
  | [], c, o, i, h => by rw [splice, if_neg (by rintro ⟨h1, h2⟩; simp at h2; omega)]
  | v :: l, c, o, i, h => by
    rw [splice, splice_get l _ _ _ (by simp at h ⊢; omega)]
    simp only [List.length_cons] at h ⊢
    by_cases h1 : o + 1 ≤ i ∧ i < o + 1 + l.length
    · rw [if_pos h1, if_pos (by omega), show i - o = (i - (o + 1)) + 1 by omega, List.getElem?_cons_succ]
    · rw [if_neg h1]
      by_cases h2 : i = o
      · subst h2
        rw [if_pos (by omega)]
        simp only [Nat.sub_self]
        rw [List.getElem?_set_self (by omega)]; rfl
      · rw [if_neg (by omega), List.getElem?_set_ne (by omega)]
theorem cut_get (c : List T) (o n i : Nat) : (cut c o n)[i]? = if i < n then c[o + i]? else none := by
  unfold cut; rw [List.getElem?_take]; split
  · rw [List.getElem?_drop]
  · rfl
theorem cut_len {c : List T} {o n : Nat} (h : o + n ≤ c.length) : (cut c o n).length = n := by unfold cut; simp; omega

section
variable {P : Program} {o : Oper} {a : Act} {B : Nat} {W0 w : World} {Z0 Z : Nat → Nat → Prop} {g : Mem} {μ : Nat → Option Loc} {fr : Nat} {r : Res} {s : List T}

theorem VD.range {b p : Nat} {c : List T} (h : VD w Z μ b p c) {off n : Nat} (hn : off + n ≤ c.length) : ∃ vs : List Value, vs.length = n ∧ VRL w Z μ (cut c off n) vs ∧ w.rangeAt b (p + off) vs ∧ ∀ v ∈ vs, v.oneCell' = true := by
  obtain ⟨vs, h1, h2⟩ := list_of (Q := fun i v => ∃ x, c[off + i]? = some x ∧ x.leaf = true ∧ w.cell? ⟨b, p + (off + i), none⟩ = some v ∧ VR w Z μ x v) n fun i hi => by
    have hx := List.getElem?_eq_getElem (l := c) (i := off + i) (by omega)
    obtain ⟨k1, v, k2, k3⟩ := h _ _ hx
    exact ⟨v, _, hx, k1, k2, k3⟩
  refine ⟨vs, h1, VRL.mk (by rw [cut_len hn, h1]) fun i x v hx hv => ?_, fun j v hv => ?_, fun v hv => ?_⟩
  · obtain ⟨y, k1, _, _, k4⟩ := h2 i v hv
    rw [cut_get] at hx
    split at hx
    · rw [k1] at hx; obtain rfl := Option.some.inj hx; exact k4
    · cases hx
  · obtain ⟨y, _, _, k3, _⟩ := h2 j v hv
    rw [Nat.add_assoc]; exact k3
  · obtain ⟨i, hi, rfl⟩ := List.getElem_of_mem hv
    obtain ⟨y, _, k2, _, k4⟩ := h2 i _ (List.getElem?_eq_getElem hi)
    exact k4.oneCell k2
theorem VC.vd {b p : Nat} {c : List T} (h : VC w Z b p c) : VD w Z μ b p c := fun i x hx => by
  obtain ⟨v, h1, h2, h3, h4⟩ := h.get hx
  exact ⟨h4, v, h1, VI.vr _ _ h3⟩
theorem VC.cut {b p : Nat} {c : List T} (h : VC w Z b p c) (off n : Nat) : VC w Z b (p + off) (cut c off n) := VC.mk fun i x hx => by
  rw [cut_get] at hx
  split at hx
  · rw [Nat.add_assoc]; exact h.get hx
  · cases hx

/-- Reading from cells. -/
theorem load_run {t : TypeId} {one : Bool} {n : Nat} (h1 : oneOf P t = some (one, n)) {b p off : Nat} {c : List T} (hd : VD w Z μ b p c) (hn : off + n ≤ c.length) :
    if one then ∃ x v, c[off]? = some x ∧ VR w Z μ x v ∧ (Instr.loadAt t (.pointer (some ⟨b, p + off, none⟩))).run P w = .ok v w
    else ∃ vs, VRL w Z μ (cut c off n) vs ∧ (Instr.loadAt t (.pointer (some ⟨b, p + off, none⟩))).run P w = .ok (.agg vs.toArray) w := by
  obtain ⟨d, i, k1, k2, k3, k4, k5, k6⟩ := one_ok h1
  cases one with
  | true =>
    have hn1 := k4 rfl
    have hx := List.getElem?_eq_getElem (l := c) (i := off) (by omega)
    obtain ⟨m1, v, m2, m3⟩ := hd _ _ hx
    refine ⟨_, v, hx, m3, ?_⟩
    simp [Instr.loadAt, Instr.sureAddr, loadVar, k5 w, load, Sem.run, m2]
  | false =>
    obtain ⟨vs, m1, m2, m3, _⟩ := hd.range hn
    exact ⟨vs, m2, run_loadAt_mid w b (p + off) t vs d m3 k1 (k6 rfl) (by rw [k2]; simp [k3, m1])⟩

theorem load_ok (hi : Inv B W0 Z0 g w Z μ) (hs : VRL w Z μ s a.tmps.toList) {t : TypeId} {x : Operand} {y : Opd} {one : Bool} {n : Nat} (ho : o.op = .load t x) (h1 : oneOf P t = some (one, n)) (hx : opd x = some y)
    (hr : opRes (.load one n y) fr s g = some r) : OpOk P o a B W0 Z0 g w Z μ fr r := by
  have hv := rho_ok hs hx
  simp only [opRes] at hr
  have fin : ∀ {b p off : Nat} {c : List T} {rd : List Nat}, VD w Z μ b p c → off + n ≤ c.length → a.eval x = .pointer (some ⟨b, p + off, none⟩) →
      (if one then (match c[off]? with | some x => some (Res.mk x rd []) | none => none) else some ⟨.agg (cut c off n), rd, []⟩) = some r → OpOk P o a B W0 Z0 g w Z μ fr r := by
    intro b p off c rd hd hn he hr
    have hl := load_run h1 hd hn
    cases one with
    | true =>
      obtain ⟨z, v, m1, m2, m3⟩ := hl
      simp only [if_true, m1] at hr
      obtain rfl := Option.some.inj hr
      refine opok_quiet hi (goes_value ?_) m2
      unfold execOp; rw [ho]; simp only [he]; exact run_v m3
    | false =>
      obtain ⟨vs, m1, m2⟩ := hl
      simp only [Bool.false_eq_true, if_false] at hr
      obtain rfl := Option.some.inj hr
      refine opok_quiet hi (v := .agg vs.toArray) (goes_value ?_) (by simp only [VR]; exact ⟨_, rfl, by simpa using m1⟩)
      unfold execOp; rw [ho]; simp only [he]; exact run_v m2
  split at hr
  · rename_i t' off e
    rw [e] at hv
    split at hr
    · rename_i c hc
      split at hr
      · rename_i hn
        obtain ⟨m, k1, k2, k3, k4, k5, k6, k7⟩ := hi.blk _ _ hc
        simp only [VR] at hv
        obtain ⟨m', j1, j2⟩ := hv
        obtain rfl : m' = m := by rw [k1] at j1; exact (Option.some.inj j1).symm
        exact fin k7 hn j2 hr
      · cases hr
    · cases hr
  · rename_i c off e
    rw [e] at hv
    split at hr
    · rename_i hn
      simp only [VR, VI] at hv
      obtain ⟨b, p, j1, j2⟩ := hv
      exact fin (VC.vd j2) hn j1 hr
    · cases hr
  · cases hr

theorem sz_ok {t : TypeId} {n : Nat} (h : szOf P t = some n) : ∃ i, P.info? t = some i ∧ i.size = n ∧ 0 < n := by
  unfold szOf at h
  split at h
  · rename_i i hi
    split at h
    · rename_i hp; obtain rfl := Option.some.inj h; exact ⟨i, hi, rfl, hp⟩
    · cases h
  · cases h

/-- Cells of one block are written. -/
theorem Inv.splice (hi : Inv B W0 Z0 g w Z μ) {t : Nat} {c : List T} {m : Loc} (hc : g t = some c) (hm : μ t = some m) {off : Nat} {l : List T} {vs : List Value} (hl : VRL w Z μ l vs) (hf : allLeaf l = true) (hn : off + l.length ≤ c.length) :
    Inv B W0 Z0 (put1 g (t, some (splice c off l))) (w.setCells m.1 (m.2.1 + off) vs) Z μ ∧ ZLe w (w.setCells m.1 (m.2.1 + off) vs) Z Z := by
  obtain ⟨m', k1, k2, k3, k4, k5, k6, k7⟩ := hi.blk _ _ hc
  obtain rfl : m' = m := by rw [hm] at k1; exact (Option.some.inj k1).symm
  have hlen := hl.len
  obtain ⟨h1, h2⟩ := hi.write hc hm off vs (by omega)
  refine ⟨?_, h2⟩
  have h3 := h1.put (t := t) (c := Abs.splice c off l) hm k2 (by rw [setCells_size]; exact k3) (by rw [splice_len]; exact k4) (World.there_setCells k5 _ _ _) k6 ?_ ?_
  · have : put1 (put1 g (t, none)) (t, some (Abs.splice c off l)) = put1 g (t, some (Abs.splice c off l)) := by funext u; simp only [put1]; split <;> rfl
    rwa [this] at h3
  · intro i x hx
    rw [splice_get _ _ _ _ hn] at hx
    split at hx
    · rename_i hr
      obtain ⟨v, j1, j2⟩ := hl.get hx
      refine ⟨List.all_eq_true.1 hf x (List.mem_of_getElem? hx), v, ?_, VR.mono h2 MLe.refl x v j2⟩
      have hiv : i - off < vs.length := by omega
      have := World.cell?_setCells_in m'.1 vs (m'.2.1 + off) w (fun j hj => by have := (k5 (off + j) (by omega)).1; rwa [← Nat.add_assoc] at this) (i - off) hiv
      rw [show m'.2.1 + off + (i - off) = m'.2.1 + i by omega] at this
      rw [this, ← List.getElem?_eq_getElem hiv, j1]
    · rename_i hr
      obtain ⟨j0, v, j1, j2⟩ := k7 i x hx
      refine ⟨j0, v, ?_, VR.mono h2 MLe.refl x v j2⟩
      rw [World.cell?_setCells_out]
      · exact j1
      · intro _ _; simp only; omega
  · intro u cu m1 hne hu hm1
    have hu' : g u = some cu := by simpa [put1, hne] using hu
    exact hi.dis t u c cu m' m1 (fun e => hne e.symm) hc hu' hm hm1

theorem store_run {t : TypeId} {n : Nat} (h1 : szOf P t = some n) {b p : Nat} {v : Value} (hn : v.cells.size = n) (ht : w.there b p n) (ho : ∀ u ∈ v.cells.toList, u.oneCell' = true) :
    (Instr.storeAt t (.pointer (some ⟨b, p, none⟩)) v).run P w = .ok () (w.setCells b p v.cells.toList) := by
  obtain ⟨i, k1, k2, k3⟩ := sz_ok h1
  have := run_storeCells_cells (P := P) b p v.cells.toList 0 w (fun j hj => by simpa using (ht j (by simp at hj; omega)).1) (fun j hj => by simpa using (ht j (by simp at hj; omega)).2) ho
  simp only [Nat.add_zero] at this
  simp [Instr.storeAt, Instr.sureAddr, storeVar, sizeOf, typeInfo, k1, hn, k2, this]

theorem store_ok (hi : Inv B W0 Z0 g w Z μ) (hs : VRL w Z μ s a.tmps.toList) {t : TypeId} {x y : Operand} {x' y' : Opd} {n : Nat} (ho : o.op = .store t x y) (h1 : szOf P t = some n) (hx : opd x = some x') (hy : opd y = some y')
    (hr : opRes (.store n x' y') fr s g = some r) : OpOk P o a B W0 Z0 g w Z μ fr r := by
  have hv := rho_ok hs hx
  have hu := rho_ok hs hy
  simp only [opRes] at hr
  split at hr
  · rename_i t' off e
    rw [e] at hv
    split at hr
    · rename_i c hc
      split at hr
      · rename_i hn
        obtain ⟨hn1, hn2, hn3⟩ := hn
        obtain rfl := Option.some.inj hr
        simp only [VR] at hv
        obtain ⟨m, j1, j2⟩ := hv
        obtain ⟨m', k1, k2, k3, k4, k5, k6, k7⟩ := hi.blk _ _ hc
        obtain rfl : m' = m := by rw [j1] at k1; exact (Option.some.inj k1).symm
        obtain ⟨n1, n2, n3⟩ := leaf_cells hn3
        have hl := hu.cells n1 n2 n3
        have hlen := hl.len
        simp only [Array.length_toList] at hlen
        have hone : ∀ u ∈ (a.eval y).cells.toList, u.oneCell' = true := fun u hm => by
          obtain ⟨i, hil, rfl⟩ := List.getElem_of_mem hm
          have hb : i < (rho s y').cells.length := by simp at hil; omega
          obtain ⟨v, q1, q2⟩ := hl.get (List.getElem?_eq_getElem hb)
          rw [List.getElem?_eq_getElem hil] at q1
          rw [Option.some.inj q1]
          exact q2.oneCell (List.all_eq_true.1 hn3 _ (List.getElem_mem hb))
        have hrun := store_run (P := P) (w := w) h1 (b := m'.1) (p := m'.2.1 + off) (v := a.eval y) (by omega) (fun j hj => by have := k5 (off + j) (by omega); rwa [← Nat.add_assoc] at this) hone
        obtain ⟨q1, q2⟩ := hi.splice hc j1 (off := off) hl hn3 (by omega)
        refine ⟨Go.undef, _, μ, goes_skip ?_, by simp only [VR, VI], q1, q2, MLe.refl, fun _ _ => rfl⟩
        unfold execOp; rw [ho]; simp only [j2, Sem.run_bind, hrun]; rfl
      · cases hr
    · cases hr
  · cases hr
end
end Go.Proofs.YtabfinhkoihhfaaGreat.Abs

/- Places, parts, lengths, the least and the greatest. -/
namespace Go.Proofs.YtabfinhkoihhfaaGreat.Abs
open Go Go.RowKit
set_option linter.unusedVariables false
set_option linter.unusedSimpArgs false
section
variable {P : Program} {o : Oper} {a : Act} {B : Nat} {W0 w : World} {Z0 Z : Nat → Nat → Prop} {g : Mem} {μ : Nat → Option Loc} {fr : Nat} {r : Res} {s : List T}

theorem natOf_ok {x : T} {n : Nat} (h : natOf x = some n) : ∃ k, x = .int k (n : Int) := by
  unfold natOf at h
  split at h
  · rename_i k m
    split at h
    · rename_i hm; obtain rfl := Option.some.inj h; exact ⟨k, by rw [Int.toNat_of_nonneg hm]⟩
    · cases h
  · cases h
theorem add_at (b p n : Nat) : (⟨b, p, none⟩ : Addr).add n = ⟨b, p + n, none⟩ := Addr.add_mid b p n

theorem part_run {t : TypeId} {one : Bool} {n : Nat} (h1 : oneOf P t = some (one, n)) {cs : Array Value} {c : List T} (hc : VRL w Z μ c cs.toList) {off : Nat} (hn : off + n ≤ c.length) :
    if one then ∃ x v, c[off]? = some x ∧ VR w Z μ x v ∧ (part t cs off).run P w = .ok v w
    else ∃ vs : Array Value, VRL w Z μ (cut c off n) vs.toList ∧ (part t cs off).run P w = .ok (.agg vs) w := by
  obtain ⟨d, i, k1, k2, k3, k4, k5, k6⟩ := one_ok h1
  cases one with
  | true =>
    have hn1 := k4 rfl
    have hx := List.getElem?_eq_getElem (l := c) (i := off) (by omega)
    obtain ⟨v, m1, m2⟩ := hc.get hx
    have m1' : cs[off]? = some v := by simpa using m1
    refine ⟨_, v, hx, m2, ?_⟩
    simp [part, k5 w, m1']
  | false =>
    refine ⟨cs.extract off (off + n), ?_, ?_⟩
    · have hl := hc.len
      refine VRL.mk (by rw [cut_len hn]; simp at hl ⊢; omega) fun i x v hx hv => ?_
      rw [cut_get] at hx
      split at hx
      · obtain ⟨u, q1, q2⟩ := hc.get hx
        have : (cs.extract off (off + n)).toList[i]? = some u := by
          simp only [Array.getElem?_toList] at q1 ⊢
          rw [Array.getElem?_extract, if_pos (by simp at hl; omega)]; exact q1
        rw [this] at hv; obtain rfl := Option.some.inj hv; exact q2
      · cases hx
    · simp [part, k5 w, sizeOf, typeInfo, k2, k3]

theorem field_ok (hi : Inv B W0 Z0 g w Z μ) (hs : VRL w Z μ s a.tmps.toList) {t : TypeId} {x : Operand} {y : Opd} {f : Nat} {fs : Array Field} {fd : Field} {one : Bool} {n : Nat} (ho : o.op = .field t x f) (ht : P.underlying t = some (.struct fs)) (hf : fs[f]? = some fd)
    (h1 : oneOf P fd.type = some (one, n)) (hx : opd x = some y) (hr : opRes (.field one fd.offset n y) fr s g = some r) : OpOk P o a B W0 Z0 g w Z μ fr r := by
  have hv := rho_ok hs hx
  simp only [opRes] at hr
  split at hr
  · rename_i c e
    rw [e] at hv
    simp only [VR] at hv
    obtain ⟨vs, j1, j2⟩ := hv
    split at hr
    · rename_i hn
      have hl := part_run h1 j2 hn
      have hrun : ∀ v, (part fd.type vs fd.offset).run P w = .ok v w → (execOp a.eval o).run P w = .ok (.value v) w := fun v hp => by
        unfold execOp; rw [ho]; simp only [j1]
        refine run_v ?_
        simp [Instr.field, run_underlying ht, hf, asAgg, hp]
      cases one with
      | true =>
        obtain ⟨z, v, m1, m2, m3⟩ := hl
        simp only [if_true, m1] at hr
        obtain rfl := Option.some.inj hr
        exact opok_quiet hi (goes_value (hrun _ m3)) m2
      | false =>
        obtain ⟨us, m1, m2⟩ := hl
        simp only [Bool.false_eq_true, if_false] at hr
        obtain rfl := Option.some.inj hr
        exact opok_quiet hi (goes_value (hrun _ m2)) (by simp only [VR]; exact ⟨_, rfl, m1⟩)
    · cases hr
  · cases hr

theorem index_ok (hi : Inv B W0 Z0 g w Z μ) (hs : VRL w Z μ s a.tmps.toList) {t e : TypeId} {x i : Operand} {y i' : Opd} {m : Nat} {one : Bool} {n : Nat} (ho : o.op = .index t x i) (ht : P.underlying t = some (.array m e))
    (h1 : oneOf P e = some (one, n)) (hx : opd x = some y) (hii : opd i = some i') (hr : opRes (.index one m n y i') fr s g = some r) : OpOk P o a B W0 Z0 g w Z μ fr r := by
  have hv := rho_ok hs hx
  have hw := rho_ok hs hii
  simp only [opRes] at hr
  split at hr
  · rename_i j hj
    obtain ⟨k, hk⟩ := natOf_ok hj
    have hw' := vr_int hw hk
    split at hr
    · rename_i c e'
      rw [e'] at hv
      simp only [VR] at hv
      obtain ⟨vs, j1, j2⟩ := hv
      split at hr
      · rename_i hn
        obtain ⟨d, ti, q1, q2, q3, q4, q5, q6⟩ := one_ok h1
        have hl := part_run h1 j2 hn.2
        have hrun : ∀ v, (part e vs (j * n)).run P w = .ok v w → (execOp a.eval o).run P w = .ok (.value v) w := fun v hp => by
          unfold execOp; rw [ho]; simp only [j1, hw']
          refine run_v ?_
          have hjm : (0 : Int) ≤ (j : Int) ∧ (j : Int) < (m : Int) := by omega
          simp [Instr.index, asIntOf, run_underlying ht, sizeOf, typeInfo, q2, q3, hn.1, hp]
        cases one with
        | true =>
          obtain ⟨z, v, m1, m2, m3⟩ := hl
          simp only [if_true, m1] at hr
          obtain rfl := Option.some.inj hr
          exact opok_quiet hi (goes_value (hrun _ m3)) m2
        | false =>
          obtain ⟨us, m1, m2⟩ := hl
          simp only [Bool.false_eq_true, if_false] at hr
          obtain rfl := Option.some.inj hr
          exact opok_quiet hi (goes_value (hrun _ m2)) (by simp only [VR]; exact ⟨_, rfl, m1⟩)
      · cases hr
    · cases hr
  · cases hr

/-- A pointer, moved. -/
theorem faddr_ok (hi : Inv B W0 Z0 g w Z μ) (hs : VRL w Z μ s a.tmps.toList) {t : TypeId} {x : Operand} {y : Opd} {f : Nat} {fs : Array Field} {fd : Field} {n : Nat} (ho : o.op = .fieldAddr t x f) (ht : P.underlying t = some (.struct fs)) (hf : fs[f]? = some fd)
    (h1 : szOf P fd.type = some n) (hx : opd x = some y) (hr : opRes (.faddr y fd.offset) fr s g = some r) : OpOk P o a B W0 Z0 g w Z μ fr r := by
  have hv := rho_ok hs hx
  obtain ⟨i, q1, q2, q3⟩ := sz_ok h1
  have hrun : ∀ b p, a.eval x = .pointer (some ⟨b, p, none⟩) → (execOp a.eval o).run P w = .ok (.value (.pointer (some ⟨b, p + fd.offset, none⟩))) w := fun b p he => by
    unfold execOp; rw [ho]; simp only [he]
    refine run_v ?_
    have : i.size ≠ 0 := by omega
    simp [Instr.fieldAt, run_underlying ht, hf, Instr.sureAddr, fieldPlace, sizeOf, typeInfo, q1, this, add_at]
  simp only [opRes] at hr
  split at hr
  · rename_i t' p e
    rw [e] at hv; simp only [VR] at hv
    obtain ⟨m, j1, j2⟩ := hv
    obtain rfl := Option.some.inj hr
    exact opok_quiet hi (goes_value (hrun _ _ j2)) (by simp only [VR]; exact ⟨m, j1, by rw [Nat.add_assoc]⟩)
  · rename_i c p e
    rw [e] at hv; simp only [VR, VI] at hv
    obtain ⟨b, q, j1, j2⟩ := hv
    obtain rfl := Option.some.inj hr
    exact opok_quiet hi (goes_value (hrun _ _ j1)) (by simp only [VR, VI]; exact ⟨b, q, by rw [Nat.add_assoc], j2⟩)
  · cases hr

theorem iarr_ok (hi : Inv B W0 Z0 g w Z μ) (hs : VRL w Z μ s a.tmps.toList) {t e : TypeId} {x i : Operand} {y i' : Opd} {m n : Nat} (ho : o.op = .indexAddr t x i) (ht : P.underlying t = some (.array m e))
    (h1 : szOf P e = some n) (hx : opd x = some y) (hii : opd i = some i') (hr : opRes (.iarr m n y i') fr s g = some r) : OpOk P o a B W0 Z0 g w Z μ fr r := by
  have hv := rho_ok hs hx
  have hw := rho_ok hs hii
  obtain ⟨ti, q1, q2, q3⟩ := sz_ok h1
  simp only [opRes] at hr
  split at hr
  · rename_i j hj
    obtain ⟨k, hk⟩ := natOf_ok hj
    have hw' := vr_int hw hk
    split at hr
    · rename_i hjm
      have hjm' : (0 : Int) ≤ (j : Int) ∧ (j : Int) < (m : Int) := by omega
      have hrun : ∀ b p, a.eval x = .pointer (some ⟨b, p, none⟩) → (execOp a.eval o).run P w = .ok (.value (.pointer (some ⟨b, p + j * n, none⟩))) w := fun b p he => by
        unfold execOp; rw [ho]; simp only [he, hw']
        refine run_v ?_
        simp [Instr.indexAt, asIntOf, run_underlying ht, Instr.sureAddr, sizeOf, typeInfo, q1, q2, hjm, add_at]
      split at hr
      · rename_i t' p e'
        rw [e'] at hv; simp only [VR] at hv
        obtain ⟨m, j1, j2⟩ := hv
        obtain rfl := Option.some.inj hr
        exact opok_quiet hi (goes_value (hrun _ _ j2)) (by simp only [VR]; exact ⟨m, j1, by rw [Nat.add_assoc]⟩)
      · rename_i c p e'
        rw [e'] at hv; simp only [VR, VI] at hv
        obtain ⟨b, q, j1, j2⟩ := hv
        obtain rfl := Option.some.inj hr
        exact opok_quiet hi (goes_value (hrun _ _ j1)) (by simp only [VR, VI]; exact ⟨b, q, by rw [Nat.add_assoc], j2⟩)
      · cases hr
    · cases hr
  · cases hr

theorem isl_ok (hi : Inv B W0 Z0 g w Z μ) (hs : VRL w Z μ s a.tmps.toList) {t e : TypeId} {x i : Operand} {y i' : Opd} {n : Nat} (ho : o.op = .indexAddr t x i) (ht : P.underlying t = some (.slice e))
    (h1 : szOf P e = some n) (hx : opd x = some y) (hii : opd i = some i') (hr : opRes (.isl n y i') fr s g = some r) : OpOk P o a B W0 Z0 g w Z μ fr r := by
  have hv := rho_ok hs hx
  have hw := rho_ok hs hii
  obtain ⟨ti, q1, q2, q3⟩ := sz_ok h1
  simp only [opRes] at hr
  split at hr
  · rename_i j hj
    obtain ⟨k, hk⟩ := natOf_ok hj
    have hw' := vr_int hw hk
    have hrun : ∀ b p len cap, a.eval x = .slice (some ⟨b, p, none⟩) len cap → j < len → (execOp a.eval o).run P w = .ok (.value (.pointer (some ⟨b, p + j * n, none⟩))) w := fun b p len cap he hjl => by
      have hjm' : (0 : Int) ≤ (j : Int) ∧ (j : Int) < (len : Int) := by omega
      unfold execOp; rw [ho]; simp only [he, hw']
      refine run_v ?_
      simp [Instr.indexAt, asIntOf, run_underlying ht, sizeOf, typeInfo, q1, q2, hjl, add_at]
    split at hr
    · rename_i f len c e'
      split at hr
      · rename_i hjl
        rw [e'] at hv; simp only [VR, VI] at hv
        obtain ⟨ad, cap, j1, j2, j3, j4⟩ := hv
        obtain rfl := Option.some.inj hr
        rcases j4 with j4 | ⟨b, p, rfl, j5⟩
        · subst j4; simp at hjl; omega
        · exact opok_quiet hi (goes_value (hrun _ _ _ _ j1 hjl.1)) (by simp only [VR, VI]; exact ⟨b, p, rfl, j5⟩)
      · cases hr
    · rename_i t' off len es e'
      split at hr
      · rename_i hjl
        rw [e'] at hv; simp only [VR] at hv
        obtain ⟨ad, cap, m, j1, j2, j3, j4, j5⟩ := hv
        obtain rfl := Option.some.inj hr
        have hcap : 0 < cap := by omega
        rw [j4 hcap] at j1
        exact opok_quiet hi (goes_value (hrun _ _ _ _ j1 hjl.1)) (by simp only [VR]; exact ⟨m, j3, by rw [Nat.add_assoc]⟩)
      · cases hr
    · cases hr
  · cases hr

theorem len_ok (hi : Inv B W0 Z0 g w Z μ) (hs : VRL w Z μ s a.tmps.toList) {t e : TypeId} {x : Operand} {y : Opd} {ats : Array TypeId} {xs : Array Operand} (ho : o.op = .call { callee := .builtin .len, args := xs, argTypes := ats }) (hat : ats[0]? = some t) (hxs : xs.toList = [x])
    (ht : P.underlying t = some (.slice e)) (hx : opd x = some y) (hr : opRes (.len y) fr s g = some r) : OpOk P o a B W0 Z0 g w Z μ fr r := by
  have hv := rho_ok hs hx
  obtain rfl : xs = #[x] := by cases xs; simp_all
  have hrun : ∀ ad len cap, a.eval x = .slice ad len cap → (execOp a.eval o).run P w = .ok (.value (.int .i64 len)) w := fun ad len cap he => by
    unfold execOp; rw [ho]
    simp [resolve, invoke, builtin, Builtin.len_, he, hat, run_underlying ht, goInt]
  simp only [opRes] at hr
  split at hr
  · rename_i f n c e'
    rw [e'] at hv; simp only [VR, VI] at hv
    obtain ⟨ad, cap, j1, _⟩ := hv
    obtain rfl := Option.some.inj hr
    exact opok_quiet hi (goes_value (hrun _ _ _ j1)) (by simp only [VR, VI])
  · rename_i t' off n es e'
    rw [e'] at hv; simp only [VR] at hv
    obtain ⟨ad, cap, m, j1, _⟩ := hv
    obtain rfl := Option.some.inj hr
    exact opok_quiet hi (goes_value (hrun _ _ _ j1)) (by simp only [VR, VI])
  · cases hr
theorem lenarr_ok (hi : Inv B W0 Z0 g w Z μ) (hs : VRL w Z μ s a.tmps.toList) {t e : TypeId} {x : Operand} {n : Nat} {ats : Array TypeId} {xs : Array Operand} (ho : o.op = .call { callee := .builtin .len, args := xs, argTypes := ats }) (hat : ats[0]? = some t) (hxs : xs.toList = [x])
    (ht : P.underlying t = some (.array n e)) : OpOk P o a B W0 Z0 g w Z μ fr ⟨.int .i64 n, [], []⟩ := by
  obtain rfl : xs = #[x] := by cases xs; simp_all
  refine opok_quiet hi (v := .int .i64 n) (goes_value ?_) (by simp only [VR, VI])
  unfold execOp; rw [ho]
  simp [resolve, invoke, builtin, Builtin.len_, hat, run_underlying ht, goInt]
end
end Go.Proofs.YtabfinhkoihhfaaGreat.Abs

/- Structs, arrays and slices that are made. -/
namespace Go.Proofs.YtabfinhkoihhfaaGreat.Abs
open Go Go.RowKit
set_option linter.unusedVariables false
set_option linter.unusedSimpArgs false

theorem fill_list {w : World} {Z : Nat → Nat → Prop} {μ : Nat → Option Loc} (off : Nat) : ∀ (l : List T) (vs : List Value) (k : Nat) (c : List T) (cs : Array Value), VRL w Z μ l vs → VRL w Z μ c cs.toList →
    VRL w Z μ (splice c (off + k) l) ((vs.zipIdx k).foldl (fun (cs : Array Value) (p : Value × Nat) => cs.setIfInBounds (off + p.2) p.1) cs).toList
  | [], vs, k, c, cs, h, hc => by
    simp only [VRL] at h; subst h
    simpa [splice] using hc
  | x :: l, vs, k, c, cs, h, hc => by
    simp only [VRL] at h
    obtain ⟨v, vs', rfl, h1, h2⟩ := h
    rw [splice, List.zipIdx_cons, List.foldl_cons]
    have := fill_list off l vs' (k + 1) (c.set (off + k) x) (cs.setIfInBounds (off + k) v) h2 (by rw [Array.toList_setIfInBounds]; exact hc.set h1)
    rwa [show off + (k + 1) = off + k + 1 by omega] at this

section
variable {P : Program} {o : Oper} {a : Act} {B : Nat} {W0 w : World} {Z0 Z : Nat → Nat → Prop} {g : Mem} {μ : Nat → Option Loc} {fr : Nat} {r : Res} {s : List T}

theorem fill_ok (hs : VRL w Z μ s a.tmps.toList) {pl : Nat → Option (Nat × Nat)} : ∀ (ps : List (Nat × Operand)) (q : List (Nat × Nat × Opd)) (z c : List T) (cs : Array Value), partsOf pl ps = some q → VRL w Z μ z cs.toList →
    fillT z (q.map fun p => (p.1, p.2.1, rho s p.2.2)) = some c → ∃ cs', Instr.fill pl cs (ps.map fun p => (p.1, a.eval p.2)) = some cs' ∧ VRL w Z μ c cs'.toList
  | [], q, z, c, cs, hp, hz, hf => by
    simp [partsOf] at hp; subst hp
    simp [fillT] at hf; subst hf
    exact ⟨cs, by simp [Instr.fill], hz⟩
  | (i, x) :: ps, q, z, c, cs, hp, hz, hf => by
    simp only [partsOf] at hp
    split at hp
    · rename_i off n y q' h1 h2 h3
      obtain rfl := Option.some.inj hp
      simp only [List.map_cons, fillT] at hf
      split at hf
      · rename_i hc
        obtain ⟨hc1, hc2, hc3⟩ := hc
        have hv := rho_ok hs h2
        obtain ⟨n1, n2, n3⟩ := leaf_cells (x := rho s y) hc3
        have hcl := hv.cells n1 n2 n3
        have hl1 := hcl.len
        have hl2 := hz.len
        have hnew := fill_list off _ _ 0 z cs hcl hz
        simp only [Nat.add_zero] at hnew
        obtain ⟨cs', k1, k2⟩ := fill_ok hs ps q' _ c _ h3 hnew hf
        refine ⟨cs', ?_, k2⟩
        simp only [List.map_cons, Instr.fill, h1]
        have e1 : ¬ ((a.eval x).cells.size ≠ n ∨ off + (a.eval x).cells.size > cs.size) := by simp at hl1 hl2; omega
        have e2 : ((a.eval x).cells.size ≠ n || off + (a.eval x).cells.size > cs.size : Bool) = false := by simp at hl1 hl2 ⊢; omega
        simp only [e2, Bool.false_eq_true, if_false]
        rw [← Array.foldl_toList, Array.toList_zipIdx]
        exact k1
      · cases hf
    · cases hp

theorem fplaces_run (w : World) : ∀ (fs : List Field) (pl : List (Nat × Nat)), fplaces P fs = some pl → (fs.mapM (fun f => do pure (f.offset, ← sizeOf f.type)) : Sem (List (Nat × Nat))).run P w = .ok pl w
  | [], pl, h => by simp [fplaces] at h; subst h; simp
  | f :: fs, pl, h => by
    simp only [fplaces] at h
    split at h
    · rename_i i q h1 h2
      obtain rfl := Option.some.inj h
      have := fplaces_run w fs q h2
      simp only [List.mapM_cons, Sem.run_bind]
      simp [sizeOf, typeInfo, h1]
      simp [sizeOf, typeInfo] at this
      simp [this]
    · cases h

theorem build_ok (hi : Inv B W0 Z0 g w Z μ) (hs : VRL w Z μ s a.tmps.toList) {t : TypeId} {ps : Array (Nat × Operand)} {op : AOp} (ho : o.op = .build t ps) (hcomp : compOp P (.build t ps) = some op)
    (hr : opRes op fr s g = some r) : OpOk P o a B W0 Z0 g w Z μ fr r := by
  simp only [compOp] at hcomp
  split at hcomp
  · rename_i fs z ht hz
    split at hcomp
    · rename_i pl hpl
      split at hcomp
      · rename_i q hq
        obtain rfl := Option.some.inj hcomp
        simp only [opRes] at hr
        split at hr
        · rename_i c hc
          obtain rfl := Option.some.inj hr
          obtain ⟨i, zv, h1, h2, h3, h4, h5⟩ := zc_ok hz
          obtain ⟨k1, k2⟩ := ofVL_ok (w := w) (Z := Z) h5
          obtain ⟨cs', m1, m2⟩ := fill_ok hs _ q z c _ hq (VIL.vr _ _ k1) hc
          refine opok_quiet hi (v := .agg cs') (goes_value ?_) (by simp only [VR]; exact ⟨_, rfl, m2⟩)
          have hpl' := fplaces_run (P := P) w fs.toList pl hpl
          have hmap : (fs.mapM (fun f => do pure (f.offset, ← sizeOf f.type)) : Sem (Array (Nat × Nat))).run P w = .ok pl.toArray w := by
            rw [← Array.toArray_toList (xs := fs), List.mapM_toArray]
            rw [map_eq_pure_bind, Sem.run_bind, hpl']; rfl
          unfold execOp; rw [ho]
          refine run_v ?_
          have hfun : (fun x : Nat => pl.toArray[x]?) = (fun x : Nat => pl[x]?) := by funext x; simp
          have hmp : (ps.map fun x => (x.1, a.eval x.2)).toList = ps.toList.map fun p => (p.1, a.eval p.2) := by simp
          simp only [Instr.build, Sem.run_bind, zeroValue, typeInfo, run_program, Result.andThen_ok, h1, h2, Sem.run_pure, run_underlying ht, hmap, hfun]
          rw [hmp, m1]
          rfl
        · cases hr
      · cases hcomp
    · cases hcomp
  · rename_i m e z ht hz
    split at hcomp
    · rename_i ei he
      split at hcomp
      · rename_i q hq
        obtain rfl := Option.some.inj hcomp
        simp only [opRes] at hr
        split at hr
        · rename_i c hc
          obtain rfl := Option.some.inj hr
          obtain ⟨i, zv, h1, h2, h3, h4, h5⟩ := zc_ok hz
          obtain ⟨k1, k2⟩ := ofVL_ok (w := w) (Z := Z) h5
          obtain ⟨cs', m1, m2⟩ := fill_ok hs _ q z c _ hq (VIL.vr _ _ k1) hc
          refine opok_quiet hi (v := .agg cs') (goes_value ?_) (by simp only [VR]; exact ⟨_, rfl, m2⟩)
          unfold execOp; rw [ho]
          refine run_v ?_
          have hmp : (ps.map fun x => (x.1, a.eval x.2)).toList = ps.toList.map fun p => (p.1, a.eval p.2) := by simp
          simp only [Instr.build, Sem.run_bind, zeroValue, sizeOf, typeInfo, run_program, Result.andThen_ok, h1, h2, he, Sem.run_pure, run_underlying ht]
          rw [hmp, m1]
          rfl
        · cases hr
      · cases hcomp
    · cases hcomp
  · cases hcomp

theorem rep_get {α : Type} (z : List α) (n : Nat) (i : Nat) : (List.replicate n z).flatten[i]? = if i < n * z.length then z[i % z.length]? else none := by
  induction n generalizing i with
  | zero => simp
  | succ n ih =>
    rw [List.replicate_succ, List.flatten_cons]
    have h3 : (n + 1) * z.length = n * z.length + z.length := by rw [Nat.add_mul, Nat.one_mul]
    rcases Nat.lt_or_ge i z.length with h | h
    · have h4 : i < (n + 1) * z.length := by omega
      rw [List.getElem?_append_left h, Nat.mod_eq_of_lt h, if_pos h4]
    · rw [List.getElem?_append_right h, ih]
      have h2 : i % z.length = (i - z.length) % z.length := Nat.mod_eq_sub_mod h
      rw [h2]
      by_cases hc : i - z.length < n * z.length
      · have h4 : i < (n + 1) * z.length := by omega
        rw [if_pos hc, if_pos h4]
      · have h4 : ¬ i < (n + 1) * z.length := by omega
        rw [if_neg hc, if_neg h4]
theorem rep_len {α : Type} (z : List α) (n : Nat) : (List.replicate n z).flatten.length = n * z.length := by simp
theorem rep_leaf {z : List T} (h : allLeaf z = true) (n : Nat) : allLeaf (List.replicate n z).flatten = true := by
  unfold allLeaf at *
  rw [List.all_eq_true] at *
  intro x hx
  obtain ⟨l, h1, h2⟩ := List.mem_flatten.1 hx
  rw [(List.mem_replicate.1 h1).2] at h2
  exact h x h2
theorem made_vr {z : List T} {zs : Array Value} (h : VRL w Z μ z zs.toList) (n : Nat) : VRL w Z μ (List.replicate n z).flatten ((Array.range (n * zs.size)).map (zs[· % zs.size]!)).toList := by
  have hl := h.len
  simp at hl
  refine VRL.mk (by simp [hl]) fun i x v hx hv => ?_
  rw [rep_get] at hx
  split at hx
  · rename_i hi
    obtain ⟨u, h1, h2⟩ := h.get hx
    have hz : 0 < zs.size := by
      rcases Nat.eq_zero_or_pos zs.size with e | e
      · rw [hl] at e; rw [e] at hi; simp at hi
      · exact e
    have : v = u := by
      simp only [Array.toList_map, List.getElem?_map, Array.getElem?_toList] at hv h1
      have hi' : i < n * zs.size := by rw [hl]; exact hi
      have hr : (Array.range (n * zs.size))[i]? = some i := by simp [hi']
      rw [hr] at hv
      simp only [Option.map_some] at hv
      obtain rfl := Option.some.inj hv
      rw [← hl] at h1
      have hm : i % zs.size < zs.size := Nat.mod_lt _ hz
      rw [Array.getElem?_eq_getElem hm] at h1
      simpa [hm] using (Option.some.inj h1)
    rw [this]; exact h2
  · cases hx

theorem bsl_ok (hi : Inv B W0 Z0 g w Z μ) (hn : μ fr = none) (hs : VRL w Z μ s a.tmps.toList) {t : TypeId} {len : Nat} {ps : Array (Nat × Operand)} {op : AOp} (ho : o.op = .buildSlice t len ps) (hcomp : compOp P (.buildSlice t len ps) = some op)
    (hr : opRes op fr s g = some r) : OpOk P o a B W0 Z0 g w Z μ fr r := by
  simp only [compOp] at hcomp
  split at hcomp
  · rename_i e ht
    split at hcomp
    · rename_i z i hz he
      split at hcomp
      · rename_i hlen
        split at hcomp
        · rename_i q hq
          obtain rfl := Option.some.inj hcomp
          simp only [opRes] at hr
          split at hr
          · rename_i c hc
            split at hr
            · rename_i hcl
              obtain rfl := Option.some.inj hr
              obtain ⟨i', zv, h1, h2, h3, h4, h5⟩ := zc_ok hz
              obtain rfl : i' = i := by rw [he] at h1; exact (Option.some.inj h1).symm
              obtain ⟨k1, k2⟩ := ofVL_ok (w := w) (Z := Z) h5
              have hmade := made_vr (VIL.vr (μ := μ) _ _ k1) len
              rw [h3] at hmade
              obtain ⟨cs', m1, m2⟩ := fill_ok hs _ q _ c _ hq hmade hc
              have hsz : cs'.size = c.length := by have := m2.len; simpa using this
              refine new_ok hi hn e hcl.1 m2 (v := .slice (some ⟨w.heap.size, 0, none⟩) len len) (goes_value ?_) ?_
              · unfold execOp; rw [ho]
                refine run_v ?_
                have hmp : (ps.map fun x => (x.1, a.eval x.2)).toList = ps.toList.map fun p => (p.1, a.eval p.2) := by simp
                have hlen' : ¬ (len * i'.size > 2 ^ 24) := by omega
                by_cases h0 : len * i'.size = 0
                · have hl0 : len = 0 := by
                    rcases Nat.mul_eq_zero.1 h0 with h | h
                    · exact h
                    · omega
                  subst hl0
                  have hr0 : Array.range 0 = #[] := rfl
                  simp only [Nat.zero_mul, hr0, Array.map_empty] at m1
                  simp [Instr.buildSlice, Sem.run_bind, sizeOf, typeInfo, he, run_underlying ht, newRow, hr0]
                  simp [m1]
                · simp only [Instr.buildSlice, Sem.run_bind, zeroValue, sizeOf, typeInfo, run_program, Result.andThen_ok, he, h2, Sem.run_pure, run_underlying ht, hlen', if_false, h0, h3]
                  rw [hmp, m1]
                  simp [newRow]
              · simp only [VR]
                refine ⟨_, len, (w.heap.size, 0, cs'.size), rfl, Nat.le_refl _, by simp [upd], fun _ => by simp, ?_⟩
                simp only [Nat.zero_add, hsz, hcl.2]; exact Nat.le_refl _
            · cases hr
          · cases hr
        · cases hcomp
      · cases hcomp
    · cases hcomp
  · cases hcomp

theorem mksl_ok (hi : Inv B W0 Z0 g w Z μ) (hn : μ fr = none) (hs : VRL w Z μ s a.tmps.toList) {t : TypeId} {l c : Operand} {op : AOp} (ho : o.op = .makeSlice t l c) (hcomp : compOp P (.makeSlice t l c) = some op)
    (hr : opRes op fr s g = some r) : OpOk P o a B W0 Z0 g w Z μ fr r := by
  simp only [compOp] at hcomp
  split at hcomp
  · rename_i e ht
    split at hcomp
    · rename_i z i l' c' hz he hl hc
      obtain rfl := Option.some.inj hcomp
      simp only [opRes] at hr
      split at hr
      · rename_i nn cc hn1 hc1
        split at hr
        · rename_i hcd
          obtain ⟨d1, d2, d3, d4, d5⟩ := hcd
          obtain rfl := Option.some.inj hr
          obtain ⟨i', zv, h1, h2, h3, h4, h5⟩ := zc_ok hz
          obtain rfl : i' = i := by rw [he] at h1; exact (Option.some.inj h1).symm
          obtain ⟨k1, k2⟩ := ofVL_ok (w := w) (Z := Z) h5
          obtain ⟨kl, e1⟩ := natOf_ok hn1
          obtain ⟨kc, e2⟩ := natOf_ok hc1
          have v1 := vr_int (rho_ok hs hl) e1
          have v2 := vr_int (rho_ok hs hc) e2
          have hmade := made_vr (VIL.vr (μ := μ) _ _ k1) cc
          have hb : (i'.bytes : Int) * (cc : Int) ≤ 281474976710656 := by
            have h : ((i'.bytes * cc : Nat) : Int) ≤ 281474976710656 := by
              have : i'.bytes * cc ≤ room := by rw [Nat.mul_comm]; exact d2
              unfold room at this; omega
            rwa [Int.natCast_mul] at h
          have hrun := run_make (P := P) w t e i' zv ht he h2 kl kc nn cc (by omega) (by omega) hb (by unfold room at d5; omega)
          simp only [Int.toNat_natCast] at hrun
          have hmc : madeCells zv.cells (cc * i'.size) = (Array.range (cc * zv.cells.size)).map (zv.cells[· % zv.cells.size]!) := by rw [← h3]; rfl
          rw [hmc] at hrun
          refine new_ok hi hn e (rep_leaf d4 cc) hmade (v := .slice (some ⟨w.heap.size, 0, none⟩) nn cc) (goes_value ?_) ?_
          · unfold execOp; rw [ho]; simp only [v1, v2]
            exact run_v hrun
          · simp only [VR]
            refine ⟨_, cc, (w.heap.size, 0, _), rfl, d1, by simp [upd]; rfl, fun _ => by simp, ?_⟩
            simp [h3]
        · cases hr
      · cases hr
    · cases hcomp
  · cases hcomp
end
end Go.Proofs.YtabfinhkoihhfaaGreat.Abs
