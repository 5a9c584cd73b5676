/- A plain machine of trees: values that are told by what they hold, memory of a call's own, code without types; and what stands for what in the model's world. -/
import Derived.Below
import Derived.Calls
import Derived.Orders
import Derived.LoopN
import Derived.ScopeJumps
import Derived.Deep.MidRow
import Derived.Deep.AppendSrc
import Derived.Laws.IdiomCopy
import Derived.Laws.Slices
import Derived.WalkKit
namespace Go.Proofs.Ythanlobfjpjegaa.Abs
open Go Go.RowKit
set_option linter.unusedVariables false
set_option linter.unusedSimpArgs false

/-! ### Values -/
/-- A value: 'imm' a slice that nobody writes any more, with its cells; 'own' one in a block of the call's own; 'ptr' a place in such a block; 'iptr' a place among cells that nobody writes. -/
inductive T where
  | int (k : IntKind) (n : Int)
  | bool (b : Bool)
  | str (s : ByteArray)
  | imm (full : Bool) (len : Nat) (cells : List T)
  | own (t off len es : Nat)
  | ptr (t off : Nat)
  | iptr (cells : List T) (off : Nat)
  | agg (l : List T)
  | tup (l : List T)
  | fn (f : Nat) (first cap : List T)
  | undef
  | junk
  deriving Inhabited

/-- Does it fit into one cell? -/
def T.leaf : T → Bool
  | .agg _ | .tup _ | .undef | .junk => false
  | _ => true

/-- Its cells. -/
def T.cells : T → List T
  | .agg l => l
  | v => [v]

/-- Does it lead to no memory? -/
def T.flatL : List T → Bool
  | [] => true
  | .int _ _ :: r | .bool _ :: r | .str _ :: r => T.flatL r
  | .imm _ 0 [] :: r => T.flatL r
  | _ => false
def T.flat : T → Bool
  | .int _ _ | .bool _ | .str _ => true
  | .imm _ 0 [] => true
  | .agg l | .tup l => T.flatL l
  | _ => false

/-! ### Memory of the call's own -/
structure Hp where
  get : Nat → Option (List T)
  next : Nat
def Hp.empty : Hp := ⟨fun _ => none, 0⟩
def Hp.set (h : Hp) (t : Nat) (c : List T) : Hp := ⟨fun u => if u = t then some c else h.get u, h.next⟩
def Hp.add (h : Hp) (c : List T) : Hp := ⟨fun u => if u = h.next then some c else h.get u, h.next + 1⟩
def Hp.del (h : Hp) (t : Nat) : Hp := ⟨fun u => if u = t then none else h.get u, h.next⟩
def Hp.dels (h : Hp) (l : List Nat) : Hp := l.foldl Hp.del h

def frzAll (f : T → Option (T × List Nat)) : List T → Option (List T × List Nat)
  | [] => some ([], [])
  | x :: l => match f x, frzAll f l with
    | some (y, us), some (l', ts) => some (y :: l', us ++ ts)
    | _, _ => none
/-- A value as one that nobody writes any more, and the blocks that it then lays hold of. -/
def frz (h : Hp) : Nat → T → Option (T × List Nat)
  | 0, _ => none
  | d + 1, v => match v with
    | .int k n => some (.int k n, [])
    | .bool b => some (.bool b, [])
    | .str s => some (.str s, [])
    | .imm f n c => some (.imm f n c, [])
    | .iptr c o => some (.iptr c o, [])
    | .own t off len es => match h.get t with
      | none => none
      | some c => if ((c.drop off).take (len * es)).length = len * es then match frzAll (frz h d) ((c.drop off).take (len * es)) with
          | some (l, ts) => some (.imm false len l, t :: ts)
          | none => none
        else none
    | .agg l => match frzAll (frz h d) l with | some (l, ts) => some (.agg l, ts) | none => none
    | .tup l => match frzAll (frz h d) l with | some (l, ts) => some (.tup l, ts) | none => none
    | .fn f a b => match frzAll (frz h d) a, frzAll (frz h d) b with | some (a, ts), some (b, us) => some (.fn f a b, ts ++ us) | _, _ => none
    | _ => none
def frzL (h : Hp) (d : Nat) : List T → Option (List T × List Nat) := frzAll (frz h d)

/-! ### What stands for what -/
abbrev Loc := Nat × Nat × Nat   -- block, offset, extent
section
variable (w : World) (Z : Nat → Nat → Prop) (μ : Nat → Option Loc)
mutual
/-- Value v of the world w is what the tree tells; cells that nobody writes are of Z. -/
def VI : T → Value → Prop
  | .int k n, v => v = .int k n
  | .bool b, v => v = .bool b
  | .str s, v => v = .string s
  | .imm full len cells, v => ∃ a cap, v = .slice a len cap ∧ len ≤ cap ∧ (full = true → cap = len) ∧ (cells = [] ∨ ∃ b o, a = some ⟨b, o, none⟩ ∧ VC b o cells)
  | .own _ _ _ _, _ => False
  | .ptr _ _, _ => False
  | .iptr cells off, v => ∃ b o, v = .pointer (some ⟨b, o + off, none⟩) ∧ VC b o cells
  | .agg l, v => ∃ vs, v = .agg vs ∧ VIL l vs.toList
  | .tup l, v => ∃ vs, v = .tuple vs ∧ VIL l vs.toList
  | .fn f fs cs, v => ∃ a b, v = .func (.func f) a b ∧ VIL fs a.toList ∧ VIL cs b.toList
  | .undef, v => v = Go.undef
  | .junk, _ => True
/-- The cells from offset o of block b on. -/
def VC : Nat → Nat → List T → Prop
  | _, _, [] => True
  | b, o, c :: cs => (∃ v, w.cell? ⟨b, o, none⟩ = some v ∧ Z b o ∧ VI c v ∧ c.leaf = true) ∧ VC b (o + 1) cs
def VIL : List T → List Value → Prop
  | [], l => l = []
  | c :: cs, l => ∃ v vs, l = v :: vs ∧ VI c v ∧ VIL cs vs
end
mutual
/-- The same of values that may lead into the call's own memory. -/
def VR : T → Value → Prop
  | .own t off len es, v => ∃ a cap m, v = .slice a len cap ∧ len ≤ cap ∧ μ t = some m ∧ (0 < cap → a = some ⟨m.1, m.2.1 + off, none⟩) ∧ off + cap * es ≤ m.2.2
  | .ptr t off, v => ∃ m, μ t = some m ∧ v = .pointer (some ⟨m.1, m.2.1 + off, none⟩)
  | .agg l, v => ∃ vs, v = .agg vs ∧ VRL l vs.toList
  | .tup l, v => ∃ vs, v = .tuple vs ∧ VRL l vs.toList
  | .fn f fs cs, v => ∃ a b, v = .func (.func f) a b ∧ VRL fs a.toList ∧ VRL cs b.toList
  | x, v => VI w Z x v
def VRL : List T → List Value → Prop
  | [], l => l = []
  | c :: cs, l => ∃ v vs, l = v :: vs ∧ VR c v ∧ VRL cs vs
end
end
end Go.Proofs.Ythanlobfjpjegaa.Abs
