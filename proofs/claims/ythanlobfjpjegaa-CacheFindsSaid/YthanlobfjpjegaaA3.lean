/- The plain machine: its operations, its code, how it runs. -/
import Derived.Test.YthanlobfjpjegaaA2
namespace Go.Proofs.Ythanlobfjpjegaa.Abs
open Go Go.RowKit
set_option linter.unusedVariables false

inductive Opd where
  | tmp (t : Nat)
  | con (v : T)
  deriving Inhabited

inductive AOp where
  | mv (x : Opd)
  | pick (c a b : Opd)
  | alloc (z : List T)
  | box (x : Opd)
  | build (z : List T) (parts : List (Nat × Nat × Opd))
  | bsl (z : List T) (len es : Nat) (parts : List (Nat × Nat × Opd))
  | load (one : Bool) (n : Nat) (a : Opd)
  | store (n : Nat) (a x : Opd)
  | nilchk (x : Opd)
  | bin (op : BinOp) (x y : Opd)
  | beq (neg : Bool) (x y : Opd)
  | aeq (neg : Bool) (ks : List (Option IntKind)) (x y : Opd)
  | un (op : UnOp) (x : Opd)
  | conv (k : IntKind) (x : Opd)
  | mkfn (f : Nat) (fs cs : List Opd)
  | mksl (z : List T) (es bytes : Nat) (n c : Opd)
  | slArr (n es : Nat) (x : Opd) (lo hi mx : Option Opd)
  | slSl (es : Nat) (x : Opd) (lo hi mx : Option Opd)
  | faddr (x : Opd) (off : Nat)
  | field (one : Bool) (off n : Nat) (x : Opd)
  | iarr (n es : Nat) (x i : Opd)
  | isl (es : Nat) (x i : Opd)
  | index (one : Bool) (n es : Nat) (x i : Opd)
  | extract (x : Opd) (i : Nat)
  | len (x : Opd)
  | append (es bytes : Nat) (s x : Opd)
  | copy (es : Nat) (d x : Opd)
  | mn (args : List Opd)
  | mx (args : List Opd)
  | call (f : Nat) (args : List Opd)
  | callv (x : Opd) (args : List Opd)
  deriving Inhabited

structure AOper where
  dst : Option Nat
  op : AOp
  guard : Option (Nat × Bool)
  deriving Inhabited

inductive ACode where
  | skip
  | region (ops : List AOper) (chk : List (Nat × Nat))
  | seq (a b : ACode)
  | cond (c : Opd) (a b : ACode)
  | block (id : Nat) (c : ACode)
  | loop (c : ACode)
  | exit (id : Nat)
  | ret
  | scope (whole rest : ACode)
  | label (l : Nat)
  | goto (l : Nat)
  | kill (l : List Nat) (c : ACode)
  deriving Inhabited

inductive ARes where
  | tmp (t : Nat)
  | cell (t : Nat) (one : Bool) (n : Nat)

structure AFun where
  ntmps : Nat
  body : ACode
  res : List ARes
  pure : Bool
  nat : Option (Nat × Nat) := none   -- slices.Clone, of elements of so many cells and bytes

abbrev AProg := Nat → Option AFun

inductive AExit where
  | normal | exit (id : Nat) | goto (l : Nat) | ret

/-! ### Operations -/
abbrev Mem := Nat → Option (List T)
structure Res where
  v : T
  rd : List Nat
  ed : List (Nat × Option (List T))

def rho (s : List T) : Opd → T
  | .tmp t => s.getD t .undef
  | .con v => v

def put1 (g : Mem) (e : Nat × Option (List T)) : Mem := fun u => if u = e.1 then e.2 else g u
def putAll (g : Mem) (es : List (Nat × Option (List T))) : Mem := es.foldl put1 g

def splice : List T → Nat → List T → List T
  | c, _, [] => c
  | c, o, v :: l => splice (c.set o v) (o + 1) l

def T.isBool : T → Option Bool
  | .bool b => some b
  | _ => none
def T.asInt : T → Option Int
  | .int _ n => some n
  | _ => none
def natOf (x : T) : Option Nat := match x with
  | .int _ n => if 0 ≤ n then some n.toNat else none
  | _ => none
def bnd (x : Option T) (dflt : Nat) : Option Nat := match x with
  | some x => natOf x
  | none => some dflt

def binT (op : BinOp) (x y : T) : Option T :=
  match x, y with
  | .int k a, .int k' b =>
    match op with
    | .shl => if b < 0 then none else some (.int k (k.wrap (a * 2 ^ (min b.toNat k.bits))))
    | .shr => if b < 0 then none else some (.int k (a.fdiv (2 ^ (min b.toNat k.bits))))
    | _ => if k = k' then match op with
      | .add => some (.int k (k.wrap (a + b)))
      | .sub => some (.int k (k.wrap (a - b)))
      | .mul => some (.int k (k.wrap (a * b)))
      | .quo => if b = 0 then none else some (.int k (k.wrap (a.tdiv b)))
      | .rem => if b = 0 then none else some (.int k (a.tmod b))
      | .and => some (.int k (k.wrap (BitVec.ofInt k.bits a &&& BitVec.ofInt k.bits b).toNat))
      | .or => some (.int k (k.wrap (BitVec.ofInt k.bits a ||| BitVec.ofInt k.bits b).toNat))
      | .xor => some (.int k (k.wrap (BitVec.ofInt k.bits a ^^^ BitVec.ofInt k.bits b).toNat))
      | .andNot => some (.int k (k.wrap (BitVec.ofInt k.bits a &&& ~~~(BitVec.ofInt k.bits b)).toNat))
      | .eql => some (.bool (a == b))
      | .neq => some (.bool (a != b))
      | .lss => some (.bool (a < b))
      | .leq => some (.bool (a ≤ b))
      | .gtr => some (.bool (a > b))
      | .geq => some (.bool (a ≥ b))
      | _ => none
      else none
  | _, _ => none

/-- Are cells of these kinds, and in their kinds' ranges? -/
def conf1 : Option IntKind → T → Bool
  | some k, .int k' n => k' == k && (decide (k.min ≤ n) && decide (n ≤ k.max))
  | none, .bool _ => true
  | _, _ => false
def conf : List (Option IntKind) → List T → Bool
  | [], [] => true
  | k :: ks, x :: xs => conf1 k x && conf ks xs
  | _, _ => false
def eq1 : T → T → Bool
  | .int _ a, .int _ b => a == b
  | .bool a, .bool b => a == b
  | _, _ => false
def eqL : List T → List T → Bool
  | [], [] => true
  | x :: xs, y :: ys => eq1 x y && eqL xs ys
  | _, _ => false

def unT (op : UnOp) (x : T) : Option T :=
  match op, x with
  | .neg, .int k n => some (.int k (k.wrap (0 - n)))
  | .not, .bool b => some (.bool !b)
  | .xor, .int k n => some (.int k (k.wrap (BitVec.ofInt k.bits (if k.signed then -1 else k.max) ^^^ BitVec.ofInt k.bits n).toNat))
  | _, _ => none

def fillT (c : List T) : List (Nat × Nat × T) → Option (List T)
  | [] => some c
  | (off, size, v) :: r => if v.cells.length = size ∧ off + size ≤ c.length ∧ v.cells.all T.leaf then fillT (splice c off v.cells) r else none

def allLeaf (l : List T) : Bool := l.all T.leaf

def cut (c : List T) (o n : Nat) : List T := (c.drop o).take n

def minL : List T → Option T
  | [] => none
  | x :: r => r.foldlM (fun x y => match x, y with | .int k a, .int k' b => some (.int k (if b < a then b else a)) | _, _ => none) x
def maxL : List T → Option T
  | [] => none
  | x :: r => r.foldlM (fun x y => match x, y with | .int k a, .int k' b => some (.int k (if b > a then b else a)) | _, _ => none) x

def pureR (v : T) : Option Res := some ⟨v, [], []⟩

/-- A slice's cells, and the block that was read. -/
def cellsOf (g : Mem) (es : Nat) : T → Option (Nat × List T × List Nat)
  | .imm _ len c => some (len, c, [])
  | .own t off len es' => if es' = es then match g t with
    | some c => if off + len * es ≤ c.length then some (len, cut c off (len * es), [t]) else none
    | none => none
    else none
  | _ => none

def room : Nat := 2 ^ 39

/-- What an operation that calls nothing yields: its value, the blocks that it reads, what it changes. -/
def opRes (op : AOp) (fr : Nat) (s : List T) (g : Mem) : Option Res :=
  match op with
  | .mv x => pureR (rho s x)
  | .pick c a b => match rho s c with | .bool true => pureR (rho s a) | .bool false => pureR (rho s b) | _ => none
  | .alloc z => if allLeaf z then some ⟨.ptr fr 0, [], [(fr, some z)]⟩ else none
  | .box x => if allLeaf (rho s x).cells then some ⟨.ptr fr 0, [], [(fr, some (rho s x).cells)]⟩ else none
  | .build z ps => match fillT z (ps.map fun p => (p.1, p.2.1, rho s p.2.2)) with | some c => pureR (.agg c) | none => none
  | .bsl z len es ps => match fillT z (ps.map fun p => (p.1, p.2.1, rho s p.2.2)) with
    | some c => if allLeaf c ∧ c.length = len * es then some ⟨.own fr 0 len es, [], [(fr, some c)]⟩ else none
    | none => none
  | .load one n a => match rho s a with
    | .ptr t off => match g t with
      | some c => if off + n ≤ c.length then (if one then match c[off]? with | some x => some ⟨x, [t], []⟩ | none => none else some ⟨.agg (cut c off n), [t], []⟩) else none
      | none => none
    | .iptr c off => if off + n ≤ c.length then (if one then match c[off]? with | some x => pureR x | none => none else pureR (.agg (cut c off n))) else none
    | _ => none
  | .store n a x => match rho s a with
    | .ptr t off => match g t with
      | some c => if off + n ≤ c.length ∧ (rho s x).cells.length = n ∧ allLeaf (rho s x).cells then some ⟨.undef, [t], [(t, some (splice c off (rho s x).cells))]⟩ else none
      | none => none
    | _ => none
  | .nilchk x => match rho s x with | .ptr t o => pureR (.ptr t o) | .iptr c o => pureR (.iptr c o) | .fn f a b => pureR (.fn f a b) | _ => none
  | .bin op x y => match binT op (rho s x) (rho s y) with | some v => pureR v | none => none
  | .beq neg x y => match rho s x, rho s y with | .bool a, .bool b => pureR (.bool (if neg then !(a == b) else a == b)) | _, _ => none
  | .aeq neg ks x y => match rho s x, rho s y with
    | .agg a, .agg b => if conf ks a && conf ks b then pureR (.bool (if neg then !eqL a b else eqL a b)) else none
    | _, _ => none
  | .un op x => match unT op (rho s x) with | some v => pureR v | none => none
  | .conv k x => match rho s x with | .int _ n => pureR (.int k (k.wrap n)) | _ => none
  | .mkfn f fs cs => pureR (.fn f (fs.map (rho s)) (cs.map (rho s)))
  | .mksl z es bytes n c => match natOf (rho s n), natOf (rho s c) with
    | some n, some c => if n ≤ c ∧ c * bytes ≤ room ∧ z.length = es ∧ allLeaf z ∧ c ≤ room then some ⟨.own fr 0 n es, [], [(fr, some ((List.replicate c z).flatten))]⟩ else none
    | _, _ => none
  | .slArr n es x lo hi mx => match bnd (lo.map (rho s)) 0, bnd (hi.map (rho s)) n, bnd (mx.map (rho s)) n with
    | some l, some h, some m => if l ≤ h ∧ h ≤ m ∧ m ≤ n then match rho s x with
      | .ptr t off => match g t with
        | some c => if off + n * es ≤ c.length then some ⟨.own t (off + l * es) (h - l) es, [t], []⟩ else none
        | none => none
      | .iptr c off => if off + n * es ≤ c.length then pureR (.imm (m == h) (h - l) (cut c (off + l * es) ((h - l) * es))) else none
      | _ => none
      else none
    | _, _, _ => none
  | .slSl es x lo hi mx => match rho s x with
    | .imm full len c => match bnd (lo.map (rho s)) 0, bnd (hi.map (rho s)) len, bnd (mx.map (rho s)) len with
      | some l, some h, some m => if l ≤ h ∧ h ≤ m ∧ m ≤ len then
          pureR (.imm (if mx.isSome then m == h else full && (h == len)) (h - l) (cut c (l * es) ((h - l) * es)))
        else none
      | _, _, _ => none
    | .own t off len es' => match bnd (lo.map (rho s)) 0, bnd (hi.map (rho s)) len, bnd (mx.map (rho s)) len with
      | some l, some h, some m => if l ≤ h ∧ h ≤ m ∧ m ≤ len ∧ es' = es then pureR (.own t (off + l * es) (h - l) es) else none
      | _, _, _ => none
    | _ => none
  | .faddr x off => match rho s x with | .ptr t o => pureR (.ptr t (o + off)) | .iptr c o => pureR (.iptr c (o + off)) | _ => none
  | .field one off n x => match rho s x with
    | .agg c => if off + n ≤ c.length then (if one then match c[off]? with | some x => pureR x | none => none else pureR (.agg (cut c off n))) else none
    | _ => none
  | .iarr n es x i => match natOf (rho s i) with
    | some i => if i < n then match rho s x with | .ptr t o => pureR (.ptr t (o + i * es)) | .iptr c o => pureR (.iptr c (o + i * es)) | _ => none else none
    | none => none
  | .isl es x i => match natOf (rho s i) with
    | some i => match rho s x with
      | .imm _ len c => if i < len ∧ i * es + es ≤ c.length then pureR (.iptr c (i * es)) else none
      | .own t off len es' => if i < len ∧ es' = es then pureR (.ptr t (off + i * es)) else none
      | _ => none
    | none => none
  | .index one n es x i => match natOf (rho s i) with
    | some i => match rho s x with
      | .agg c => if i < n ∧ i * es + es ≤ c.length then (if one then match c[i * es]? with | some x => pureR x | none => none else pureR (.agg (cut c (i * es) es))) else none
      | _ => none
    | none => none
  | .extract x i => match rho s x with | .tup l => (match l[i]? with | some v => pureR v | none => none) | _ => none
  | .len x => match rho s x with | .imm _ n _ => pureR (.int .i64 n) | .own _ _ n _ => pureR (.int .i64 n) | _ => none
  | .append es bytes sl x => match cellsOf g es (rho s x) with
    | some (n, new, rd) => if n = 0 then (if new.length = 0 then match rho s sl with | .imm f l c => some ⟨.imm f l c, rd, []⟩ | .own t p l e => some ⟨.own t p l e, rd, []⟩ | _ => none else none) else
      if new.length = n * es ∧ allLeaf new then match rho s sl with
      | .imm true len c => if (len + n) * bytes ≤ room ∧ len + n ≤ room ∧ c.length = len * es ∧ allLeaf c then some ⟨.own fr 0 (len + n) es, rd, [(fr, some (c ++ new))]⟩ else none
      | .own t off len es' => if es' = es ∧ (len + n) * bytes ≤ room ∧ len + n ≤ room then match g t with
        | some c => if off + len * es ≤ c.length then some ⟨.own fr 0 (len + n) es, t :: rd, [(t, none), (fr, some (cut c off (len * es) ++ new))]⟩ else none
        | none => none
        else none
      | _ => none
      else none
    | none => none
  | .copy es d x => match cellsOf g es (rho s x), rho s d with
    | some (n, new, rd), .own t off len es' => match g t with
      | some c => if es' = es ∧ off + len * es ≤ c.length ∧ new.length = n * es ∧ allLeaf new then
          some ⟨.int .i64 ((min n len : Nat) : Int), t :: rd, [(t, some (splice c off (new.take (min n len * es))))]⟩ else none
      | none => none
    | _, _ => none
  | .mn args => match minL (args.map (rho s)) with | some v => pureR v | none => none
  | .mx args => match maxL (args.map (rho s)) with | some v => pureR v | none => none
  | .call _ _ | .callv _ _ => none

/-! ### How it runs -/
structure St where
  s : List T
  g : Mem
  nx : Nat

abbrev Run := ACode → St → Option (AExit × St)

def resOne (s : List T) (g : Mem) : ARes → Option T
  | .tmp t => some (rho s (.tmp t))
  | .cell t one n => match opRes (.load one n (.tmp t)) 0 s g with | some r => some r.v | none => none
def resL (s : List T) (g : Mem) : List ARes → Option (List T)
  | [] => some []
  | r :: rs => match resOne s g r, resL s g rs with | some v, some vs => some (v :: vs) | _, _ => none
def resT (s : List T) (g : Mem) (rs : List ARes) : Option T := match resL s g rs with
  | some [v] => some v
  | some vs => some (.tup vs)
  | none => none

def AExit.leaves : AExit → Bool
  | .normal | .ret => true
  | _ => false

/-- The body of a function, from its arguments, in memory g. -/
def runBody (ih : Run) (F : AFun) (args : List T) (g : Mem) (nx : Nat) : Option (T × Mem × Nat) :=
  match ih F.body ⟨args ++ List.replicate (F.ntmps - args.length) .undef, g, nx⟩ with
  | some (e, st) => if e.leaves then match resT st.s st.g F.res with
    | some v => some (v, st.g, st.nx)
    | none => none
    else none
  | none => none

def frzDepth : Nat := 12
/-- A pure call: its arguments become such as nobody writes, its body has memory of its own, so does its result. -/
def runPure (ih : Run) (F : AFun) (args : List T) : Option T :=
  match runBody ih F args (fun _ => none) 0 with
  | some (v, g, nx) => match frz ⟨g, nx⟩ frzDepth v with
    | some (v, _) => some v
    | none => none
  | none => none
def callPure (ih : Run) (F : AFun) (args : List T) (g : Mem) : Option Res :=
  match frzL ⟨g, 0⟩ frzDepth args with
  | some (args, ids) => match runPure ih F args with
    | some v => some ⟨v, ids, if v.flat then [] else ids.map fun t => (t, none)⟩
    | none => none
  | none => none

/-- Who is called, with what. -/
def callee (s : List T) : AOp → Option (Nat × List T)
  | .call f args => some (f, args.map (rho s))
  | .callv x args => match rho s x with
    | .fn f fs cs => some (f, fs ++ args.map (rho s) ++ cs)
    | _ => none
  | _ => none

abbrev Fp := Option (List Nat × List Nat)   -- what was read, what was written; none: anything

def setDst (s : List T) (d : Option Nat) (v : T) : List T := match d with
  | some d => s.set d v
  | none => s

/-- Is an operation to be done? -/
def guardT (s : List T) : Option (Nat × Bool) → Option Bool
  | none => some true
  | some (t, want) => match rho s (.tmp t) with
    | .bool b => some (b == want)
    | .undef => some false
    | _ => none
def cloneRes (es bytes fr : Nat) (args : List T) (g : Mem) : Option Res :=
  match args with
  | [x] => match cellsOf g es x with
    | some (n, c, rd) => if c.length = n * es ∧ allLeaf c ∧ n * bytes ≤ room ∧ n ≤ room then (if n = 0 then some ⟨.imm true 0 [], rd, []⟩ else some ⟨.own fr 0 n es, rd, [(fr, some c)]⟩) else none
    | none => none
  | _ => none
/-- What an operation yields that calls nothing, or a pure function. -/
def evR (AP : AProg) (ih : Run) (fr : Nat) (op : AOp) (s : List T) (g : Mem) : Option Res :=
  match callee s op with
  | some (f, args) => match AP f with
    | some F => match F.nat with
      | some (es, bytes) => cloneRes es bytes fr args g
      | none => if F.pure then callPure ih F args g else none
    | none => none
  | none => opRes op fr s g
def evI (AP : AProg) (ih : Run) (op : AOp) (s : List T) (g : Mem) (nx : Nat) : Option (T × Mem × Nat) :=
  match callee s op with
  | some (f, args) => match AP f with
    | some F => if F.pure then none else runBody ih F args g nx
    | none => none
  | none => none
def evG (AP : AProg) (ih : Run) (fr : Nat) (o : AOper) (s : List T) (g : Mem) : Option Res :=
  match guardT s o.guard with
  | some true => evR AP ih fr o.op s g
  | some false => some ⟨.undef, [], []⟩
  | none => none
/-- One operation (number i of a region whose new blocks are numbered from b on; fr: b + i). -/
def evOp (AP : AProg) (ih : Run) (fr : Nat) (o : AOper) (st : St) : Option (St × Fp) :=
  match evG AP ih fr o st.s st.g with
  | some r => some (⟨setDst st.s o.dst r.v, putAll st.g r.ed, st.nx⟩, some (r.rd, r.ed.map (·.1)))
  | none => match guardT st.s o.guard with
    | some true => match evI AP ih o.op st.s st.g st.nx with
      | some (v, g, nx) => some (⟨setDst st.s o.dst v, g, nx⟩, none)
      | none => none
    | _ => none

def evOps (AP : AProg) (ih : Run) : Nat → List AOper → St → Option (St × List Fp)
  | _, [], st => some (st, [])
  | fr, o :: r, st => match evOp AP ih fr o st with
    | some (st, fp) => match evOps AP ih (fr + 1) r st with
      | some (st, fps) => some (st, fp :: fps)
      | none => none
    | none => none

def disj (a b : List Nat) : Bool := a.all fun x => !b.contains x
def Fp.apart : Fp → Fp → Bool
  | some (r1, w1), some (r2, w2) => disj w1 r2 && disj w1 w2 && disj w2 r1
  | _, _ => false

def evRegion (AP : AProg) (ih : Run) (ops : List AOper) (chk : List (Nat × Nat)) (st : St) : Option (AExit × St) :=
  match evOps AP ih st.nx ops ⟨st.s, st.g, st.nx + ops.length⟩ with
  | some (st', fps) => if chk.all fun (i, j) => Fp.apart (fps.getD i none) (fps.getD j none) then some (.normal, st') else none
  | none => none

def afind : ACode → Nat → Option ACode
  | .seq a b, l => match afind a l with
    | some r => some (.seq r b)
    | none => afind b l
  | .label l', l => if l' == l then some .skip else none
  | .kill _ c, l => afind c l
  | _, _ => none

def killAll (s : List T) (l : List Nat) : List T := l.foldl (fun s t => s.set t .junk) s

def evStep (AP : AProg) (ih : Run) : Run
  | .skip, st => some (.normal, st)
  | .label _, st => some (.normal, st)
  | .region ops chk, st => evRegion AP ih ops chk st
  | .seq a b, st => match ih a st with
    | some (.normal, st') => ih b st'
    | r => r
  | .cond c a b, st => match rho st.s c with
    | .bool true => ih a st
    | .bool false => ih b st
    | _ => none
  | .block id c, st => match ih c st with
    | some (.exit i, st') => if i = id then some (.normal, st') else some (.exit i, st')
    | r => r
  | .loop c, st => match ih c st with
    | some (.normal, st') => ih (.loop c) st'
    | r => r
  | .exit id, st => some (.exit id, st)
  | .ret, st => some (.ret, st)
  | .goto l, st => some (.goto l, st)
  | .scope whole rest, st => match ih rest st with
    | some (.goto l, st') => match afind whole l with
      | some r => ih (.scope whole r) st'
      | none => none
    | r => r
  | .kill l c, st => ih c { st with s := killAll st.s l }

def ev (AP : AProg) : Nat → Run
  | 0 => fun _ _ => none
  | k + 1 => evStep AP (ev AP k)

/-- A pure function, called. -/
def evF (AP : AProg) (k : Nat) (f : Nat) (args : List T) : Option T :=
  match AP f with
  | some F => if F.pure && F.nat.isNone then runPure (ev AP k) F args else none
  | none => none
end Go.Proofs.Ythanlobfjpjegaa.Abs
