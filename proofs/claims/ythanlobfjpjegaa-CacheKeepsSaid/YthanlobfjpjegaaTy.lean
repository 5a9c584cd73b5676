/- The laws' parameters: their types, how they are told as trees, and that what reads as data is so told. Written by this session's program rowt.py. -/
import Derived.Test.YthanlobfjpjegaaC4
import Derived.Test.YthanlobfjpjegaaProg
import Derived.KernelRfl
namespace Go.Proofs.Ythanlobfjpjegaa.Abs
open Go Go.RowKit
set_option linter.unusedVariables false
set_option maxRecDepth 100000
structure Way where
  state : Int
  tag : Int
  data : List Int
  age : Int
  deriving DecidableEq, Inhabited
def Way.enc (s : Way) : List T := [T.int .i64 s.state] ++ ([T.int .u32 s.tag] ++ (s.data.flatMap (fun n => [T.int .u8 n]) ++ ([T.int .i64 s.age])))
def Way.wf (s : Way) : Prop := (Lit.int .i64 s.state).wf = true ∧ (Lit.int .u32 s.tag).wf = true ∧ (s.data.length = 16 ∧ ∀ y0 ∈ s.data, (Lit.int .u8 y0).wf = true) ∧ (Lit.int .i64 s.age).wf = true
theorem o48 : OpensT Try.prog 48 19 Way.enc Way.wf :=
  have hF := (opensF_cons (opens_int Try.underlying3) (by kernel_rfl) (by kernel_rfl) (opensF_cons (opens_int Try.underlying30) (by kernel_rfl) (by kernel_rfl) (opensF_cons (opens_array Try.underlying44 (opens_int Try.underlying5) (by kernel_rfl) (by kernel_rfl)) (by kernel_rfl) (by kernel_rfl) (opensF_one (opens_int Try.underlying3) (by kernel_rfl) (by kernel_rfl)))))
  opens_struct (fun p : Int × Int × (List Int) × Int => ⟨p.1, p.2.1, p.2.2.1, p.2.2.2⟩) Way.enc Way.wf (fun _ => rfl) (fun _ h => h) (fun b h => hF.1 (b.state, b.tag, b.data, b.age) h) Try.underlying48 hF (by kernel_rfl)
structure Cache where
  sets : List (List Way)
  deriving DecidableEq, Inhabited
def Cache.enc (s : Cache) : List T := [T.imm false s.sets.length (s.sets.flatMap (fun l => [T.imm false l.length (l.flatMap Way.enc)]))]
def Cache.wf (s : Cache) : Prop := (s.sets.length ≤ maxLen ∧ ∀ y0 ∈ s.sets, (y0.length ≤ maxLen ∧ ∀ y1 ∈ y0, Way.wf y1))
theorem o24 : OpensT Try.prog 24 1 Cache.enc Cache.wf :=
  have hF := (opensF_one (opens_slice Try.underlying22 (opens_slice Try.underlying53 o48 (by kernel_rfl) (by decide)) (by kernel_rfl) (by decide)) (by kernel_rfl) (by kernel_rfl))
  opens_struct (fun p : (List (List Way)) => ⟨p⟩) Cache.enc Cache.wf (fun _ => rfl) (fun _ h => h) (fun b h => hF.1 b.sets h) Try.underlying24 hF (by kernel_rfl)
structure Line where
  line : Int
  state : Int
  data : List Int
  deriving DecidableEq, Inhabited
def Line.enc (s : Line) : List T := [T.int .u32 s.line] ++ ([T.int .i64 s.state] ++ (s.data.flatMap (fun n => [T.int .u8 n])))
def Line.wf (s : Line) : Prop := (Lit.int .u32 s.line).wf = true ∧ (Lit.int .i64 s.state).wf = true ∧ (s.data.length = 16 ∧ ∀ y0 ∈ s.data, (Lit.int .u8 y0).wf = true)
theorem o46 : OpensT Try.prog 46 18 Line.enc Line.wf :=
  have hF := (opensF_cons (opens_int Try.underlying30) (by kernel_rfl) (by kernel_rfl) (opensF_cons (opens_int Try.underlying3) (by kernel_rfl) (by kernel_rfl) (opensF_one (opens_array Try.underlying44 (opens_int Try.underlying5) (by kernel_rfl) (by kernel_rfl)) (by kernel_rfl) (by kernel_rfl))))
  opens_struct (fun p : Int × Int × (List Int) => ⟨p.1, p.2.1, p.2.2⟩) Line.enc Line.wf (fun _ => rfl) (fun _ h => h) (fun b h => hF.1 (b.line, b.state, b.data) h) Try.underlying46 hF (by kernel_rfl)
structure Place where
  addr : Int
  size : Int
  deriving DecidableEq, Inhabited
def Place.enc (s : Place) : List T := [T.int .u32 s.addr] ++ ([T.int .i64 s.size])
def Place.wf (s : Place) : Prop := (Lit.int .u32 s.addr).wf = true ∧ (Lit.int .i64 s.size).wf = true
theorem o38 : OpensT Try.prog 38 2 Place.enc Place.wf :=
  have hF := (opensF_cons (opens_int Try.underlying30) (by kernel_rfl) (by kernel_rfl) (opensF_one (opens_int Try.underlying3) (by kernel_rfl) (by kernel_rfl)))
  opens_struct (fun p : Int × Int => ⟨p.1, p.2⟩) Place.enc Place.wf (fun _ => rfl) (fun _ h => h) (fun b h => hF.1 (b.addr, b.size) h) Try.underlying38 hF (by kernel_rfl)
end Go.Proofs.Ythanlobfjpjegaa.Abs
