/- The laws' parameters: their types, how they are told as trees, and that what reads as data is so told. Written by this session's program rowt.py. -/
import Derived.Test.YtdkaclgfkgcmpaaC4
import Derived.Test.YtdkaclgfkgcmpaaProg
import Derived.KernelRfl
namespace Go.Proofs.Ytdkaclgfkgcmpaa.Abs
open Go Go.RowKit
set_option linter.unusedVariables false
set_option maxRecDepth 100000
structure Way where
  state : Int
  tag : Int
  data : List Int
  age : Int
  deriving DecidableEq, Inhabited
def Way.enc (s : Way) : List T := [T.int .i64 s.state] ++ ([T.int .u32 s.tag] ++ (s.data.flatMap (fun n => [T.int .u8 n]) ++ ([T.int .i64 s.age])))
def Way.wf (s : Way) : Prop := (Lit.int .i64 s.state).wf = true ∧ (Lit.int .u32 s.tag).wf = true ∧ (s.data.length = 16 ∧ ∀ y0 ∈ s.data, (Lit.int .u8 y0).wf = true) ∧ (Lit.int .i64 s.age).wf = true
theorem o41 : OpensT Try.prog 41 19 Way.enc Way.wf :=
  have hF := (opensF_cons (opens_int Try.underlying3) (by kernel_rfl) (by kernel_rfl) (opensF_cons (opens_int Try.underlying26) (by kernel_rfl) (by kernel_rfl) (opensF_cons (opens_array Try.underlying39 (opens_int Try.underlying5) (by kernel_rfl) (by kernel_rfl)) (by kernel_rfl) (by kernel_rfl) (opensF_one (opens_int Try.underlying3) (by kernel_rfl) (by kernel_rfl)))))
  opens_struct (fun p : Int × Int × (List Int) × Int => ⟨p.1, p.2.1, p.2.2.1, p.2.2.2⟩) Way.enc Way.wf (fun _ => rfl) (fun _ h => h) (fun b h => hF.1 (b.state, b.tag, b.data, b.age) h) Try.underlying41 hF (by kernel_rfl)
structure Cache where
  sets : List (List Way)
  deriving DecidableEq, Inhabited
def Cache.enc (s : Cache) : List T := [T.imm false s.sets.length (s.sets.flatMap (fun l => [T.imm false l.length (l.flatMap Way.enc)]))]
def Cache.wf (s : Cache) : Prop := (s.sets.length ≤ maxLen ∧ ∀ y0 ∈ s.sets, (y0.length ≤ maxLen ∧ ∀ y1 ∈ y0, Way.wf y1))
theorem o50 : OpensT Try.prog 50 1 Cache.enc Cache.wf :=
  have hF := (opensF_one (opens_slice Try.underlying48 (opens_slice Try.underlying51 o41 (by kernel_rfl) (by decide)) (by kernel_rfl) (by decide)) (by kernel_rfl) (by kernel_rfl))
  opens_struct (fun p : (List (List Way)) => ⟨p⟩) Cache.enc Cache.wf (fun _ => rfl) (fun _ h => h) (fun b h => hF.1 b.sets h) Try.underlying50 hF (by kernel_rfl)
structure Coh where
  mem : List Int
  caches : List Cache
  deriving DecidableEq, Inhabited
def Coh.enc (s : Coh) : List T := [T.imm false s.mem.length (s.mem.flatMap (fun n => [T.int .u8 n]))] ++ ([T.imm false s.caches.length (s.caches.flatMap Cache.enc)])
def Coh.wf (s : Coh) : Prop := (s.mem.length ≤ maxLen ∧ ∀ y0 ∈ s.mem, (Lit.int .u8 y0).wf = true) ∧ (s.caches.length ≤ maxLen ∧ ∀ y0 ∈ s.caches, Cache.wf y0)
theorem o25 : OpensT Try.prog 25 2 Coh.enc Coh.wf :=
  have hF := (opensF_cons (opens_slice Try.underlying22 (opens_int Try.underlying5) (by kernel_rfl) (by decide)) (by kernel_rfl) (by kernel_rfl) (opensF_one (opens_slice Try.underlying23 o50 (by kernel_rfl) (by decide)) (by kernel_rfl) (by kernel_rfl)))
  opens_struct (fun p : (List Int) × (List Cache) => ⟨p.1, p.2⟩) Coh.enc Coh.wf (fun _ => rfl) (fun _ h => h) (fun b h => hF.1 (b.mem, b.caches) h) Try.underlying25 hF (by kernel_rfl)
structure Ask where
  who : Int
  line : Int
  ask : Int
  deriving DecidableEq, Inhabited
def Ask.enc (s : Ask) : List T := [T.int .i64 s.who] ++ ([T.int .u32 s.line] ++ ([T.int .i64 s.ask]))
def Ask.wf (s : Ask) : Prop := (Lit.int .i64 s.who).wf = true ∧ (Lit.int .u32 s.line).wf = true ∧ (Lit.int .i64 s.ask).wf = true
theorem o28 : OpensT Try.prog 28 3 Ask.enc Ask.wf :=
  have hF := (opensF_cons (opens_int Try.underlying3) (by kernel_rfl) (by kernel_rfl) (opensF_cons (opens_int Try.underlying26) (by kernel_rfl) (by kernel_rfl) (opensF_one (opens_int Try.underlying3) (by kernel_rfl) (by kernel_rfl))))
  opens_struct (fun p : Int × Int × Int => ⟨p.1, p.2.1, p.2.2⟩) Ask.enc Ask.wf (fun _ => rfl) (fun _ h => h) (fun b h => hF.1 (b.who, b.line, b.ask) h) Try.underlying28 hF (by kernel_rfl)
structure Req where
  kind : Int
  line : Int
  deriving DecidableEq, Inhabited
def Req.enc (s : Req) : List T := [T.int .i64 s.kind] ++ ([T.int .u32 s.line])
def Req.wf (s : Req) : Prop := (Lit.int .i64 s.kind).wf = true ∧ (Lit.int .u32 s.line).wf = true
theorem o32 : OpensT Try.prog 32 2 Req.enc Req.wf :=
  have hF := (opensF_cons (opens_int Try.underlying3) (by kernel_rfl) (by kernel_rfl) (opensF_one (opens_int Try.underlying26) (by kernel_rfl) (by kernel_rfl)))
  opens_struct (fun p : Int × Int => ⟨p.1, p.2⟩) Req.enc Req.wf (fun _ => rfl) (fun _ h => h) (fun b h => hF.1 (b.kind, b.line) h) Try.underlying32 hF (by kernel_rfl)
end Go.Proofs.Ytdkaclgfkgcmpaa.Abs
