/- The laws' parameters: their types, how they are told as trees, and that what reads as data is so told. Written by this session's program rowt.py. -/
import Derived.Test.YtikeeegkndnnfaaC4
import Derived.Test.YtikeeegkndnnfaaProg
import Derived.KernelRfl
namespace Go.Proofs.Ytikeeegkndnnfaa.Abs
open Go Go.RowKit
set_option linter.unusedVariables false
set_option maxRecDepth 100000
structure Way where
  state : Int
  tag : Int
  data : List Int
  age : Int
  deriving DecidableEq, Inhabited
def Way.enc (s : Way) : List T := [T.int .i64 s.state] ++ ([T.int .u32 s.tag] ++ (s.data.flatMap (fun n => [T.int .u8 n]) ++ ([T.int .i64 s.age])))
def Way.wf (s : Way) : Prop := (Lit.int .i64 s.state).wf = true ∧ (Lit.int .u32 s.tag).wf = true ∧ (s.data.length = 16 ∧ ∀ y0 ∈ s.data, (Lit.int .u8 y0).wf = true) ∧ (Lit.int .i64 s.age).wf = true
theorem o63 : OpensT Try.prog 63 19 Way.enc Way.wf :=
  have hF := (opensF_cons (opens_int Try.underlying3) (by kernel_rfl) (by kernel_rfl) (opensF_cons (opens_int Try.underlying34) (by kernel_rfl) (by kernel_rfl) (opensF_cons (opens_array Try.underlying61 (opens_int Try.underlying5) (by kernel_rfl) (by kernel_rfl)) (by kernel_rfl) (by kernel_rfl) (opensF_one (opens_int Try.underlying3) (by kernel_rfl) (by kernel_rfl)))))
  opens_struct (fun p : Int × Int × (List Int) × Int => ⟨p.1, p.2.1, p.2.2.1, p.2.2.2⟩) Way.enc Way.wf (fun _ => rfl) (fun _ h => h) (fun b h => hF.1 (b.state, b.tag, b.data, b.age) h) Try.underlying63 hF (by kernel_rfl)
structure Cache where
  sets : List (List Way)
  deriving DecidableEq, Inhabited
def Cache.enc (s : Cache) : List T := [T.imm false s.sets.length (s.sets.flatMap (fun l => [T.imm false l.length (l.flatMap Way.enc)]))]
def Cache.wf (s : Cache) : Prop := (s.sets.length ≤ maxLen ∧ ∀ y0 ∈ s.sets, (y0.length ≤ maxLen ∧ ∀ y1 ∈ y0, Way.wf y1))
theorem o54 : OpensT Try.prog 54 1 Cache.enc Cache.wf :=
  have hF := (opensF_one (opens_slice Try.underlying52 (opens_slice Try.underlying57 o63 (by kernel_rfl) (by decide)) (by kernel_rfl) (by decide)) (by kernel_rfl) (by kernel_rfl))
  opens_struct (fun p : (List (List Way)) => ⟨p⟩) Cache.enc Cache.wf (fun _ => rfl) (fun _ h => h) (fun b h => hF.1 b.sets h) Try.underlying54 hF (by kernel_rfl)
structure Coh where
  mem : List Int
  caches : List Cache
  deriving DecidableEq, Inhabited
def Coh.enc (s : Coh) : List T := [T.imm false s.mem.length (s.mem.flatMap (fun n => [T.int .u8 n]))] ++ ([T.imm false s.caches.length (s.caches.flatMap Cache.enc)])
def Coh.wf (s : Coh) : Prop := (s.mem.length ≤ maxLen ∧ ∀ y0 ∈ s.mem, (Lit.int .u8 y0).wf = true) ∧ (s.caches.length ≤ maxLen ∧ ∀ y0 ∈ s.caches, Cache.wf y0)
theorem o28 : OpensT Try.prog 28 2 Coh.enc Coh.wf :=
  have hF := (opensF_cons (opens_slice Try.underlying22 (opens_int Try.underlying5) (by kernel_rfl) (by decide)) (by kernel_rfl) (by kernel_rfl) (opensF_one (opens_slice Try.underlying26 o54 (by kernel_rfl) (by decide)) (by kernel_rfl) (by kernel_rfl)))
  opens_struct (fun p : (List Int) × (List Cache) => ⟨p.1, p.2⟩) Coh.enc Coh.wf (fun _ => rfl) (fun _ h => h) (fun b h => hF.1 (b.mem, b.caches) h) Try.underlying28 hF (by kernel_rfl)
structure Acc where
  who : Int
  size : Int
  addr : Int
  v : Int
  write : Bool
  deriving DecidableEq, Inhabited
def Acc.enc (s : Acc) : List T := [T.int .i64 s.who] ++ ([T.int .i64 s.size] ++ ([T.int .u32 s.addr] ++ ([T.int .u32 s.v] ++ ([T.bool s.write]))))
def Acc.wf (s : Acc) : Prop := (Lit.int .i64 s.who).wf = true ∧ (Lit.int .i64 s.size).wf = true ∧ (Lit.int .u32 s.addr).wf = true ∧ (Lit.int .u32 s.v).wf = true ∧ True
theorem o36 : OpensT Try.prog 36 5 Acc.enc Acc.wf :=
  have hF := (opensF_cons (opens_int Try.underlying3) (by kernel_rfl) (by kernel_rfl) (opensF_cons (opens_int Try.underlying3) (by kernel_rfl) (by kernel_rfl) (opensF_cons (opens_int Try.underlying34) (by kernel_rfl) (by kernel_rfl) (opensF_cons (opens_int Try.underlying34) (by kernel_rfl) (by kernel_rfl) (opensF_one (opens_bool Try.underlying4) (by kernel_rfl) (by kernel_rfl))))))
  opens_struct (fun p : Int × Int × Int × Int × Bool => ⟨p.1, p.2.1, p.2.2.1, p.2.2.2.1, p.2.2.2.2⟩) Acc.enc Acc.wf (fun _ => rfl) (fun _ h => h) (fun b h => hF.1 (b.who, b.size, b.addr, b.v, b.write) h) Try.underlying36 hF (by kernel_rfl)
end Go.Proofs.Ytikeeegkndnnfaa.Abs
