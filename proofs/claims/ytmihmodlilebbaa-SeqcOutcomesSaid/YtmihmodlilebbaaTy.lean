/- The laws' parameters: their types, how they are told as trees, and that what reads as data is so told. Written by this session's program rowt.py. -/
import Derived.Test.YtmihmodlilebbaaC4
import Derived.Test.YtmihmodlilebbaaProg
import Derived.KernelRfl
namespace Go.Proofs.Ytmihmodlilebbaa.Abs
open Go Go.RowKit
set_option linter.unusedVariables false
set_option maxRecDepth 100000
structure Op where
  kind : Int
  loc : Int
  val : Int
  deriving DecidableEq, Inhabited
def Op.enc (s : Op) : List T := [T.int .i64 s.kind] ++ ([T.int .i64 s.loc] ++ ([T.int .u32 s.val]))
def Op.wf (s : Op) : Prop := (Lit.int .i64 s.kind).wf = true ∧ (Lit.int .i64 s.loc).wf = true ∧ (Lit.int .u32 s.val).wf = true
theorem o42 : OpensT Try.prog 42 3 Op.enc Op.wf :=
  have hF := (opensF_cons (opens_int Try.underlying3) (by kernel_rfl) (by kernel_rfl) (opensF_cons (opens_int Try.underlying3) (by kernel_rfl) (by kernel_rfl) (opensF_one (opens_int Try.underlying40) (by kernel_rfl) (by kernel_rfl))))
  opens_struct (fun p : Int × Int × Int => ⟨p.1, p.2.1, p.2.2⟩) Op.enc Op.wf (fun _ => rfl) (fun _ h => h) (fun b h => hF.1 (b.kind, b.loc, b.val) h) Try.underlying42 hF (by kernel_rfl)
end Go.Proofs.Ytmihmodlilebbaa.Abs
