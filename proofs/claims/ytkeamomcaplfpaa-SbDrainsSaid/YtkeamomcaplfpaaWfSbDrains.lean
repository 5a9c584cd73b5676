/- Which numbers fit: the arguments of SbDrains, out of their reading as data. Written by this session's program rowgen.py. -/
import Derived.Test.YtkeamomcaplfpaaOpn
import Derived.Test.YtkeamomcaplfpaaPSbDrainsx4
import Derived.KernelRfl
namespace Go.Proofs.Ytkeamomcaplfpaa.PSbDrains
open Go.RowKit Go.Proofs.YtkeamomcaplfpaaW.PrintWords Go.Proofs.Ytkeamomcaplfpaa.Opn
set_option linter.unusedVariables false
set_option maxRecDepth 100000
def W32 (x : S32) : Prop := (Lit.int .u32 x.f0).wf = true ∧ (Lit.int .u32 x.f1).wf = true ∧ (Lit.int .i64 x.f2).wf = true
theorem o32 : Opens Try.prog 32 k32 W32 := opens_struct (fun x : S32 => (x.f0, x.f1, x.f2)) (fun p => ⟨p.1, p.2.1, p.2.2⟩) (fun _ => rfl) Try.underlying32 (opensF_cons (opens_int Try.underlying23) (by kernel_rfl) (by kernel_rfl) (opensF_cons (opens_int Try.underlying23) (by kernel_rfl) (by kernel_rfl) (opensF_one (opens_int Try.underlying3) (by kernel_rfl) (by kernel_rfl)))) (by kernel_rfl)
end Go.Proofs.Ytkeamomcaplfpaa.PSbDrains
