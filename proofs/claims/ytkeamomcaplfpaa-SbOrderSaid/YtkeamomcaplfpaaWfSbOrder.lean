/- Which numbers fit: the arguments of SbOrder, out of their reading as data. Written by this session's program rowgen.py. -/
import Derived.Test.YtkeamomcaplfpaaOpn
import Derived.Test.YtkeamomcaplfpaaPSbOrderx4
import Derived.KernelRfl
namespace Go.Proofs.Ytkeamomcaplfpaa.PSbOrder
open Go.RowKit Go.Proofs.YtkeamomcaplfpaaW.PrintWords Go.Proofs.Ytkeamomcaplfpaa.Opn
set_option linter.unusedVariables false
set_option maxRecDepth 100000
def W28 (x : S28) : Prop := (Lit.int .u64 x.f0).wf = true ∧ (Lit.int .u32 x.f1).wf = true ∧ (Lit.int .u32 x.f2).wf = true ∧ (Lit.int .i64 x.f3).wf = true ∧ True
theorem o28 : Opens Try.prog 28 k28 W28 := opens_struct (fun x : S28 => (x.f0, x.f1, x.f2, x.f3, x.f4)) (fun p => ⟨p.1, p.2.1, p.2.2.1, p.2.2.2.1, p.2.2.2.2⟩) (fun _ => rfl) Try.underlying28 (opensF_cons (opens_int Try.underlying26) (by kernel_rfl) (by kernel_rfl) (opensF_cons (opens_int Try.underlying23) (by kernel_rfl) (by kernel_rfl) (opensF_cons (opens_int Try.underlying23) (by kernel_rfl) (by kernel_rfl) (opensF_cons (opens_int Try.underlying3) (by kernel_rfl) (by kernel_rfl) (opensF_one (opens_bool Try.underlying4) (by kernel_rfl) (by kernel_rfl)))))) (by kernel_rfl)
end Go.Proofs.Ytkeamomcaplfpaa.PSbOrder
