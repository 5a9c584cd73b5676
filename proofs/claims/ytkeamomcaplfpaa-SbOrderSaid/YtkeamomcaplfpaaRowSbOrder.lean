/- The row of the law SbOrder, out of its pure theorem and the printed walk. Written by this session's program rowgen.py. -/
import Derived.Test.YtkeamomcaplfpaaRows
import Derived.Test.YtkeamomcaplfpaaPSbOrderx4
import Derived.Test.YtkeamomcaplfpaaWfSbOrder
import Derived.Test.YtkeamomcaplfpaaPureSbOrder
import Derived.WalkKit
import Derived.ProofKit
import Derived.OpenShut
import Derived.ShutString
import Derived.ChangeOld
import Derived.Below
import Derived.SizedLaws
import Derived.Carry
import Derived.Test.YtkeamomcaplfpaaWSized
namespace Go.Proofs.Ytkeamomcaplfpaa.sbOrder
open Go.ChangeShapes Go.WideShapes Go.ChangeAt Go.RowKit Go.Proofs.Ytkeamomcaplfpaa.PSbOrder Go.Proofs.YtkeamomcaplfpaaW.PrintWords
open Go.ChangeMaps (open_string shut_string)
set_option linter.unusedVariables false
theorem own : ownKnob Try.prog.godebug = none := by kernel_rfl
theorem laidOut : laidOutB Try.prog = true := by kernel_rfl
set_option maxRecDepth 100000 in
theorem lifted (os : Os) (started : os.Started) (H : Type) (enc : TypeId × Value → H) :
    ReturnsInHanded {} Try.checked os 5 .any (Rows.sbOrderSpec.pre6 enc Try.prog Try.f5 Rows.sbOrderRow.domain false) (Rows.sbOrderSpec.post enc Try.prog Try.f5 false true false false) := by
  refine returnsInHanded_of_change_sized (C := Try.checked) own started (by kernel_rfl) Try.func5
    (ChangeSpec.witness6 (enc := enc) (C := Try.checked) false ⟨#[], #[.slice none 0 0, .slice none 0 0], []⟩ 12 (by kernel_rfl) (by kernel_rfl) (by kernel_rfl) (by kernel_rfl)) ?_
  intro W base args ds gs before hval0 hW hcnd hsz0 _
  have hval : ∀ (j : Nat) t v, Try.f5.params[j]? = some t → args[j]? = some v → Value.okWide Try.prog W .any base t v := hval0
  have hW' := hW
  obtain ⟨p, q, hA0, hV, rfl, hfz, hnd⟩ := hW
  have hA : DataW.TrodAll enc Try.prog W 0 (fun _ => true) true Try.f5.params.toList args.toList ds p := hA0
  rw [Try.params5] at hA hval
  obtain ⟨v0, vs0, d0, ds0, p0, q0, hargs, rfl, rfl, h0, r0⟩ := trodAll_cons hA
  obtain ⟨v1, vs1, d1, ds1, p1, q1, rfl, rfl, rfl, h1, r1⟩ := trodAll_cons r0
  obtain ⟨rfl, rfl, rfl⟩ := trodAll_nil r1
  obtain rfl : args = #[v0, v1] := by cases args; simp_all
  obtain ⟨rfl, rfl⟩ := trodVars_none hV
  have k0 := h0
  have lt0 : ∀ x ∈ p0, x.block < W.heap.size := by obtain ⟨m, hm⟩ := k0; exact DataW.trod_lt m _ _ _ hm
  obtain ⟨fu0, hf0⟩ := h0
  obtain ⟨A0, len0, cap0, rfl⟩ := okWide_slice Try.underlying37 (hval 0 37 v0 rfl rfl)
  obtain ⟨a0, hK0, hm0, hw0⟩ := (Opn.opens_slice Try.underlying37 o28 (by kernel_rfl)) H enc W 0 _ _ fu0 _ _ hf0
  obtain ⟨B0, e0, hq0, hc0, hr0⟩ := hK0
  rw [Opn.cells_of_slice] at hq0
  obtain ⟨rfl, rfl, rfl⟩ : A0 = B0 ∧ len0 = a0.length ∧ cap0 = e0 := by simpa using hq0
  have k1 := h1
  have lt1 : ∀ x ∈ p1, x.block < W.heap.size := by obtain ⟨m, hm⟩ := k1; exact DataW.trod_lt m _ _ _ hm
  obtain ⟨fu1, hf1⟩ := h1
  obtain ⟨A1, len1, cap1, rfl⟩ := okWide_slice Try.underlying38 (hval 1 38 v1 rfl rfl)
  obtain ⟨a1, hK1, hm1, hw1⟩ := (Opn.opens_slice Try.underlying38 (Opn.opens_int Try.underlying5) (by kernel_rfl)) H enc W 0 _ _ fu1 _ _ hf1
  obtain ⟨B1, e1, hq1, hc1, hr1⟩ := hK1
  rw [Opn.cells_of_slice] at hq1
  obtain ⟨rfl, rfl, rfl⟩ : A1 = B1 ∧ len1 = a1.length ∧ cap1 = e1 := by simpa using hq1
  obtain ⟨k, h⟩ := Go.Proofs.Ytkeamomcaplfpaa.Pure.SbOrder a0 a1 hm0 hw0 hm1 hw1
  refine (cotterellaw37_SbOrder.calls k A0 cap0 a0 (fun k_ => k_ < W.heap.size) A1 cap1 a1 true W hr0 hc0 (Kd.V_mk hc1 (Kd.C_F (Kd.heap_int .u8) hr1)) h).mono fun e W' ⟨he, bel0⟩ => ?_
  have bel : Below W.heap.size W W' := bel0
  subst he
  exact ⟨_, rfl, _, _, _, [], _, [], hW', trodAll_mk1 (shut_bool Try.underlying4 _), (trodAll_cons_mk (Below.trod laidOut (by kernel_rfl) (of_decide_eq_true (by kernel_rfl)) k0 bel lt0) (trodAll_cons_mk (Below.trod laidOut (by kernel_rfl) (of_decide_eq_true (by kernel_rfl)) k1 bel lt1) trodAll_mk0)), rfl, bel.frame _, fun h => by cases h⟩
theorem over : Rows.sbOrderRow.holds Try.pinned (OpenSpec.ofChange Rows.sbOrderSpec) :=
  OpenClaim.holds_of_wide 5 Try.f5 rfl rfl rfl rfl rfl rfl rfl ⟨rfl, rfl, rfl, rfl, rfl⟩ rfl rfl rfl rfl rfl (by kernel_rfl) Try.func5 (by kernel_rfl)
    (of_decide_eq_true (by kernel_rfl)) (by unfold Func.isWrapper; first | (rw [if_pos (by decide +kernel)]; kernel_rfl) | (rw [if_neg (by decide +kernel)]; exact ⟨rfl, rfl⟩))
    (fun os started H enc _ => lifted os started H enc)
theorem proved : Rows.SbOrderSaid := over
#print axioms proved
end Go.Proofs.Ytkeamomcaplfpaa.sbOrder
namespace Go.Proofs.Ytkeamomcaplfpaa
/-- The row, under a short name, for the claim. -/
theorem sbOrder_holds : Rows.SbOrderSaid := sbOrder.proved
end Go.Proofs.Ytkeamomcaplfpaa
