/- The row of the law TlbFinds, out of its pure theorem and the printed walk. Written by this session's program rowgen.py. -/
import Derived.Test.YtkcncghdpjoodaaRows
import Derived.Test.YtkcncghdpjoodaaPTlbFindsx6
import Derived.Test.YtkcncghdpjoodaaWfTlbFinds
import Derived.Test.YtkcncghdpjoodaaPureTlbFinds
import Derived.WalkKit
import Derived.ProofKit
import Derived.OpenShut
import Derived.ShutString
import Derived.ChangeOld
import Derived.Below
import Derived.SizedLaws
import Derived.Carry
import Derived.Test.YtkcncghdpjoodaaWSized
namespace Go.Proofs.Ytkcncghdpjoodaa.tlbFinds
open Go.ChangeShapes Go.WideShapes Go.ChangeAt Go.RowKit Go.Proofs.Ytkcncghdpjoodaa.PTlbFinds Go.Proofs.YtkcncghdpjoodaaW.PrintWords
open Go.ChangeMaps (open_string shut_string)
set_option linter.unusedVariables false
theorem own : ownKnob Try.prog.godebug = none := by kernel_rfl
theorem laidOut : laidOutB Try.prog = true := by kernel_rfl
set_option maxRecDepth 100000 in
theorem lifted (os : Os) (started : os.Started) (H : Type) (enc : TypeId × Value → H) :
    ReturnsInHanded {} Try.checked os 5 .any (Rows.tlbFindsSpec.pre6 enc Try.prog Try.f5 Rows.tlbFindsRow.domain false) (Rows.tlbFindsSpec.post enc Try.prog Try.f5 false true false false) := by
  refine returnsInHanded_of_change_sized (C := Try.checked) own started (by kernel_rfl) Try.func5
    (ChangeSpec.witness6 (enc := enc) (C := Try.checked) false ⟨#[], #[.agg #[.slice none 0 0, .int .i64 0, .int .u32 0], .int .i64 0], []⟩ 12 (by kernel_rfl) (by kernel_rfl) (by kernel_rfl) (by kernel_rfl)) ?_
  intro W base args ds gs before hval0 hW hcnd hsz0 _
  have hval : ∀ (j : Nat) t v, Try.f5.params[j]? = some t → args[j]? = some v → Value.okWide Try.prog W .any base t v := hval0
  have hW' := hW
  obtain ⟨p, q, hA0, hV, rfl, hfz, hnd⟩ := hW
  have hA : DataW.TrodAll enc Try.prog W 0 (fun _ => true) true Try.f5.params.toList args.toList ds p := hA0
  rw [Try.params5] at hA hval
  obtain ⟨v0, vs0, d0, ds0, p0, q0, hargs, rfl, rfl, h0, r0⟩ := trodAll_cons hA
  obtain ⟨v1, vs1, d1, ds1, p1, q1, rfl, rfl, rfl, h1, r1⟩ := trodAll_cons r0
  obtain ⟨rfl, rfl, rfl⟩ := trodAll_nil r1
  obtain rfl : args = #[v0, v1] := by cases args; simp_all
  obtain ⟨rfl, rfl⟩ := trodVars_none hV
  have k0 := h0
  have lt0 : ∀ x ∈ p0, x.block < W.heap.size := by obtain ⟨m, hm⟩ := k0; exact DataW.trod_lt m _ _ _ hm
  obtain ⟨fu0, hf0⟩ := h0
  obtain ⟨cs0, rfl⟩ := Opn.okWide_struct Try.underlying25 (hval 0 25 v0 rfl rfl)
  obtain ⟨s0, hK0, hw0⟩ := o25 H enc W 0 _ _ fu0 _ _ hf0
  obtain ⟨A0_0, c0_0, hq0, hc0_0, hr0_0⟩ := k25_open hK0
  obtain rfl := Opn.agg_arr hq0
  obtain ⟨a1, rfl, rfl, rfl, w1⟩ := open_int Try.underlying3 (hval 1 3 v1 rfl rfl) h1
  obtain ⟨k, h⟩ := Go.Proofs.Ytkcncghdpjoodaa.Pure.TlbFinds s0.f0 s0.f1 s0.f2 a1 hw0.1.1 hw0.1.2 hw0.2.1 hw0.2.2 w1
  refine (cotterellaw22_TlbFinds.calls k A0_0 c0_0 s0.f0 s0.f1 s0.f2 a1 true W hr0_0 hc0_0 h).mono fun e W' ⟨he, bel0⟩ => ?_
  have bel : Below W.heap.size W W' := bel0
  subst he
  exact ⟨_, rfl, _, _, _, [], _, [], hW', trodAll_mk1 (shut_bool Try.underlying4 _), (trodAll_cons_mk (Below.trod laidOut (by kernel_rfl) (of_decide_eq_true (by kernel_rfl)) k0 bel lt0) (trodAll_cons_mk (shut_int Try.underlying3 w1) trodAll_mk0)), rfl, bel.frame _, fun h => by cases h⟩
theorem over : Rows.tlbFindsRow.holds Try.pinned (OpenSpec.ofChange Rows.tlbFindsSpec) :=
  OpenClaim.holds_of_wide 5 Try.f5 rfl rfl rfl rfl rfl rfl rfl ⟨rfl, rfl, rfl, rfl, rfl⟩ rfl rfl rfl rfl rfl (by kernel_rfl) Try.func5 (by kernel_rfl)
    (of_decide_eq_true (by kernel_rfl)) (by unfold Func.isWrapper; first | (rw [if_pos (by decide +kernel)]; kernel_rfl) | (rw [if_neg (by decide +kernel)]; exact ⟨rfl, rfl⟩))
    (fun os started H enc _ => lifted os started H enc)
theorem proved : Rows.TlbFindsSaid := over
#print axioms proved
end Go.Proofs.Ytkcncghdpjoodaa.tlbFinds
namespace Go.Proofs.Ytkcncghdpjoodaa
/-- The row, under a short name, for the claim. -/
theorem tlbFinds_holds : Rows.TlbFindsSaid := tlbFinds.proved
end Go.Proofs.Ytkcncghdpjoodaa
