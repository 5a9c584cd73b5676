/- The row of the law CohNew, out of its pure theorem: for every input the law returns true. Written by this session's program rowt.py. -/
import Derived.Test.YtikeeegkndnnfaaRows
import Derived.Test.YtikeeegkndnnfaaPureCohNew
import Derived.WalkKit
import Derived.ProofKit
import Derived.OpenShut
import Derived.ShutString
import Derived.ChangeOld
import Derived.Below
import Derived.SizedLaws
import Derived.Carry
namespace Go.Proofs.Ytikeeegkndnnfaa.cohNew
open Go.ChangeShapes Go.WideShapes Go.ChangeAt Go.RowKit Go.Proofs.Ytikeeegkndnnfaa.Abs
set_option linter.unusedVariables false
theorem own : ownKnob Try.prog.godebug = none := by kernel_rfl
theorem laidOut : laidOutB Try.prog = true := by kernel_rfl
set_option maxRecDepth 100000 in
theorem lifted (os : Os) (started : os.Started) (H : Type) (enc : TypeId × Value → H) :
    ReturnsInHanded {} Try.checked os 3 .any (Rows.cohNewSpec.pre6 enc Try.prog Try.f3 Rows.cohNewRow.domain false) (Rows.cohNewSpec.post enc Try.prog Try.f3 false true false false) := by
  refine returnsInHanded_of_change_sized (C := Try.checked) own started (by kernel_rfl) Try.func3
    (ChangeSpec.witness6 (enc := enc) (C := Try.checked) false ⟨#[], #[.slice none 0 0, .agg #[.int .i64 0, .int .i64 0, .int .i64 0]], []⟩ 12 (by kernel_rfl) (by kernel_rfl) (by kernel_rfl) (by kernel_rfl)) ?_
  intro W base args ds gs before hval0 hW hcnd hsz0 _
  have hval : ∀ (j : Nat) t v, Try.f3.params[j]? = some t → args[j]? = some v → Value.okWide Try.prog W .any base t v := hval0
  have hW' := hW
  obtain ⟨p, q, hA0, hV, rfl, hfz, hnd⟩ := hW
  have hA : DataW.TrodAll enc Try.prog W 0 (fun _ => true) true Try.f3.params.toList args.toList ds p := hA0
  rw [Try.params3] at hA hval
  obtain ⟨v0, vs0, d0, ds0, p0, q0, hargs, rfl, rfl, h0, r0⟩ := trodAll_cons hA
  obtain ⟨v1, vs1, d1, ds1, p1, q1, rfl, rfl, rfl, h1, r1⟩ := trodAll_cons r0
  obtain ⟨rfl, rfl, rfl⟩ := trodAll_nil r1
  obtain rfl : args = #[v0, v1] := by cases args; simp_all
  obtain ⟨rfl, rfl⟩ := trodVars_none hV
  have k0 := h0
  have lt0 : ∀ x ∈ p0, x.block < W.heap.size := by obtain ⟨m, hm⟩ := k0; exact DataW.trod_lt m _ _ _ hm
  obtain ⟨fu0, hf0⟩ := h0
  obtain ⟨A0, len0, cap0, rfl⟩ := okWide_slice Try.underlying22 (hval 0 22 v0 rfl rfl)
  obtain ⟨a0, hK0, _, w0⟩ := (opens_slice Try.underlying22 (opens_int Try.underlying5) (by kernel_rfl) (by decide)).2 H enc W 0 _ _ fu0 _ _ hf0
  have V0 := vil_one hK0
  have k1 := h1
  have lt1 : ∀ x ∈ p1, x.block < W.heap.size := by obtain ⟨m, hm⟩ := k1; exact DataW.trod_lt m _ _ _ hm
  obtain ⟨fu1, hf1⟩ := h1
  obtain ⟨cs1, rfl⟩ := Abs.okWide_array Try.underlying23 (hval 1 23 v1 rfl rfl)
  obtain ⟨a1, hK1, _, w1⟩ := (opens_array Try.underlying23 (opens_int Try.underlying3) (by kernel_rfl) (by kernel_rfl)).2 H enc W 0 _ _ fu1 _ _ hf1
  have V1 := vil_agg hK1
  obtain ⟨k, h⟩ := Pure.CohNew a0 a1 w0 w1
  have hvs : VIL W (ZAll W) _ [_, _] := vil_cons V0 (vil_cons V1 (vil_nil))
  have hc := evF_calls (P := Try.prog) (by kernel_rfl) ap_ok h hvs (fun b o hb => hb)
  refine hc.mono fun e W' ⟨u, Z', he, bel, _, _, _, hu⟩ => ?_
  have hu' : u = .bool true := by simpa only [VI] using hu
  subst hu'
  subst he
  exact ⟨_, rfl, _, _, _, [], _, [], hW', trodAll_mk1 (shut_bool Try.underlying4 _), (trodAll_cons_mk (Below.trod laidOut (by kernel_rfl) (of_decide_eq_true (by kernel_rfl)) k0 bel lt0) (trodAll_cons_mk (Below.trod laidOut (by kernel_rfl) (of_decide_eq_true (by kernel_rfl)) k1 bel lt1) trodAll_mk0)), rfl, bel.frame _, fun h => by cases h⟩
theorem over : Rows.cohNewRow.holds Try.pinned (OpenSpec.ofChange Rows.cohNewSpec) :=
  OpenClaim.holds_of_wide 3 Try.f3 rfl rfl rfl rfl rfl rfl rfl ⟨rfl, rfl, rfl, rfl, rfl⟩ rfl rfl rfl rfl rfl (by kernel_rfl) Try.func3 (by kernel_rfl)
    (of_decide_eq_true (by kernel_rfl)) (by unfold Func.isWrapper; first | (rw [if_pos (by decide +kernel)]; kernel_rfl) | (rw [if_neg (by decide +kernel)]; exact ⟨rfl, rfl⟩))
    (fun os started H enc _ => lifted os started H enc)
theorem proved : Rows.CohNewSaid := over
#print axioms proved
end Go.Proofs.Ytikeeegkndnnfaa.cohNew
namespace Go.Proofs.Ytikeeegkndnnfaa
/-- The row, under a short name, for the claim. -/
theorem cohNew_holds : Rows.CohNewSaid := cohNew.proved
end Go.Proofs.Ytikeeegkndnnfaa
