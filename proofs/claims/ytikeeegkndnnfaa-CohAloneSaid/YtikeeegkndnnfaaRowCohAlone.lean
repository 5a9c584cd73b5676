/- The row of the law CohAlone, out of its pure theorem: for every input the law returns true. Written by this session's program rowt.py. -/
import Derived.Test.YtikeeegkndnnfaaRows
import Derived.Test.YtikeeegkndnnfaaPureCohAlone
import Derived.WalkKit
import Derived.ProofKit
import Derived.OpenShut
import Derived.ShutString
import Derived.ChangeOld
import Derived.Below
import Derived.SizedLaws
import Derived.Carry
namespace Go.Proofs.Ytikeeegkndnnfaa.cohAlone
open Go.ChangeShapes Go.WideShapes Go.ChangeAt Go.RowKit Go.Proofs.Ytikeeegkndnnfaa.Abs
set_option linter.unusedVariables false
theorem own : ownKnob Try.prog.godebug = none := by kernel_rfl
theorem laidOut : laidOutB Try.prog = true := by kernel_rfl
set_option maxRecDepth 100000 in
theorem lifted (os : Os) (started : os.Started) (H : Type) (enc : TypeId × Value → H) :
    ReturnsInHanded {} Try.checked os 5 .any (Rows.cohAloneSpec.pre6 enc Try.prog Try.f5 Rows.cohAloneRow.domain false) (Rows.cohAloneSpec.post enc Try.prog Try.f5 false true false false) := by
  refine returnsInHanded_of_change_sized (C := Try.checked) own started (by kernel_rfl) Try.func5
    (ChangeSpec.witness6 (enc := enc) (C := Try.checked) false ⟨#[], #[.agg #[.slice none 0 0, .slice none 0 0], .agg #[.int .i64 0, .int .i64 0, .int .u32 0, .int .u32 0, .bool false]], []⟩ 12 (by kernel_rfl) (by kernel_rfl) (by kernel_rfl) (by kernel_rfl)) ?_
  intro W base args ds gs before hval0 hW hcnd hsz0 _
  have hval : ∀ (j : Nat) t v, Try.f5.params[j]? = some t → args[j]? = some v → Value.okWide Try.prog W .any base t v := hval0
  have hW' := hW
  obtain ⟨p, q, hA0, hV, rfl, hfz, hnd⟩ := hW
  have hA : DataW.TrodAll enc Try.prog W 0 (fun _ => true) true Try.f5.params.toList args.toList ds p := hA0
  rw [Try.params5] at hA hval
  obtain ⟨v0, vs0, d0, ds0, p0, q0, hargs, rfl, rfl, h0, r0⟩ := trodAll_cons hA
  obtain ⟨v1, vs1, d1, ds1, p1, q1, rfl, rfl, rfl, h1, r1⟩ := trodAll_cons r0
  obtain ⟨rfl, rfl, rfl⟩ := trodAll_nil r1
  obtain rfl : args = #[v0, v1] := by cases args; simp_all
  obtain ⟨rfl, rfl⟩ := trodVars_none hV
  have k0 := h0
  have lt0 : ∀ x ∈ p0, x.block < W.heap.size := by obtain ⟨m, hm⟩ := k0; exact DataW.trod_lt m _ _ _ hm
  obtain ⟨fu0, hf0⟩ := h0
  obtain ⟨cs0, rfl⟩ := Abs.okWide_struct Try.underlying28 (hval 0 28 v0 rfl rfl)
  obtain ⟨a0, hK0, _, w0⟩ := o28.2 H enc W 0 _ _ fu0 _ _ hf0
  have V0 := vil_agg hK0
  have k1 := h1
  have lt1 : ∀ x ∈ p1, x.block < W.heap.size := by obtain ⟨m, hm⟩ := k1; exact DataW.trod_lt m _ _ _ hm
  obtain ⟨fu1, hf1⟩ := h1
  obtain ⟨cs1, rfl⟩ := Abs.okWide_struct Try.underlying36 (hval 1 36 v1 rfl rfl)
  obtain ⟨a1, hK1, _, w1⟩ := o36.2 H enc W 0 _ _ fu1 _ _ hf1
  have V1 := vil_agg hK1
  obtain ⟨k, h⟩ := Pure.CohAlone a0 a1 w0 w1
  have hvs : VIL W (ZAll W) _ [_, _] := vil_cons V0 (vil_cons V1 (vil_nil))
  have hc := evF_calls (P := Try.prog) (by kernel_rfl) ap_ok h hvs (fun b o hb => hb)
  refine hc.mono fun e W' ⟨u, Z', he, bel, _, _, _, hu⟩ => ?_
  have hu' : u = .bool true := by simpa only [VI] using hu
  subst hu'
  subst he
  exact ⟨_, rfl, _, _, _, [], _, [], hW', trodAll_mk1 (shut_bool Try.underlying4 _), (trodAll_cons_mk (Below.trod laidOut (by kernel_rfl) (of_decide_eq_true (by kernel_rfl)) k0 bel lt0) (trodAll_cons_mk (Below.trod laidOut (by kernel_rfl) (of_decide_eq_true (by kernel_rfl)) k1 bel lt1) trodAll_mk0)), rfl, bel.frame _, fun h => by cases h⟩
theorem over : Rows.cohAloneRow.holds Try.pinned (OpenSpec.ofChange Rows.cohAloneSpec) :=
  OpenClaim.holds_of_wide 5 Try.f5 rfl rfl rfl rfl rfl rfl rfl ⟨rfl, rfl, rfl, rfl, rfl⟩ rfl rfl rfl rfl rfl (by kernel_rfl) Try.func5 (by kernel_rfl)
    (of_decide_eq_true (by kernel_rfl)) (by unfold Func.isWrapper; first | (rw [if_pos (by decide +kernel)]; kernel_rfl) | (rw [if_neg (by decide +kernel)]; exact ⟨rfl, rfl⟩))
    (fun os started H enc _ => lifted os started H enc)
theorem proved : Rows.CohAloneSaid := over
#print axioms proved
end Go.Proofs.Ytikeeegkndnnfaa.cohAlone
namespace Go.Proofs.Ytikeeegkndnnfaa
/-- The row, under a short name, for the claim. -/
theorem cohAlone_holds : Rows.CohAloneSaid := cohAlone.proved
end Go.Proofs.Ytikeeegkndnnfaa
