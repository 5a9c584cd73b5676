/- The row of the law TlbPuts, out of its pure theorem and the printed walk. Written by this session's program rowgen.py. -/
import Derived.Test.YtkcncghdpjoodaaRows
import Derived.Test.YtkcncghdpjoodaaPTlbPutsx4
import Derived.Test.YtkcncghdpjoodaaWfTlbPuts
import Derived.Test.YtkcncghdpjoodaaPureTlbPuts
import Derived.WalkKit
import Derived.ProofKit
import Derived.OpenShut
import Derived.ShutString
import Derived.ChangeOld
import Derived.Below
import Derived.SizedLaws
import Derived.Carry
import Derived.Test.YtkcncghdpjoodaaWSized
namespace Go.Proofs.Ytkcncghdpjoodaa.tlbPuts
open Go.ChangeShapes Go.WideShapes Go.ChangeAt Go.RowKit Go.Proofs.Ytkcncghdpjoodaa.PTlbPuts Go.Proofs.YtkcncghdpjoodaaW.PrintWords
open Go.ChangeMaps (open_string shut_string)
set_option linter.unusedVariables false
theorem own : ownKnob Try.prog.godebug = none := by kernel_rfl
theorem laidOut : laidOutB Try.prog = true := by kernel_rfl
set_option maxRecDepth 100000 in
theorem lifted (os : Os) (started : os.Started) (H : Type) (enc : TypeId × Value → H) :
    ReturnsInHanded {} Try.checked os 3 .any (Rows.tlbPutsSpec.pre6 enc Try.prog Try.f3 Rows.tlbPutsRow.domain false) (Rows.tlbPutsSpec.post enc Try.prog Try.f3 false true false false) := by
  refine returnsInHanded_of_change_sized (C := Try.checked) own started (by kernel_rfl) Try.func3
    (ChangeSpec.witness6 (enc := enc) (C := Try.checked) false ⟨#[], #[.agg #[.slice none 0 0, .int .i64 0, .int .u32 0], .agg #[.int .u32 0, .int .i64 0]], []⟩ 12 (by kernel_rfl) (by kernel_rfl) (by kernel_rfl) (by kernel_rfl)) ?_
  intro W base args ds gs before hval0 hW hcnd hsz0 _
  have hval : ∀ (j : Nat) t v, Try.f3.params[j]? = some t → args[j]? = some v → Value.okWide Try.prog W .any base t v := hval0
  have hW' := hW
  obtain ⟨p, q, hA0, hV, rfl, hfz, hnd⟩ := hW
  have hA : DataW.TrodAll enc Try.prog W 0 (fun _ => true) true Try.f3.params.toList args.toList ds p := hA0
  rw [Try.params3] at hA hval
  obtain ⟨v0, vs0, d0, ds0, p0, q0, hargs, rfl, rfl, h0, r0⟩ := trodAll_cons hA
  obtain ⟨v1, vs1, d1, ds1, p1, q1, rfl, rfl, rfl, h1, r1⟩ := trodAll_cons r0
  obtain ⟨rfl, rfl, rfl⟩ := trodAll_nil r1
  obtain rfl : args = #[v0, v1] := by cases args; simp_all
  obtain ⟨rfl, rfl⟩ := trodVars_none hV
  have k0 := h0
  have lt0 : ∀ x ∈ p0, x.block < W.heap.size := by obtain ⟨m, hm⟩ := k0; exact DataW.trod_lt m _ _ _ hm
  obtain ⟨fu0, hf0⟩ := h0
  obtain ⟨cs0, rfl⟩ := Opn.okWide_struct Try.underlying25 (hval 0 25 v0 rfl rfl)
  obtain ⟨s0, hK0, hw0⟩ := o25 H enc W 0 _ _ fu0 _ _ hf0
  obtain ⟨A0_0, c0_0, hq0, hc0_0, hr0_0⟩ := k25_open hK0
  obtain rfl := Opn.agg_arr hq0
  have k1 := h1
  have lt1 : ∀ x ∈ p1, x.block < W.heap.size := by obtain ⟨m, hm⟩ := k1; exact DataW.trod_lt m _ _ _ hm
  obtain ⟨fu1, hf1⟩ := h1
  obtain ⟨cs1, rfl⟩ := Opn.okWide_struct Try.underlying27 (hval 1 27 v1 rfl rfl)
  obtain ⟨s1, hK1, hw1⟩ := o27 H enc W 0 _ _ fu1 _ _ hf1
  obtain hq1 := k27_open hK1
  obtain rfl := Opn.agg_arr hq1
  obtain ⟨k, h⟩ := Go.Proofs.Ytkcncghdpjoodaa.Pure.TlbPuts s0.f0 s0.f1 s0.f2 s1.f0 s1.f1 hw0.1.1 hw0.1.2 hw0.2.1 hw0.2.2 hw1.1 hw1.2
  refine (cotterellaw22_TlbPuts.calls k A0_0 c0_0 s0.f0 s0.f1 s0.f2 s1.f0 s1.f1 true W hr0_0 hc0_0 h).mono fun e W' ⟨he, bel0⟩ => ?_
  have bel : Below W.heap.size W W' := bel0
  subst he
  exact ⟨_, rfl, _, _, _, [], _, [], hW', trodAll_mk1 (shut_bool Try.underlying4 _), (trodAll_cons_mk (Below.trod laidOut (by kernel_rfl) (of_decide_eq_true (by kernel_rfl)) k0 bel lt0) (trodAll_cons_mk (Below.trod laidOut (by kernel_rfl) (of_decide_eq_true (by kernel_rfl)) k1 bel lt1) trodAll_mk0)), rfl, bel.frame _, fun h => by cases h⟩
theorem over : Rows.tlbPutsRow.holds Try.pinned (OpenSpec.ofChange Rows.tlbPutsSpec) :=
  OpenClaim.holds_of_wide 3 Try.f3 rfl rfl rfl rfl rfl rfl rfl ⟨rfl, rfl, rfl, rfl, rfl⟩ rfl rfl rfl rfl rfl (by kernel_rfl) Try.func3 (by kernel_rfl)
    (of_decide_eq_true (by kernel_rfl)) (by unfold Func.isWrapper; first | (rw [if_pos (by decide +kernel)]; kernel_rfl) | (rw [if_neg (by decide +kernel)]; exact ⟨rfl, rfl⟩))
    (fun os started H enc _ => lifted os started H enc)
theorem proved : Rows.TlbPutsSaid := over
#print axioms proved
end Go.Proofs.Ytkcncghdpjoodaa.tlbPuts
namespace Go.Proofs.Ytkcncghdpjoodaa
/-- The row, under a short name, for the claim. -/
theorem tlbPuts_holds : Rows.TlbPutsSaid := tlbPuts.proved
end Go.Proofs.Ytkcncghdpjoodaa
