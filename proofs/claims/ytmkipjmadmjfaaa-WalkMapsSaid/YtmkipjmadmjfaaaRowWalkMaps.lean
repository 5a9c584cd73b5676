/- The row of the law WalkMaps, out of its pure theorem and the printed walk. Written by this session's program rowgen.py. -/
import Derived.Test.YtmkipjmadmjfaaaRows
import Derived.Test.YtmkipjmadmjfaaaPWalkMapsx6
import Derived.Test.YtmkipjmadmjfaaaWfWalkMaps
import Derived.Test.YtmkipjmadmjfaaaPureWalkMaps
import Derived.WalkKit
import Derived.ProofKit
import Derived.OpenShut
import Derived.ShutString
import Derived.ChangeOld
import Derived.Below
import Derived.SizedLaws
import Derived.Carry
import Derived.Test.YtmkipjmadmjfaaaWSized
namespace Go.Proofs.Ytmkipjmadmjfaaa.walkMaps
open Go.ChangeShapes Go.WideShapes Go.ChangeAt Go.RowKit Go.Proofs.Ytmkipjmadmjfaaa.PWalkMaps Go.Proofs.YtmkipjmadmjfaaaW.PrintWords
open Go.ChangeMaps (open_string shut_string)
set_option linter.unusedVariables false
theorem own : ownKnob Try.prog.godebug = none := by kernel_rfl
theorem laidOut : laidOutB Try.prog = true := by kernel_rfl
set_option maxRecDepth 100000 in
theorem lifted (os : Os) (started : os.Started) (H : Type) (enc : TypeId × Value → H) :
    ReturnsInHanded {} Try.checked os 7 .any (Rows.walkMapsSpec.pre6 enc Try.prog Try.f7 Rows.walkMapsRow.domain false) (Rows.walkMapsSpec.post enc Try.prog Try.f7 false true false false) := by
  refine returnsInHanded_of_change_sized (C := Try.checked) own started (by kernel_rfl) Try.func7
    (ChangeSpec.witness6 (enc := enc) (C := Try.checked) false ⟨#[], #[.slice none 0 0, .int .u32 0], []⟩ 12 (by kernel_rfl) (by kernel_rfl) (by kernel_rfl) (by kernel_rfl)) ?_
  intro W base args ds gs before hval0 hW hcnd hsz0 _
  have hval : ∀ (j : Nat) t v, Try.f7.params[j]? = some t → args[j]? = some v → Value.okWide Try.prog W .any base t v := hval0
  have hW' := hW
  obtain ⟨p, q, hA0, hV, rfl, hfz, hnd⟩ := hW
  have hA : DataW.TrodAll enc Try.prog W 0 (fun _ => true) true Try.f7.params.toList args.toList ds p := hA0
  rw [Try.params7] at hA hval
  obtain ⟨v0, vs0, d0, ds0, p0, q0, hargs, rfl, rfl, h0, r0⟩ := trodAll_cons hA
  obtain ⟨v1, vs1, d1, ds1, p1, q1, rfl, rfl, rfl, h1, r1⟩ := trodAll_cons r0
  obtain ⟨rfl, rfl, rfl⟩ := trodAll_nil r1
  obtain rfl : args = #[v0, v1] := by cases args; simp_all
  obtain ⟨rfl, rfl⟩ := trodVars_none hV
  have k0 := h0
  have lt0 : ∀ x ∈ p0, x.block < W.heap.size := by obtain ⟨m, hm⟩ := k0; exact DataW.trod_lt m _ _ _ hm
  obtain ⟨fu0, hf0⟩ := h0
  obtain ⟨A0, len0, cap0, rfl⟩ := okWide_slice Try.underlying22 (hval 0 22 v0 rfl rfl)
  obtain ⟨a0, hK0, hm0, hw0⟩ := (Opn.opens_slice Try.underlying22 (Opn.opens_int Try.underlying5) (by kernel_rfl)) H enc W 0 _ _ fu0 _ _ hf0
  obtain ⟨B0, e0, hq0, hc0, hr0⟩ := hK0
  rw [Opn.cells_of_slice] at hq0
  obtain ⟨rfl, rfl, rfl⟩ : A0 = B0 ∧ len0 = a0.length ∧ cap0 = e0 := by simpa using hq0
  obtain ⟨a1, rfl, rfl, rfl, w1⟩ := open_int Try.underlying23 (hval 1 23 v1 rfl rfl) h1
  obtain ⟨k, h⟩ := Go.Proofs.Ytmkipjmadmjfaaa.Pure.WalkMaps a0 a1 hm0 hw0 w1
  refine (cotterellaw13_WalkMaps.calls k A0 cap0 a0 a1 true W hr0 hc0 h).mono fun e W' ⟨he, bel0⟩ => ?_
  have bel : Below W.heap.size W W' := bel0
  subst he
  exact ⟨_, rfl, _, _, _, [], _, [], hW', trodAll_mk1 (shut_bool Try.underlying4 _), (trodAll_cons_mk (Below.trod laidOut (by kernel_rfl) (of_decide_eq_true (by kernel_rfl)) k0 bel lt0) (trodAll_cons_mk (shut_int Try.underlying23 w1) trodAll_mk0)), rfl, bel.frame _, fun h => by cases h⟩
theorem over : Rows.walkMapsRow.holds Try.pinned (OpenSpec.ofChange Rows.walkMapsSpec) :=
  OpenClaim.holds_of_wide 7 Try.f7 rfl rfl rfl rfl rfl rfl rfl ⟨rfl, rfl, rfl, rfl, rfl⟩ rfl rfl rfl rfl rfl (by kernel_rfl) Try.func7 (by kernel_rfl)
    (of_decide_eq_true (by kernel_rfl)) (by unfold Func.isWrapper; first | (rw [if_pos (by decide +kernel)]; kernel_rfl) | (rw [if_neg (by decide +kernel)]; exact ⟨rfl, rfl⟩))
    (fun os started H enc _ => lifted os started H enc)
theorem proved : Rows.WalkMapsSaid := over
#print axioms proved
end Go.Proofs.Ytmkipjmadmjfaaa.walkMaps
namespace Go.Proofs.Ytmkipjmadmjfaaa
/-- The row, under a short name, for the claim. -/
theorem walkMaps_holds : Rows.WalkMapsSaid := walkMaps.proved
end Go.Proofs.Ytmkipjmadmjfaaa
