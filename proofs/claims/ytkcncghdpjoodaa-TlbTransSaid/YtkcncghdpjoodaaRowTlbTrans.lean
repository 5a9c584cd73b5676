/- The row of the law TlbTrans, out of its pure theorem and the printed walk. Written by this session's program rowgen.py. -/
import Derived.Test.YtkcncghdpjoodaaRows
import Derived.Test.YtkcncghdpjoodaaPTlbTransx8
import Derived.Test.YtkcncghdpjoodaaWfTlbTrans
import Derived.Test.YtkcncghdpjoodaaPureTlbTrans
import Derived.WalkKit
import Derived.ProofKit
import Derived.OpenShut
import Derived.ShutString
import Derived.ChangeOld
import Derived.Below
import Derived.SizedLaws
import Derived.Carry
import Derived.Test.YtkcncghdpjoodaaWSized
namespace Go.Proofs.Ytkcncghdpjoodaa.tlbTrans
open Go.ChangeShapes Go.WideShapes Go.ChangeAt Go.RowKit Go.Proofs.Ytkcncghdpjoodaa.PTlbTrans Go.Proofs.YtkcncghdpjoodaaW.PrintWords
open Go.ChangeMaps (open_string shut_string)
set_option linter.unusedVariables false
theorem own : ownKnob Try.prog.godebug = none := by kernel_rfl
theorem laidOut : laidOutB Try.prog = true := by kernel_rfl
set_option maxRecDepth 100000 in
theorem lifted (os : Os) (started : os.Started) (H : Type) (enc : TypeId × Value → H) :
    ReturnsInHanded {} Try.checked os 4 .any (Rows.tlbTransSpec.pre6 enc Try.prog Try.f4 Rows.tlbTransRow.domain false) (Rows.tlbTransSpec.post enc Try.prog Try.f4 false true false false) := by
  refine returnsInHanded_of_change_sized (C := Try.checked) own started (by kernel_rfl) Try.func4
    (ChangeSpec.witness6 (enc := enc) (C := Try.checked) false ⟨#[], #[.agg #[.int .u32 0, .int .u32 0, .int .u32 0, .int .u32 0, .int .u32 0, .int .u32 0, .int .u32 0, .int .u32 0, .int .u32 0, .int .u32 0, .int .u32 0, .int .u32 0, .int .u32 0, .int .u32 0, .int .u32 0, .int .u32 0, .int .u32 0, .int .u32 0, .int .u32 0, .int .u32 0, .int .u32 0, .int .u32 0, .int .u32 0, .int .u32 0, .int .u32 0, .int .u32 0, .int .u32 0, .int .u32 0, .int .u32 0, .bool false, .slice none 0 0, .slice none 0 0, .slice none 0 0], .agg #[.slice none 0 0, .int .i64 0, .int .u32 0], .int .i64 0], []⟩ 12 (by kernel_rfl) (by kernel_rfl) (by kernel_rfl) (by kernel_rfl)) ?_
  intro W base args ds gs before hval0 hW hcnd hsz0 _
  have hval : ∀ (j : Nat) t v, Try.f4.params[j]? = some t → args[j]? = some v → Value.okWide Try.prog W .any base t v := hval0
  have hW' := hW
  obtain ⟨p, q, hA0, hV, rfl, hfz, hnd⟩ := hW
  have hA : DataW.TrodAll enc Try.prog W 0 (fun _ => true) true Try.f4.params.toList args.toList ds p := hA0
  rw [Try.params4] at hA hval
  obtain ⟨v0, vs0, d0, ds0, p0, q0, hargs, rfl, rfl, h0, r0⟩ := trodAll_cons hA
  obtain ⟨v1, vs1, d1, ds1, p1, q1, rfl, rfl, rfl, h1, r1⟩ := trodAll_cons r0
  obtain ⟨v2, vs2, d2, ds2, p2, q2, rfl, rfl, rfl, h2, r2⟩ := trodAll_cons r1
  obtain ⟨rfl, rfl, rfl⟩ := trodAll_nil r2
  obtain rfl : args = #[v0, v1, v2] := by cases args; simp_all
  obtain ⟨rfl, rfl⟩ := trodVars_none hV
  have k0 := h0
  have lt0 : ∀ x ∈ p0, x.block < W.heap.size := by obtain ⟨m, hm⟩ := k0; exact DataW.trod_lt m _ _ _ hm
  obtain ⟨fu0, hf0⟩ := h0
  obtain ⟨cs0, rfl⟩ := Opn.okWide_struct Try.underlying40 (hval 0 40 v0 rfl rfl)
  obtain ⟨s0, hK0, hw0⟩ := o40 H enc W 0 _ _ fu0 _ _ hf0
  obtain ⟨A0_30, c0_30, A0_31, c0_31, A0_32, c0_32, hq0, hc0_30, hr0_30, hc0_31, hr0_31, hc0_32, hr0_32⟩ := k40_open hK0
  obtain rfl := Opn.agg_arr hq0
  have k1 := h1
  have lt1 : ∀ x ∈ p1, x.block < W.heap.size := by obtain ⟨m, hm⟩ := k1; exact DataW.trod_lt m _ _ _ hm
  obtain ⟨fu1, hf1⟩ := h1
  obtain ⟨cs1, rfl⟩ := Opn.okWide_struct Try.underlying25 (hval 1 25 v1 rfl rfl)
  obtain ⟨s1, hK1, hw1⟩ := o25 H enc W 0 _ _ fu1 _ _ hf1
  obtain ⟨A1_0, c1_0, hq1, hc1_0, hr1_0⟩ := k25_open hK1
  obtain rfl := Opn.agg_arr hq1
  obtain ⟨a2, rfl, rfl, rfl, w2⟩ := open_int Try.underlying3 (hval 2 3 v2 rfl rfl) h2
  obtain ⟨k, h⟩ := Go.Proofs.Ytkcncghdpjoodaa.Pure.TlbTrans s0.f0.f0 s0.f0.f1.f0 s0.f0.f1.f1 s0.f0.f1.f2 s0.f0.f1.f3 s0.f0.f1.f4 s0.f0.f1.f5 s0.f0.f1.f6 s0.f0.f1.f7 s0.f0.f1.f8 s0.f0.f1.f9 s0.f0.f1.f10 s0.f0.f1.f11 s0.f0.f1.f12 s0.f0.f1.f13 s0.f0.f1.f14 s0.f0.f1.f15 s0.f0.f2.f0 s0.f0.f2.f1 s0.f0.f2.f2 s0.f0.f2.f3 s0.f0.f2.f4 s0.f0.f2.f5 s0.f0.f2.f6 s0.f0.f2.f7 s0.f0.f2.f8 s0.f0.f2.f9 s0.f0.f2.f10 s0.f0.f2.f11 s0.f0.f3 s0.f1 s0.f2 s0.f3 s1.f0 s1.f1 s1.f2 a2 hw0.1.1 hw0.1.2.1.1 hw0.1.2.1.2.1 hw0.1.2.1.2.2.1 hw0.1.2.1.2.2.2.1 hw0.1.2.1.2.2.2.2.1 hw0.1.2.1.2.2.2.2.2.1 hw0.1.2.1.2.2.2.2.2.2.1 hw0.1.2.1.2.2.2.2.2.2.2.1 hw0.1.2.1.2.2.2.2.2.2.2.2.1 hw0.1.2.1.2.2.2.2.2.2.2.2.2.1 hw0.1.2.1.2.2.2.2.2.2.2.2.2.2.1 hw0.1.2.1.2.2.2.2.2.2.2.2.2.2.2.1 hw0.1.2.1.2.2.2.2.2.2.2.2.2.2.2.2.1 hw0.1.2.1.2.2.2.2.2.2.2.2.2.2.2.2.2.1 hw0.1.2.1.2.2.2.2.2.2.2.2.2.2.2.2.2.2.1 hw0.1.2.1.2.2.2.2.2.2.2.2.2.2.2.2.2.2.2 hw0.1.2.2.1.1 hw0.1.2.2.1.2.1 hw0.1.2.2.1.2.2.1 hw0.1.2.2.1.2.2.2.1 hw0.1.2.2.1.2.2.2.2.1 hw0.1.2.2.1.2.2.2.2.2.1 hw0.1.2.2.1.2.2.2.2.2.2.1 hw0.1.2.2.1.2.2.2.2.2.2.2.1 hw0.1.2.2.1.2.2.2.2.2.2.2.2.1 hw0.1.2.2.1.2.2.2.2.2.2.2.2.2.1 hw0.1.2.2.1.2.2.2.2.2.2.2.2.2.2.1 hw0.1.2.2.1.2.2.2.2.2.2.2.2.2.2.2 hw0.2.1.1 hw0.2.1.2 hw0.2.2.1.1 hw0.2.2.1.2 hw0.2.2.2.1 hw0.2.2.2.2 hw1.1.1 hw1.1.2 hw1.2.1 hw1.2.2 w2
  refine (cotterellaw22_TlbTrans.calls k s0.f0.f0 s0.f0.f1.f0 s0.f0.f1.f1 s0.f0.f1.f2 s0.f0.f1.f3 s0.f0.f1.f4 s0.f0.f1.f5 s0.f0.f1.f6 s0.f0.f1.f7 s0.f0.f1.f8 s0.f0.f1.f9 s0.f0.f1.f10 s0.f0.f1.f11 s0.f0.f1.f12 s0.f0.f1.f13 s0.f0.f1.f14 s0.f0.f1.f15 s0.f0.f2.f0 s0.f0.f2.f1 s0.f0.f2.f2 s0.f0.f2.f3 s0.f0.f2.f4 s0.f0.f2.f5 s0.f0.f2.f6 s0.f0.f2.f7 s0.f0.f2.f8 s0.f0.f2.f9 s0.f0.f2.f10 s0.f0.f2.f11 s0.f0.f3 A0_30 c0_30 s0.f1 A0_31 c0_31 s0.f2 A0_32 c0_32 s0.f3 A1_0 c1_0 s1.f0 s1.f1 s1.f2 a2 true W hr0_30 hc0_30 hr0_31 hc0_31 hr0_32 hc0_32 hr1_0 hc1_0 h).mono fun e W' ⟨he, bel0⟩ => ?_
  have bel : Below W.heap.size W W' := bel0
  subst he
  exact ⟨_, rfl, _, _, _, [], _, [], hW', trodAll_mk1 (shut_bool Try.underlying4 _), (trodAll_cons_mk (Below.trod laidOut (by kernel_rfl) (of_decide_eq_true (by kernel_rfl)) k0 bel lt0) (trodAll_cons_mk (Below.trod laidOut (by kernel_rfl) (of_decide_eq_true (by kernel_rfl)) k1 bel lt1) (trodAll_cons_mk (shut_int Try.underlying3 w2) trodAll_mk0))), rfl, bel.frame _, fun h => by cases h⟩
theorem over : Rows.tlbTransRow.holds Try.pinned (OpenSpec.ofChange Rows.tlbTransSpec) :=
  OpenClaim.holds_of_wide 4 Try.f4 rfl rfl rfl rfl rfl rfl rfl ⟨rfl, rfl, rfl, rfl, rfl⟩ rfl rfl rfl rfl rfl (by kernel_rfl) Try.func4 (by kernel_rfl)
    (of_decide_eq_true (by kernel_rfl)) (by unfold Func.isWrapper; first | (rw [if_pos (by decide +kernel)]; kernel_rfl) | (rw [if_neg (by decide +kernel)]; exact ⟨rfl, rfl⟩))
    (fun os started H enc _ => lifted os started H enc)
theorem proved : Rows.TlbTransSaid := over
#print axioms proved
end Go.Proofs.Ytkcncghdpjoodaa.tlbTrans
namespace Go.Proofs.Ytkcncghdpjoodaa
/-- The row, under a short name, for the claim. -/
theorem tlbTrans_holds : Rows.TlbTransSaid := tlbTrans.proved
end Go.Proofs.Ytkcncghdpjoodaa
