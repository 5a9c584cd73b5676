-- This session's own text: written by wip/tools/myprint.sh after the kit's printer.
import Derived.Test.YtkeamomcaplfpaaPSbHasx0
import Derived.Test.YtkeamomcaplfpaaPSbHasx1
import Derived.Test.YtkeamomcaplfpaaPSbHasx2
namespace Go.Proofs.Ytkeamomcaplfpaa.PSbHas
open Go.RowKit Go.Proofs.YtkeamomcaplfpaaW.PrintWords Go.Proofs.YtkeamomcaplfpaaW.PrintLast Go.Proofs.YtkeamomcaplfpaaW.PrintMore
attribute [local go_sem] max2_int min2_int max_two min_two max_three min_three max_four min_four   -- for this text's walks alone
set_option linter.unusedVariables false
set_option linter.unusedSimpArgs false

/-! ### cotterellaw37_SbHas: function 3 -/
def cotterellaw37_SbHas.f (k : Nat) (l0 : List (S32)) (a1 : Int) (a2 : Int) : Option (Bool) := if (l0.length : Int) ≤ 40 then ((sb_Has.f k l0 a1 a2).bind fun t145 => ((cotterelref37_Has.f k l0 a1 a2).bind fun t146 => (if (t145 == t146) = true then ((cotterellaw37_awake.f k).bind fun t147 => (if t147 = true then (some true) else (if (l0.length : Int) > 40 then ((cotterellaw37_awake.f k).bind fun t148 => (some t148)) else (some false)))) else (if (l0.length : Int) > 40 then ((cotterellaw37_awake.f k).bind fun t149 => (some t149)) else (some false))))) else (if (l0.length : Int) > 40 then ((cotterellaw37_awake.f k).bind fun t150 => (some t150)) else (some false))
theorem cotterellaw37_SbHas.mono : ∀ a0 a1 a2 k, LeO (cotterellaw37_SbHas.f k a0 a1 a2) (cotterellaw37_SbHas.f (k + 1) a0 a1 a2) := by
  intro a0 a1 a2 k
  unfold cotterellaw37_SbHas.f
  repeat' first
      | (with_reducible exact cotterellaw37_awake.mono _)
      | (with_reducible exact cotterelref37_Has.mono _ _ _ _)
      | (with_reducible exact sb_Has.mono _ _ _ _)
      | (with_reducible exact LeO.refl _)
      | (with_reducible exact LeO.none _)
      | (with_reducible refine LeO.ite ?_ ?_)
      | (with_reducible refine LeO.bind ?_ (fun _ => ?_))
      | exact cotterellaw37_awake.mono _
      | exact cotterelref37_Has.mono _ _ _ _
      | exact sb_Has.mono _ _ _ _
      | exact LeO.none _
      | refine LeO.ite ?_ ?_
      | refine LeO.bind ?_ (fun _ => ?_)
set_option maxHeartbeats 8000000 in
set_option maxRecDepth 100000 in
theorem cotterellaw37_SbHas.calls (k : Nat) (A0 : Option Addr) (c0 : Nat) (l0 : List (S32)) (a1 : Int) (a2 : Int) (r : Bool) (w : World) (hr0 : Kd.C k32 w A0 l0.length l0) (hc0 : l0.length ≤ c0) (h : cotterellaw37_SbHas.f k l0 a1 a2 = some r) :
    Calls Try.prog 3 #[.slice A0 l0.length c0, .int .u32 a1, .int .i64 a2] w fun e w' => e = .returned (.bool r) ∧ Below w.heap.size w w' := by
  have HR0 := Aside0.mk hr0
  have HC0 := Aside0.mk hc0
  clear hr0 hc0
  have HB := Aside0.mk (Below.refl w.heap.size w)
  have H : (if (l0.length : Int) ≤ 40 then ((sb_Has.f k l0 a1 a2).bind fun t145 => ((cotterelref37_Has.f k l0 a1 a2).bind fun t146 => (if (t145 == t146) = true then ((cotterellaw37_awake.f k).bind fun t147 => (if t147 = true then (some true) else (if (l0.length : Int) > 40 then ((cotterellaw37_awake.f k).bind fun t148 => (some t148)) else (some false)))) else (if (l0.length : Int) > 40 then ((cotterellaw37_awake.f k).bind fun t149 => (some t149)) else (some false))))) else (if (l0.length : Int) > 40 then ((cotterellaw37_awake.f k).bind fun t150 => (some t150)) else (some false))) = some r := h
  clear h
  by_cases c4 : (l0.length : Int) ≤ 40
  · rw [if_pos c4] at H
    have c4b0 : decide ((l0.length : Int) ≤ 40) = true := decide_eq_true c4
    have c4b1 : decide (l0.length ≤ 40) = true := decide_eq_true (by omega)
    clear c4
    replace H := Option.bind_eq_some_iff.mp H
    obtain ⟨t145, A50, H⟩ := H
    replace H : ((cotterelref37_Has.f k l0 a1 a2).bind fun t146 => (if (t145 == t146) = true then ((cotterellaw37_awake.f k).bind fun t147 => (if t147 = true then (some true) else (if (l0.length : Int) > 40 then ((cotterellaw37_awake.f k).bind fun t148 => (some t148)) else (some false)))) else (if (l0.length : Int) > 40 then ((cotterellaw37_awake.f k).bind fun t149 => (some t149)) else (some false)))) = some r := H
    have A5 := Aside0.mk A50
    clear A50
    replace H := Option.bind_eq_some_iff.mp H
    obtain ⟨t146, A60, H⟩ := H
    replace H : (if (t145 == t146) = true then ((cotterellaw37_awake.f k).bind fun t147 => (if t147 = true then (some true) else (if (l0.length : Int) > 40 then ((cotterellaw37_awake.f k).bind fun t148 => (some t148)) else (some false)))) else (if (l0.length : Int) > 40 then ((cotterellaw37_awake.f k).bind fun t149 => (some t149)) else (some false))) = some r := H
    have A6 := Aside0.mk A60
    clear A60
    by_cases c7 : (t145 == t146) = true
    · rw [if_pos c7] at H
      have c7b0 : (t145 == t146) = true := c7
      (try (have c7b1 : decide (t145 = t146) = true := by simpa using c7))
      (try (have c7b2 : (t145 == t146) = true := by simpa using c7))
      clear c7
      replace H := Option.bind_eq_some_iff.mp H
      obtain ⟨t147, A80, H⟩ := H
      replace H : (if t147 = true then (some true) else (if (l0.length : Int) > 40 then ((cotterellaw37_awake.f k).bind fun t148 => (some t148)) else (some false))) = some r := H
      have A8 := Aside0.mk A80
      clear A80
      by_cases c9 : t147 = true
      · subst c9
        have H1 : (some true) = some r := by rw [if_pos rfl] at H; exact H
        clear H
        have H := H1
        clear H1
        obtain rfl := Option.some.inj H
        go_enter Try.func3, Try.ntmps3
        go_wp2_with (first | (go_at_call 7; (with_reducible refine (sb_Has.calls k _ _ l0 a1 a2 t145 _ ?side1 ?side2 A5.out).mono ?_); (case side1 => repeat (first | exact HR0.out | (with_reducible refine Kd.C_alloc ?_ _) | (with_reducible refine Kd.C_drewN ?_ _) | (with_reducible refine Kd.C_drew ?_))); (case side2 => exact HC0.out); rintro e w10 ⟨rfl, hb⟩; have n0_ := Aside0.mk (below_step (by repeat (first | (with_reducible first | exact HB.out | apply below_alloc | apply pw_below_drewN | apply below_drew1) | exact HB.out)) hb); clear HB; have HB := n0_; clear n0_; (try clear hb); (try clear hb2); (try clear hk); (try clear hi)) | (go_at_call 8; (with_reducible refine (cotterelref37_Has.calls k _ _ l0 a1 a2 t146 _ ?side1 ?side2 A6.out).mono ?_); (case side1 => repeat (first | exact (Kd.C_below HR0.out HB.out) | (with_reducible refine Kd.C_alloc ?_ _) | (with_reducible refine Kd.C_drewN ?_ _) | (with_reducible refine Kd.C_drew ?_))); (case side2 => exact HC0.out); rintro e w' ⟨rfl, ⟨nd, rfl⟩⟩) | (go_at_call 9; (with_reducible refine (cotterellaw37_awake.calls k  true _ A8.out).mono ?_); rintro e w11 ⟨rfl, hb⟩; have n0_ := Aside0.mk (below_step (by repeat (first | (with_reducible first | exact HB.out | apply below_alloc | apply pw_below_drewN | apply below_drew1) | exact HB.out)) hb); clear HB; have HB := n0_; clear n0_; (try clear hb); (try clear hb2); (try clear hk); (try clear hi)))
        go_ret
        exact ⟨by first | rfl | (simp [errW_none, errW_some] <;> rfl) | (simp [*, errW_none, errW_some] <;> rfl), by repeat (first | (with_reducible first | exact HB.out | apply below_alloc | apply pw_below_drewN | apply below_drew1) | exact HB.out)⟩
      · replace c9 := Bool.eq_false_iff.mpr c9
        subst c9
        have H1 : (if (l0.length : Int) > 40 then ((cotterellaw37_awake.f k).bind fun t148 => (some t148)) else (some false)) = some r := by rw [if_neg (show ¬ (false = true) by decide)] at H; exact H
        clear H
        have H := H1
        clear H1
        by_cases c12 : (l0.length : Int) > 40
        · rw [if_pos c12] at H
          have c12b0 : decide (40 < (l0.length : Int)) = true := decide_eq_true c12
          have c12b1 : decide (40 < l0.length) = true := decide_eq_true (by omega)
          clear c12
          replace H := Option.bind_eq_some_iff.mp H
          obtain ⟨t148, A130, H⟩ := H
          replace H : (some t148) = some r := H
          have A13 := Aside0.mk A130
          (try (have e_ := Option.some.inj (A8.out.symm.trans A130); subst e_))
          clear A130
          obtain rfl := Option.some.inj H
          go_enter Try.func3, Try.ntmps3
          go_wp2_with (first | (go_at_call 7; (with_reducible refine (sb_Has.calls k _ _ l0 a1 a2 t145 _ ?side1 ?side2 A5.out).mono ?_); (case side1 => repeat (first | exact HR0.out | (with_reducible refine Kd.C_alloc ?_ _) | (with_reducible refine Kd.C_drewN ?_ _) | (with_reducible refine Kd.C_drew ?_))); (case side2 => exact HC0.out); rintro e w14 ⟨rfl, hb⟩; have n0_ := Aside0.mk (below_step (by repeat (first | (with_reducible first | exact HB.out | apply below_alloc | apply pw_below_drewN | apply below_drew1) | exact HB.out)) hb); clear HB; have HB := n0_; clear n0_; (try clear hb); (try clear hb2); (try clear hk); (try clear hi)) | (go_at_call 8; (with_reducible refine (cotterelref37_Has.calls k _ _ l0 a1 a2 t146 _ ?side1 ?side2 A6.out).mono ?_); (case side1 => repeat (first | exact (Kd.C_below HR0.out HB.out) | (with_reducible refine Kd.C_alloc ?_ _) | (with_reducible refine Kd.C_drewN ?_ _) | (with_reducible refine Kd.C_drew ?_))); (case side2 => exact HC0.out); rintro e w' ⟨rfl, ⟨nd, rfl⟩⟩) | (go_at_call 9; (with_reducible refine (cotterellaw37_awake.calls k  false _ A8.out).mono ?_); rintro e w15 ⟨rfl, hb⟩; have n0_ := Aside0.mk (below_step (by repeat (first | (with_reducible first | exact HB.out | apply below_alloc | apply pw_below_drewN | apply below_drew1) | exact HB.out)) hb); clear HB; have HB := n0_; clear n0_; (try clear hb); (try clear hb2); (try clear hk); (try clear hi)) | (go_at_call 9; (with_reducible refine (cotterellaw37_awake.calls k  t148 _ A13.out).mono ?_); rintro e w16 ⟨rfl, hb⟩; have n0_ := Aside0.mk (below_step (by repeat (first | (with_reducible first | exact HB.out | apply below_alloc | apply pw_below_drewN | apply below_drew1) | exact HB.out)) hb); clear HB; have HB := n0_; clear n0_; (try clear hb); (try clear hb2); (try clear hk); (try clear hi)))
          go_ret
          exact ⟨by first | rfl | (simp [errW_none, errW_some] <;> rfl) | (simp [*, errW_none, errW_some] <;> rfl), by repeat (first | (with_reducible first | exact HB.out | apply below_alloc | apply pw_below_drewN | apply below_drew1) | exact HB.out)⟩
        · rw [if_neg c12] at H
          have c12b0 : decide (40 < (l0.length : Int)) = false := decide_eq_false c12
          have c12b1 : decide (40 < l0.length) = false := decide_eq_false (by omega)
          clear c12
          obtain rfl := Option.some.inj H
          go_enter Try.func3, Try.ntmps3
          go_wp2_with (first | (go_at_call 7; (with_reducible refine (sb_Has.calls k _ _ l0 a1 a2 t145 _ ?side1 ?side2 A5.out).mono ?_); (case side1 => repeat (first | exact HR0.out | (with_reducible refine Kd.C_alloc ?_ _) | (with_reducible refine Kd.C_drewN ?_ _) | (with_reducible refine Kd.C_drew ?_))); (case side2 => exact HC0.out); rintro e w17 ⟨rfl, hb⟩; have n0_ := Aside0.mk (below_step (by repeat (first | (with_reducible first | exact HB.out | apply below_alloc | apply pw_below_drewN | apply below_drew1) | exact HB.out)) hb); clear HB; have HB := n0_; clear n0_; (try clear hb); (try clear hb2); (try clear hk); (try clear hi)) | (go_at_call 8; (with_reducible refine (cotterelref37_Has.calls k _ _ l0 a1 a2 t146 _ ?side1 ?side2 A6.out).mono ?_); (case side1 => repeat (first | exact (Kd.C_below HR0.out HB.out) | (with_reducible refine Kd.C_alloc ?_ _) | (with_reducible refine Kd.C_drewN ?_ _) | (with_reducible refine Kd.C_drew ?_))); (case side2 => exact HC0.out); rintro e w' ⟨rfl, ⟨nd, rfl⟩⟩) | (go_at_call 9; (with_reducible refine (cotterellaw37_awake.calls k  false _ A8.out).mono ?_); rintro e w18 ⟨rfl, hb⟩; have n0_ := Aside0.mk (below_step (by repeat (first | (with_reducible first | exact HB.out | apply below_alloc | apply pw_below_drewN | apply below_drew1) | exact HB.out)) hb); clear HB; have HB := n0_; clear n0_; (try clear hb); (try clear hb2); (try clear hk); (try clear hi)))
          go_ret
          exact ⟨by first | rfl | (simp [errW_none, errW_some] <;> rfl) | (simp [*, errW_none, errW_some] <;> rfl), by repeat (first | (with_reducible first | exact HB.out | apply below_alloc | apply pw_below_drewN | apply below_drew1) | exact HB.out)⟩
    · rw [if_neg c7] at H
      have c7b0 : (t145 == t146) = false := by simpa using c7
      (try (have c7b1 : decide (t145 = t146) = false := by simpa using c7))
      (try (have c7b2 : (t145 == t146) = false := by simpa using c7))
      (try (have c7b3 : ¬ (t145 = t146) := by simpa using c7))
      clear c7
      by_cases c19 : (l0.length : Int) > 40
      · rw [if_pos c19] at H
        have c19b0 : decide (40 < (l0.length : Int)) = true := decide_eq_true c19
        have c19b1 : decide (40 < l0.length) = true := decide_eq_true (by omega)
        clear c19
        replace H := Option.bind_eq_some_iff.mp H
        obtain ⟨t149, A200, H⟩ := H
        replace H : (some t149) = some r := H
        have A20 := Aside0.mk A200
        (try (have e_ := Option.some.inj (A8.out.symm.trans A200); subst e_))
        clear A200
        obtain rfl := Option.some.inj H
        go_enter Try.func3, Try.ntmps3
        go_wp2_with (first | (go_at_call 7; (with_reducible refine (sb_Has.calls k _ _ l0 a1 a2 t145 _ ?side1 ?side2 A5.out).mono ?_); (case side1 => repeat (first | exact HR0.out | (with_reducible refine Kd.C_alloc ?_ _) | (with_reducible refine Kd.C_drewN ?_ _) | (with_reducible refine Kd.C_drew ?_))); (case side2 => exact HC0.out); rintro e w21 ⟨rfl, hb⟩; have n0_ := Aside0.mk (below_step (by repeat (first | (with_reducible first | exact HB.out | apply below_alloc | apply pw_below_drewN | apply below_drew1) | exact HB.out)) hb); clear HB; have HB := n0_; clear n0_; (try clear hb); (try clear hb2); (try clear hk); (try clear hi)) | (go_at_call 8; (with_reducible refine (cotterelref37_Has.calls k _ _ l0 a1 a2 t146 _ ?side1 ?side2 A6.out).mono ?_); (case side1 => repeat (first | exact (Kd.C_below HR0.out HB.out) | (with_reducible refine Kd.C_alloc ?_ _) | (with_reducible refine Kd.C_drewN ?_ _) | (with_reducible refine Kd.C_drew ?_))); (case side2 => exact HC0.out); rintro e w' ⟨rfl, ⟨nd, rfl⟩⟩) | (go_at_call 9; (with_reducible refine (cotterellaw37_awake.calls k  t149 _ A20.out).mono ?_); rintro e w22 ⟨rfl, hb⟩; have n0_ := Aside0.mk (below_step (by repeat (first | (with_reducible first | exact HB.out | apply below_alloc | apply pw_below_drewN | apply below_drew1) | exact HB.out)) hb); clear HB; have HB := n0_; clear n0_; (try clear hb); (try clear hb2); (try clear hk); (try clear hi)))
        go_ret
        exact ⟨by first | rfl | (simp [errW_none, errW_some] <;> rfl) | (simp [*, errW_none, errW_some] <;> rfl), by repeat (first | (with_reducible first | exact HB.out | apply below_alloc | apply pw_below_drewN | apply below_drew1) | exact HB.out)⟩
      · rw [if_neg c19] at H
        have c19b0 : decide (40 < (l0.length : Int)) = false := decide_eq_false c19
        have c19b1 : decide (40 < l0.length) = false := decide_eq_false (by omega)
        clear c19
        obtain rfl := Option.some.inj H
        go_enter Try.func3, Try.ntmps3
        go_wp2_with (first | (go_at_call 7; (with_reducible refine (sb_Has.calls k _ _ l0 a1 a2 t145 _ ?side1 ?side2 A5.out).mono ?_); (case side1 => repeat (first | exact HR0.out | (with_reducible refine Kd.C_alloc ?_ _) | (with_reducible refine Kd.C_drewN ?_ _) | (with_reducible refine Kd.C_drew ?_))); (case side2 => exact HC0.out); rintro e w23 ⟨rfl, hb⟩; have n0_ := Aside0.mk (below_step (by repeat (first | (with_reducible first | exact HB.out | apply below_alloc | apply pw_below_drewN | apply below_drew1) | exact HB.out)) hb); clear HB; have HB := n0_; clear n0_; (try clear hb); (try clear hb2); (try clear hk); (try clear hi)) | (go_at_call 8; (with_reducible refine (cotterelref37_Has.calls k _ _ l0 a1 a2 t146 _ ?side1 ?side2 A6.out).mono ?_); (case side1 => repeat (first | exact (Kd.C_below HR0.out HB.out) | (with_reducible refine Kd.C_alloc ?_ _) | (with_reducible refine Kd.C_drewN ?_ _) | (with_reducible refine Kd.C_drew ?_))); (case side2 => exact HC0.out); rintro e w' ⟨rfl, ⟨nd, rfl⟩⟩))
        go_ret
        exact ⟨by first | rfl | (simp [errW_none, errW_some] <;> rfl) | (simp [*, errW_none, errW_some] <;> rfl), by repeat (first | (with_reducible first | exact HB.out | apply below_alloc | apply pw_below_drewN | apply below_drew1) | exact HB.out)⟩
  · rw [if_neg c4] at H
    have c4b0 : decide ((l0.length : Int) ≤ 40) = false := decide_eq_false c4
    have c4b1 : decide (l0.length ≤ 40) = false := decide_eq_false (by omega)
    clear c4
    by_cases c24 : (l0.length : Int) > 40
    · rw [if_pos c24] at H
      have c24b0 : decide (40 < (l0.length : Int)) = true := decide_eq_true c24
      have c24b1 : decide (40 < l0.length) = true := decide_eq_true (by omega)
      clear c24
      replace H := Option.bind_eq_some_iff.mp H
      obtain ⟨t150, A250, H⟩ := H
      replace H : (some t150) = some r := H
      have A25 := Aside0.mk A250
      (try (have e_ := Option.some.inj (A8.out.symm.trans A250); subst e_))
      clear A250
      obtain rfl := Option.some.inj H
      go_enter Try.func3, Try.ntmps3
      go_wp2_with (first | (go_at_call 9; (with_reducible refine (cotterellaw37_awake.calls k  t150 _ A25.out).mono ?_); rintro e w26 ⟨rfl, hb⟩; have n0_ := Aside0.mk (below_step (by repeat (first | (with_reducible first | exact HB.out | apply below_alloc | apply pw_below_drewN | apply below_drew1) | exact HB.out)) hb); clear HB; have HB := n0_; clear n0_; (try clear hb); (try clear hb2); (try clear hk); (try clear hi)))
      go_ret
      exact ⟨by first | rfl | (simp [errW_none, errW_some] <;> rfl) | (simp [*, errW_none, errW_some] <;> rfl), by repeat (first | (with_reducible first | exact HB.out | apply below_alloc | apply pw_below_drewN | apply below_drew1) | exact HB.out)⟩
    · rw [if_neg c24] at H
      have c24b0 : decide (40 < (l0.length : Int)) = false := decide_eq_false c24
      have c24b1 : decide (40 < l0.length) = false := decide_eq_false (by omega)
      clear c24
      obtain rfl := Option.some.inj H
      go_enter Try.func3, Try.ntmps3
      go_wp2
      go_ret
      exact ⟨by first | rfl | (simp [errW_none, errW_some] <;> rfl) | (simp [*, errW_none, errW_some] <;> rfl), by repeat (first | (with_reducible first | exact HB.out | apply below_alloc | apply pw_below_drewN | apply below_drew1) | exact HB.out)⟩

end Go.Proofs.Ytkeamomcaplfpaa.PSbHas
