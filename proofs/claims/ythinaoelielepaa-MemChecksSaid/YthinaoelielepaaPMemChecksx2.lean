-- This session's own text: written by wip/tools/myprint.sh after the kit's printer.
import Derived.Test.YthinaoelielepaaPMemChecksx0
namespace Go.Proofs.Ythinaoelielepaa.PMemChecks
open Go.RowKit Go.Proofs.YthinaoelielepaaW.PrintWords Go.Proofs.YthinaoelielepaaW.PrintLast Go.Proofs.YthinaoelielepaaW.PrintMore
attribute [local go_sem] max2_int min2_int max_two min_two max_three min_three max_four min_four   -- for this text's walks alone
set_option linter.unusedVariables false
set_option linter.unusedSimpArgs false

/-! ### cotterelref10_Right: function 15 -/
def cotterelref10_Right.f (l0 : List Int) : Option (Bool) := if ((l0.length : Int) % 64) = 0 then (if (l0.length : Int) ≥ 64 then (some (decide ((l0.length : Int) ≤ 16384))) else (some false)) else (some false)
set_option maxHeartbeats 8000000 in
set_option maxRecDepth 100000 in
theorem cotterelref10_Right.calls (A0 : Option Addr) (c0 : Nat) (l0 : List Int) (r : Bool) (w : World) (hr0 : Kd.C (Kd.int .u8) w A0 l0.length l0) (hc0 : l0.length ≤ c0) (h : cotterelref10_Right.f l0 = some r) :
    Calls Try.prog 15 #[.slice A0 l0.length c0] w fun e w' => e = .returned (.bool r) ∧ Drawn0 w w' := by
  have HR0 := Aside0.mk hr0
  have HC0 := Aside0.mk hc0
  clear hr0 hc0
  have H : (if ((l0.length : Int) % 64) = 0 then (if (l0.length : Int) ≥ 64 then (some (decide ((l0.length : Int) ≤ 16384))) else (some false)) else (some false)) = some r := h
  clear h
  by_cases c2 : ((l0.length : Int) % 64) = 0
  · rw [if_pos c2] at H
    have c2b0 : (((l0.length : Int) % 64) == 0) = true := beq_iff_eq.mpr c2
    have c2b0s := c2b0
    (try simp only [Int.add_emod_emod, Int.emod_add_emod, Int.sub_emod_emod, Int.emod_sub_emod, Int.reduceDvd, Int.emod_emod_of_dvd, Int.emod_emod] at c2b0s)
    have c2b1 : (((l0.length : Int) % 64) != 0) = false := bne_eq_false_iff_eq.mpr c2
    have c2b1s := c2b1
    (try simp only [Int.add_emod_emod, Int.emod_add_emod, Int.sub_emod_emod, Int.emod_sub_emod, Int.reduceDvd, Int.emod_emod_of_dvd, Int.emod_emod] at c2b1s)
    clear c2
    by_cases c3 : (l0.length : Int) ≥ 64
    · rw [if_pos c3] at H
      have c3b0 : decide (64 ≤ (l0.length : Int)) = true := decide_eq_true c3
      have c3b1 : decide (64 ≤ l0.length) = true := decide_eq_true (by omega)
      clear c3
      obtain rfl := Option.some.inj H
      go_enter Try.func15, Try.ntmps15
      go_wp2
      go_ret
      exact ⟨by first | rfl | (simp; done) | (simp [*]; done), by repeat (first | exact Drawn0.refl _ | apply Drawn0.step)⟩
    · rw [if_neg c3] at H
      have c3b0 : decide (64 ≤ (l0.length : Int)) = false := decide_eq_false c3
      have c3b1 : decide (64 ≤ l0.length) = false := decide_eq_false (by omega)
      clear c3
      obtain rfl := Option.some.inj H
      go_enter Try.func15, Try.ntmps15
      go_wp2
      go_ret
      exact ⟨by first | rfl | (simp; done) | (simp [*]; done), by repeat (first | exact Drawn0.refl _ | apply Drawn0.step)⟩
  · rw [if_neg c2] at H
    have c2b0 : (((l0.length : Int) % 64) == 0) = false := beq_eq_false_iff_ne.mpr c2
    have c2b0s := c2b0
    (try simp only [Int.add_emod_emod, Int.emod_add_emod, Int.sub_emod_emod, Int.emod_sub_emod, Int.reduceDvd, Int.emod_emod_of_dvd, Int.emod_emod] at c2b0s)
    have c2b1 : (((l0.length : Int) % 64) != 0) = true := bne_iff_ne.mpr c2
    have c2b1s := c2b1
    (try simp only [Int.add_emod_emod, Int.emod_add_emod, Int.sub_emod_emod, Int.emod_sub_emod, Int.reduceDvd, Int.emod_emod_of_dvd, Int.emod_emod] at c2b1s)
    obtain rfl := Option.some.inj H
    go_enter Try.func15, Try.ntmps15
    go_wp2
    go_ret
    exact ⟨by first | rfl | (simp; done) | (simp [*]; done), by repeat (first | exact Drawn0.refl _ | apply Drawn0.step)⟩

/-! ### cotterelref10_Check: function 17 -/
def cotterelref10_Check.f (l0 : List Int) (a1 : Int) (a2 : Int) : Option (Int) := if a2 = 1 then (if (wrap64 ((wrap64 (a1)) + a2)) ≤ (l0.length : Int) then (some 0) else (some 9)) else (if a2 = 2 then (if (wrap64 ((wrap64 (a1)) + a2)) ≤ (l0.length : Int) then (some 0) else (some 9)) else (if a2 = 4 then (if (wrap64 ((wrap64 (a1)) + a2)) ≤ (l0.length : Int) then (some 0) else (some 9)) else (some 9)))
set_option maxHeartbeats 8000000 in
set_option maxRecDepth 100000 in
theorem cotterelref10_Check.calls (A0 : Option Addr) (c0 : Nat) (l0 : List Int) (a1 : Int) (a2 : Int) (r : Int) (w : World) (hr0 : Kd.C (Kd.int .u8) w A0 l0.length l0) (hc0 : l0.length ≤ c0) (h : cotterelref10_Check.f l0 a1 a2 = some r) :
    Calls Try.prog 17 #[.slice A0 l0.length c0, .int .u32 a1, .int .i64 a2] w fun e w' => e = .returned (.int .i64 r) ∧ Drawn0 w w' := by
  have HR0 := Aside0.mk hr0
  have HC0 := Aside0.mk hc0
  clear hr0 hc0
  have H : (if a2 = 1 then (if (wrap64 ((wrap64 (a1)) + a2)) ≤ (l0.length : Int) then (some 0) else (some 9)) else (if a2 = 2 then (if (wrap64 ((wrap64 (a1)) + a2)) ≤ (l0.length : Int) then (some 0) else (some 9)) else (if a2 = 4 then (if (wrap64 ((wrap64 (a1)) + a2)) ≤ (l0.length : Int) then (some 0) else (some 9)) else (some 9)))) = some r := h
  clear h
  by_cases c4 : a2 = 1
  · rw [if_pos c4] at H
    have c4b0 : (a2 == 1) = true := beq_iff_eq.mpr c4
    have c4b1 : (a2 != 1) = false := bne_eq_false_iff_eq.mpr c4
    clear c4
    by_cases c5 : (wrap64 ((wrap64 (a1)) + a2)) ≤ (l0.length : Int)
    · rw [if_pos c5] at H
      have c5b0 : decide ((wrap64 ((wrap64 (a1)) + a2)) ≤ (l0.length : Int)) = true := decide_eq_true c5
      clear c5
      obtain rfl := Option.some.inj H
      go_enter Try.func17, Try.ntmps17
      go_wp2
      go_ret
      exact ⟨by first | rfl | (simp; done) | (simp [*]; done), by repeat (first | exact Drawn0.refl _ | apply Drawn0.step)⟩
    · rw [if_neg c5] at H
      have c5b0 : decide ((wrap64 ((wrap64 (a1)) + a2)) ≤ (l0.length : Int)) = false := decide_eq_false c5
      clear c5
      obtain rfl := Option.some.inj H
      go_enter Try.func17, Try.ntmps17
      go_wp2
      go_ret
      exact ⟨by first | rfl | (simp; done) | (simp [*]; done), by repeat (first | exact Drawn0.refl _ | apply Drawn0.step)⟩
  · rw [if_neg c4] at H
    have c4b0 : (a2 == 1) = false := beq_eq_false_iff_ne.mpr c4
    have c4b1 : (a2 != 1) = true := bne_iff_ne.mpr c4
    by_cases c6 : a2 = 2
    · rw [if_pos c6] at H
      have c6b0 : (a2 == 2) = true := beq_iff_eq.mpr c6
      have c6b1 : (a2 != 2) = false := bne_eq_false_iff_eq.mpr c6
      clear c6
      by_cases c7 : (wrap64 ((wrap64 (a1)) + a2)) ≤ (l0.length : Int)
      · rw [if_pos c7] at H
        have c7b0 : decide ((wrap64 ((wrap64 (a1)) + a2)) ≤ (l0.length : Int)) = true := decide_eq_true c7
        clear c7
        obtain rfl := Option.some.inj H
        go_enter Try.func17, Try.ntmps17
        go_wp2
        go_ret
        exact ⟨by first | rfl | (simp; done) | (simp [*]; done), by repeat (first | exact Drawn0.refl _ | apply Drawn0.step)⟩
      · rw [if_neg c7] at H
        have c7b0 : decide ((wrap64 ((wrap64 (a1)) + a2)) ≤ (l0.length : Int)) = false := decide_eq_false c7
        clear c7
        obtain rfl := Option.some.inj H
        go_enter Try.func17, Try.ntmps17
        go_wp2
        go_ret
        exact ⟨by first | rfl | (simp; done) | (simp [*]; done), by repeat (first | exact Drawn0.refl _ | apply Drawn0.step)⟩
    · rw [if_neg c6] at H
      have c6b0 : (a2 == 2) = false := beq_eq_false_iff_ne.mpr c6
      have c6b1 : (a2 != 2) = true := bne_iff_ne.mpr c6
      by_cases c8 : a2 = 4
      · rw [if_pos c8] at H
        have c8b0 : (a2 == 4) = true := beq_iff_eq.mpr c8
        have c8b1 : (a2 != 4) = false := bne_eq_false_iff_eq.mpr c8
        clear c8
        by_cases c9 : (wrap64 ((wrap64 (a1)) + a2)) ≤ (l0.length : Int)
        · rw [if_pos c9] at H
          have c9b0 : decide ((wrap64 ((wrap64 (a1)) + a2)) ≤ (l0.length : Int)) = true := decide_eq_true c9
          clear c9
          obtain rfl := Option.some.inj H
          go_enter Try.func17, Try.ntmps17
          go_wp2
          go_ret
          exact ⟨by first | rfl | (simp; done) | (simp [*]; done), by repeat (first | exact Drawn0.refl _ | apply Drawn0.step)⟩
        · rw [if_neg c9] at H
          have c9b0 : decide ((wrap64 ((wrap64 (a1)) + a2)) ≤ (l0.length : Int)) = false := decide_eq_false c9
          clear c9
          obtain rfl := Option.some.inj H
          go_enter Try.func17, Try.ntmps17
          go_wp2
          go_ret
          exact ⟨by first | rfl | (simp; done) | (simp [*]; done), by repeat (first | exact Drawn0.refl _ | apply Drawn0.step)⟩
      · rw [if_neg c8] at H
        have c8b0 : (a2 == 4) = false := beq_eq_false_iff_ne.mpr c8
        have c8b1 : (a2 != 4) = true := bne_iff_ne.mpr c8
        obtain rfl := Option.some.inj H
        go_enter Try.func17, Try.ntmps17
        go_wp2
        go_ret
        exact ⟨by first | rfl | (simp; done) | (simp [*]; done), by repeat (first | exact Drawn0.refl _ | apply Drawn0.step)⟩

/-! ### mem_LineOf: function 18 -/
def mem_LineOf.f (a0 : Int) : Option (Int) := some ((Int.tdiv a0 16) % 4294967296)
set_option maxHeartbeats 8000000 in
set_option maxRecDepth 100000 in
theorem mem_LineOf.calls (a0 : Int) (r : Int) (w : World) (h : mem_LineOf.f a0 = some r) :
    Calls Try.prog 18 #[.int .u32 a0] w fun e w' => e = .returned (.int .u32 r) ∧ Drawn0 w w' := by
  have H : (some ((Int.tdiv a0 16) % 4294967296)) = some r := h
  clear h
  obtain rfl := Option.some.inj H
  go_enter Try.func18, Try.ntmps18
  go_wp2
  go_ret
  exact ⟨by first | rfl | (simp; done) | (simp [*]; done), by repeat (first | exact Drawn0.refl _ | apply Drawn0.step)⟩

end Go.Proofs.Ythinaoelielepaa.PMemChecks
