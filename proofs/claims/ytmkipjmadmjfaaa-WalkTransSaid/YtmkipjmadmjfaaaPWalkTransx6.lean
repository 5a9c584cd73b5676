-- This session's own text: written by wip/tools/myprint.sh after the kit's printer.
import Derived.Test.YtmkipjmadmjfaaaPWalkTransx0
import Derived.Test.YtmkipjmadmjfaaaPWalkTransx2
import Derived.Test.YtmkipjmadmjfaaaPWalkTransx3
import Derived.Test.YtmkipjmadmjfaaaPWalkTransx4
import Derived.Test.YtmkipjmadmjfaaaPWalkTransx5
namespace Go.Proofs.Ytmkipjmadmjfaaa.PWalkTrans
open Go.RowKit Go.Proofs.YtmkipjmadmjfaaaW.PrintWords Go.Proofs.YtmkipjmadmjfaaaW.PrintLast Go.Proofs.YtmkipjmadmjfaaaW.PrintMore
attribute [local go_sem] max2_int min2_int max_two min_two max_three min_three max_four min_four   -- for this text's walks alone
set_option linter.unusedVariables false
set_option linter.unusedSimpArgs false

/-! ### cotterellaw13_WalkTrans: function 4 -/
def cotterellaw13_WalkTrans.f (k : Nat) (a0_0 : Int) (a0_1 : Int) (a0_2 : Int) (a0_3 : Int) (a0_4 : Int) (a0_5 : Int) (a0_6 : Int) (a0_7 : Int) (a0_8 : Int) (a0_9 : Int) (a0_10 : Int) (a0_11 : Int) (a0_12 : Int) (a0_13 : Int) (a0_14 : Int) (a0_15 : Int) (a0_16 : Int) (a0_17 : Int) (a0_18 : Int) (a0_19 : Int) (a0_20 : Int) (a0_21 : Int) (a0_22 : Int) (a0_23 : Int) (a0_24 : Int) (a0_25 : Int) (a0_26 : Int) (a0_27 : Int) (a0_28 : Int) (a0_29 : Bool) (l1 : List Int) (a2_0 : Int) (a2_1 : Int) : Option (Bool) := if (l1.length : Int) > 4096 then ((cotterellaw13_awake.f k).bind fun t223 => (some t223)) else ((walk_Trans.f k a0_0 a0_1 a0_2 a0_3 a0_4 a0_5 a0_6 a0_7 a0_8 a0_9 a0_10 a0_11 a0_12 a0_13 a0_14 a0_15 a0_16 a0_17 a0_18 a0_19 a0_20 a0_21 a0_22 a0_23 a0_24 a0_25 a0_26 a0_27 a0_28 a0_29 l1 a2_0 a2_1).bind fun bt224 => ((cotterelref13_Trans.f k a0_0 a0_1 a0_2 a0_3 a0_4 a0_5 a0_6 a0_7 a0_8 a0_9 a0_10 a0_11 a0_12 a0_13 a0_14 a0_15 a0_16 a0_17 a0_18 a0_19 a0_20 a0_21 a0_22 a0_23 a0_24 a0_25 a0_26 a0_27 a0_28 a0_29 l1 a2_0 a2_1).bind fun bt226 => (if bt224.1 = bt226.1 then (if bt224.2 = bt226.2 then ((walk_Paged.f a0_0 a0_1 a0_2 a0_3 a0_4 a0_5 a0_6 a0_7 a0_8 a0_9 a0_10 a0_11 a0_12 a0_13 a0_14 a0_15 a0_16 a0_17 a0_18 a0_19 a0_20 a0_21 a0_22 a0_23 a0_24 a0_25 a0_26 a0_27 a0_28 a0_29).bind fun t228 => ((cotterelref13_Paged.f a0_0 a0_1 a0_2 a0_3 a0_4 a0_5 a0_6 a0_7 a0_8 a0_9 a0_10 a0_11 a0_12 a0_13 a0_14 a0_15 a0_16 a0_17 a0_18 a0_19 a0_20 a0_21 a0_22 a0_23 a0_24 a0_25 a0_26 a0_27 a0_28 a0_29).bind fun t229 => (if (t228 == t229) = true then ((walk_Fault.f a2_1).bind fun t230 => ((cotterelref13_Fault.f a2_1).bind fun t231 => (if t230 = t231 then ((cotterellaw13_awake.f k).bind fun t232 => (some t232)) else (none)))) else (none)))) else (none)) else (none))))
theorem cotterellaw13_WalkTrans.mono : ∀ a0 a1 a2 a3 a4 a5 a6 a7 a8 a9 a10 a11 a12 a13 a14 a15 a16 a17 a18 a19 a20 a21 a22 a23 a24 a25 a26 a27 a28 a29 a30 a31 a32 k, LeO (cotterellaw13_WalkTrans.f k a0 a1 a2 a3 a4 a5 a6 a7 a8 a9 a10 a11 a12 a13 a14 a15 a16 a17 a18 a19 a20 a21 a22 a23 a24 a25 a26 a27 a28 a29 a30 a31 a32) (cotterellaw13_WalkTrans.f (k + 1) a0 a1 a2 a3 a4 a5 a6 a7 a8 a9 a10 a11 a12 a13 a14 a15 a16 a17 a18 a19 a20 a21 a22 a23 a24 a25 a26 a27 a28 a29 a30 a31 a32) := by
  intro a0 a1 a2 a3 a4 a5 a6 a7 a8 a9 a10 a11 a12 a13 a14 a15 a16 a17 a18 a19 a20 a21 a22 a23 a24 a25 a26 a27 a28 a29 a30 a31 a32 k
  unfold cotterellaw13_WalkTrans.f
  repeat' first
      | (with_reducible exact cotterellaw13_awake.mono _)
      | (with_reducible exact cotterelref13_Trans.mono _ _ _ _ _ _ _ _ _ _ _ _ _ _ _ _ _ _ _ _ _ _ _ _ _ _ _ _ _ _ _ _ _ _)
      | (with_reducible exact walk_Trans.mono _ _ _ _ _ _ _ _ _ _ _ _ _ _ _ _ _ _ _ _ _ _ _ _ _ _ _ _ _ _ _ _ _ _)
      | (with_reducible exact LeO.refl _)
      | (with_reducible exact LeO.none _)
      | (with_reducible refine LeO.ite ?_ ?_)
      | (with_reducible refine LeO.bind ?_ (fun _ => ?_))
      | exact cotterellaw13_awake.mono _
      | exact cotterelref13_Trans.mono _ _ _ _ _ _ _ _ _ _ _ _ _ _ _ _ _ _ _ _ _ _ _ _ _ _ _ _ _ _ _ _ _ _
      | exact walk_Trans.mono _ _ _ _ _ _ _ _ _ _ _ _ _ _ _ _ _ _ _ _ _ _ _ _ _ _ _ _ _ _ _ _ _ _
      | exact LeO.none _
      | refine LeO.ite ?_ ?_
      | refine LeO.bind ?_ (fun _ => ?_)
def cotterellaw13_WalkTrans.T5 : Bool × List (List Nat × List Nat) := (true, [([], []), ([], []), ([0, 1], [0, 1]), ([2], [2]), ([3], [3]), ([3], [3]), ([4, 5, 3], [3, 4, 5]), ([3, 6], [3, 6]), ([7, 3], [7]), ([8], [8]), ([9, 8, 8], [8, 9]), ([8], [8]), ([11, 10, 8], [8, 11]), ([10, 12, 8], [8, 10, 12]), ([8, 13], [8, 13]), ([14, 12], [14]), ([15], [15]), ([16, 15], [15, 16]), ([17, 15, 15], [15, 17]), ([15], [15]), ([19, 15], [15, 19]), ([20, 18, 15], [15, 20]), ([18, 21, 15], [15, 18, 21]), ([15, 22], [15, 22]), ([23, 21], [23]), ([24, 24], [24]), ([24, 25], [24, 25]), ([26, 25, 0, 1, 2, 3, 4, 5, 6, 7, 8, 9, 10, 11, 12, 13, 14, 15, 16, 17, 18, 19, 20, 21, 22, 23, 24, 25, 26], [26])])
def cotterellaw13_WalkTrans.B5 : List Nat := [0, 0, 3, 7, 15, 15, 63, 127, 255, 511, 1023, 511, 4095, 8191, 16383, 32767, 65535, 131071, 262143, 65535, 589823, 2097151, 4194303, 8388607, 16777215, 33554431, 67108863, 134217727]
theorem cotterellaw13_WalkTrans.tab5 : rtab .any (opsOf Try.f4 5) = cotterellaw13_WalkTrans.T5 := by kernel_rfl
theorem cotterellaw13_WalkTrans.bits5 : waitsOk cotterellaw13_WalkTrans.T5.2 cotterellaw13_WalkTrans.B5 = true := by kernel_rfl
open Go.Proofs.Ytmkipjmadmjfaaa.Cp (bf)
set_option maxHeartbeats 8000000 in
set_option maxRecDepth 100000 in
theorem cotterellaw13_WalkTrans.calls (k : Nat) (a0_0 : Int) (a0_1 : Int) (a0_2 : Int) (a0_3 : Int) (a0_4 : Int) (a0_5 : Int) (a0_6 : Int) (a0_7 : Int) (a0_8 : Int) (a0_9 : Int) (a0_10 : Int) (a0_11 : Int) (a0_12 : Int) (a0_13 : Int) (a0_14 : Int) (a0_15 : Int) (a0_16 : Int) (a0_17 : Int) (a0_18 : Int) (a0_19 : Int) (a0_20 : Int) (a0_21 : Int) (a0_22 : Int) (a0_23 : Int) (a0_24 : Int) (a0_25 : Int) (a0_26 : Int) (a0_27 : Int) (a0_28 : Int) (a0_29 : Bool) (A1 : Option Addr) (c1 : Nat) (l1 : List Int) (a2_0 : Int) (a2_1 : Int) (r : Bool) (w : World) (hr1 : Kd.C (Kd.int .u8) w A1 l1.length l1) (hc1 : l1.length ≤ c1) (h : cotterellaw13_WalkTrans.f k a0_0 a0_1 a0_2 a0_3 a0_4 a0_5 a0_6 a0_7 a0_8 a0_9 a0_10 a0_11 a0_12 a0_13 a0_14 a0_15 a0_16 a0_17 a0_18 a0_19 a0_20 a0_21 a0_22 a0_23 a0_24 a0_25 a0_26 a0_27 a0_28 a0_29 l1 a2_0 a2_1 = some r) :
  Calls Try.prog 4 #[.agg #[.int .u32 a0_0, .int .u32 a0_1, .int .u32 a0_2, .int .u32 a0_3, .int .u32 a0_4, .int .u32 a0_5, .int .u32 a0_6, .int .u32 a0_7, .int .u32 a0_8, .int .u32 a0_9, .int .u32 a0_10, .int .u32 a0_11, .int .u32 a0_12, .int .u32 a0_13, .int .u32 a0_14, .int .u32 a0_15, .int .u32 a0_16, .int .u32 a0_17, .int .u32 a0_18, .int .u32 a0_19, .int .u32 a0_20, .int .u32 a0_21, .int .u32 a0_22, .int .u32 a0_23, .int .u32 a0_24, .int .u32 a0_25, .int .u32 a0_26, .int .u32 a0_27, .int .u32 a0_28, .bool a0_29], .slice A1 l1.length c1, .agg #[.int .u32 a2_0, .int .i64 a2_1]] w fun e w' => e = .returned (.bool r) ∧ Below w.heap.size w w' := by
 have hu35 := Try.underlying35
 have hu37 := Try.underlying37
 have HR1 := Aside0.mk hr1
 have HC1 := Aside0.mk hc1
 clear hr1 hc1
 have HB := Aside0.mk (Below.refl w.heap.size w)
 have H : (if (l1.length : Int) > 4096 then ((cotterellaw13_awake.f k).bind fun t223 => (some t223)) else ((walk_Trans.f k a0_0 a0_1 a0_2 a0_3 a0_4 a0_5 a0_6 a0_7 a0_8 a0_9 a0_10 a0_11 a0_12 a0_13 a0_14 a0_15 a0_16 a0_17 a0_18 a0_19 a0_20 a0_21 a0_22 a0_23 a0_24 a0_25 a0_26 a0_27 a0_28 a0_29 l1 a2_0 a2_1).bind fun bt224 => ((cotterelref13_Trans.f k a0_0 a0_1 a0_2 a0_3 a0_4 a0_5 a0_6 a0_7 a0_8 a0_9 a0_10 a0_11 a0_12 a0_13 a0_14 a0_15 a0_16 a0_17 a0_18 a0_19 a0_20 a0_21 a0_22 a0_23 a0_24 a0_25 a0_26 a0_27 a0_28 a0_29 l1 a2_0 a2_1).bind fun bt226 => (if bt224.1 = bt226.1 then (if bt224.2 = bt226.2 then ((walk_Paged.f a0_0 a0_1 a0_2 a0_3 a0_4 a0_5 a0_6 a0_7 a0_8 a0_9 a0_10 a0_11 a0_12 a0_13 a0_14 a0_15 a0_16 a0_17 a0_18 a0_19 a0_20 a0_21 a0_22 a0_23 a0_24 a0_25 a0_26 a0_27 a0_28 a0_29).bind fun t228 => ((cotterelref13_Paged.f a0_0 a0_1 a0_2 a0_3 a0_4 a0_5 a0_6 a0_7 a0_8 a0_9 a0_10 a0_11 a0_12 a0_13 a0_14 a0_15 a0_16 a0_17 a0_18 a0_19 a0_20 a0_21 a0_22 a0_23 a0_24 a0_25 a0_26 a0_27 a0_28 a0_29).bind fun t229 => (if (t228 == t229) = true then ((walk_Fault.f a2_1).bind fun t230 => ((cotterelref13_Fault.f a2_1).bind fun t231 => (if t230 = t231 then ((cotterellaw13_awake.f k).bind fun t232 => (some t232)) else (none)))) else (none)))) else (none)) else (none))))) = some r := h
 clear h
 by_cases c4 : (l1.length : Int) > 4096
 ·rw [if_pos c4] at H
  have c4b0 : decide (4096 < (l1.length : Int)) = true := decide_eq_true c4
  have c4b1 : decide (4096 < l1.length) = true := decide_eq_true (by omega)
  clear c4
  replace H := Option.bind_eq_some_iff.mp H
  obtain ⟨t223, A50, H⟩ := H
  replace H : (some t223) = some r := H
  have A5 := Aside0.mk A50
  clear A50
  obtain rfl := Option.some.inj H
  go_enter Try.func4, Try.ntmps4
  go_wp2_with (first | ((with_reducible refine gate_dst (N := 46) rfl ?_); refine Go.Proofs.Ytmkipjmadmjfaaa.Cp.load_whole 35 (.tmp 3) gb221 rfl rfl rfl (by (with_reducible repeat (first | refine blk_drewN ?_ _ | refine blk_drew ?_ | refine blk_alloc ?_ _)); exact BK221.out) Try.underlying35 rfl (by kernel_rfl) ?_) | ((with_reducible refine gate_dst (N := 44) rfl ?_); refine Go.Proofs.Ytmkipjmadmjfaaa.Cp.load_whole 35 (.tmp 3) gb221 rfl rfl rfl (by (with_reducible repeat (first | refine blk_drewN ?_ _ | refine blk_drew ?_ | refine blk_alloc ?_ _)); exact BK221.out) Try.underlying35 rfl (by kernel_rfl) ?_) | ((with_reducible refine gate_dst (N := 26) rfl ?_); refine Go.Proofs.Ytmkipjmadmjfaaa.Cp.load_whole 35 (.tmp 3) gb221 rfl rfl rfl (by (with_reducible repeat (first | refine blk_drewN ?_ _ | refine blk_drew ?_ | refine blk_alloc ?_ _)); exact BK221.out) Try.underlying35 rfl (by kernel_rfl) ?_) | ((with_reducible refine gate_dst (N := 16) rfl ?_); refine Go.Proofs.Ytmkipjmadmjfaaa.Cp.load_whole 35 (.tmp 3) gb221 rfl rfl rfl (by (with_reducible repeat (first | refine blk_drewN ?_ _ | refine blk_drew ?_ | refine blk_alloc ?_ _)); exact BK221.out) Try.underlying35 rfl (by kernel_rfl) ?_) | ((with_reducible refine gate_dst (N := 3) rfl ?_); refine box_event ?hg (N := 3) ?hd (cs := #[.int .u32 a0_0, .int .u32 a0_1, .int .u32 a0_2, .int .u32 a0_3, .int .u32 a0_4, .int .u32 a0_5, .int .u32 a0_6, .int .u32 a0_7, .int .u32 a0_8, .int .u32 a0_9, .int .u32 a0_10, .int .u32 a0_11, .int .u32 a0_12, .int .u32 a0_13, .int .u32 a0_14, .int .u32 a0_15, .int .u32 a0_16, .int .u32 a0_17, .int .u32 a0_18, .int .u32 a0_19, .int .u32 a0_20, .int .u32 a0_21, .int .u32 a0_22, .int .u32 a0_23, .int .u32 a0_24, .int .u32 a0_25, .int .u32 a0_26, .int .u32 a0_27, .int .u32 a0_28, .bool a0_29]) (t := 35) ?hr ?_; (case hd => rfl); (case hg => rfl); (case hr => first | (go_simp; done) | (go_simp; rfl)); intro gb221 hg w6 hbox hb; have n0_ := Aside0.mk (below_step (by repeat (first | (with_reducible first | exact HB.out | apply below_alloc | apply pw_below_drewN | apply below_drew1) | exact HB.out)) hb); have n1_ := Aside0.mk (hbox); have n2_ := Aside0.mk ((by rw [hg]; exact (below_size (by repeat (first | (with_reducible first | exact HB.out | apply below_alloc | apply pw_below_drewN | apply below_drew1) | exact HB.out))) : w.heap.size ≤ gb221)); have n3_ := Aside0.mk ((by rw [hg]; exact (below_size (by repeat (first | (with_reducible first | exact HB.out | apply below_alloc | apply pw_below_drewN | apply below_drew1) | exact HB.out))) : w.heap.size ≤ gb221)); clear HB; have HB := n0_; have BK221 := n1_; have GW221 := n2_; have GE221 := n3_; clear n0_ n1_ n2_ n3_; clear hb hbox hg) | ((with_reducible refine gate_dst (N := 5) rfl ?_); refine box_event ?hg (N := 5) ?hd (cs := #[.int .u32 a2_0, .int .i64 a2_1]) (t := 37) ?hr ?_; (case hd => rfl); (case hg => rfl); (case hr => first | (go_simp; done) | (go_simp; rfl)); intro gb222 hg w7 hbox hb; have n0_ := Aside0.mk (blk_below (g := gb221) (o := .cells #[.int .u32 a0_0, .int .u32 a0_1, .int .u32 a0_2, .int .u32 a0_3, .int .u32 a0_4, .int .u32 a0_5, .int .u32 a0_6, .int .u32 a0_7, .int .u32 a0_8, .int .u32 a0_9, .int .u32 a0_10, .int .u32 a0_11, .int .u32 a0_12, .int .u32 a0_13, .int .u32 a0_14, .int .u32 a0_15, .int .u32 a0_16, .int .u32 a0_17, .int .u32 a0_18, .int .u32 a0_19, .int .u32 a0_20, .int .u32 a0_21, .int .u32 a0_22, .int .u32 a0_23, .int .u32 a0_24, .int .u32 a0_25, .int .u32 a0_26, .int .u32 a0_27, .int .u32 a0_28, .bool a0_29] 35 (0, 0)) (by (with_reducible repeat (first | refine blk_drewN ?_ _ | refine blk_drew ?_ | refine blk_alloc ?_ _)); exact BK221.out) hb); have n1_ := Aside0.mk (below_step (by repeat (first | (with_reducible first | exact HB.out | apply below_alloc | apply pw_below_drewN | apply below_drew1 | refine below_set ?_ GE221.out) | exact HB.out)) hb); have n2_ := Aside0.mk (hbox); have n3_ := Aside0.mk ((by rw [hg]; exact (below_size (by repeat (first | (with_reducible first | exact HB.out | apply below_alloc | apply pw_below_drewN | apply below_drew1 | refine below_set ?_ GE221.out) | exact HB.out))) : w.heap.size ≤ gb222)); have n4_ := Aside0.mk ((by rw [hg]; exact (below_size (by repeat (first | (with_reducible first | exact HB.out | apply below_alloc | apply pw_below_drewN | apply below_drew1 | refine below_set ?_ GE221.out) | exact HB.out))) : w.heap.size ≤ gb222)); have n5_ := Aside0.mk ((by rw [hg]; exact Nat.ne_of_lt (blk_lt (g := gb221) (o := .cells #[.int .u32 a0_0, .int .u32 a0_1, .int .u32 a0_2, .int .u32 a0_3, .int .u32 a0_4, .int .u32 a0_5, .int .u32 a0_6, .int .u32 a0_7, .int .u32 a0_8, .int .u32 a0_9, .int .u32 a0_10, .int .u32 a0_11, .int .u32 a0_12, .int .u32 a0_13, .int .u32 a0_14, .int .u32 a0_15, .int .u32 a0_16, .int .u32 a0_17, .int .u32 a0_18, .int .u32 a0_19, .int .u32 a0_20, .int .u32 a0_21, .int .u32 a0_22, .int .u32 a0_23, .int .u32 a0_24, .int .u32 a0_25, .int .u32 a0_26, .int .u32 a0_27, .int .u32 a0_28, .bool a0_29] 35 (0, 0)) (by (with_reducible repeat (first | refine blk_drewN ?_ _ | refine blk_drew ?_ | refine blk_alloc ?_ _)); exact BK221.out)) : gb221 ≠ gb222)); have n6_ := Aside0.mk ((by rw [hg]; exact Nat.ne_of_gt (blk_lt (g := gb221) (o := .cells #[.int .u32 a0_0, .int .u32 a0_1, .int .u32 a0_2, .int .u32 a0_3, .int .u32 a0_4, .int .u32 a0_5, .int .u32 a0_6, .int .u32 a0_7, .int .u32 a0_8, .int .u32 a0_9, .int .u32 a0_10, .int .u32 a0_11, .int .u32 a0_12, .int .u32 a0_13, .int .u32 a0_14, .int .u32 a0_15, .int .u32 a0_16, .int .u32 a0_17, .int .u32 a0_18, .int .u32 a0_19, .int .u32 a0_20, .int .u32 a0_21, .int .u32 a0_22, .int .u32 a0_23, .int .u32 a0_24, .int .u32 a0_25, .int .u32 a0_26, .int .u32 a0_27, .int .u32 a0_28, .bool a0_29] 35 (0, 0)) (by (with_reducible repeat (first | refine blk_drewN ?_ _ | refine blk_drew ?_ | refine blk_alloc ?_ _)); exact BK221.out)) : gb222 ≠ gb221)); clear BK221; clear HB; have BK221 := n0_; have HB := n1_; have BK222 := n2_; have GW222 := n3_; have GE222 := n4_; have NB221_222 := n5_; have NB222_221 := n6_; clear n0_ n1_ n2_ n3_ n4_ n5_ n6_; clear hb hbox hg) | ((with_reducible refine gate_callee (f := 8) rfl ?_); refine goesL_ (some 14) rfl rfl Try.func8 (by kernel_rfl) rfl #[] rfl (by (try simp only [List.map_toArray, List.map_cons, List.map_nil]); first | done | rfl | (simp only [List.length_drop, List.length_take]; rfl)) ?_; (with_reducible refine (cotterellaw13_awake.calls k  t223 _ A5.out).mono ?_); rintro e w8 ⟨rfl, hb⟩; refine ⟨_, rfl, ?_⟩; have n0_ := Aside0.mk (blk_below (g := gb221) (o := .cells #[.int .u32 a0_0, .int .u32 a0_1, .int .u32 a0_2, .int .u32 a0_3, .int .u32 a0_4, .int .u32 a0_5, .int .u32 a0_6, .int .u32 a0_7, .int .u32 a0_8, .int .u32 a0_9, .int .u32 a0_10, .int .u32 a0_11, .int .u32 a0_12, .int .u32 a0_13, .int .u32 a0_14, .int .u32 a0_15, .int .u32 a0_16, .int .u32 a0_17, .int .u32 a0_18, .int .u32 a0_19, .int .u32 a0_20, .int .u32 a0_21, .int .u32 a0_22, .int .u32 a0_23, .int .u32 a0_24, .int .u32 a0_25, .int .u32 a0_26, .int .u32 a0_27, .int .u32 a0_28, .bool a0_29] 35 (0, 0)) (by (with_reducible repeat (first | refine blk_drewN ?_ _ | refine blk_drew ?_ | refine blk_alloc ?_ _)); exact BK221.out) hb); have n1_ := Aside0.mk (blk_below (g := gb222) (o := .cells #[.int .u32 a2_0, .int .i64 a2_1] 37 (0, 0)) (by (with_reducible repeat (first | refine blk_drewN ?_ _ | refine blk_drew ?_ | refine blk_alloc ?_ _)); exact BK222.out) hb); have n2_ := Aside0.mk (below_step (by repeat (first | (with_reducible first | exact HB.out | apply below_alloc | apply pw_below_drewN | apply below_drew1 | refine below_set ?_ GE221.out | refine below_set ?_ GE222.out) | exact HB.out)) hb); clear BK221; clear BK222; clear HB; have BK221 := n0_; have BK222 := n1_; have HB := n2_; clear n0_ n1_ n2_; (try clear hb); (try clear hb2); (try clear hk); (try clear hi)))
  go_ret
  exact ⟨by first | rfl | (simp [errW_none, errW_some] <;> rfl) | (simp [*, errW_none, errW_some] <;> rfl), by repeat (first | (with_reducible first | exact HB.out | apply below_alloc | apply pw_below_drewN | apply below_drew1 | refine below_set ?_ GE221.out | refine below_set ?_ GE222.out) | exact HB.out)⟩
 ·rw [if_neg c4] at H
  have c4b0 : decide (4096 < (l1.length : Int)) = false := decide_eq_false c4
  have c4b1 : decide (4096 < l1.length) = false := decide_eq_false (by omega)
  clear c4
  replace H := Option.bind_eq_some_iff.mp H
  obtain ⟨⟨t224, t225⟩, A90, H⟩ := H
  replace H : ((cotterelref13_Trans.f k a0_0 a0_1 a0_2 a0_3 a0_4 a0_5 a0_6 a0_7 a0_8 a0_9 a0_10 a0_11 a0_12 a0_13 a0_14 a0_15 a0_16 a0_17 a0_18 a0_19 a0_20 a0_21 a0_22 a0_23 a0_24 a0_25 a0_26 a0_27 a0_28 a0_29 l1 a2_0 a2_1).bind fun bt226 => (if t224 = bt226.1 then (if t225 = bt226.2 then ((walk_Paged.f a0_0 a0_1 a0_2 a0_3 a0_4 a0_5 a0_6 a0_7 a0_8 a0_9 a0_10 a0_11 a0_12 a0_13 a0_14 a0_15 a0_16 a0_17 a0_18 a0_19 a0_20 a0_21 a0_22 a0_23 a0_24 a0_25 a0_26 a0_27 a0_28 a0_29).bind fun t228 => ((cotterelref13_Paged.f a0_0 a0_1 a0_2 a0_3 a0_4 a0_5 a0_6 a0_7 a0_8 a0_9 a0_10 a0_11 a0_12 a0_13 a0_14 a0_15 a0_16 a0_17 a0_18 a0_19 a0_20 a0_21 a0_22 a0_23 a0_24 a0_25 a0_26 a0_27 a0_28 a0_29).bind fun t229 => (if (t228 == t229) = true then ((walk_Fault.f a2_1).bind fun t230 => ((cotterelref13_Fault.f a2_1).bind fun t231 => (if t230 = t231 then ((cotterellaw13_awake.f k).bind fun t232 => (some t232)) else (none)))) else (none)))) else (none)) else (none))) = some r := H
  have A9 := Aside0.mk A90
  clear A90
  replace H := Option.bind_eq_some_iff.mp H
  obtain ⟨⟨t226, t227⟩, A100, H⟩ := H
  replace H : (if t224 = t226 then (if t225 = t227 then ((walk_Paged.f a0_0 a0_1 a0_2 a0_3 a0_4 a0_5 a0_6 a0_7 a0_8 a0_9 a0_10 a0_11 a0_12 a0_13 a0_14 a0_15 a0_16 a0_17 a0_18 a0_19 a0_20 a0_21 a0_22 a0_23 a0_24 a0_25 a0_26 a0_27 a0_28 a0_29).bind fun t228 => ((cotterelref13_Paged.f a0_0 a0_1 a0_2 a0_3 a0_4 a0_5 a0_6 a0_7 a0_8 a0_9 a0_10 a0_11 a0_12 a0_13 a0_14 a0_15 a0_16 a0_17 a0_18 a0_19 a0_20 a0_21 a0_22 a0_23 a0_24 a0_25 a0_26 a0_27 a0_28 a0_29).bind fun t229 => (if (t228 == t229) = true then ((walk_Fault.f a2_1).bind fun t230 => ((cotterelref13_Fault.f a2_1).bind fun t231 => (if t230 = t231 then ((cotterellaw13_awake.f k).bind fun t232 => (some t232)) else (none)))) else (none)))) else (none)) else (none)) = some r := H
  have A10 := Aside0.mk A100
  clear A100
  by_cases c11 : t224 = t226
  ·rw [if_pos c11] at H
   have c11b0 : (t224 == t226) = true := beq_iff_eq.mpr c11
   have c11b1 : (t224 != t226) = false := bne_eq_false_iff_eq.mpr c11
   clear c11
   by_cases c12 : t225 = t227
   ·rw [if_pos c12] at H
    have c12b0 : (t225 == t227) = true := beq_iff_eq.mpr c12
    have c12b1 : (t225 != t227) = false := bne_eq_false_iff_eq.mpr c12
    clear c12
    replace H := Option.bind_eq_some_iff.mp H
    obtain ⟨t228, A130, H⟩ := H
    replace H : ((cotterelref13_Paged.f a0_0 a0_1 a0_2 a0_3 a0_4 a0_5 a0_6 a0_7 a0_8 a0_9 a0_10 a0_11 a0_12 a0_13 a0_14 a0_15 a0_16 a0_17 a0_18 a0_19 a0_20 a0_21 a0_22 a0_23 a0_24 a0_25 a0_26 a0_27 a0_28 a0_29).bind fun t229 => (if (t228 == t229) = true then ((walk_Fault.f a2_1).bind fun t230 => ((cotterelref13_Fault.f a2_1).bind fun t231 => (if t230 = t231 then ((cotterellaw13_awake.f k).bind fun t232 => (some t232)) else (none)))) else (none))) = some r := H
    have A13 := Aside0.mk A130
    clear A130
    replace H := Option.bind_eq_some_iff.mp H
    obtain ⟨t229, A140, H⟩ := H
    replace H : (if (t228 == t229) = true then ((walk_Fault.f a2_1).bind fun t230 => ((cotterelref13_Fault.f a2_1).bind fun t231 => (if t230 = t231 then ((cotterellaw13_awake.f k).bind fun t232 => (some t232)) else (none)))) else (none)) = some r := H
    have A14 := Aside0.mk A140
    clear A140
    by_cases c15 : (t228 == t229) = true
    ·rw [if_pos c15] at H
     have c15b0 : (t228 == t229) = true := c15
     (try (have c15b1 : decide (t228 = t229) = true := by simpa using c15))
     (try (have c15b2 : (t228 == t229) = true := by simpa using c15))
     clear c15
     replace H := Option.bind_eq_some_iff.mp H
     obtain ⟨t230, A160, H⟩ := H
     replace H : ((cotterelref13_Fault.f a2_1).bind fun t231 => (if t230 = t231 then ((cotterellaw13_awake.f k).bind fun t232 => (some t232)) else (none))) = some r := H
     have A16 := Aside0.mk A160
     clear A160
     replace H := Option.bind_eq_some_iff.mp H
     obtain ⟨t231, A170, H⟩ := H
     replace H : (if t230 = t231 then ((cotterellaw13_awake.f k).bind fun t232 => (some t232)) else (none)) = some r := H
     have A17 := Aside0.mk A170
     clear A170
     by_cases c18 : t230 = t231
     ·rw [if_pos c18] at H
      have c18b0 : (t230 == t231) = true := beq_iff_eq.mpr c18
      have c18b1 : (t230 != t231) = false := bne_eq_false_iff_eq.mpr c18
      clear c18
      replace H := Option.bind_eq_some_iff.mp H
      obtain ⟨t232, A190, H⟩ := H
      replace H : (some t232) = some r := H
      have A19 := Aside0.mk A190
      (try (have e_ := Option.some.inj (A5.out.symm.trans A190); subst e_))
      clear A190
      obtain rfl := Option.some.inj H
      go_enter Try.func4, Try.ntmps4
      try go_wp2_with (first | ((with_reducible refine gate_dst (N := 46) rfl ?_); refine Go.Proofs.Ytmkipjmadmjfaaa.Cp.load_whole 35 (.tmp 3) gb221 rfl rfl rfl (by (with_reducible repeat (first | refine blk_drewN ?_ _ | refine blk_drew ?_ | refine blk_alloc ?_ _)); exact BK221.out) Try.underlying35 rfl (by kernel_rfl) ?_) | ((with_reducible refine gate_dst (N := 44) rfl ?_); refine Go.Proofs.Ytmkipjmadmjfaaa.Cp.load_whole 35 (.tmp 3) gb221 rfl rfl rfl (by (with_reducible repeat (first | refine blk_drewN ?_ _ | refine blk_drew ?_ | refine blk_alloc ?_ _)); exact BK221.out) Try.underlying35 rfl (by kernel_rfl) ?_) | ((with_reducible refine gate_dst (N := 26) rfl ?_); refine Go.Proofs.Ytmkipjmadmjfaaa.Cp.load_whole 35 (.tmp 3) gb221 rfl rfl rfl (by (with_reducible repeat (first | refine blk_drewN ?_ _ | refine blk_drew ?_ | refine blk_alloc ?_ _)); exact BK221.out) Try.underlying35 rfl (by kernel_rfl) ?_) | ((with_reducible refine gate_dst (N := 16) rfl ?_); refine Go.Proofs.Ytmkipjmadmjfaaa.Cp.load_whole 35 (.tmp 3) gb221 rfl rfl rfl (by (with_reducible repeat (first | refine blk_drewN ?_ _ | refine blk_drew ?_ | refine blk_alloc ?_ _)); exact BK221.out) Try.underlying35 rfl (by kernel_rfl) ?_) | ((with_reducible refine gate_dst (N := 3) rfl ?_); refine box_event ?hg (N := 3) ?hd (cs := #[.int .u32 a0_0, .int .u32 a0_1, .int .u32 a0_2, .int .u32 a0_3, .int .u32 a0_4, .int .u32 a0_5, .int .u32 a0_6, .int .u32 a0_7, .int .u32 a0_8, .int .u32 a0_9, .int .u32 a0_10, .int .u32 a0_11, .int .u32 a0_12, .int .u32 a0_13, .int .u32 a0_14, .int .u32 a0_15, .int .u32 a0_16, .int .u32 a0_17, .int .u32 a0_18, .int .u32 a0_19, .int .u32 a0_20, .int .u32 a0_21, .int .u32 a0_22, .int .u32 a0_23, .int .u32 a0_24, .int .u32 a0_25, .int .u32 a0_26, .int .u32 a0_27, .int .u32 a0_28, .bool a0_29]) (t := 35) ?hr ?_; (case hd => rfl); (case hg => rfl); (case hr => first | (go_simp; done) | (go_simp; rfl)); intro gb221 hg w20 hbox hb; have n0_ := Aside0.mk (below_step (by repeat (first | (with_reducible first | exact HB.out | apply below_alloc | apply pw_below_drewN | apply below_drew1) | exact HB.out)) hb); have n1_ := Aside0.mk (hbox); have n2_ := Aside0.mk ((by rw [hg]; exact (below_size (by repeat (first | (with_reducible first | exact HB.out | apply below_alloc | apply pw_below_drewN | apply below_drew1) | exact HB.out))) : w.heap.size ≤ gb221)); have n3_ := Aside0.mk ((by rw [hg]; exact (below_size (by repeat (first | (with_reducible first | exact HB.out | apply below_alloc | apply pw_below_drewN | apply below_drew1) | exact HB.out))) : w.heap.size ≤ gb221)); clear HB; have HB := n0_; have BK221 := n1_; have GW221 := n2_; have GE221 := n3_; clear n0_ n1_ n2_ n3_; clear hb hbox hg) | ((with_reducible refine gate_dst (N := 5) rfl ?_); refine box_event ?hg (N := 5) ?hd (cs := #[.int .u32 a2_0, .int .i64 a2_1]) (t := 37) ?hr ?_; (case hd => rfl); (case hg => rfl); (case hr => first | (go_simp; done) | (go_simp; rfl)); intro gb222 hg w21 hbox hb; have n0_ := Aside0.mk (blk_below (g := gb221) (o := .cells #[.int .u32 a0_0, .int .u32 a0_1, .int .u32 a0_2, .int .u32 a0_3, .int .u32 a0_4, .int .u32 a0_5, .int .u32 a0_6, .int .u32 a0_7, .int .u32 a0_8, .int .u32 a0_9, .int .u32 a0_10, .int .u32 a0_11, .int .u32 a0_12, .int .u32 a0_13, .int .u32 a0_14, .int .u32 a0_15, .int .u32 a0_16, .int .u32 a0_17, .int .u32 a0_18, .int .u32 a0_19, .int .u32 a0_20, .int .u32 a0_21, .int .u32 a0_22, .int .u32 a0_23, .int .u32 a0_24, .int .u32 a0_25, .int .u32 a0_26, .int .u32 a0_27, .int .u32 a0_28, .bool a0_29] 35 (0, 0)) (by (with_reducible repeat (first | refine blk_drewN ?_ _ | refine blk_drew ?_ | refine blk_alloc ?_ _)); exact BK221.out) hb); have n1_ := Aside0.mk (below_step (by repeat (first | (with_reducible first | exact HB.out | apply below_alloc | apply pw_below_drewN | apply below_drew1 | refine below_set ?_ GE221.out) | exact HB.out)) hb); have n2_ := Aside0.mk (hbox); have n3_ := Aside0.mk ((by rw [hg]; exact (below_size (by repeat (first | (with_reducible first | exact HB.out | apply below_alloc | apply pw_below_drewN | apply below_drew1 | refine below_set ?_ GE221.out) | exact HB.out))) : w.heap.size ≤ gb222)); have n4_ := Aside0.mk ((by rw [hg]; exact (below_size (by repeat (first | (with_reducible first | exact HB.out | apply below_alloc | apply pw_below_drewN | apply below_drew1 | refine below_set ?_ GE221.out) | exact HB.out))) : w.heap.size ≤ gb222)); have n5_ := Aside0.mk ((by rw [hg]; exact Nat.ne_of_lt (blk_lt (g := gb221) (o := .cells #[.int .u32 a0_0, .int .u32 a0_1, .int .u32 a0_2, .int .u32 a0_3, .int .u32 a0_4, .int .u32 a0_5, .int .u32 a0_6, .int .u32 a0_7, .int .u32 a0_8, .int .u32 a0_9, .int .u32 a0_10, .int .u32 a0_11, .int .u32 a0_12, .int .u32 a0_13, .int .u32 a0_14, .int .u32 a0_15, .int .u32 a0_16, .int .u32 a0_17, .int .u32 a0_18, .int .u32 a0_19, .int .u32 a0_20, .int .u32 a0_21, .int .u32 a0_22, .int .u32 a0_23, .int .u32 a0_24, .int .u32 a0_25, .int .u32 a0_26, .int .u32 a0_27, .int .u32 a0_28, .bool a0_29] 35 (0, 0)) (by (with_reducible repeat (first | refine blk_drewN ?_ _ | refine blk_drew ?_ | refine blk_alloc ?_ _)); exact BK221.out)) : gb221 ≠ gb222)); have n6_ := Aside0.mk ((by rw [hg]; exact Nat.ne_of_gt (blk_lt (g := gb221) (o := .cells #[.int .u32 a0_0, .int .u32 a0_1, .int .u32 a0_2, .int .u32 a0_3, .int .u32 a0_4, .int .u32 a0_5, .int .u32 a0_6, .int .u32 a0_7, .int .u32 a0_8, .int .u32 a0_9, .int .u32 a0_10, .int .u32 a0_11, .int .u32 a0_12, .int .u32 a0_13, .int .u32 a0_14, .int .u32 a0_15, .int .u32 a0_16, .int .u32 a0_17, .int .u32 a0_18, .int .u32 a0_19, .int .u32 a0_20, .int .u32 a0_21, .int .u32 a0_22, .int .u32 a0_23, .int .u32 a0_24, .int .u32 a0_25, .int .u32 a0_26, .int .u32 a0_27, .int .u32 a0_28, .bool a0_29] 35 (0, 0)) (by (with_reducible repeat (first | refine blk_drewN ?_ _ | refine blk_drew ?_ | refine blk_alloc ?_ _)); exact BK221.out)) : gb222 ≠ gb221)); clear BK221; clear HB; have BK221 := n0_; have HB := n1_; have BK222 := n2_; have GW222 := n3_; have GE222 := n4_; have NB221_222 := n5_; have NB222_221 := n6_; clear n0_ n1_ n2_ n3_ n4_ n5_ n6_; clear hb hbox hg; have hnb22 := NB221_222.out; have hnc22 := NB222_221.out; have hcz23_0 : w21.cell? ⟨gb221, 0, none⟩ = some (.int .u32 a0_0) := (blk_cell BK221.out 0).trans rfl; have hcz23_1 : w21.cell? ⟨gb221, 1, none⟩ = some (.int .u32 a0_1) := (blk_cell BK221.out 1).trans rfl; have hcz23_2 : w21.cell? ⟨gb221, 2, none⟩ = some (.int .u32 a0_2) := (blk_cell BK221.out 2).trans rfl; have hcz23_3 : w21.cell? ⟨gb221, 3, none⟩ = some (.int .u32 a0_3) := (blk_cell BK221.out 3).trans rfl; have hcz23_4 : w21.cell? ⟨gb221, 4, none⟩ = some (.int .u32 a0_4) := (blk_cell BK221.out 4).trans rfl; have hcz23_5 : w21.cell? ⟨gb221, 5, none⟩ = some (.int .u32 a0_5) := (blk_cell BK221.out 5).trans rfl; have hcz23_6 : w21.cell? ⟨gb221, 6, none⟩ = some (.int .u32 a0_6) := (blk_cell BK221.out 6).trans rfl; have hcz23_7 : w21.cell? ⟨gb221, 7, none⟩ = some (.int .u32 a0_7) := (blk_cell BK221.out 7).trans rfl; have hcz23_8 : w21.cell? ⟨gb221, 8, none⟩ = some (.int .u32 a0_8) := (blk_cell BK221.out 8).trans rfl; have hcz23_9 : w21.cell? ⟨gb221, 9, none⟩ = some (.int .u32 a0_9) := (blk_cell BK221.out 9).trans rfl; have hcz23_10 : w21.cell? ⟨gb221, 10, none⟩ = some (.int .u32 a0_10) := (blk_cell BK221.out 10).trans rfl; have hcz23_11 : w21.cell? ⟨gb221, 11, none⟩ = some (.int .u32 a0_11) := (blk_cell BK221.out 11).trans rfl; have hcz23_12 : w21.cell? ⟨gb221, 12, none⟩ = some (.int .u32 a0_12) := (blk_cell BK221.out 12).trans rfl; have hcz23_13 : w21.cell? ⟨gb221, 13, none⟩ = some (.int .u32 a0_13) := (blk_cell BK221.out 13).trans rfl; have hcz23_14 : w21.cell? ⟨gb221, 14, none⟩ = some (.int .u32 a0_14) := (blk_cell BK221.out 14).trans rfl; have hcz23_15 : w21.cell? ⟨gb221, 15, none⟩ = some (.int .u32 a0_15) := (blk_cell BK221.out 15).trans rfl; have hcz23_16 : w21.cell? ⟨gb221, 16, none⟩ = some (.int .u32 a0_16) := (blk_cell BK221.out 16).trans rfl; have hcz23_17 : w21.cell? ⟨gb221, 17, none⟩ = some (.int .u32 a0_17) := (blk_cell BK221.out 17).trans rfl; have hcz23_18 : w21.cell? ⟨gb221, 18, none⟩ = some (.int .u32 a0_18) := (blk_cell BK221.out 18).trans rfl; have hcz23_19 : w21.cell? ⟨gb221, 19, none⟩ = some (.int .u32 a0_19) := (blk_cell BK221.out 19).trans rfl; have hcz23_20 : w21.cell? ⟨gb221, 20, none⟩ = some (.int .u32 a0_20) := (blk_cell BK221.out 20).trans rfl; have hcz23_21 : w21.cell? ⟨gb221, 21, none⟩ = some (.int .u32 a0_21) := (blk_cell BK221.out 21).trans rfl; have hcz23_22 : w21.cell? ⟨gb221, 22, none⟩ = some (.int .u32 a0_22) := (blk_cell BK221.out 22).trans rfl; have hcz23_23 : w21.cell? ⟨gb221, 23, none⟩ = some (.int .u32 a0_23) := (blk_cell BK221.out 23).trans rfl; have hcz23_24 : w21.cell? ⟨gb221, 24, none⟩ = some (.int .u32 a0_24) := (blk_cell BK221.out 24).trans rfl; have hcz23_25 : w21.cell? ⟨gb221, 25, none⟩ = some (.int .u32 a0_25) := (blk_cell BK221.out 25).trans rfl; have hcz23_26 : w21.cell? ⟨gb221, 26, none⟩ = some (.int .u32 a0_26) := (blk_cell BK221.out 26).trans rfl; have hcz23_27 : w21.cell? ⟨gb221, 27, none⟩ = some (.int .u32 a0_27) := (blk_cell BK221.out 27).trans rfl; have hcz23_28 : w21.cell? ⟨gb221, 28, none⟩ = some (.int .u32 a0_28) := (blk_cell BK221.out 28).trans rfl; have hcz23_29 : w21.cell? ⟨gb221, 29, none⟩ = some (.bool a0_29) := (blk_cell BK221.out 29).trans rfl; have hcz24_0 : w21.cell? ⟨gb222, 0, none⟩ = some (.int .u32 a2_0) := (blk_cell BK222.out 0).trans rfl; have hcz24_1 : w21.cell? ⟨gb222, 1, none⟩ = some (.int .i64 a2_1) := (blk_cell BK222.out 1).trans rfl; have hfz24_0 := blk_frozen BK222.out 0; have hfz24_1 := blk_frozen BK222.out 1) | ((with_reducible refine gate_callee (f := 12) rfl ?_); refine goesL_ (some 22) rfl rfl Try.func12 (by kernel_rfl) rfl #[.agg #[.int .u32 a0_0, .int .u32 a0_1, .int .u32 a0_2, .int .u32 a0_3, .int .u32 a0_4, .int .u32 a0_5, .int .u32 a0_6, .int .u32 a0_7, .int .u32 a0_8, .int .u32 a0_9, .int .u32 a0_10, .int .u32 a0_11, .int .u32 a0_12, .int .u32 a0_13, .int .u32 a0_14, .int .u32 a0_15, .int .u32 a0_16, .int .u32 a0_17, .int .u32 a0_18, .int .u32 a0_19, .int .u32 a0_20, .int .u32 a0_21, .int .u32 a0_22, .int .u32 a0_23, .int .u32 a0_24, .int .u32 a0_25, .int .u32 a0_26, .int .u32 a0_27, .int .u32 a0_28, .bool a0_29], .slice A1 l1.length c1, .int .u32 a2_0, .int .i64 a2_1] rfl (by (try simp only [List.map_toArray, List.map_cons, List.map_nil]); first | done | rfl | (simp only [List.length_drop, List.length_take]; rfl)) ?_; (with_reducible refine (walk_Trans.calls k a0_0 a0_1 a0_2 a0_3 a0_4 a0_5 a0_6 a0_7 a0_8 a0_9 a0_10 a0_11 a0_12 a0_13 a0_14 a0_15 a0_16 a0_17 a0_18 a0_19 a0_20 a0_21 a0_22 a0_23 a0_24 a0_25 a0_26 a0_27 a0_28 a0_29 _ _ l1 a2_0 a2_1 t224 t225 _ ?side1 ?side2 A9.out).mono ?_); (case side1 => repeat (first | exact (Kd.C_below HR1.out HB.out) | (with_reducible refine Kd.C_alloc ?_ _) | (with_reducible refine Kd.C_drewN ?_ _) | (with_reducible refine Kd.C_drew ?_))); (case side2 => exact HC1.out); rintro e w25 ⟨rfl, hb⟩; refine ⟨_, rfl, ?_⟩; have n0_ := Aside0.mk (blk_below (g := gb221) (o := .cells #[.int .u32 a0_0, .int .u32 a0_1, .int .u32 a0_2, .int .u32 a0_3, .int .u32 a0_4, .int .u32 a0_5, .int .u32 a0_6, .int .u32 a0_7, .int .u32 a0_8, .int .u32 a0_9, .int .u32 a0_10, .int .u32 a0_11, .int .u32 a0_12, .int .u32 a0_13, .int .u32 a0_14, .int .u32 a0_15, .int .u32 a0_16, .int .u32 a0_17, .int .u32 a0_18, .int .u32 a0_19, .int .u32 a0_20, .int .u32 a0_21, .int .u32 a0_22, .int .u32 a0_23, .int .u32 a0_24, .int .u32 a0_25, .int .u32 a0_26, .int .u32 a0_27, .int .u32 a0_28, .bool a0_29] 35 (0, 0)) (by (with_reducible repeat (first | refine blk_drewN ?_ _ | refine blk_drew ?_ | refine blk_alloc ?_ _)); exact BK221.out) hb); have n1_ := Aside0.mk (blk_below (g := gb222) (o := .cells #[.int .u32 a2_0, .int .i64 a2_1] 37 (0, 0)) (by (with_reducible repeat (first | refine blk_drewN ?_ _ | refine blk_drew ?_ | refine blk_alloc ?_ _)); exact BK222.out) hb); have n2_ := Aside0.mk (below_step (by repeat (first | (with_reducible first | exact HB.out | apply below_alloc | apply pw_below_drewN | apply below_drew1 | refine below_set ?_ GE221.out | refine below_set ?_ GE222.out) | exact HB.out)) hb); clear BK221; clear BK222; clear HB; have BK221 := n0_; have BK222 := n1_; have HB := n2_; clear n0_ n1_ n2_; (try clear hb); (try clear hb2); (try clear hk); (try clear hi); have hcz26_0 : w25.cell? ⟨gb221, 0, none⟩ = some (.int .u32 a0_0) := (blk_cell BK221.out 0).trans rfl; have hcz26_1 : w25.cell? ⟨gb221, 1, none⟩ = some (.int .u32 a0_1) := (blk_cell BK221.out 1).trans rfl; have hcz26_2 : w25.cell? ⟨gb221, 2, none⟩ = some (.int .u32 a0_2) := (blk_cell BK221.out 2).trans rfl; have hcz26_3 : w25.cell? ⟨gb221, 3, none⟩ = some (.int .u32 a0_3) := (blk_cell BK221.out 3).trans rfl; have hcz26_4 : w25.cell? ⟨gb221, 4, none⟩ = some (.int .u32 a0_4) := (blk_cell BK221.out 4).trans rfl; have hcz26_5 : w25.cell? ⟨gb221, 5, none⟩ = some (.int .u32 a0_5) := (blk_cell BK221.out 5).trans rfl; have hcz26_6 : w25.cell? ⟨gb221, 6, none⟩ = some (.int .u32 a0_6) := (blk_cell BK221.out 6).trans rfl; have hcz26_7 : w25.cell? ⟨gb221, 7, none⟩ = some (.int .u32 a0_7) := (blk_cell BK221.out 7).trans rfl; have hcz26_8 : w25.cell? ⟨gb221, 8, none⟩ = some (.int .u32 a0_8) := (blk_cell BK221.out 8).trans rfl; have hcz26_9 : w25.cell? ⟨gb221, 9, none⟩ = some (.int .u32 a0_9) := (blk_cell BK221.out 9).trans rfl; have hcz26_10 : w25.cell? ⟨gb221, 10, none⟩ = some (.int .u32 a0_10) := (blk_cell BK221.out 10).trans rfl; have hcz26_11 : w25.cell? ⟨gb221, 11, none⟩ = some (.int .u32 a0_11) := (blk_cell BK221.out 11).trans rfl; have hcz26_12 : w25.cell? ⟨gb221, 12, none⟩ = some (.int .u32 a0_12) := (blk_cell BK221.out 12).trans rfl; have hcz26_13 : w25.cell? ⟨gb221, 13, none⟩ = some (.int .u32 a0_13) := (blk_cell BK221.out 13).trans rfl; have hcz26_14 : w25.cell? ⟨gb221, 14, none⟩ = some (.int .u32 a0_14) := (blk_cell BK221.out 14).trans rfl; have hcz26_15 : w25.cell? ⟨gb221, 15, none⟩ = some (.int .u32 a0_15) := (blk_cell BK221.out 15).trans rfl; have hcz26_16 : w25.cell? ⟨gb221, 16, none⟩ = some (.int .u32 a0_16) := (blk_cell BK221.out 16).trans rfl; have hcz26_17 : w25.cell? ⟨gb221, 17, none⟩ = some (.int .u32 a0_17) := (blk_cell BK221.out 17).trans rfl; have hcz26_18 : w25.cell? ⟨gb221, 18, none⟩ = some (.int .u32 a0_18) := (blk_cell BK221.out 18).trans rfl; have hcz26_19 : w25.cell? ⟨gb221, 19, none⟩ = some (.int .u32 a0_19) := (blk_cell BK221.out 19).trans rfl; have hcz26_20 : w25.cell? ⟨gb221, 20, none⟩ = some (.int .u32 a0_20) := (blk_cell BK221.out 20).trans rfl; have hcz26_21 : w25.cell? ⟨gb221, 21, none⟩ = some (.int .u32 a0_21) := (blk_cell BK221.out 21).trans rfl; have hcz26_22 : w25.cell? ⟨gb221, 22, none⟩ = some (.int .u32 a0_22) := (blk_cell BK221.out 22).trans rfl; have hcz26_23 : w25.cell? ⟨gb221, 23, none⟩ = some (.int .u32 a0_23) := (blk_cell BK221.out 23).trans rfl; have hcz26_24 : w25.cell? ⟨gb221, 24, none⟩ = some (.int .u32 a0_24) := (blk_cell BK221.out 24).trans rfl; have hcz26_25 : w25.cell? ⟨gb221, 25, none⟩ = some (.int .u32 a0_25) := (blk_cell BK221.out 25).trans rfl; have hcz26_26 : w25.cell? ⟨gb221, 26, none⟩ = some (.int .u32 a0_26) := (blk_cell BK221.out 26).trans rfl; have hcz26_27 : w25.cell? ⟨gb221, 27, none⟩ = some (.int .u32 a0_27) := (blk_cell BK221.out 27).trans rfl; have hcz26_28 : w25.cell? ⟨gb221, 28, none⟩ = some (.int .u32 a0_28) := (blk_cell BK221.out 28).trans rfl; have hcz26_29 : w25.cell? ⟨gb221, 29, none⟩ = some (.bool a0_29) := (blk_cell BK221.out 29).trans rfl; have hcz27_0 : w25.cell? ⟨gb222, 0, none⟩ = some (.int .u32 a2_0) := (blk_cell BK222.out 0).trans rfl; have hcz27_1 : w25.cell? ⟨gb222, 1, none⟩ = some (.int .i64 a2_1) := (blk_cell BK222.out 1).trans rfl; have hfz27_0 := blk_frozen BK222.out 0; have hfz27_1 := blk_frozen BK222.out 1) | ((with_reducible refine gate_callee (f := 13) rfl ?_); refine goesL_ (some 32) rfl rfl Try.func13 (by kernel_rfl) rfl #[.agg #[.int .u32 a0_0, .int .u32 a0_1, .int .u32 a0_2, .int .u32 a0_3, .int .u32 a0_4, .int .u32 a0_5, .int .u32 a0_6, .int .u32 a0_7, .int .u32 a0_8, .int .u32 a0_9, .int .u32 a0_10, .int .u32 a0_11, .int .u32 a0_12, .int .u32 a0_13, .int .u32 a0_14, .int .u32 a0_15, .int .u32 a0_16, .int .u32 a0_17, .int .u32 a0_18, .int .u32 a0_19, .int .u32 a0_20, .int .u32 a0_21, .int .u32 a0_22, .int .u32 a0_23, .int .u32 a0_24, .int .u32 a0_25, .int .u32 a0_26, .int .u32 a0_27, .int .u32 a0_28, .bool a0_29], .slice A1 l1.length c1, .int .u32 a2_0, .int .i64 a2_1] rfl (by (try simp only [List.map_toArray, List.map_cons, List.map_nil]); first | done | rfl | (simp only [List.length_drop, List.length_take]; rfl)) ?_; (with_reducible refine (cotterelref13_Trans.calls k a0_0 a0_1 a0_2 a0_3 a0_4 a0_5 a0_6 a0_7 a0_8 a0_9 a0_10 a0_11 a0_12 a0_13 a0_14 a0_15 a0_16 a0_17 a0_18 a0_19 a0_20 a0_21 a0_22 a0_23 a0_24 a0_25 a0_26 a0_27 a0_28 a0_29 _ _ l1 a2_0 a2_1 t226 t227 _ ?side1 ?side2 A10.out).mono ?_); (case side1 => repeat (first | exact (Kd.C_below HR1.out HB.out) | (with_reducible refine Kd.C_alloc ?_ _) | (with_reducible refine Kd.C_drewN ?_ _) | (with_reducible refine Kd.C_drew ?_))); (case side2 => exact HC1.out); rintro e w28 ⟨rfl, hb⟩; refine ⟨_, rfl, ?_⟩; have n0_ := Aside0.mk (blk_below (g := gb221) (o := .cells #[.int .u32 a0_0, .int .u32 a0_1, .int .u32 a0_2, .int .u32 a0_3, .int .u32 a0_4, .int .u32 a0_5, .int .u32 a0_6, .int .u32 a0_7, .int .u32 a0_8, .int .u32 a0_9, .int .u32 a0_10, .int .u32 a0_11, .int .u32 a0_12, .int .u32 a0_13, .int .u32 a0_14, .int .u32 a0_15, .int .u32 a0_16, .int .u32 a0_17, .int .u32 a0_18, .int .u32 a0_19, .int .u32 a0_20, .int .u32 a0_21, .int .u32 a0_22, .int .u32 a0_23, .int .u32 a0_24, .int .u32 a0_25, .int .u32 a0_26, .int .u32 a0_27, .int .u32 a0_28, .bool a0_29] 35 (0, 0)) (by (with_reducible repeat (first | refine blk_drewN ?_ _ | refine blk_drew ?_ | refine blk_alloc ?_ _)); exact BK221.out) hb); have n1_ := Aside0.mk (blk_below (g := gb222) (o := .cells #[.int .u32 a2_0, .int .i64 a2_1] 37 (0, 0)) (by (with_reducible repeat (first | refine blk_drewN ?_ _ | refine blk_drew ?_ | refine blk_alloc ?_ _)); exact BK222.out) hb); have n2_ := Aside0.mk (below_step (by repeat (first | (with_reducible first | exact HB.out | apply below_alloc | apply pw_below_drewN | apply below_drew1 | refine below_set ?_ GE221.out | refine below_set ?_ GE222.out) | exact HB.out)) hb); clear BK221; clear BK222; clear HB; have BK221 := n0_; have BK222 := n1_; have HB := n2_; clear n0_ n1_ n2_; (try clear hb); (try clear hb2); (try clear hk); (try clear hi)))
      have n0_ := Aside0.mk (blk_drew BK221.out)
      have n1_ := Aside0.mk (blk_drew BK222.out)
      have n2_ := Aside0.mk (below_drew1 HB.out)
      clear BK221
      clear BK222
      clear HB
      have BK221 := n0_
      have BK222 := n1_
      have HB := n2_
      clear n0_ n1_ n2_
      refine start_ (n := 28) (S := fun w' => w'.heap[gb221]? = some (.cells #[.int .u32 a0_0, .int .u32 a0_1, .int .u32 a0_2, .int .u32 a0_3, .int .u32 a0_4, .int .u32 a0_5, .int .u32 a0_6, .int .u32 a0_7, .int .u32 a0_8, .int .u32 a0_9, .int .u32 a0_10, .int .u32 a0_11, .int .u32 a0_12, .int .u32 a0_13, .int .u32 a0_14, .int .u32 a0_15, .int .u32 a0_16, .int .u32 a0_17, .int .u32 a0_18, .int .u32 a0_19, .int .u32 a0_20, .int .u32 a0_21, .int .u32 a0_22, .int .u32 a0_23, .int .u32 a0_24, .int .u32 a0_25, .int .u32 a0_26, .int .u32 a0_27, .int .u32 a0_28, .bool a0_29] 35 (0, 0)) ∧ w'.cell? ⟨gb222, 0, none⟩ = some (.int .u32 a2_0) ∧ w'.cell? ⟨gb222, 1, none⟩ = some (.int .i64 a2_1)) (ds := []) (bf 28 0x0) (by kernel_rfl) rfl rfl ⟨BK221.out, (blk_cell BK222.out 0).trans rfl, (blk_cell BK222.out 1).trans rfl⟩ (fun hHeld => ?_); refine with_tabW cotterellaw13_WalkTrans.tab5 cotterellaw13_WalkTrans.bits5 (fun HT_ HW_ => ?_)
      generalize w28.drew = w29 at BK221 BK222 HB hHeld ⊢
      refine pure_ (i := 0) (N := some 35) (v := ?_) (a' := ?_) (bf 28 0x1) rfl rfl (any_of HT_.out (by kernel_rfl)) (fun _ _ _ h => h) (Or.inl ⟨by rfl, ?_⟩) ?_ ?_
      rotate_left; (intro w'; go_simp; with_reducible rfl); rotate_left; (simp only [Act.put, List.setIfInBounds_toArray, List.set_cons_zero, List.set_cons_succ, i64_w, i32_w, IntKind.wrap_u32]; rfl)
      refine pure_ (i := 1) (N := some 36) (v := ?_) (a' := ?_) (bf 28 0x3) rfl rfl (any_of HT_.out (by kernel_rfl)) (fun _ _ _ h => h) (Or.inl ⟨by rfl, ?_⟩) ?_ ?_
      rotate_left; (intro w'; go_simp; with_reducible rfl); rotate_left; (simp only [Act.put, List.setIfInBounds_toArray, List.set_cons_zero, List.set_cons_succ, i64_w, i32_w, IntKind.wrap_u32]; rfl)
      refine pure_ (i := 2) (N := some 37) (v := ?_) (a' := ?_) (bf 28 0x7) rfl rfl (any_of HT_.out (by kernel_rfl)) (fun _ _ _ h => h) (Or.inl ⟨by rfl, ?_⟩) ?_ ?_
      rotate_left; (intro w'; go_simp; with_reducible rfl); rotate_left; (simp only [Act.put, List.setIfInBounds_toArray, List.set_cons_zero, List.set_cons_succ, i64_w, i32_w, IntKind.wrap_u32]; rfl)
      refine pure_ (i := 3) (N := some 38) (v := ?_) (a' := ?_) (bf 28 0xf) rfl rfl (any_of HT_.out (by kernel_rfl)) (fun _ _ _ h => h) (Or.inl ⟨by rfl, ?_⟩) ?_ ?_
      rotate_left; (intro w'; go_simp; with_reducible rfl); rotate_left; (simp only [Act.put, List.setIfInBounds_toArray, List.set_cons_zero, List.set_cons_succ, i64_w, i32_w, IntKind.wrap_u32]; rfl)
      refine pure_ (i := 4) (N := some 39) (v := ?_) (a' := ?_) (bf 28 0x1f) rfl rfl (any_of HT_.out (by kernel_rfl)) (fun _ _ _ h => h) (Or.inl ⟨by rfl, ?_⟩) ?_ ?_
      rotate_left; (intro w'; go_simp; with_reducible rfl); rotate_left; (simp only [Act.put, List.setIfInBounds_toArray, List.set_cons_zero, List.set_cons_succ, i64_w, i32_w, IntKind.wrap_u32]; rfl)
      refine pure_ (i := 5) (N := some 40) (v := ?_) (a' := ?_) (bf 28 0x3f) rfl rfl (any_of HT_.out (by kernel_rfl)) (fun _ _ _ h => h) (Or.inl ⟨by rfl, ?_⟩) ?_ ?_
      rotate_left; (intro w'; go_simp; with_reducible rfl); rotate_left; (simp only [Act.put, List.setIfInBounds_toArray, List.set_cons_zero, List.set_cons_succ, i64_w, i32_w, IntKind.wrap_u32]; rfl)
      refine pure_ (i := 6) (N := some 41) (v := ?_) (a' := ?_) (bf 28 0x7f) rfl rfl (any_of HT_.out (by kernel_rfl)) (fun _ _ _ h => h) (Or.inl ⟨by rfl, ?_⟩) ?_ ?_
      rotate_left; (intro w'; go_simp; with_reducible rfl); rotate_left; (simp only [Act.put, List.setIfInBounds_toArray, List.set_cons_zero, List.set_cons_succ, i64_w, i32_w, IntKind.wrap_u32]; rfl)
      refine pure_ (i := 7) (N := some 42) (v := ?_) (a' := ?_) (bf 28 0xff) rfl rfl (any_of HT_.out (by kernel_rfl)) (fun _ _ _ h => h) (Or.inl ⟨by rfl, ?_⟩) ?_ ?_
      rotate_left; (intro w'; go_simp; with_reducible rfl); rotate_left; (simp only [Act.put, List.setIfInBounds_toArray, List.set_cons_zero, List.set_cons_succ, i64_w, i32_w, IntKind.wrap_u32]; rfl)
      refine pure_ (i := 8) (N := some 43) (v := ?_) (a' := ?_) (bf 28 0x1ff) rfl rfl (any_of HT_.out (by kernel_rfl)) (fun _ _ _ h => h) (Or.inl ⟨by rfl, ?_⟩) ?_ ?_
      rotate_left; (intro w'; go_simp; with_reducible rfl); rotate_left; (simp only [Act.put, List.setIfInBounds_toArray, List.set_cons_zero, List.set_cons_succ, i64_w, i32_w, IntKind.wrap_u32]; rfl)
      refine take_ (i := 9) (N := some 44) (v := ?_) (a' := ?_) (bf 28 0x3ff) rfl rfl (take_ofW HT_.out HW_.out (by kernel_rfl)) (fun _ _ _ h => h) (Or.inl ⟨by rfl, ?_⟩) hHeld ?_ ?_
      rotate_left
      ·rintro w' ⟨hwgb221, s30, s31⟩
       first | rw [Go.Proofs.Ytmkipjmadmjfaaa.Cp.yield_whole 35 (.tmp 3) gb221 (hg := hwgb221) (hu := Try.underlying35) (hd := rfl)]
       all_goals (first | rfl | kernel_rfl)
      rotate_left; (simp only [Act.put, List.setIfInBounds_toArray, List.set_cons_zero, List.set_cons_succ, i64_w, i32_w, IntKind.wrap_u32]; rfl)
      refine take_ (i := 11) (N := some 46) (v := ?_) (a' := ?_) (bf 28 0xbff) rfl rfl (take_ofW HT_.out HW_.out (by kernel_rfl)) (fun _ _ _ h => h) (Or.inl ⟨by rfl, ?_⟩) hHeld ?_ ?_
      rotate_left
      ·rintro w' ⟨hwgb221, s30, s31⟩
       first | rw [Go.Proofs.Ytmkipjmadmjfaaa.Cp.yield_whole 35 (.tmp 3) gb221 (hg := hwgb221) (hu := Try.underlying35) (hd := rfl)]
       all_goals (first | rfl | kernel_rfl)
      rotate_left; (simp only [Act.put, List.setIfInBounds_toArray, List.set_cons_zero, List.set_cons_succ, i64_w, i32_w, IntKind.wrap_u32]; rfl)
      refine one_ (i := 10) (N := some 45) (bf 28 0xfff) rfl rfl (one_of HT_.out (by kernel_rfl)) (by decide) (fun K hK => ?_)
      refine goes_ Try.func14 (by kernel_rfl) rfl #[.agg #[.int .u32 a0_0, .int .u32 a0_1, .int .u32 a0_2, .int .u32 a0_3, .int .u32 a0_4, .int .u32 a0_5, .int .u32 a0_6, .int .u32 a0_7, .int .u32 a0_8, .int .u32 a0_9, .int .u32 a0_10, .int .u32 a0_11, .int .u32 a0_12, .int .u32 a0_13, .int .u32 a0_14, .int .u32 a0_15, .int .u32 a0_16, .int .u32 a0_17, .int .u32 a0_18, .int .u32 a0_19, .int .u32 a0_20, .int .u32 a0_21, .int .u32 a0_22, .int .u32 a0_23, .int .u32 a0_24, .int .u32 a0_25, .int .u32 a0_26, .int .u32 a0_27, .int .u32 a0_28, .bool a0_29]] (by rfl) rfl rfl (by (try simp only [List.map_toArray, List.map_cons, List.map_nil]); first | done | rfl | (simp only [List.length_drop, List.length_take]; rfl)) ?_
      with_reducible refine (walk_Paged.calls a0_0 a0_1 a0_2 a0_3 a0_4 a0_5 a0_6 a0_7 a0_8 a0_9 a0_10 a0_11 a0_12 a0_13 a0_14 a0_15 a0_16 a0_17 a0_18 a0_19 a0_20 a0_21 a0_22 a0_23 a0_24 a0_25 a0_26 a0_27 a0_28 a0_29 t228 _ A13.out).mono ?_
      rintro e w30 ⟨rfl, hb⟩
      refine ⟨_, rfl, ?_⟩
      have n0_ := Aside0.mk (blk_below (g := gb221) (o := .cells #[.int .u32 a0_0, .int .u32 a0_1, .int .u32 a0_2, .int .u32 a0_3, .int .u32 a0_4, .int .u32 a0_5, .int .u32 a0_6, .int .u32 a0_7, .int .u32 a0_8, .int .u32 a0_9, .int .u32 a0_10, .int .u32 a0_11, .int .u32 a0_12, .int .u32 a0_13, .int .u32 a0_14, .int .u32 a0_15, .int .u32 a0_16, .int .u32 a0_17, .int .u32 a0_18, .int .u32 a0_19, .int .u32 a0_20, .int .u32 a0_21, .int .u32 a0_22, .int .u32 a0_23, .int .u32 a0_24, .int .u32 a0_25, .int .u32 a0_26, .int .u32 a0_27, .int .u32 a0_28, .bool a0_29] 35 (0, 0)) (by (with_reducible repeat (first | refine blk_drewN ?_ _ | refine blk_drew ?_ | refine blk_alloc ?_ _)); exact BK221.out) hb)
      have n1_ := Aside0.mk (blk_below (g := gb222) (o := .cells #[.int .u32 a2_0, .int .i64 a2_1] 37 (0, 0)) (by (with_reducible repeat (first | refine blk_drewN ?_ _ | refine blk_drew ?_ | refine blk_alloc ?_ _)); exact BK222.out) hb)
      have n2_ := Aside0.mk (below_step (by repeat (first | (with_reducible first | exact HB.out | apply below_alloc | apply pw_below_drewN | apply below_drew1 | refine below_set ?_ GE221.out | refine below_set ?_ GE222.out) | exact HB.out)) hb)
      clear BK221
      clear BK222
      clear HB
      have BK221 := n0_
      have BK222 := n1_
      have HB := n2_
      clear n0_ n1_ n2_
      (try clear hb)
      (try clear hb2)
      (try clear hk)
      (try clear hi)
      refine hK.out _ _ ⟨BK221.out, (blk_cell BK222.out 0).trans rfl, (blk_cell BK222.out 1).trans rfl⟩ (fun hHeld => ?_)
      clear hK K
      refine norm_ (a' := ?_) ?_ ?_
      rotate_left
      ·show Act.put _ (some 45) _ = _
       simp only [Act.put, List.setIfInBounds_toArray, List.set_cons_zero, List.set_cons_succ, i64_w, i32_w, IntKind.wrap_u32]
       rfl
      refine one_ (i := 12) (N := some 47) (bf 28 0x1fff) rfl rfl (one_of HT_.out (by kernel_rfl)) (by decide) (fun K hK => ?_)
      refine goes_ Try.func15 (by kernel_rfl) rfl #[.agg #[.int .u32 a0_0, .int .u32 a0_1, .int .u32 a0_2, .int .u32 a0_3, .int .u32 a0_4, .int .u32 a0_5, .int .u32 a0_6, .int .u32 a0_7, .int .u32 a0_8, .int .u32 a0_9, .int .u32 a0_10, .int .u32 a0_11, .int .u32 a0_12, .int .u32 a0_13, .int .u32 a0_14, .int .u32 a0_15, .int .u32 a0_16, .int .u32 a0_17, .int .u32 a0_18, .int .u32 a0_19, .int .u32 a0_20, .int .u32 a0_21, .int .u32 a0_22, .int .u32 a0_23, .int .u32 a0_24, .int .u32 a0_25, .int .u32 a0_26, .int .u32 a0_27, .int .u32 a0_28, .bool a0_29]] (by rfl) rfl rfl (by (try simp only [List.map_toArray, List.map_cons, List.map_nil]); first | done | rfl | (simp only [List.length_drop, List.length_take]; rfl)) ?_
      with_reducible refine (cotterelref13_Paged.calls a0_0 a0_1 a0_2 a0_3 a0_4 a0_5 a0_6 a0_7 a0_8 a0_9 a0_10 a0_11 a0_12 a0_13 a0_14 a0_15 a0_16 a0_17 a0_18 a0_19 a0_20 a0_21 a0_22 a0_23 a0_24 a0_25 a0_26 a0_27 a0_28 a0_29 t229 _ A14.out).mono ?_
      rintro e w31 ⟨rfl, hb⟩
      refine ⟨_, rfl, ?_⟩
      have n0_ := Aside0.mk (blk_below (g := gb221) (o := .cells #[.int .u32 a0_0, .int .u32 a0_1, .int .u32 a0_2, .int .u32 a0_3, .int .u32 a0_4, .int .u32 a0_5, .int .u32 a0_6, .int .u32 a0_7, .int .u32 a0_8, .int .u32 a0_9, .int .u32 a0_10, .int .u32 a0_11, .int .u32 a0_12, .int .u32 a0_13, .int .u32 a0_14, .int .u32 a0_15, .int .u32 a0_16, .int .u32 a0_17, .int .u32 a0_18, .int .u32 a0_19, .int .u32 a0_20, .int .u32 a0_21, .int .u32 a0_22, .int .u32 a0_23, .int .u32 a0_24, .int .u32 a0_25, .int .u32 a0_26, .int .u32 a0_27, .int .u32 a0_28, .bool a0_29] 35 (0, 0)) (by (with_reducible repeat (first | refine blk_drewN ?_ _ | refine blk_drew ?_ | refine blk_alloc ?_ _)); exact BK221.out) hb)
      have n1_ := Aside0.mk (blk_below (g := gb222) (o := .cells #[.int .u32 a2_0, .int .i64 a2_1] 37 (0, 0)) (by (with_reducible repeat (first | refine blk_drewN ?_ _ | refine blk_drew ?_ | refine blk_alloc ?_ _)); exact BK222.out) hb)
      have n2_ := Aside0.mk (below_step (by repeat (first | (with_reducible first | exact HB.out | apply below_alloc | apply pw_below_drewN | apply below_drew1 | refine below_set ?_ GE221.out | refine below_set ?_ GE222.out) | exact HB.out)) hb)
      clear BK221
      clear BK222
      clear HB
      have BK221 := n0_
      have BK222 := n1_
      have HB := n2_
      clear n0_ n1_ n2_
      (try clear hb)
      (try clear hb2)
      (try clear hk)
      (try clear hi)
      refine hK.out _ _ ⟨BK221.out, (blk_cell BK222.out 0).trans rfl, (blk_cell BK222.out 1).trans rfl⟩ (fun hHeld => ?_)
      clear hK K
      refine norm_ (a' := ?_) ?_ ?_
      rotate_left
      ·show Act.put _ (some 47) _ = _
       simp only [Act.put, List.setIfInBounds_toArray, List.set_cons_zero, List.set_cons_succ, i64_w, i32_w, IntKind.wrap_u32]
       rfl
      refine pure_ (i := 13) (N := some 48) (v := ?_) (a' := ?_) (bf 28 0x3fff) rfl rfl (any_of HT_.out (by kernel_rfl)) (fun _ _ _ h => h) (Or.inl ⟨by rfl, ?_⟩) ?_ ?_
      rotate_left; (intro w'; go_simp; with_reducible rfl); rotate_left; (simp only [Act.put, List.setIfInBounds_toArray, List.set_cons_zero, List.set_cons_succ, i64_w, i32_w, IntKind.wrap_u32]; rfl)
      refine pure_ (i := 14) (N := some 49) (v := ?_) (a' := ?_) (bf 28 0x7fff) rfl rfl (any_of HT_.out (by kernel_rfl)) (fun _ _ _ h => h) (Or.inl ⟨by rfl, ?_⟩) ?_ ?_
      rotate_left; (intro w'; go_simp; with_reducible rfl); rotate_left; (simp only [Act.put, List.setIfInBounds_toArray, List.set_cons_zero, List.set_cons_succ, i64_w, i32_w, IntKind.wrap_u32]; rfl)
      refine pure_ (i := 15) (N := some 50) (v := ?_) (a' := ?_) (bf 28 0xffff) rfl rfl (any_of HT_.out (by kernel_rfl)) (fun _ _ _ h => h) (Or.inl ⟨by rfl, ?_⟩) ?_ ?_
      rotate_left; (intro w'; go_simp; with_reducible rfl); rotate_left; (simp only [Act.put, List.setIfInBounds_toArray, List.set_cons_zero, List.set_cons_succ, i64_w, i32_w, IntKind.wrap_u32]; rfl)
      refine pure_ (i := 16) (N := some 51) (v := ?_) (a' := ?_) (bf 28 0x1ffff) rfl rfl (any_of HT_.out (by kernel_rfl)) (fun _ _ _ h => h) (Or.inl ⟨by rfl, ?_⟩) ?_ ?_
      rotate_left; (intro w'; go_simp; with_reducible rfl); rotate_left; (simp only [Act.put, List.setIfInBounds_toArray, List.set_cons_zero, List.set_cons_succ, i64_w, i32_w, IntKind.wrap_u32]; rfl)
      refine pure_ (i := 19) (N := some 54) (v := ?_) (a' := ?_) (bf 28 0x9ffff) rfl rfl (any_of HT_.out (by kernel_rfl)) (fun _ _ _ h => h) (Or.inl ⟨by rfl, ?_⟩) ?_ ?_
      rotate_left; (intro w'; go_simp; with_reducible rfl); rotate_left; (simp only [Act.put, List.setIfInBounds_toArray, List.set_cons_zero, List.set_cons_succ, i64_w, i32_w, IntKind.wrap_u32]; rfl)
      refine take_ (i := 17) (N := some 52) (v := ?_) (a' := ?_) (bf 28 0xbffff) rfl rfl (take_ofW HT_.out HW_.out (by kernel_rfl)) (fun _ _ _ h => h) (Or.inl ⟨by rfl, ?_⟩) hHeld ?_ ?_
      rotate_left
      ·rintro w' ⟨hwgb221, s30, s31⟩
       have hcgb221 := fun i => blk_cell hwgb221 i
       go_simp
       with_reducible rfl
      rotate_left; (simp only [Act.put, List.setIfInBounds_toArray, List.set_cons_zero, List.set_cons_succ, i64_w, i32_w, IntKind.wrap_u32]; rfl)
      refine take_ (i := 20) (N := some 55) (v := ?_) (a' := ?_) (bf 28 0x1bffff) rfl rfl (take_ofW HT_.out HW_.out (by kernel_rfl)) (fun _ _ _ h => h) (Or.inl ⟨by rfl, ?_⟩) hHeld ?_ ?_
      rotate_left
      ·rintro w' ⟨hwgb221, s30, s31⟩
       have hcgb221 := fun i => blk_cell hwgb221 i
       go_simp
       with_reducible rfl
      rotate_left; (simp only [Act.put, List.setIfInBounds_toArray, List.set_cons_zero, List.set_cons_succ, i64_w, i32_w, IntKind.wrap_u32]; rfl)
      refine one_ (i := 18) (N := some 53) (bf 28 0x1fffff) rfl rfl (one_of HT_.out (by kernel_rfl)) (by decide) (fun K hK => ?_)
      refine goes_ Try.func16 (by kernel_rfl) rfl #[.int .i64 a2_1] (by rfl) rfl rfl (by (try simp only [List.map_toArray, List.map_cons, List.map_nil]); first | done | rfl | (simp only [List.length_drop, List.length_take]; rfl)) ?_
      with_reducible refine (walk_Fault.calls a2_1 t230 _ A16.out).mono ?_
      rintro e w' ⟨rfl, ⟨nd, rfl⟩⟩
      refine ⟨_, rfl, ?_⟩
      refine hK.out _ _ ⟨BK221.out, (blk_cell BK222.out 0).trans rfl, (blk_cell BK222.out 1).trans rfl⟩ (fun hHeld => ?_)
      clear hK K
      refine norm_ (a' := ?_) ?_ ?_
      rotate_left
      ·show Act.put _ (some 53) _ = _
       simp only [Act.put, List.setIfInBounds_toArray, List.set_cons_zero, List.set_cons_succ, i64_w, i32_w, IntKind.wrap_u32]
       rfl
      refine one_ (i := 21) (N := some 56) (bf 28 0x3fffff) rfl rfl (one_of HT_.out (by kernel_rfl)) (by decide) (fun K hK => ?_)
      refine goes_ Try.func17 (by kernel_rfl) rfl #[.int .i64 a2_1] (by rfl) rfl rfl (by (try simp only [List.map_toArray, List.map_cons, List.map_nil]); first | done | rfl | (simp only [List.length_drop, List.length_take]; rfl)) ?_
      with_reducible refine (cotterelref13_Fault.calls a2_1 t231 _ A17.out).mono ?_
      rintro e w' ⟨rfl, ⟨nd, rfl⟩⟩
      refine ⟨_, rfl, ?_⟩
      refine hK.out _ _ ⟨BK221.out, (blk_cell BK222.out 0).trans rfl, (blk_cell BK222.out 1).trans rfl⟩ (fun hHeld => ?_)
      clear hK K
      refine norm_ (a' := ?_) ?_ ?_
      rotate_left
      ·show Act.put _ (some 56) _ = _
       simp only [Act.put, List.setIfInBounds_toArray, List.set_cons_zero, List.set_cons_succ, i64_w, i32_w, IntKind.wrap_u32]
       rfl
      refine pure_ (i := 22) (N := some 57) (v := ?_) (a' := ?_) (bf 28 0x7fffff) rfl rfl (any_of HT_.out (by kernel_rfl)) (fun _ _ _ h => h) (Or.inl ⟨by rfl, ?_⟩) ?_ ?_
      rotate_left; (intro w'; go_simp; with_reducible rfl); rotate_left; (simp only [Act.put, List.setIfInBounds_toArray, List.set_cons_zero, List.set_cons_succ, i64_w, i32_w, IntKind.wrap_u32]; rfl)
      refine pure_ (i := 23) (N := some 58) (v := ?_) (a' := ?_) (bf 28 0xffffff) rfl rfl (any_of HT_.out (by kernel_rfl)) (fun _ _ _ h => h) (Or.inl ⟨by rfl, ?_⟩) ?_ ?_
      rotate_left; (intro w'; go_simp; with_reducible rfl); rotate_left; (simp only [Act.put, List.setIfInBounds_toArray, List.set_cons_zero, List.set_cons_succ, i64_w, i32_w, IntKind.wrap_u32]; rfl)
      refine pure_ (i := 24) (N := some 59) (v := ?_) (a' := ?_) (bf 28 0x1ffffff) rfl rfl (any_of HT_.out (by kernel_rfl)) (fun _ _ _ h => h) (Or.inl ⟨by rfl, ?_⟩) ?_ ?_
      rotate_left; (intro w'; go_simp; with_reducible rfl); rotate_left; (simp only [Act.put, List.setIfInBounds_toArray, List.set_cons_zero, List.set_cons_succ, i64_w, i32_w, IntKind.wrap_u32]; rfl)
      refine one_ (i := 25) (N := some 60) (bf 28 0x3ffffff) rfl rfl (one_of HT_.out (by kernel_rfl)) (by decide) (fun K hK => ?_)
      refine goes_ Try.func8 (by kernel_rfl) rfl #[] (by rfl) rfl rfl (by (try simp only [List.map_toArray, List.map_cons, List.map_nil]); first | done | rfl | (simp only [List.length_drop, List.length_take]; rfl)) ?_
      with_reducible refine (cotterellaw13_awake.calls k  t232 _ A19.out).mono ?_
      rintro e w32 ⟨rfl, hb⟩
      refine ⟨_, rfl, ?_⟩
      have n0_ := Aside0.mk (blk_below (g := gb221) (o := .cells #[.int .u32 a0_0, .int .u32 a0_1, .int .u32 a0_2, .int .u32 a0_3, .int .u32 a0_4, .int .u32 a0_5, .int .u32 a0_6, .int .u32 a0_7, .int .u32 a0_8, .int .u32 a0_9, .int .u32 a0_10, .int .u32 a0_11, .int .u32 a0_12, .int .u32 a0_13, .int .u32 a0_14, .int .u32 a0_15, .int .u32 a0_16, .int .u32 a0_17, .int .u32 a0_18, .int .u32 a0_19, .int .u32 a0_20, .int .u32 a0_21, .int .u32 a0_22, .int .u32 a0_23, .int .u32 a0_24, .int .u32 a0_25, .int .u32 a0_26, .int .u32 a0_27, .int .u32 a0_28, .bool a0_29] 35 (0, 0)) (by (with_reducible repeat (first | refine blk_drewN ?_ _ | refine blk_drew ?_ | refine blk_alloc ?_ _)); exact BK221.out) hb)
      have n1_ := Aside0.mk (blk_below (g := gb222) (o := .cells #[.int .u32 a2_0, .int .i64 a2_1] 37 (0, 0)) (by (with_reducible repeat (first | refine blk_drewN ?_ _ | refine blk_drew ?_ | refine blk_alloc ?_ _)); exact BK222.out) hb)
      have n2_ := Aside0.mk (below_step (by repeat (first | (with_reducible first | exact HB.out | apply below_alloc | apply pw_below_drewN | apply below_drew1 | refine below_set ?_ GE221.out | refine below_set ?_ GE222.out) | exact HB.out)) hb)
      clear BK221
      clear BK222
      clear HB
      have BK221 := n0_
      have BK222 := n1_
      have HB := n2_
      clear n0_ n1_ n2_
      (try clear hb)
      (try clear hb2)
      (try clear hk)
      (try clear hi)
      refine hK.out _ _ ⟨BK221.out, (blk_cell BK222.out 0).trans rfl, (blk_cell BK222.out 1).trans rfl⟩ (fun hHeld => ?_)
      clear hK K
      refine norm_ (a' := ?_) ?_ ?_
      rotate_left
      ·show Act.put _ (some 60) _ = _
       simp only [Act.put, List.setIfInBounds_toArray, List.set_cons_zero, List.set_cons_succ, i64_w, i32_w, IntKind.wrap_u32]
       rfl
      refine pure_ (i := 26) (N := some 61) (v := ?_) (a' := ?_) (bf 28 0x7ffffff) rfl rfl (any_of HT_.out (by kernel_rfl)) (fun _ _ _ h => h) (Or.inl ⟨by rfl, ?_⟩) ?_ ?_
      rotate_left; (intro w'; go_simp; with_reducible rfl); rotate_left; (simp only [Act.put, List.setIfInBounds_toArray, List.set_cons_zero, List.set_cons_succ, i64_w, i32_w, IntKind.wrap_u32]; rfl)
      refine pure_ (i := 27) (N := some 6) (v := ?_) (a' := ?_) (bf 28 0xfffffff) rfl rfl (any_of HT_.out (by kernel_rfl)) (fun _ _ _ h => h) (Or.inl ⟨by rfl, ?_⟩) ?_ ?_
      rotate_left; (intro w'; go_simp; with_reducible rfl); rotate_left; (simp only [Act.put, List.setIfInBounds_toArray, List.set_cons_zero, List.set_cons_succ, i64_w, i32_w, IntKind.wrap_u32]; rfl)
      refine done_ (done_of HT_.out (by kernel_rfl)) ?_
      try go_wp2
      go_ret
      exact ⟨by first | rfl | (simp [errW_none, errW_some] <;> rfl) | (simp [*, errW_none, errW_some] <;> rfl), by repeat (first | (with_reducible first | exact HB.out | apply below_alloc | apply pw_below_drewN | apply below_drew1 | refine below_set ?_ GE221.out | refine below_set ?_ GE222.out) | exact HB.out)⟩
     ·rw [if_neg c18] at H
      exact absurd H (by simp)
    ·rw [if_neg c15] at H
     exact absurd H (by simp)
   ·rw [if_neg c12] at H
    exact absurd H (by simp)
  ·rw [if_neg c11] at H
   exact absurd H (by simp)

end Go.Proofs.Ytmkipjmadmjfaaa.PWalkTrans
