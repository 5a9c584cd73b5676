-- This session's own text: written by wip/tools/myprint.sh after the kit's printer.
import Derived.Test.YtmkipjmadmjfaaaPWalkPagex0
import Derived.Test.YtmkipjmadmjfaaaPWalkPagex3
namespace Go.Proofs.Ytmkipjmadmjfaaa.PWalkPage
open Go.RowKit Go.Proofs.YtmkipjmadmjfaaaW.PrintWords Go.Proofs.YtmkipjmadmjfaaaW.PrintLast Go.Proofs.YtmkipjmadmjfaaaW.PrintMore
attribute [local go_sem] max2_int min2_int max_two min_two max_three min_three max_four min_four   -- for this text's walks alone
set_option linter.unusedVariables false
set_option linter.unusedSimpArgs false

/-! ### cotterellaw13_WalkPage: function 5 -/
def cotterellaw13_WalkPage.l0 : Nat → List Int → Int → Int → Int → Int → Int → Int → Int → Int → Int → Int → Int → Int → Int → Int → Int → Int → Int → Int → Int → Int → Int → Int → Int → Int → Int → Int → Int → Int → Int → Int → Int → Int → Int → Bool → Int → Int → Option (Bool)
  | 0, _, _, _, _, _, _, _, _, _, _, _, _, _, _, _, _, _, _, _, _, _, _, _, _, _, _, _, _, _, _, _, _, _, _, _, _, _ => none
  | k + 1, x1, x7, x8, x9, x10, x169000, x169001, x169002, x169003, x169004, x169005, x169006, x169007, x169008, x169009, x169010, x169011, x169012, x169013, x169014, x169015, x169016, x169017, x169018, x169019, x169020, x169021, x169022, x169023, x169024, x169025, x169026, x169027, x169028, x169029, x170000, x170001 => if x10 < 64 then ((walk_Trans.f k x169000 x169001 x169002 x169003 x169004 x169005 x169006 x169007 x169008 x169009 x169010 x169011 x169012 x169013 x169014 x169015 x169016 x169017 x169018 x169019 x169020 x169021 x169022 x169023 x169024 x169025 x169026 x169027 x169028 x169029 x1 ((x7 + x10) % 4294967296) x170001).bind fun bt173 => (if bt173.2 = x9 then (if x9 = 0 then (if bt173.1 = ((x8 + x10) % 4294967296) then (cotterellaw13_WalkPage.l0 k x1 x7 x8 x9 ((x10 + 1) % 4294967296) x169000 x169001 x169002 x169003 x169004 x169005 x169006 x169007 x169008 x169009 x169010 x169011 x169012 x169013 x169014 x169015 x169016 x169017 x169018 x169019 x169020 x169021 x169022 x169023 x169024 x169025 x169026 x169027 x169028 x169029 x170000 x170001) else (some false)) else (if bt173.1 = 0 then (cotterellaw13_WalkPage.l0 k x1 x7 x8 x9 ((x10 + 1) % 4294967296) x169000 x169001 x169002 x169003 x169004 x169005 x169006 x169007 x169008 x169009 x169010 x169011 x169012 x169013 x169014 x169015 x169016 x169017 x169018 x169019 x169020 x169021 x169022 x169023 x169024 x169025 x169026 x169027 x169028 x169029 x170000 x170001) else (some false))) else (some false))) else ((cotterellaw13_awake.f k).bind fun t175 => (some t175))
def cotterellaw13_WalkPage.f (k : Nat) (a0_0 : Int) (a0_1 : Int) (a0_2 : Int) (a0_3 : Int) (a0_4 : Int) (a0_5 : Int) (a0_6 : Int) (a0_7 : Int) (a0_8 : Int) (a0_9 : Int) (a0_10 : Int) (a0_11 : Int) (a0_12 : Int) (a0_13 : Int) (a0_14 : Int) (a0_15 : Int) (a0_16 : Int) (a0_17 : Int) (a0_18 : Int) (a0_19 : Int) (a0_20 : Int) (a0_21 : Int) (a0_22 : Int) (a0_23 : Int) (a0_24 : Int) (a0_25 : Int) (a0_26 : Int) (a0_27 : Int) (a0_28 : Int) (a0_29 : Bool) (l1 : List Int) (a2_0 : Int) (a2_1 : Int) : Option (Bool) := if (l1.length : Int) > 4096 then ((cotterellaw13_awake.f k).bind fun t170 => (some t170)) else ((walk_Trans.f k a0_0 a0_1 a0_2 a0_3 a0_4 a0_5 a0_6 a0_7 a0_8 a0_9 a0_10 a0_11 a0_12 a0_13 a0_14 a0_15 a0_16 a0_17 a0_18 a0_19 a0_20 a0_21 a0_22 a0_23 a0_24 a0_25 a0_26 a0_27 a0_28 a0_29 l1 ((a2_0 - (Int.tmod a2_0 64)) % 4294967296) a2_1).bind fun bt171 => (cotterellaw13_WalkPage.l0 k l1 ((a2_0 - (Int.tmod a2_0 64)) % 4294967296) bt171.1 bt171.2 0 a0_0 a0_1 a0_2 a0_3 a0_4 a0_5 a0_6 a0_7 a0_8 a0_9 a0_10 a0_11 a0_12 a0_13 a0_14 a0_15 a0_16 a0_17 a0_18 a0_19 a0_20 a0_21 a0_22 a0_23 a0_24 a0_25 a0_26 a0_27 a0_28 a0_29 a2_0 a2_1))
theorem cotterellaw13_WalkPage.mono_l : ∀ k, (∀ y0 y1 y2 y3 y4 y5 y6 y7 y8 y9 y10 y11 y12 y13 y14 y15 y16 y17 y18 y19 y20 y21 y22 y23 y24 y25 y26 y27 y28 y29 y30 y31 y32 y33 y34 y35 y36, LeO (cotterellaw13_WalkPage.l0 k y0 y1 y2 y3 y4 y5 y6 y7 y8 y9 y10 y11 y12 y13 y14 y15 y16 y17 y18 y19 y20 y21 y22 y23 y24 y25 y26 y27 y28 y29 y30 y31 y32 y33 y34 y35 y36) (cotterellaw13_WalkPage.l0 (k + 1) y0 y1 y2 y3 y4 y5 y6 y7 y8 y9 y10 y11 y12 y13 y14 y15 y16 y17 y18 y19 y20 y21 y22 y23 y24 y25 y26 y27 y28 y29 y30 y31 y32 y33 y34 y35 y36))
  | 0 => fun _ _ _ _ _ _ _ _ _ _ _ _ _ _ _ _ _ _ _ _ _ _ _ _ _ _ _ _ _ _ _ _ _ _ _ _ _ r h => by simp [cotterellaw13_WalkPage.l0] at h
  | k + 1 => by
    have ih0 := cotterellaw13_WalkPage.mono_l k
    · intro y0 y1 y2 y3 y4 y5 y6 y7 y8 y9 y10 y11 y12 y13 y14 y15 y16 y17 y18 y19 y20 y21 y22 y23 y24 y25 y26 y27 y28 y29 y30 y31 y32 y33 y34 y35 y36
      unfold cotterellaw13_WalkPage.l0
      repeat' first
      | (with_reducible exact ih0 _ _ _ _ _ _ _ _ _ _ _ _ _ _ _ _ _ _ _ _ _ _ _ _ _ _ _ _ _ _ _ _ _ _ _ _ _)
      | (with_reducible exact cotterellaw13_awake.mono _)
      | (with_reducible exact walk_Trans.mono _ _ _ _ _ _ _ _ _ _ _ _ _ _ _ _ _ _ _ _ _ _ _ _ _ _ _ _ _ _ _ _ _ _)
      | (with_reducible exact LeO.refl _)
      | (with_reducible exact LeO.none _)
      | (with_reducible refine LeO.ite ?_ ?_)
      | (with_reducible refine LeO.bind ?_ (fun _ => ?_))
      | exact ih0 _ _ _ _ _ _ _ _ _ _ _ _ _ _ _ _ _ _ _ _ _ _ _ _ _ _ _ _ _ _ _ _ _ _ _ _ _
      | exact cotterellaw13_awake.mono _
      | exact walk_Trans.mono _ _ _ _ _ _ _ _ _ _ _ _ _ _ _ _ _ _ _ _ _ _ _ _ _ _ _ _ _ _ _ _ _ _
      | exact LeO.none _
      | refine LeO.ite ?_ ?_
      | refine LeO.bind ?_ (fun _ => ?_)
theorem cotterellaw13_WalkPage.mono : ∀ a0 a1 a2 a3 a4 a5 a6 a7 a8 a9 a10 a11 a12 a13 a14 a15 a16 a17 a18 a19 a20 a21 a22 a23 a24 a25 a26 a27 a28 a29 a30 a31 a32 k, LeO (cotterellaw13_WalkPage.f k a0 a1 a2 a3 a4 a5 a6 a7 a8 a9 a10 a11 a12 a13 a14 a15 a16 a17 a18 a19 a20 a21 a22 a23 a24 a25 a26 a27 a28 a29 a30 a31 a32) (cotterellaw13_WalkPage.f (k + 1) a0 a1 a2 a3 a4 a5 a6 a7 a8 a9 a10 a11 a12 a13 a14 a15 a16 a17 a18 a19 a20 a21 a22 a23 a24 a25 a26 a27 a28 a29 a30 a31 a32) := by
  intro a0 a1 a2 a3 a4 a5 a6 a7 a8 a9 a10 a11 a12 a13 a14 a15 a16 a17 a18 a19 a20 a21 a22 a23 a24 a25 a26 a27 a28 a29 a30 a31 a32 k
  have ih0 := cotterellaw13_WalkPage.mono_l k
  unfold cotterellaw13_WalkPage.f
  repeat' first
      | (with_reducible exact ih0 _ _ _ _ _ _ _ _ _ _ _ _ _ _ _ _ _ _ _ _ _ _ _ _ _ _ _ _ _ _ _ _ _ _ _ _ _)
      | (with_reducible exact cotterellaw13_awake.mono _)
      | (with_reducible exact walk_Trans.mono _ _ _ _ _ _ _ _ _ _ _ _ _ _ _ _ _ _ _ _ _ _ _ _ _ _ _ _ _ _ _ _ _ _)
      | (with_reducible exact LeO.refl _)
      | (with_reducible exact LeO.none _)
      | (with_reducible refine LeO.ite ?_ ?_)
      | (with_reducible refine LeO.bind ?_ (fun _ => ?_))
      | exact ih0 _ _ _ _ _ _ _ _ _ _ _ _ _ _ _ _ _ _ _ _ _ _ _ _ _ _ _ _ _ _ _ _ _ _ _ _ _
      | exact cotterellaw13_awake.mono _
      | exact walk_Trans.mono _ _ _ _ _ _ _ _ _ _ _ _ _ _ _ _ _ _ _ _ _ _ _ _ _ _ _ _ _ _ _ _ _ _
      | exact LeO.none _
      | refine LeO.ite ?_ ?_
      | refine LeO.bind ?_ (fun _ => ?_)
set_option maxHeartbeats 8000000 in
set_option maxRecDepth 100000 in
theorem cotterellaw13_WalkPage.calls (k : Nat) (a0_0 : Int) (a0_1 : Int) (a0_2 : Int) (a0_3 : Int) (a0_4 : Int) (a0_5 : Int) (a0_6 : Int) (a0_7 : Int) (a0_8 : Int) (a0_9 : Int) (a0_10 : Int) (a0_11 : Int) (a0_12 : Int) (a0_13 : Int) (a0_14 : Int) (a0_15 : Int) (a0_16 : Int) (a0_17 : Int) (a0_18 : Int) (a0_19 : Int) (a0_20 : Int) (a0_21 : Int) (a0_22 : Int) (a0_23 : Int) (a0_24 : Int) (a0_25 : Int) (a0_26 : Int) (a0_27 : Int) (a0_28 : Int) (a0_29 : Bool) (A1 : Option Addr) (c1 : Nat) (l1 : List Int) (a2_0 : Int) (a2_1 : Int) (r : Bool) (w : World) (hr1 : Kd.C (Kd.int .u8) w A1 l1.length l1) (hc1 : l1.length ≤ c1) (h : cotterellaw13_WalkPage.f k a0_0 a0_1 a0_2 a0_3 a0_4 a0_5 a0_6 a0_7 a0_8 a0_9 a0_10 a0_11 a0_12 a0_13 a0_14 a0_15 a0_16 a0_17 a0_18 a0_19 a0_20 a0_21 a0_22 a0_23 a0_24 a0_25 a0_26 a0_27 a0_28 a0_29 l1 a2_0 a2_1 = some r) :
    Calls Try.prog 5 #[.agg #[.int .u32 a0_0, .int .u32 a0_1, .int .u32 a0_2, .int .u32 a0_3, .int .u32 a0_4, .int .u32 a0_5, .int .u32 a0_6, .int .u32 a0_7, .int .u32 a0_8, .int .u32 a0_9, .int .u32 a0_10, .int .u32 a0_11, .int .u32 a0_12, .int .u32 a0_13, .int .u32 a0_14, .int .u32 a0_15, .int .u32 a0_16, .int .u32 a0_17, .int .u32 a0_18, .int .u32 a0_19, .int .u32 a0_20, .int .u32 a0_21, .int .u32 a0_22, .int .u32 a0_23, .int .u32 a0_24, .int .u32 a0_25, .int .u32 a0_26, .int .u32 a0_27, .int .u32 a0_28, .bool a0_29], .slice A1 l1.length c1, .agg #[.int .u32 a2_0, .int .i64 a2_1]] w fun e w' => e = .returned (.bool r) ∧ Below w.heap.size w w' := by
  have hu35 := Try.underlying35
  have hu37 := Try.underlying37
  have HR1 := Aside0.mk hr1
  have HC1 := Aside0.mk hc1
  clear hr1 hc1
  have HB := Aside0.mk (Below.refl w.heap.size w)
  have H : (if (l1.length : Int) > 4096 then ((cotterellaw13_awake.f k).bind fun t170 => (some t170)) else ((walk_Trans.f k a0_0 a0_1 a0_2 a0_3 a0_4 a0_5 a0_6 a0_7 a0_8 a0_9 a0_10 a0_11 a0_12 a0_13 a0_14 a0_15 a0_16 a0_17 a0_18 a0_19 a0_20 a0_21 a0_22 a0_23 a0_24 a0_25 a0_26 a0_27 a0_28 a0_29 l1 ((a2_0 - (Int.tmod a2_0 64)) % 4294967296) a2_1).bind fun bt171 => (cotterellaw13_WalkPage.l0 k l1 ((a2_0 - (Int.tmod a2_0 64)) % 4294967296) bt171.1 bt171.2 0 a0_0 a0_1 a0_2 a0_3 a0_4 a0_5 a0_6 a0_7 a0_8 a0_9 a0_10 a0_11 a0_12 a0_13 a0_14 a0_15 a0_16 a0_17 a0_18 a0_19 a0_20 a0_21 a0_22 a0_23 a0_24 a0_25 a0_26 a0_27 a0_28 a0_29 a2_0 a2_1))) = some r := h
  clear h
  by_cases c4 : (l1.length : Int) > 4096
  · rw [if_pos c4] at H
    have c4b0 : decide (4096 < (l1.length : Int)) = true := decide_eq_true c4
    have c4b1 : decide (4096 < l1.length) = true := decide_eq_true (by omega)
    clear c4
    replace H := Option.bind_eq_some_iff.mp H
    obtain ⟨t170, A50, H⟩ := H
    replace H : (some t170) = some r := H
    have A5 := Aside0.mk A50
    clear A50
    obtain rfl := Option.some.inj H
    go_enter Try.func5, Try.ntmps5
    go_wp2_with (first | ((with_reducible refine gate_dst (N := 37) rfl ?_); refine Go.Proofs.Ytmkipjmadmjfaaa.Cp.load_whole 35 (.tmp 3) gb168 rfl rfl rfl (by (with_reducible repeat (first | refine blk_drewN ?_ _ | refine blk_drew ?_ | refine blk_alloc ?_ _)); exact BK168.out) Try.underlying35 rfl (by kernel_rfl) ?_) | ((with_reducible refine gate_dst (N := 24) rfl ?_); refine Go.Proofs.Ytmkipjmadmjfaaa.Cp.load_whole 35 (.tmp 3) gb168 rfl rfl rfl (by (with_reducible repeat (first | refine blk_drewN ?_ _ | refine blk_drew ?_ | refine blk_alloc ?_ _)); exact BK168.out) Try.underlying35 rfl (by kernel_rfl) ?_) | ((with_reducible refine gate_dst (N := 3) rfl ?_); refine box_event ?hg (N := 3) ?hd (cs := #[.int .u32 a0_0, .int .u32 a0_1, .int .u32 a0_2, .int .u32 a0_3, .int .u32 a0_4, .int .u32 a0_5, .int .u32 a0_6, .int .u32 a0_7, .int .u32 a0_8, .int .u32 a0_9, .int .u32 a0_10, .int .u32 a0_11, .int .u32 a0_12, .int .u32 a0_13, .int .u32 a0_14, .int .u32 a0_15, .int .u32 a0_16, .int .u32 a0_17, .int .u32 a0_18, .int .u32 a0_19, .int .u32 a0_20, .int .u32 a0_21, .int .u32 a0_22, .int .u32 a0_23, .int .u32 a0_24, .int .u32 a0_25, .int .u32 a0_26, .int .u32 a0_27, .int .u32 a0_28, .bool a0_29]) (t := 35) ?hr ?_; (case hd => rfl); (case hg => rfl); (case hr => first | (go_simp; done) | (go_simp; rfl)); intro gb168 hg w6 hbox hb; have n0_ := Aside0.mk (below_step (by repeat (first | (with_reducible first | exact HB.out | apply below_alloc | apply pw_below_drewN | apply below_drew1) | exact HB.out)) hb); have n1_ := Aside0.mk (hbox); have n2_ := Aside0.mk ((by rw [hg]; exact (below_size (by repeat (first | (with_reducible first | exact HB.out | apply below_alloc | apply pw_below_drewN | apply below_drew1) | exact HB.out))) : w.heap.size ≤ gb168)); have n3_ := Aside0.mk ((by rw [hg]; exact (below_size (by repeat (first | (with_reducible first | exact HB.out | apply below_alloc | apply pw_below_drewN | apply below_drew1) | exact HB.out))) : w.heap.size ≤ gb168)); clear HB; have HB := n0_; have BK168 := n1_; have GW168 := n2_; have GE168 := n3_; clear n0_ n1_ n2_ n3_; clear hb hbox hg) | ((with_reducible refine gate_dst (N := 5) rfl ?_); refine box_event ?hg (N := 5) ?hd (cs := #[.int .u32 a2_0, .int .i64 a2_1]) (t := 37) ?hr ?_; (case hd => rfl); (case hg => rfl); (case hr => first | (go_simp; done) | (go_simp; rfl)); intro gb169 hg w7 hbox hb; have n0_ := Aside0.mk (blk_below (g := gb168) (o := .cells #[.int .u32 a0_0, .int .u32 a0_1, .int .u32 a0_2, .int .u32 a0_3, .int .u32 a0_4, .int .u32 a0_5, .int .u32 a0_6, .int .u32 a0_7, .int .u32 a0_8, .int .u32 a0_9, .int .u32 a0_10, .int .u32 a0_11, .int .u32 a0_12, .int .u32 a0_13, .int .u32 a0_14, .int .u32 a0_15, .int .u32 a0_16, .int .u32 a0_17, .int .u32 a0_18, .int .u32 a0_19, .int .u32 a0_20, .int .u32 a0_21, .int .u32 a0_22, .int .u32 a0_23, .int .u32 a0_24, .int .u32 a0_25, .int .u32 a0_26, .int .u32 a0_27, .int .u32 a0_28, .bool a0_29] 35 (0, 0)) (by (with_reducible repeat (first | refine blk_drewN ?_ _ | refine blk_drew ?_ | refine blk_alloc ?_ _)); exact BK168.out) hb); have n1_ := Aside0.mk (below_step (by repeat (first | (with_reducible first | exact HB.out | apply below_alloc | apply pw_below_drewN | apply below_drew1 | refine below_set ?_ GE168.out) | exact HB.out)) hb); have n2_ := Aside0.mk (hbox); have n3_ := Aside0.mk ((by rw [hg]; exact (below_size (by repeat (first | (with_reducible first | exact HB.out | apply below_alloc | apply pw_below_drewN | apply below_drew1 | refine below_set ?_ GE168.out) | exact HB.out))) : w.heap.size ≤ gb169)); have n4_ := Aside0.mk ((by rw [hg]; exact (below_size (by repeat (first | (with_reducible first | exact HB.out | apply below_alloc | apply pw_below_drewN | apply below_drew1 | refine below_set ?_ GE168.out) | exact HB.out))) : w.heap.size ≤ gb169)); have n5_ := Aside0.mk ((by rw [hg]; exact Nat.ne_of_lt (blk_lt (g := gb168) (o := .cells #[.int .u32 a0_0, .int .u32 a0_1, .int .u32 a0_2, .int .u32 a0_3, .int .u32 a0_4, .int .u32 a0_5, .int .u32 a0_6, .int .u32 a0_7, .int .u32 a0_8, .int .u32 a0_9, .int .u32 a0_10, .int .u32 a0_11, .int .u32 a0_12, .int .u32 a0_13, .int .u32 a0_14, .int .u32 a0_15, .int .u32 a0_16, .int .u32 a0_17, .int .u32 a0_18, .int .u32 a0_19, .int .u32 a0_20, .int .u32 a0_21, .int .u32 a0_22, .int .u32 a0_23, .int .u32 a0_24, .int .u32 a0_25, .int .u32 a0_26, .int .u32 a0_27, .int .u32 a0_28, .bool a0_29] 35 (0, 0)) (by (with_reducible repeat (first | refine blk_drewN ?_ _ | refine blk_drew ?_ | refine blk_alloc ?_ _)); exact BK168.out)) : gb168 ≠ gb169)); have n6_ := Aside0.mk ((by rw [hg]; exact Nat.ne_of_gt (blk_lt (g := gb168) (o := .cells #[.int .u32 a0_0, .int .u32 a0_1, .int .u32 a0_2, .int .u32 a0_3, .int .u32 a0_4, .int .u32 a0_5, .int .u32 a0_6, .int .u32 a0_7, .int .u32 a0_8, .int .u32 a0_9, .int .u32 a0_10, .int .u32 a0_11, .int .u32 a0_12, .int .u32 a0_13, .int .u32 a0_14, .int .u32 a0_15, .int .u32 a0_16, .int .u32 a0_17, .int .u32 a0_18, .int .u32 a0_19, .int .u32 a0_20, .int .u32 a0_21, .int .u32 a0_22, .int .u32 a0_23, .int .u32 a0_24, .int .u32 a0_25, .int .u32 a0_26, .int .u32 a0_27, .int .u32 a0_28, .bool a0_29] 35 (0, 0)) (by (with_reducible repeat (first | refine blk_drewN ?_ _ | refine blk_drew ?_ | refine blk_alloc ?_ _)); exact BK168.out)) : gb169 ≠ gb168)); clear BK168; clear HB; have BK168 := n0_; have HB := n1_; have BK169 := n2_; have GW169 := n3_; have GE169 := n4_; have NB168_169 := n5_; have NB169_168 := n6_; clear n0_ n1_ n2_ n3_ n4_ n5_ n6_; clear hb hbox hg) | ((with_reducible refine gate_callee (f := 8) rfl ?_); refine goesL_ (some 16) rfl rfl Try.func8 (by kernel_rfl) rfl #[] rfl (by (try simp only [List.map_toArray, List.map_cons, List.map_nil]); first | done | rfl | (simp only [List.length_drop, List.length_take]; rfl)) ?_; (with_reducible refine (cotterellaw13_awake.calls k  t170 _ A5.out).mono ?_); rintro e w8 ⟨rfl, hb⟩; refine ⟨_, rfl, ?_⟩; have n0_ := Aside0.mk (blk_below (g := gb168) (o := .cells #[.int .u32 a0_0, .int .u32 a0_1, .int .u32 a0_2, .int .u32 a0_3, .int .u32 a0_4, .int .u32 a0_5, .int .u32 a0_6, .int .u32 a0_7, .int .u32 a0_8, .int .u32 a0_9, .int .u32 a0_10, .int .u32 a0_11, .int .u32 a0_12, .int .u32 a0_13, .int .u32 a0_14, .int .u32 a0_15, .int .u32 a0_16, .int .u32 a0_17, .int .u32 a0_18, .int .u32 a0_19, .int .u32 a0_20, .int .u32 a0_21, .int .u32 a0_22, .int .u32 a0_23, .int .u32 a0_24, .int .u32 a0_25, .int .u32 a0_26, .int .u32 a0_27, .int .u32 a0_28, .bool a0_29] 35 (0, 0)) (by (with_reducible repeat (first | refine blk_drewN ?_ _ | refine blk_drew ?_ | refine blk_alloc ?_ _)); exact BK168.out) hb); have n1_ := Aside0.mk (blk_below (g := gb169) (o := .cells #[.int .u32 a2_0, .int .i64 a2_1] 37 (0, 0)) (by (with_reducible repeat (first | refine blk_drewN ?_ _ | refine blk_drew ?_ | refine blk_alloc ?_ _)); exact BK169.out) hb); have n2_ := Aside0.mk (below_step (by repeat (first | (with_reducible first | exact HB.out | apply below_alloc | apply pw_below_drewN | apply below_drew1 | refine below_set ?_ GE168.out | refine below_set ?_ GE169.out) | exact HB.out)) hb); clear BK168; clear BK169; clear HB; have BK168 := n0_; have BK169 := n1_; have HB := n2_; clear n0_ n1_ n2_; (try clear hb); (try clear hb2); (try clear hk); (try clear hi)))
    go_ret
    exact ⟨by first | rfl | (simp [errW_none, errW_some] <;> rfl) | (simp [*, errW_none, errW_some] <;> rfl), by repeat (first | (with_reducible first | exact HB.out | apply below_alloc | apply pw_below_drewN | apply below_drew1 | refine below_set ?_ GE168.out | refine below_set ?_ GE169.out) | exact HB.out)⟩
  · rw [if_neg c4] at H
    have c4b0 : decide (4096 < (l1.length : Int)) = false := decide_eq_false c4
    have c4b1 : decide (4096 < l1.length) = false := decide_eq_false (by omega)
    clear c4
    replace H := Option.bind_eq_some_iff.mp H
    obtain ⟨⟨t171, t172⟩, A90, H⟩ := H
    replace H : (cotterellaw13_WalkPage.l0 k l1 ((a2_0 - (Int.tmod a2_0 64)) % 4294967296) t171 t172 0 a0_0 a0_1 a0_2 a0_3 a0_4 a0_5 a0_6 a0_7 a0_8 a0_9 a0_10 a0_11 a0_12 a0_13 a0_14 a0_15 a0_16 a0_17 a0_18 a0_19 a0_20 a0_21 a0_22 a0_23 a0_24 a0_25 a0_26 a0_27 a0_28 a0_29 a2_0 a2_1) = some r := H
    have A9 := Aside0.mk A90
    clear A90
    have H' := Aside0.mk H
    clear H
    go_enter Try.func5, Try.ntmps5
    go_wp2_with (first | ((with_reducible refine gate_dst (N := 37) rfl ?_); refine Go.Proofs.Ytmkipjmadmjfaaa.Cp.load_whole 35 (.tmp 3) gb168 rfl rfl rfl (by (with_reducible repeat (first | refine blk_drewN ?_ _ | refine blk_drew ?_ | refine blk_alloc ?_ _)); exact BK168.out) Try.underlying35 rfl (by kernel_rfl) ?_) | ((with_reducible refine gate_dst (N := 24) rfl ?_); refine Go.Proofs.Ytmkipjmadmjfaaa.Cp.load_whole 35 (.tmp 3) gb168 rfl rfl rfl (by (with_reducible repeat (first | refine blk_drewN ?_ _ | refine blk_drew ?_ | refine blk_alloc ?_ _)); exact BK168.out) Try.underlying35 rfl (by kernel_rfl) ?_) | ((with_reducible refine gate_dst (N := 3) rfl ?_); refine box_event ?hg (N := 3) ?hd (cs := #[.int .u32 a0_0, .int .u32 a0_1, .int .u32 a0_2, .int .u32 a0_3, .int .u32 a0_4, .int .u32 a0_5, .int .u32 a0_6, .int .u32 a0_7, .int .u32 a0_8, .int .u32 a0_9, .int .u32 a0_10, .int .u32 a0_11, .int .u32 a0_12, .int .u32 a0_13, .int .u32 a0_14, .int .u32 a0_15, .int .u32 a0_16, .int .u32 a0_17, .int .u32 a0_18, .int .u32 a0_19, .int .u32 a0_20, .int .u32 a0_21, .int .u32 a0_22, .int .u32 a0_23, .int .u32 a0_24, .int .u32 a0_25, .int .u32 a0_26, .int .u32 a0_27, .int .u32 a0_28, .bool a0_29]) (t := 35) ?hr ?_; (case hd => rfl); (case hg => rfl); (case hr => first | (go_simp; done) | (go_simp; rfl)); intro gb168 hg w10 hbox hb; have n0_ := Aside0.mk (below_step (by repeat (first | (with_reducible first | exact HB.out | apply below_alloc | apply pw_below_drewN | apply below_drew1) | exact HB.out)) hb); have n1_ := Aside0.mk (hbox); have n2_ := Aside0.mk ((by rw [hg]; exact (below_size (by repeat (first | (with_reducible first | exact HB.out | apply below_alloc | apply pw_below_drewN | apply below_drew1) | exact HB.out))) : w.heap.size ≤ gb168)); have n3_ := Aside0.mk ((by rw [hg]; exact (below_size (by repeat (first | (with_reducible first | exact HB.out | apply below_alloc | apply pw_below_drewN | apply below_drew1) | exact HB.out))) : w.heap.size ≤ gb168)); clear HB; have HB := n0_; have BK168 := n1_; have GW168 := n2_; have GE168 := n3_; clear n0_ n1_ n2_ n3_; clear hb hbox hg) | ((with_reducible refine gate_dst (N := 5) rfl ?_); refine box_event ?hg (N := 5) ?hd (cs := #[.int .u32 a2_0, .int .i64 a2_1]) (t := 37) ?hr ?_; (case hd => rfl); (case hg => rfl); (case hr => first | (go_simp; done) | (go_simp; rfl)); intro gb169 hg w11 hbox hb; have n0_ := Aside0.mk (blk_below (g := gb168) (o := .cells #[.int .u32 a0_0, .int .u32 a0_1, .int .u32 a0_2, .int .u32 a0_3, .int .u32 a0_4, .int .u32 a0_5, .int .u32 a0_6, .int .u32 a0_7, .int .u32 a0_8, .int .u32 a0_9, .int .u32 a0_10, .int .u32 a0_11, .int .u32 a0_12, .int .u32 a0_13, .int .u32 a0_14, .int .u32 a0_15, .int .u32 a0_16, .int .u32 a0_17, .int .u32 a0_18, .int .u32 a0_19, .int .u32 a0_20, .int .u32 a0_21, .int .u32 a0_22, .int .u32 a0_23, .int .u32 a0_24, .int .u32 a0_25, .int .u32 a0_26, .int .u32 a0_27, .int .u32 a0_28, .bool a0_29] 35 (0, 0)) (by (with_reducible repeat (first | refine blk_drewN ?_ _ | refine blk_drew ?_ | refine blk_alloc ?_ _)); exact BK168.out) hb); have n1_ := Aside0.mk (below_step (by repeat (first | (with_reducible first | exact HB.out | apply below_alloc | apply pw_below_drewN | apply below_drew1 | refine below_set ?_ GE168.out) | exact HB.out)) hb); have n2_ := Aside0.mk (hbox); have n3_ := Aside0.mk ((by rw [hg]; exact (below_size (by repeat (first | (with_reducible first | exact HB.out | apply below_alloc | apply pw_below_drewN | apply below_drew1 | refine below_set ?_ GE168.out) | exact HB.out))) : w.heap.size ≤ gb169)); have n4_ := Aside0.mk ((by rw [hg]; exact (below_size (by repeat (first | (with_reducible first | exact HB.out | apply below_alloc | apply pw_below_drewN | apply below_drew1 | refine below_set ?_ GE168.out) | exact HB.out))) : w.heap.size ≤ gb169)); have n5_ := Aside0.mk ((by rw [hg]; exact Nat.ne_of_lt (blk_lt (g := gb168) (o := .cells #[.int .u32 a0_0, .int .u32 a0_1, .int .u32 a0_2, .int .u32 a0_3, .int .u32 a0_4, .int .u32 a0_5, .int .u32 a0_6, .int .u32 a0_7, .int .u32 a0_8, .int .u32 a0_9, .int .u32 a0_10, .int .u32 a0_11, .int .u32 a0_12, .int .u32 a0_13, .int .u32 a0_14, .int .u32 a0_15, .int .u32 a0_16, .int .u32 a0_17, .int .u32 a0_18, .int .u32 a0_19, .int .u32 a0_20, .int .u32 a0_21, .int .u32 a0_22, .int .u32 a0_23, .int .u32 a0_24, .int .u32 a0_25, .int .u32 a0_26, .int .u32 a0_27, .int .u32 a0_28, .bool a0_29] 35 (0, 0)) (by (with_reducible repeat (first | refine blk_drewN ?_ _ | refine blk_drew ?_ | refine blk_alloc ?_ _)); exact BK168.out)) : gb168 ≠ gb169)); have n6_ := Aside0.mk ((by rw [hg]; exact Nat.ne_of_gt (blk_lt (g := gb168) (o := .cells #[.int .u32 a0_0, .int .u32 a0_1, .int .u32 a0_2, .int .u32 a0_3, .int .u32 a0_4, .int .u32 a0_5, .int .u32 a0_6, .int .u32 a0_7, .int .u32 a0_8, .int .u32 a0_9, .int .u32 a0_10, .int .u32 a0_11, .int .u32 a0_12, .int .u32 a0_13, .int .u32 a0_14, .int .u32 a0_15, .int .u32 a0_16, .int .u32 a0_17, .int .u32 a0_18, .int .u32 a0_19, .int .u32 a0_20, .int .u32 a0_21, .int .u32 a0_22, .int .u32 a0_23, .int .u32 a0_24, .int .u32 a0_25, .int .u32 a0_26, .int .u32 a0_27, .int .u32 a0_28, .bool a0_29] 35 (0, 0)) (by (with_reducible repeat (first | refine blk_drewN ?_ _ | refine blk_drew ?_ | refine blk_alloc ?_ _)); exact BK168.out)) : gb169 ≠ gb168)); clear BK168; clear HB; have BK168 := n0_; have HB := n1_; have BK169 := n2_; have GW169 := n3_; have GE169 := n4_; have NB168_169 := n5_; have NB169_168 := n6_; clear n0_ n1_ n2_ n3_ n4_ n5_ n6_; clear hb hbox hg; have hnb12 := NB169_168.out; have hnc12 := NB168_169.out; have hcz13_0 : w11.cell? ⟨gb169, 0, none⟩ = some (.int .u32 a2_0) := (blk_cell BK169.out 0).trans rfl; have hcz13_1 : w11.cell? ⟨gb169, 1, none⟩ = some (.int .i64 a2_1) := (blk_cell BK169.out 1).trans rfl; have hfz13_0 := blk_frozen BK169.out 0; have hfz13_1 := blk_frozen BK169.out 1; have hcz14_0 : w11.cell? ⟨gb168, 0, none⟩ = some (.int .u32 a0_0) := (blk_cell BK168.out 0).trans rfl; have hcz14_1 : w11.cell? ⟨gb168, 1, none⟩ = some (.int .u32 a0_1) := (blk_cell BK168.out 1).trans rfl; have hcz14_2 : w11.cell? ⟨gb168, 2, none⟩ = some (.int .u32 a0_2) := (blk_cell BK168.out 2).trans rfl; have hcz14_3 : w11.cell? ⟨gb168, 3, none⟩ = some (.int .u32 a0_3) := (blk_cell BK168.out 3).trans rfl; have hcz14_4 : w11.cell? ⟨gb168, 4, none⟩ = some (.int .u32 a0_4) := (blk_cell BK168.out 4).trans rfl; have hcz14_5 : w11.cell? ⟨gb168, 5, none⟩ = some (.int .u32 a0_5) := (blk_cell BK168.out 5).trans rfl; have hcz14_6 : w11.cell? ⟨gb168, 6, none⟩ = some (.int .u32 a0_6) := (blk_cell BK168.out 6).trans rfl; have hcz14_7 : w11.cell? ⟨gb168, 7, none⟩ = some (.int .u32 a0_7) := (blk_cell BK168.out 7).trans rfl; have hcz14_8 : w11.cell? ⟨gb168, 8, none⟩ = some (.int .u32 a0_8) := (blk_cell BK168.out 8).trans rfl; have hcz14_9 : w11.cell? ⟨gb168, 9, none⟩ = some (.int .u32 a0_9) := (blk_cell BK168.out 9).trans rfl; have hcz14_10 : w11.cell? ⟨gb168, 10, none⟩ = some (.int .u32 a0_10) := (blk_cell BK168.out 10).trans rfl; have hcz14_11 : w11.cell? ⟨gb168, 11, none⟩ = some (.int .u32 a0_11) := (blk_cell BK168.out 11).trans rfl; have hcz14_12 : w11.cell? ⟨gb168, 12, none⟩ = some (.int .u32 a0_12) := (blk_cell BK168.out 12).trans rfl; have hcz14_13 : w11.cell? ⟨gb168, 13, none⟩ = some (.int .u32 a0_13) := (blk_cell BK168.out 13).trans rfl; have hcz14_14 : w11.cell? ⟨gb168, 14, none⟩ = some (.int .u32 a0_14) := (blk_cell BK168.out 14).trans rfl; have hcz14_15 : w11.cell? ⟨gb168, 15, none⟩ = some (.int .u32 a0_15) := (blk_cell BK168.out 15).trans rfl; have hcz14_16 : w11.cell? ⟨gb168, 16, none⟩ = some (.int .u32 a0_16) := (blk_cell BK168.out 16).trans rfl; have hcz14_17 : w11.cell? ⟨gb168, 17, none⟩ = some (.int .u32 a0_17) := (blk_cell BK168.out 17).trans rfl; have hcz14_18 : w11.cell? ⟨gb168, 18, none⟩ = some (.int .u32 a0_18) := (blk_cell BK168.out 18).trans rfl; have hcz14_19 : w11.cell? ⟨gb168, 19, none⟩ = some (.int .u32 a0_19) := (blk_cell BK168.out 19).trans rfl; have hcz14_20 : w11.cell? ⟨gb168, 20, none⟩ = some (.int .u32 a0_20) := (blk_cell BK168.out 20).trans rfl; have hcz14_21 : w11.cell? ⟨gb168, 21, none⟩ = some (.int .u32 a0_21) := (blk_cell BK168.out 21).trans rfl; have hcz14_22 : w11.cell? ⟨gb168, 22, none⟩ = some (.int .u32 a0_22) := (blk_cell BK168.out 22).trans rfl; have hcz14_23 : w11.cell? ⟨gb168, 23, none⟩ = some (.int .u32 a0_23) := (blk_cell BK168.out 23).trans rfl; have hcz14_24 : w11.cell? ⟨gb168, 24, none⟩ = some (.int .u32 a0_24) := (blk_cell BK168.out 24).trans rfl; have hcz14_25 : w11.cell? ⟨gb168, 25, none⟩ = some (.int .u32 a0_25) := (blk_cell BK168.out 25).trans rfl; have hcz14_26 : w11.cell? ⟨gb168, 26, none⟩ = some (.int .u32 a0_26) := (blk_cell BK168.out 26).trans rfl; have hcz14_27 : w11.cell? ⟨gb168, 27, none⟩ = some (.int .u32 a0_27) := (blk_cell BK168.out 27).trans rfl; have hcz14_28 : w11.cell? ⟨gb168, 28, none⟩ = some (.int .u32 a0_28) := (blk_cell BK168.out 28).trans rfl; have hcz14_29 : w11.cell? ⟨gb168, 29, none⟩ = some (.bool a0_29) := (blk_cell BK168.out 29).trans rfl) | ((with_reducible refine gate_callee (f := 12) rfl ?_); refine goesL_ (some 29) rfl rfl Try.func12 (by kernel_rfl) rfl #[.agg #[.int .u32 a0_0, .int .u32 a0_1, .int .u32 a0_2, .int .u32 a0_3, .int .u32 a0_4, .int .u32 a0_5, .int .u32 a0_6, .int .u32 a0_7, .int .u32 a0_8, .int .u32 a0_9, .int .u32 a0_10, .int .u32 a0_11, .int .u32 a0_12, .int .u32 a0_13, .int .u32 a0_14, .int .u32 a0_15, .int .u32 a0_16, .int .u32 a0_17, .int .u32 a0_18, .int .u32 a0_19, .int .u32 a0_20, .int .u32 a0_21, .int .u32 a0_22, .int .u32 a0_23, .int .u32 a0_24, .int .u32 a0_25, .int .u32 a0_26, .int .u32 a0_27, .int .u32 a0_28, .bool a0_29], .slice A1 l1.length c1, .int .u32 ((a2_0 - (Int.tmod a2_0 64)) % 4294967296), .int .i64 a2_1] rfl (by (try simp only [List.map_toArray, List.map_cons, List.map_nil]); first | done | rfl | (go_simp; done) | (simp only [List.length_drop, List.length_take]; rfl)) ?_; (first | (with_reducible refine (walk_Trans.calls k a0_0 a0_1 a0_2 a0_3 a0_4 a0_5 a0_6 a0_7 a0_8 a0_9 a0_10 a0_11 a0_12 a0_13 a0_14 a0_15 a0_16 a0_17 a0_18 a0_19 a0_20 a0_21 a0_22 a0_23 a0_24 a0_25 a0_26 a0_27 a0_28 a0_29 _ _ l1 ((a2_0 - (Int.tmod a2_0 64)) % 4294967296) a2_1 t171 t172 _ ?side1 ?side2 A9.out).mono ?_) | (with_reducible refine (walk_Trans.calls k a0_0 a0_1 a0_2 a0_3 a0_4 a0_5 a0_6 a0_7 a0_8 a0_9 a0_10 a0_11 a0_12 a0_13 a0_14 a0_15 a0_16 a0_17 a0_18 a0_19 a0_20 a0_21 a0_22 a0_23 a0_24 a0_25 a0_26 a0_27 a0_28 a0_29 _ _ l1 _ a2_1 t171 t172 _ ?side1 ?side2 (by have h_ := A9.out; first | exact h_ | (simp only [Int.add_emod_emod, Int.emod_add_emod, Int.sub_emod_emod, Int.emod_sub_emod, Int.reduceDvd, Int.emod_emod_of_dvd, Int.emod_emod] at h_ ⊢; exact h_))).mono ?_)); (case side1 => repeat (first | exact (Kd.C_below HR1.out HB.out) | (with_reducible refine Kd.C_alloc ?_ _) | (with_reducible refine Kd.C_drewN ?_ _) | (with_reducible refine Kd.C_drew ?_))); (case side2 => exact HC1.out); rintro e w15 ⟨rfl, hb⟩; refine ⟨_, rfl, ?_⟩; have n0_ := Aside0.mk (blk_below (g := gb168) (o := .cells #[.int .u32 a0_0, .int .u32 a0_1, .int .u32 a0_2, .int .u32 a0_3, .int .u32 a0_4, .int .u32 a0_5, .int .u32 a0_6, .int .u32 a0_7, .int .u32 a0_8, .int .u32 a0_9, .int .u32 a0_10, .int .u32 a0_11, .int .u32 a0_12, .int .u32 a0_13, .int .u32 a0_14, .int .u32 a0_15, .int .u32 a0_16, .int .u32 a0_17, .int .u32 a0_18, .int .u32 a0_19, .int .u32 a0_20, .int .u32 a0_21, .int .u32 a0_22, .int .u32 a0_23, .int .u32 a0_24, .int .u32 a0_25, .int .u32 a0_26, .int .u32 a0_27, .int .u32 a0_28, .bool a0_29] 35 (0, 0)) (by (with_reducible repeat (first | refine blk_drewN ?_ _ | refine blk_drew ?_ | refine blk_alloc ?_ _)); exact BK168.out) hb); have n1_ := Aside0.mk (blk_below (g := gb169) (o := .cells #[.int .u32 a2_0, .int .i64 a2_1] 37 (0, 0)) (by (with_reducible repeat (first | refine blk_drewN ?_ _ | refine blk_drew ?_ | refine blk_alloc ?_ _)); exact BK169.out) hb); have n2_ := Aside0.mk (below_step (by repeat (first | (with_reducible first | exact HB.out | apply below_alloc | apply pw_below_drewN | apply below_drew1 | refine below_set ?_ GE168.out | refine below_set ?_ GE169.out) | exact HB.out)) hb); clear BK168; clear BK169; clear HB; have BK168 := n0_; have BK169 := n1_; have HB := n2_; clear n0_ n1_ n2_; (try clear hb); (try clear hb2); (try clear hk); (try clear hi)))
    go_loopg [10] k (fun kq v10 w' => ∃ (x10_1 : Int), v10 = .int .u32 x10_1 ∧ Aside0 (cotterellaw13_WalkPage.l0 kq l1 ((a2_0 - (Int.tmod a2_0 64)) % 4294967296) t171 t172 x10_1 a0_0 a0_1 a0_2 a0_3 a0_4 a0_5 a0_6 a0_7 a0_8 a0_9 a0_10 a0_11 a0_12 a0_13 a0_14 a0_15 a0_16 a0_17 a0_18 a0_19 a0_20 a0_21 a0_22 a0_23 a0_24 a0_25 a0_26 a0_27 a0_28 a0_29 a2_0 a2_1 = some r) ∧ Aside0 (kq ≤ k) ∧ Aside0 (w'.heap[gb168]? = some (.cells #[.int .u32 a0_0, .int .u32 a0_1, .int .u32 a0_2, .int .u32 a0_3, .int .u32 a0_4, .int .u32 a0_5, .int .u32 a0_6, .int .u32 a0_7, .int .u32 a0_8, .int .u32 a0_9, .int .u32 a0_10, .int .u32 a0_11, .int .u32 a0_12, .int .u32 a0_13, .int .u32 a0_14, .int .u32 a0_15, .int .u32 a0_16, .int .u32 a0_17, .int .u32 a0_18, .int .u32 a0_19, .int .u32 a0_20, .int .u32 a0_21, .int .u32 a0_22, .int .u32 a0_23, .int .u32 a0_24, .int .u32 a0_25, .int .u32 a0_26, .int .u32 a0_27, .int .u32 a0_28, .bool a0_29] 35 (0, 0))) ∧ Aside0 (w'.heap[gb169]? = some (.cells #[.int .u32 a2_0, .int .i64 a2_1] 37 (0, 0))) ∧ Aside0 (Below w.heap.size w w'))
    case atStart => exact ⟨(0), (by first | rfl | (simp; done) | (simp [*]; done)), H', ⟨Nat.le_refl _⟩, ⟨by (with_reducible repeat (first | refine blk_drewN ?_ _ | refine blk_drew ?_ | refine blk_alloc ?_ _)); exact BK168.out⟩, ⟨by (with_reducible repeat (first | refine blk_drewN ?_ _ | refine blk_drew ?_ | refine blk_alloc ?_ _)); exact BK169.out⟩, ⟨by repeat (first | (with_reducible first | exact HB.out | apply below_alloc | apply pw_below_drewN | apply below_drew1 | refine below_set ?_ GE168.out | refine below_set ?_ GE169.out) | exact HB.out)⟩⟩
    case round =>
      clear H'
      try clear c1
      try clear p2
      try clear c4
      try clear c4b0
      try clear c4b1
      try clear c5
      try clear c8
      try clear c12
      try clear hcz13_0
      try clear hcz13_1
      try clear hcz14_0
      try clear hcz14_1
      try clear hcz14_10
      try clear hcz14_11
      try clear hcz14_12
      try clear hcz14_13
      try clear hcz14_14
      try clear hcz14_15
      try clear hcz14_16
      try clear hcz14_17
      try clear hcz14_18
      try clear hcz14_19
      try clear hcz14_2
      try clear hcz14_20
      try clear hcz14_21
      try clear hcz14_22
      try clear hcz14_23
      try clear hcz14_24
      try clear hcz14_25
      try clear hcz14_26
      try clear hcz14_27
      try clear hcz14_28
      try clear hcz14_29
      try clear hcz14_3
      try clear hcz14_4
      try clear hcz14_5
      try clear hcz14_6
      try clear hcz14_7
      try clear hcz14_8
      try clear hcz14_9
      try clear hfz13_0
      try clear hfz13_1
      try clear hfz14_0
      try clear hfz14_1
      try clear hfz14_10
      try clear hfz14_11
      try clear hfz14_12
      try clear hfz14_13
      try clear hfz14_14
      try clear hfz14_15
      try clear hfz14_16
      try clear hfz14_17
      try clear hfz14_18
      try clear hfz14_19
      try clear hfz14_2
      try clear hfz14_20
      try clear hfz14_21
      try clear hfz14_22
      try clear hfz14_23
      try clear hfz14_24
      try clear hfz14_25
      try clear hfz14_26
      try clear hfz14_27
      try clear hfz14_28
      try clear hfz14_29
      try clear hfz14_3
      try clear hfz14_4
      try clear hfz14_5
      try clear hfz14_6
      try clear hfz14_7
      try clear hfz14_8
      try clear hfz14_9
      obtain ⟨x10_1, rfl, HA, HK1, BK168, BK169, HB⟩ := hrel
      cases gk with
      | zero => exact absurd HA.out (by simp [cotterellaw13_WalkPage.l0])
      | succ k1 =>
        have H := HA.out
        clear HA
        simp only [cotterellaw13_WalkPage.l0] at H
        by_cases c16 : x10_1 < 64
        · rw [if_pos c16] at H
          have c16b0 : decide (x10_1 < 64) = true := decide_eq_true c16
          clear c16
          replace H := Option.bind_eq_some_iff.mp H
          obtain ⟨⟨t173, t174⟩, A170, H⟩ := H
          replace H : (if t174 = t172 then (if t172 = 0 then (if t173 = ((t171 + x10_1) % 4294967296) then (cotterellaw13_WalkPage.l0 k1 l1 ((a2_0 - (Int.tmod a2_0 64)) % 4294967296) t171 t172 ((x10_1 + 1) % 4294967296) a0_0 a0_1 a0_2 a0_3 a0_4 a0_5 a0_6 a0_7 a0_8 a0_9 a0_10 a0_11 a0_12 a0_13 a0_14 a0_15 a0_16 a0_17 a0_18 a0_19 a0_20 a0_21 a0_22 a0_23 a0_24 a0_25 a0_26 a0_27 a0_28 a0_29 a2_0 a2_1) else (some false)) else (if t173 = 0 then (cotterellaw13_WalkPage.l0 k1 l1 ((a2_0 - (Int.tmod a2_0 64)) % 4294967296) t171 t172 ((x10_1 + 1) % 4294967296) a0_0 a0_1 a0_2 a0_3 a0_4 a0_5 a0_6 a0_7 a0_8 a0_9 a0_10 a0_11 a0_12 a0_13 a0_14 a0_15 a0_16 a0_17 a0_18 a0_19 a0_20 a0_21 a0_22 a0_23 a0_24 a0_25 a0_26 a0_27 a0_28 a0_29 a2_0 a2_1) else (some false))) else (some false)) = some r := H
          have A17 := Aside0.mk A170
          clear A170
          by_cases c18 : t174 = t172
          · rw [if_pos c18] at H
            have c18b0 : (t174 == t172) = true := beq_iff_eq.mpr c18
            have c18b1 : (t174 != t172) = false := bne_eq_false_iff_eq.mpr c18
            clear c18
            by_cases c19 : t172 = 0
            · rw [if_pos c19] at H
              have c19b0 : (t172 == 0) = true := beq_iff_eq.mpr c19
              have c19b1 : (t172 != 0) = false := bne_eq_false_iff_eq.mpr c19
              clear c19
              by_cases c20 : t173 = ((t171 + x10_1) % 4294967296)
              · rw [if_pos c20] at H
                have c20b0 : (t173 == ((t171 + x10_1) % 4294967296)) = true := beq_iff_eq.mpr c20
                have c20b0s := c20b0
                (try simp only [Int.add_emod_emod, Int.emod_add_emod, Int.sub_emod_emod, Int.emod_sub_emod, Int.reduceDvd, Int.emod_emod_of_dvd, Int.emod_emod] at c20b0s)
                have c20b1 : (t173 != ((t171 + x10_1) % 4294967296)) = false := bne_eq_false_iff_eq.mpr c20
                have c20b1s := c20b1
                (try simp only [Int.add_emod_emod, Int.emod_add_emod, Int.sub_emod_emod, Int.emod_sub_emod, Int.reduceDvd, Int.emod_emod_of_dvd, Int.emod_emod] at c20b1s)
                clear c20
                have H' := Aside0.mk H
                clear H
                have hnb21 := NB168_169.out
                have hnc21 := NB169_168.out
                have hcz22_0 : wr.cell? ⟨gb168, 0, none⟩ = some (.int .u32 a0_0) := (blk_cell BK168.out 0).trans rfl
                have hcz22_1 : wr.cell? ⟨gb168, 1, none⟩ = some (.int .u32 a0_1) := (blk_cell BK168.out 1).trans rfl
                have hcz22_2 : wr.cell? ⟨gb168, 2, none⟩ = some (.int .u32 a0_2) := (blk_cell BK168.out 2).trans rfl
                have hcz22_3 : wr.cell? ⟨gb168, 3, none⟩ = some (.int .u32 a0_3) := (blk_cell BK168.out 3).trans rfl
                have hcz22_4 : wr.cell? ⟨gb168, 4, none⟩ = some (.int .u32 a0_4) := (blk_cell BK168.out 4).trans rfl
                have hcz22_5 : wr.cell? ⟨gb168, 5, none⟩ = some (.int .u32 a0_5) := (blk_cell BK168.out 5).trans rfl
                have hcz22_6 : wr.cell? ⟨gb168, 6, none⟩ = some (.int .u32 a0_6) := (blk_cell BK168.out 6).trans rfl
                have hcz22_7 : wr.cell? ⟨gb168, 7, none⟩ = some (.int .u32 a0_7) := (blk_cell BK168.out 7).trans rfl
                have hcz22_8 : wr.cell? ⟨gb168, 8, none⟩ = some (.int .u32 a0_8) := (blk_cell BK168.out 8).trans rfl
                have hcz22_9 : wr.cell? ⟨gb168, 9, none⟩ = some (.int .u32 a0_9) := (blk_cell BK168.out 9).trans rfl
                have hcz22_10 : wr.cell? ⟨gb168, 10, none⟩ = some (.int .u32 a0_10) := (blk_cell BK168.out 10).trans rfl
                have hcz22_11 : wr.cell? ⟨gb168, 11, none⟩ = some (.int .u32 a0_11) := (blk_cell BK168.out 11).trans rfl
                have hcz22_12 : wr.cell? ⟨gb168, 12, none⟩ = some (.int .u32 a0_12) := (blk_cell BK168.out 12).trans rfl
                have hcz22_13 : wr.cell? ⟨gb168, 13, none⟩ = some (.int .u32 a0_13) := (blk_cell BK168.out 13).trans rfl
                have hcz22_14 : wr.cell? ⟨gb168, 14, none⟩ = some (.int .u32 a0_14) := (blk_cell BK168.out 14).trans rfl
                have hcz22_15 : wr.cell? ⟨gb168, 15, none⟩ = some (.int .u32 a0_15) := (blk_cell BK168.out 15).trans rfl
                have hcz22_16 : wr.cell? ⟨gb168, 16, none⟩ = some (.int .u32 a0_16) := (blk_cell BK168.out 16).trans rfl
                have hcz22_17 : wr.cell? ⟨gb168, 17, none⟩ = some (.int .u32 a0_17) := (blk_cell BK168.out 17).trans rfl
                have hcz22_18 : wr.cell? ⟨gb168, 18, none⟩ = some (.int .u32 a0_18) := (blk_cell BK168.out 18).trans rfl
                have hcz22_19 : wr.cell? ⟨gb168, 19, none⟩ = some (.int .u32 a0_19) := (blk_cell BK168.out 19).trans rfl
                have hcz22_20 : wr.cell? ⟨gb168, 20, none⟩ = some (.int .u32 a0_20) := (blk_cell BK168.out 20).trans rfl
                have hcz22_21 : wr.cell? ⟨gb168, 21, none⟩ = some (.int .u32 a0_21) := (blk_cell BK168.out 21).trans rfl
                have hcz22_22 : wr.cell? ⟨gb168, 22, none⟩ = some (.int .u32 a0_22) := (blk_cell BK168.out 22).trans rfl
                have hcz22_23 : wr.cell? ⟨gb168, 23, none⟩ = some (.int .u32 a0_23) := (blk_cell BK168.out 23).trans rfl
                have hcz22_24 : wr.cell? ⟨gb168, 24, none⟩ = some (.int .u32 a0_24) := (blk_cell BK168.out 24).trans rfl
                have hcz22_25 : wr.cell? ⟨gb168, 25, none⟩ = some (.int .u32 a0_25) := (blk_cell BK168.out 25).trans rfl
                have hcz22_26 : wr.cell? ⟨gb168, 26, none⟩ = some (.int .u32 a0_26) := (blk_cell BK168.out 26).trans rfl
                have hcz22_27 : wr.cell? ⟨gb168, 27, none⟩ = some (.int .u32 a0_27) := (blk_cell BK168.out 27).trans rfl
                have hcz22_28 : wr.cell? ⟨gb168, 28, none⟩ = some (.int .u32 a0_28) := (blk_cell BK168.out 28).trans rfl
                have hcz22_29 : wr.cell? ⟨gb168, 29, none⟩ = some (.bool a0_29) := (blk_cell BK168.out 29).trans rfl
                have hcz23_0 : wr.cell? ⟨gb169, 0, none⟩ = some (.int .u32 a2_0) := (blk_cell BK169.out 0).trans rfl
                have hcz23_1 : wr.cell? ⟨gb169, 1, none⟩ = some (.int .i64 a2_1) := (blk_cell BK169.out 1).trans rfl
                have hfz23_0 := blk_frozen BK169.out 0
                have hfz23_1 := blk_frozen BK169.out 1
                go_wp2_with (first | ((with_reducible refine gate_dst (N := 37) rfl ?_); refine Go.Proofs.Ytmkipjmadmjfaaa.Cp.load_whole 35 (.tmp 3) gb168 rfl rfl rfl (by (with_reducible repeat (first | refine blk_drewN ?_ _ | refine blk_drew ?_ | refine blk_alloc ?_ _)); exact BK168.out) Try.underlying35 rfl (by kernel_rfl) ?_) | ((with_reducible refine gate_dst (N := 24) rfl ?_); refine Go.Proofs.Ytmkipjmadmjfaaa.Cp.load_whole 35 (.tmp 3) gb168 rfl rfl rfl (by (with_reducible repeat (first | refine blk_drewN ?_ _ | refine blk_drew ?_ | refine blk_alloc ?_ _)); exact BK168.out) Try.underlying35 rfl (by kernel_rfl) ?_) | ((with_reducible refine gate_callee (f := 12) rfl ?_); refine goesL_ (some 44) rfl rfl Try.func12 (by kernel_rfl) rfl #[.agg #[.int .u32 a0_0, .int .u32 a0_1, .int .u32 a0_2, .int .u32 a0_3, .int .u32 a0_4, .int .u32 a0_5, .int .u32 a0_6, .int .u32 a0_7, .int .u32 a0_8, .int .u32 a0_9, .int .u32 a0_10, .int .u32 a0_11, .int .u32 a0_12, .int .u32 a0_13, .int .u32 a0_14, .int .u32 a0_15, .int .u32 a0_16, .int .u32 a0_17, .int .u32 a0_18, .int .u32 a0_19, .int .u32 a0_20, .int .u32 a0_21, .int .u32 a0_22, .int .u32 a0_23, .int .u32 a0_24, .int .u32 a0_25, .int .u32 a0_26, .int .u32 a0_27, .int .u32 a0_28, .bool a0_29], .slice A1 l1.length c1, .int .u32 (((a2_0 - (Int.tmod a2_0 64)) + x10_1) % 4294967296), .int .i64 a2_1] rfl (by (try simp only [List.map_toArray, List.map_cons, List.map_nil]); first | done | rfl | (go_simp; done) | (simp only [List.length_drop, List.length_take]; rfl)) ?_; (first | (with_reducible refine (walk_Trans.calls k1 a0_0 a0_1 a0_2 a0_3 a0_4 a0_5 a0_6 a0_7 a0_8 a0_9 a0_10 a0_11 a0_12 a0_13 a0_14 a0_15 a0_16 a0_17 a0_18 a0_19 a0_20 a0_21 a0_22 a0_23 a0_24 a0_25 a0_26 a0_27 a0_28 a0_29 _ _ l1 (((a2_0 - (Int.tmod a2_0 64)) + x10_1) % 4294967296) a2_1 t173 t174 _ ?side1 ?side2 A17.out).mono ?_) | (with_reducible refine (walk_Trans.calls k1 a0_0 a0_1 a0_2 a0_3 a0_4 a0_5 a0_6 a0_7 a0_8 a0_9 a0_10 a0_11 a0_12 a0_13 a0_14 a0_15 a0_16 a0_17 a0_18 a0_19 a0_20 a0_21 a0_22 a0_23 a0_24 a0_25 a0_26 a0_27 a0_28 a0_29 _ _ l1 _ a2_1 t173 t174 _ ?side1 ?side2 (by have h_ := A17.out; first | exact h_ | (simp only [Int.add_emod_emod, Int.emod_add_emod, Int.sub_emod_emod, Int.emod_sub_emod, Int.reduceDvd, Int.emod_emod_of_dvd, Int.emod_emod] at h_ ⊢; exact h_))).mono ?_)); (case side1 => repeat (first | exact (Kd.C_below HR1.out HB.out) | (with_reducible refine Kd.C_alloc ?_ _) | (with_reducible refine Kd.C_drewN ?_ _) | (with_reducible refine Kd.C_drew ?_))); (case side2 => exact HC1.out); rintro e w24 ⟨rfl, hb⟩; refine ⟨_, rfl, ?_⟩; have n0_ := Aside0.mk (blk_below (g := gb168) (o := .cells #[.int .u32 a0_0, .int .u32 a0_1, .int .u32 a0_2, .int .u32 a0_3, .int .u32 a0_4, .int .u32 a0_5, .int .u32 a0_6, .int .u32 a0_7, .int .u32 a0_8, .int .u32 a0_9, .int .u32 a0_10, .int .u32 a0_11, .int .u32 a0_12, .int .u32 a0_13, .int .u32 a0_14, .int .u32 a0_15, .int .u32 a0_16, .int .u32 a0_17, .int .u32 a0_18, .int .u32 a0_19, .int .u32 a0_20, .int .u32 a0_21, .int .u32 a0_22, .int .u32 a0_23, .int .u32 a0_24, .int .u32 a0_25, .int .u32 a0_26, .int .u32 a0_27, .int .u32 a0_28, .bool a0_29] 35 (0, 0)) (by (with_reducible repeat (first | refine blk_drewN ?_ _ | refine blk_drew ?_ | refine blk_alloc ?_ _)); exact BK168.out) hb); have n1_ := Aside0.mk (blk_below (g := gb169) (o := .cells #[.int .u32 a2_0, .int .i64 a2_1] 37 (0, 0)) (by (with_reducible repeat (first | refine blk_drewN ?_ _ | refine blk_drew ?_ | refine blk_alloc ?_ _)); exact BK169.out) hb); have n2_ := Aside0.mk (below_step (by repeat (first | (with_reducible first | exact HB.out | apply below_alloc | apply pw_below_drewN | apply below_drew1 | refine below_set ?_ GE168.out | refine below_set ?_ GE169.out) | exact HB.out)) hb); clear BK168; clear BK169; clear HB; have BK168 := n0_; have BK169 := n1_; have HB := n2_; clear n0_ n1_ n2_; (try clear hb); (try clear hb2); (try clear hk); (try clear hi)))
                go_roundg k1
                case measure => have := HK1.out; omega
                case rel => exact ⟨((x10_1 + 1) % 4294967296), (by first | rfl | (simp; done) | (simp [*]; done)), H', ⟨by have := HK1.out; omega⟩, ⟨by (with_reducible repeat (first | refine blk_drewN ?_ _ | refine blk_drew ?_ | refine blk_alloc ?_ _)); exact BK168.out⟩, ⟨by (with_reducible repeat (first | refine blk_drewN ?_ _ | refine blk_drew ?_ | refine blk_alloc ?_ _)); exact BK169.out⟩, ⟨by repeat (first | (with_reducible first | exact HB.out | apply below_alloc | apply pw_below_drewN | apply below_drew1 | refine below_set ?_ GE168.out | refine below_set ?_ GE169.out) | exact HB.out)⟩⟩
              · rw [if_neg c20] at H
                have c20b0 : (t173 == ((t171 + x10_1) % 4294967296)) = false := beq_eq_false_iff_ne.mpr c20
                have c20b0s := c20b0
                (try simp only [Int.add_emod_emod, Int.emod_add_emod, Int.sub_emod_emod, Int.emod_sub_emod, Int.reduceDvd, Int.emod_emod_of_dvd, Int.emod_emod] at c20b0s)
                have c20b1 : (t173 != ((t171 + x10_1) % 4294967296)) = true := bne_iff_ne.mpr c20
                have c20b1s := c20b1
                (try simp only [Int.add_emod_emod, Int.emod_add_emod, Int.sub_emod_emod, Int.emod_sub_emod, Int.reduceDvd, Int.emod_emod_of_dvd, Int.emod_emod] at c20b1s)
                obtain rfl := Option.some.inj H
                have hnb25 := NB168_169.out
                have hnc25 := NB169_168.out
                have hcz26_0 : wr.cell? ⟨gb168, 0, none⟩ = some (.int .u32 a0_0) := (blk_cell BK168.out 0).trans rfl
                have hcz26_1 : wr.cell? ⟨gb168, 1, none⟩ = some (.int .u32 a0_1) := (blk_cell BK168.out 1).trans rfl
                have hcz26_2 : wr.cell? ⟨gb168, 2, none⟩ = some (.int .u32 a0_2) := (blk_cell BK168.out 2).trans rfl
                have hcz26_3 : wr.cell? ⟨gb168, 3, none⟩ = some (.int .u32 a0_3) := (blk_cell BK168.out 3).trans rfl
                have hcz26_4 : wr.cell? ⟨gb168, 4, none⟩ = some (.int .u32 a0_4) := (blk_cell BK168.out 4).trans rfl
                have hcz26_5 : wr.cell? ⟨gb168, 5, none⟩ = some (.int .u32 a0_5) := (blk_cell BK168.out 5).trans rfl
                have hcz26_6 : wr.cell? ⟨gb168, 6, none⟩ = some (.int .u32 a0_6) := (blk_cell BK168.out 6).trans rfl
                have hcz26_7 : wr.cell? ⟨gb168, 7, none⟩ = some (.int .u32 a0_7) := (blk_cell BK168.out 7).trans rfl
                have hcz26_8 : wr.cell? ⟨gb168, 8, none⟩ = some (.int .u32 a0_8) := (blk_cell BK168.out 8).trans rfl
                have hcz26_9 : wr.cell? ⟨gb168, 9, none⟩ = some (.int .u32 a0_9) := (blk_cell BK168.out 9).trans rfl
                have hcz26_10 : wr.cell? ⟨gb168, 10, none⟩ = some (.int .u32 a0_10) := (blk_cell BK168.out 10).trans rfl
                have hcz26_11 : wr.cell? ⟨gb168, 11, none⟩ = some (.int .u32 a0_11) := (blk_cell BK168.out 11).trans rfl
                have hcz26_12 : wr.cell? ⟨gb168, 12, none⟩ = some (.int .u32 a0_12) := (blk_cell BK168.out 12).trans rfl
                have hcz26_13 : wr.cell? ⟨gb168, 13, none⟩ = some (.int .u32 a0_13) := (blk_cell BK168.out 13).trans rfl
                have hcz26_14 : wr.cell? ⟨gb168, 14, none⟩ = some (.int .u32 a0_14) := (blk_cell BK168.out 14).trans rfl
                have hcz26_15 : wr.cell? ⟨gb168, 15, none⟩ = some (.int .u32 a0_15) := (blk_cell BK168.out 15).trans rfl
                have hcz26_16 : wr.cell? ⟨gb168, 16, none⟩ = some (.int .u32 a0_16) := (blk_cell BK168.out 16).trans rfl
                have hcz26_17 : wr.cell? ⟨gb168, 17, none⟩ = some (.int .u32 a0_17) := (blk_cell BK168.out 17).trans rfl
                have hcz26_18 : wr.cell? ⟨gb168, 18, none⟩ = some (.int .u32 a0_18) := (blk_cell BK168.out 18).trans rfl
                have hcz26_19 : wr.cell? ⟨gb168, 19, none⟩ = some (.int .u32 a0_19) := (blk_cell BK168.out 19).trans rfl
                have hcz26_20 : wr.cell? ⟨gb168, 20, none⟩ = some (.int .u32 a0_20) := (blk_cell BK168.out 20).trans rfl
                have hcz26_21 : wr.cell? ⟨gb168, 21, none⟩ = some (.int .u32 a0_21) := (blk_cell BK168.out 21).trans rfl
                have hcz26_22 : wr.cell? ⟨gb168, 22, none⟩ = some (.int .u32 a0_22) := (blk_cell BK168.out 22).trans rfl
                have hcz26_23 : wr.cell? ⟨gb168, 23, none⟩ = some (.int .u32 a0_23) := (blk_cell BK168.out 23).trans rfl
                have hcz26_24 : wr.cell? ⟨gb168, 24, none⟩ = some (.int .u32 a0_24) := (blk_cell BK168.out 24).trans rfl
                have hcz26_25 : wr.cell? ⟨gb168, 25, none⟩ = some (.int .u32 a0_25) := (blk_cell BK168.out 25).trans rfl
                have hcz26_26 : wr.cell? ⟨gb168, 26, none⟩ = some (.int .u32 a0_26) := (blk_cell BK168.out 26).trans rfl
                have hcz26_27 : wr.cell? ⟨gb168, 27, none⟩ = some (.int .u32 a0_27) := (blk_cell BK168.out 27).trans rfl
                have hcz26_28 : wr.cell? ⟨gb168, 28, none⟩ = some (.int .u32 a0_28) := (blk_cell BK168.out 28).trans rfl
                have hcz26_29 : wr.cell? ⟨gb168, 29, none⟩ = some (.bool a0_29) := (blk_cell BK168.out 29).trans rfl
                have hcz27_0 : wr.cell? ⟨gb169, 0, none⟩ = some (.int .u32 a2_0) := (blk_cell BK169.out 0).trans rfl
                have hcz27_1 : wr.cell? ⟨gb169, 1, none⟩ = some (.int .i64 a2_1) := (blk_cell BK169.out 1).trans rfl
                have hfz27_0 := blk_frozen BK169.out 0
                have hfz27_1 := blk_frozen BK169.out 1
                go_wp2_with (first | ((with_reducible refine gate_dst (N := 37) rfl ?_); refine Go.Proofs.Ytmkipjmadmjfaaa.Cp.load_whole 35 (.tmp 3) gb168 rfl rfl rfl (by (with_reducible repeat (first | refine blk_drewN ?_ _ | refine blk_drew ?_ | refine blk_alloc ?_ _)); exact BK168.out) Try.underlying35 rfl (by kernel_rfl) ?_) | ((with_reducible refine gate_dst (N := 24) rfl ?_); refine Go.Proofs.Ytmkipjmadmjfaaa.Cp.load_whole 35 (.tmp 3) gb168 rfl rfl rfl (by (with_reducible repeat (first | refine blk_drewN ?_ _ | refine blk_drew ?_ | refine blk_alloc ?_ _)); exact BK168.out) Try.underlying35 rfl (by kernel_rfl) ?_) | ((with_reducible refine gate_callee (f := 12) rfl ?_); refine goesL_ (some 44) rfl rfl Try.func12 (by kernel_rfl) rfl #[.agg #[.int .u32 a0_0, .int .u32 a0_1, .int .u32 a0_2, .int .u32 a0_3, .int .u32 a0_4, .int .u32 a0_5, .int .u32 a0_6, .int .u32 a0_7, .int .u32 a0_8, .int .u32 a0_9, .int .u32 a0_10, .int .u32 a0_11, .int .u32 a0_12, .int .u32 a0_13, .int .u32 a0_14, .int .u32 a0_15, .int .u32 a0_16, .int .u32 a0_17, .int .u32 a0_18, .int .u32 a0_19, .int .u32 a0_20, .int .u32 a0_21, .int .u32 a0_22, .int .u32 a0_23, .int .u32 a0_24, .int .u32 a0_25, .int .u32 a0_26, .int .u32 a0_27, .int .u32 a0_28, .bool a0_29], .slice A1 l1.length c1, .int .u32 (((a2_0 - (Int.tmod a2_0 64)) + x10_1) % 4294967296), .int .i64 a2_1] rfl (by (try simp only [List.map_toArray, List.map_cons, List.map_nil]); first | done | rfl | (go_simp; done) | (simp only [List.length_drop, List.length_take]; rfl)) ?_; (first | (with_reducible refine (walk_Trans.calls k1 a0_0 a0_1 a0_2 a0_3 a0_4 a0_5 a0_6 a0_7 a0_8 a0_9 a0_10 a0_11 a0_12 a0_13 a0_14 a0_15 a0_16 a0_17 a0_18 a0_19 a0_20 a0_21 a0_22 a0_23 a0_24 a0_25 a0_26 a0_27 a0_28 a0_29 _ _ l1 (((a2_0 - (Int.tmod a2_0 64)) + x10_1) % 4294967296) a2_1 t173 t174 _ ?side1 ?side2 A17.out).mono ?_) | (with_reducible refine (walk_Trans.calls k1 a0_0 a0_1 a0_2 a0_3 a0_4 a0_5 a0_6 a0_7 a0_8 a0_9 a0_10 a0_11 a0_12 a0_13 a0_14 a0_15 a0_16 a0_17 a0_18 a0_19 a0_20 a0_21 a0_22 a0_23 a0_24 a0_25 a0_26 a0_27 a0_28 a0_29 _ _ l1 _ a2_1 t173 t174 _ ?side1 ?side2 (by have h_ := A17.out; first | exact h_ | (simp only [Int.add_emod_emod, Int.emod_add_emod, Int.sub_emod_emod, Int.emod_sub_emod, Int.reduceDvd, Int.emod_emod_of_dvd, Int.emod_emod] at h_ ⊢; exact h_))).mono ?_)); (case side1 => repeat (first | exact (Kd.C_below HR1.out HB.out) | (with_reducible refine Kd.C_alloc ?_ _) | (with_reducible refine Kd.C_drewN ?_ _) | (with_reducible refine Kd.C_drew ?_))); (case side2 => exact HC1.out); rintro e w28 ⟨rfl, hb⟩; refine ⟨_, rfl, ?_⟩; have n0_ := Aside0.mk (blk_below (g := gb168) (o := .cells #[.int .u32 a0_0, .int .u32 a0_1, .int .u32 a0_2, .int .u32 a0_3, .int .u32 a0_4, .int .u32 a0_5, .int .u32 a0_6, .int .u32 a0_7, .int .u32 a0_8, .int .u32 a0_9, .int .u32 a0_10, .int .u32 a0_11, .int .u32 a0_12, .int .u32 a0_13, .int .u32 a0_14, .int .u32 a0_15, .int .u32 a0_16, .int .u32 a0_17, .int .u32 a0_18, .int .u32 a0_19, .int .u32 a0_20, .int .u32 a0_21, .int .u32 a0_22, .int .u32 a0_23, .int .u32 a0_24, .int .u32 a0_25, .int .u32 a0_26, .int .u32 a0_27, .int .u32 a0_28, .bool a0_29] 35 (0, 0)) (by (with_reducible repeat (first | refine blk_drewN ?_ _ | refine blk_drew ?_ | refine blk_alloc ?_ _)); exact BK168.out) hb); have n1_ := Aside0.mk (blk_below (g := gb169) (o := .cells #[.int .u32 a2_0, .int .i64 a2_1] 37 (0, 0)) (by (with_reducible repeat (first | refine blk_drewN ?_ _ | refine blk_drew ?_ | refine blk_alloc ?_ _)); exact BK169.out) hb); have n2_ := Aside0.mk (below_step (by repeat (first | (with_reducible first | exact HB.out | apply below_alloc | apply pw_below_drewN | apply below_drew1 | refine below_set ?_ GE168.out | refine below_set ?_ GE169.out) | exact HB.out)) hb); clear BK168; clear BK169; clear HB; have BK168 := n0_; have BK169 := n1_; have HB := n2_; clear n0_ n1_ n2_; (try clear hb); (try clear hb2); (try clear hk); (try clear hi)))
                go_ret
                exact ⟨by first | rfl | (simp [errW_none, errW_some] <;> rfl) | (simp [*, errW_none, errW_some] <;> rfl), by repeat (first | (with_reducible first | exact HB.out | apply below_alloc | apply pw_below_drewN | apply below_drew1 | refine below_set ?_ GE168.out | refine below_set ?_ GE169.out) | exact HB.out)⟩
            · rw [if_neg c19] at H
              have c19b0 : (t172 == 0) = false := beq_eq_false_iff_ne.mpr c19
              have c19b1 : (t172 != 0) = true := bne_iff_ne.mpr c19
              by_cases c29 : t173 = 0
              · rw [if_pos c29] at H
                have c29b0 : (t173 == 0) = true := beq_iff_eq.mpr c29
                have c29b1 : (t173 != 0) = false := bne_eq_false_iff_eq.mpr c29
                clear c29
                have H' := Aside0.mk H
                clear H
                have hnb30 := NB168_169.out
                have hnc30 := NB169_168.out
                have hcz31_0 : wr.cell? ⟨gb168, 0, none⟩ = some (.int .u32 a0_0) := (blk_cell BK168.out 0).trans rfl
                have hcz31_1 : wr.cell? ⟨gb168, 1, none⟩ = some (.int .u32 a0_1) := (blk_cell BK168.out 1).trans rfl
                have hcz31_2 : wr.cell? ⟨gb168, 2, none⟩ = some (.int .u32 a0_2) := (blk_cell BK168.out 2).trans rfl
                have hcz31_3 : wr.cell? ⟨gb168, 3, none⟩ = some (.int .u32 a0_3) := (blk_cell BK168.out 3).trans rfl
                have hcz31_4 : wr.cell? ⟨gb168, 4, none⟩ = some (.int .u32 a0_4) := (blk_cell BK168.out 4).trans rfl
                have hcz31_5 : wr.cell? ⟨gb168, 5, none⟩ = some (.int .u32 a0_5) := (blk_cell BK168.out 5).trans rfl
                have hcz31_6 : wr.cell? ⟨gb168, 6, none⟩ = some (.int .u32 a0_6) := (blk_cell BK168.out 6).trans rfl
                have hcz31_7 : wr.cell? ⟨gb168, 7, none⟩ = some (.int .u32 a0_7) := (blk_cell BK168.out 7).trans rfl
                have hcz31_8 : wr.cell? ⟨gb168, 8, none⟩ = some (.int .u32 a0_8) := (blk_cell BK168.out 8).trans rfl
                have hcz31_9 : wr.cell? ⟨gb168, 9, none⟩ = some (.int .u32 a0_9) := (blk_cell BK168.out 9).trans rfl
                have hcz31_10 : wr.cell? ⟨gb168, 10, none⟩ = some (.int .u32 a0_10) := (blk_cell BK168.out 10).trans rfl
                have hcz31_11 : wr.cell? ⟨gb168, 11, none⟩ = some (.int .u32 a0_11) := (blk_cell BK168.out 11).trans rfl
                have hcz31_12 : wr.cell? ⟨gb168, 12, none⟩ = some (.int .u32 a0_12) := (blk_cell BK168.out 12).trans rfl
                have hcz31_13 : wr.cell? ⟨gb168, 13, none⟩ = some (.int .u32 a0_13) := (blk_cell BK168.out 13).trans rfl
                have hcz31_14 : wr.cell? ⟨gb168, 14, none⟩ = some (.int .u32 a0_14) := (blk_cell BK168.out 14).trans rfl
                have hcz31_15 : wr.cell? ⟨gb168, 15, none⟩ = some (.int .u32 a0_15) := (blk_cell BK168.out 15).trans rfl
                have hcz31_16 : wr.cell? ⟨gb168, 16, none⟩ = some (.int .u32 a0_16) := (blk_cell BK168.out 16).trans rfl
                have hcz31_17 : wr.cell? ⟨gb168, 17, none⟩ = some (.int .u32 a0_17) := (blk_cell BK168.out 17).trans rfl
                have hcz31_18 : wr.cell? ⟨gb168, 18, none⟩ = some (.int .u32 a0_18) := (blk_cell BK168.out 18).trans rfl
                have hcz31_19 : wr.cell? ⟨gb168, 19, none⟩ = some (.int .u32 a0_19) := (blk_cell BK168.out 19).trans rfl
                have hcz31_20 : wr.cell? ⟨gb168, 20, none⟩ = some (.int .u32 a0_20) := (blk_cell BK168.out 20).trans rfl
                have hcz31_21 : wr.cell? ⟨gb168, 21, none⟩ = some (.int .u32 a0_21) := (blk_cell BK168.out 21).trans rfl
                have hcz31_22 : wr.cell? ⟨gb168, 22, none⟩ = some (.int .u32 a0_22) := (blk_cell BK168.out 22).trans rfl
                have hcz31_23 : wr.cell? ⟨gb168, 23, none⟩ = some (.int .u32 a0_23) := (blk_cell BK168.out 23).trans rfl
                have hcz31_24 : wr.cell? ⟨gb168, 24, none⟩ = some (.int .u32 a0_24) := (blk_cell BK168.out 24).trans rfl
                have hcz31_25 : wr.cell? ⟨gb168, 25, none⟩ = some (.int .u32 a0_25) := (blk_cell BK168.out 25).trans rfl
                have hcz31_26 : wr.cell? ⟨gb168, 26, none⟩ = some (.int .u32 a0_26) := (blk_cell BK168.out 26).trans rfl
                have hcz31_27 : wr.cell? ⟨gb168, 27, none⟩ = some (.int .u32 a0_27) := (blk_cell BK168.out 27).trans rfl
                have hcz31_28 : wr.cell? ⟨gb168, 28, none⟩ = some (.int .u32 a0_28) := (blk_cell BK168.out 28).trans rfl
                have hcz31_29 : wr.cell? ⟨gb168, 29, none⟩ = some (.bool a0_29) := (blk_cell BK168.out 29).trans rfl
                have hcz32_0 : wr.cell? ⟨gb169, 0, none⟩ = some (.int .u32 a2_0) := (blk_cell BK169.out 0).trans rfl
                have hcz32_1 : wr.cell? ⟨gb169, 1, none⟩ = some (.int .i64 a2_1) := (blk_cell BK169.out 1).trans rfl
                have hfz32_0 := blk_frozen BK169.out 0
                have hfz32_1 := blk_frozen BK169.out 1
                go_wp2_with (first | ((with_reducible refine gate_dst (N := 37) rfl ?_); refine Go.Proofs.Ytmkipjmadmjfaaa.Cp.load_whole 35 (.tmp 3) gb168 rfl rfl rfl (by (with_reducible repeat (first | refine blk_drewN ?_ _ | refine blk_drew ?_ | refine blk_alloc ?_ _)); exact BK168.out) Try.underlying35 rfl (by kernel_rfl) ?_) | ((with_reducible refine gate_dst (N := 24) rfl ?_); refine Go.Proofs.Ytmkipjmadmjfaaa.Cp.load_whole 35 (.tmp 3) gb168 rfl rfl rfl (by (with_reducible repeat (first | refine blk_drewN ?_ _ | refine blk_drew ?_ | refine blk_alloc ?_ _)); exact BK168.out) Try.underlying35 rfl (by kernel_rfl) ?_) | ((with_reducible refine gate_callee (f := 12) rfl ?_); refine goesL_ (some 44) rfl rfl Try.func12 (by kernel_rfl) rfl #[.agg #[.int .u32 a0_0, .int .u32 a0_1, .int .u32 a0_2, .int .u32 a0_3, .int .u32 a0_4, .int .u32 a0_5, .int .u32 a0_6, .int .u32 a0_7, .int .u32 a0_8, .int .u32 a0_9, .int .u32 a0_10, .int .u32 a0_11, .int .u32 a0_12, .int .u32 a0_13, .int .u32 a0_14, .int .u32 a0_15, .int .u32 a0_16, .int .u32 a0_17, .int .u32 a0_18, .int .u32 a0_19, .int .u32 a0_20, .int .u32 a0_21, .int .u32 a0_22, .int .u32 a0_23, .int .u32 a0_24, .int .u32 a0_25, .int .u32 a0_26, .int .u32 a0_27, .int .u32 a0_28, .bool a0_29], .slice A1 l1.length c1, .int .u32 (((a2_0 - (Int.tmod a2_0 64)) + x10_1) % 4294967296), .int .i64 a2_1] rfl (by (try simp only [List.map_toArray, List.map_cons, List.map_nil]); first | done | rfl | (go_simp; done) | (simp only [List.length_drop, List.length_take]; rfl)) ?_; (first | (with_reducible refine (walk_Trans.calls k1 a0_0 a0_1 a0_2 a0_3 a0_4 a0_5 a0_6 a0_7 a0_8 a0_9 a0_10 a0_11 a0_12 a0_13 a0_14 a0_15 a0_16 a0_17 a0_18 a0_19 a0_20 a0_21 a0_22 a0_23 a0_24 a0_25 a0_26 a0_27 a0_28 a0_29 _ _ l1 (((a2_0 - (Int.tmod a2_0 64)) + x10_1) % 4294967296) a2_1 t173 t174 _ ?side1 ?side2 A17.out).mono ?_) | (with_reducible refine (walk_Trans.calls k1 a0_0 a0_1 a0_2 a0_3 a0_4 a0_5 a0_6 a0_7 a0_8 a0_9 a0_10 a0_11 a0_12 a0_13 a0_14 a0_15 a0_16 a0_17 a0_18 a0_19 a0_20 a0_21 a0_22 a0_23 a0_24 a0_25 a0_26 a0_27 a0_28 a0_29 _ _ l1 _ a2_1 t173 t174 _ ?side1 ?side2 (by have h_ := A17.out; first | exact h_ | (simp only [Int.add_emod_emod, Int.emod_add_emod, Int.sub_emod_emod, Int.emod_sub_emod, Int.reduceDvd, Int.emod_emod_of_dvd, Int.emod_emod] at h_ ⊢; exact h_))).mono ?_)); (case side1 => repeat (first | exact (Kd.C_below HR1.out HB.out) | (with_reducible refine Kd.C_alloc ?_ _) | (with_reducible refine Kd.C_drewN ?_ _) | (with_reducible refine Kd.C_drew ?_))); (case side2 => exact HC1.out); rintro e w33 ⟨rfl, hb⟩; refine ⟨_, rfl, ?_⟩; have n0_ := Aside0.mk (blk_below (g := gb168) (o := .cells #[.int .u32 a0_0, .int .u32 a0_1, .int .u32 a0_2, .int .u32 a0_3, .int .u32 a0_4, .int .u32 a0_5, .int .u32 a0_6, .int .u32 a0_7, .int .u32 a0_8, .int .u32 a0_9, .int .u32 a0_10, .int .u32 a0_11, .int .u32 a0_12, .int .u32 a0_13, .int .u32 a0_14, .int .u32 a0_15, .int .u32 a0_16, .int .u32 a0_17, .int .u32 a0_18, .int .u32 a0_19, .int .u32 a0_20, .int .u32 a0_21, .int .u32 a0_22, .int .u32 a0_23, .int .u32 a0_24, .int .u32 a0_25, .int .u32 a0_26, .int .u32 a0_27, .int .u32 a0_28, .bool a0_29] 35 (0, 0)) (by (with_reducible repeat (first | refine blk_drewN ?_ _ | refine blk_drew ?_ | refine blk_alloc ?_ _)); exact BK168.out) hb); have n1_ := Aside0.mk (blk_below (g := gb169) (o := .cells #[.int .u32 a2_0, .int .i64 a2_1] 37 (0, 0)) (by (with_reducible repeat (first | refine blk_drewN ?_ _ | refine blk_drew ?_ | refine blk_alloc ?_ _)); exact BK169.out) hb); have n2_ := Aside0.mk (below_step (by repeat (first | (with_reducible first | exact HB.out | apply below_alloc | apply pw_below_drewN | apply below_drew1 | refine below_set ?_ GE168.out | refine below_set ?_ GE169.out) | exact HB.out)) hb); clear BK168; clear BK169; clear HB; have BK168 := n0_; have BK169 := n1_; have HB := n2_; clear n0_ n1_ n2_; (try clear hb); (try clear hb2); (try clear hk); (try clear hi)))
                go_roundg k1
                case measure => have := HK1.out; omega
                case rel => exact ⟨((x10_1 + 1) % 4294967296), (by first | rfl | (simp; done) | (simp [*]; done)), H', ⟨by have := HK1.out; omega⟩, ⟨by (with_reducible repeat (first | refine blk_drewN ?_ _ | refine blk_drew ?_ | refine blk_alloc ?_ _)); exact BK168.out⟩, ⟨by (with_reducible repeat (first | refine blk_drewN ?_ _ | refine blk_drew ?_ | refine blk_alloc ?_ _)); exact BK169.out⟩, ⟨by repeat (first | (with_reducible first | exact HB.out | apply below_alloc | apply pw_below_drewN | apply below_drew1 | refine below_set ?_ GE168.out | refine below_set ?_ GE169.out) | exact HB.out)⟩⟩
              · rw [if_neg c29] at H
                have c29b0 : (t173 == 0) = false := beq_eq_false_iff_ne.mpr c29
                have c29b1 : (t173 != 0) = true := bne_iff_ne.mpr c29
                obtain rfl := Option.some.inj H
                have hnb34 := NB168_169.out
                have hnc34 := NB169_168.out
                have hcz35_0 : wr.cell? ⟨gb168, 0, none⟩ = some (.int .u32 a0_0) := (blk_cell BK168.out 0).trans rfl
                have hcz35_1 : wr.cell? ⟨gb168, 1, none⟩ = some (.int .u32 a0_1) := (blk_cell BK168.out 1).trans rfl
                have hcz35_2 : wr.cell? ⟨gb168, 2, none⟩ = some (.int .u32 a0_2) := (blk_cell BK168.out 2).trans rfl
                have hcz35_3 : wr.cell? ⟨gb168, 3, none⟩ = some (.int .u32 a0_3) := (blk_cell BK168.out 3).trans rfl
                have hcz35_4 : wr.cell? ⟨gb168, 4, none⟩ = some (.int .u32 a0_4) := (blk_cell BK168.out 4).trans rfl
                have hcz35_5 : wr.cell? ⟨gb168, 5, none⟩ = some (.int .u32 a0_5) := (blk_cell BK168.out 5).trans rfl
                have hcz35_6 : wr.cell? ⟨gb168, 6, none⟩ = some (.int .u32 a0_6) := (blk_cell BK168.out 6).trans rfl
                have hcz35_7 : wr.cell? ⟨gb168, 7, none⟩ = some (.int .u32 a0_7) := (blk_cell BK168.out 7).trans rfl
                have hcz35_8 : wr.cell? ⟨gb168, 8, none⟩ = some (.int .u32 a0_8) := (blk_cell BK168.out 8).trans rfl
                have hcz35_9 : wr.cell? ⟨gb168, 9, none⟩ = some (.int .u32 a0_9) := (blk_cell BK168.out 9).trans rfl
                have hcz35_10 : wr.cell? ⟨gb168, 10, none⟩ = some (.int .u32 a0_10) := (blk_cell BK168.out 10).trans rfl
                have hcz35_11 : wr.cell? ⟨gb168, 11, none⟩ = some (.int .u32 a0_11) := (blk_cell BK168.out 11).trans rfl
                have hcz35_12 : wr.cell? ⟨gb168, 12, none⟩ = some (.int .u32 a0_12) := (blk_cell BK168.out 12).trans rfl
                have hcz35_13 : wr.cell? ⟨gb168, 13, none⟩ = some (.int .u32 a0_13) := (blk_cell BK168.out 13).trans rfl
                have hcz35_14 : wr.cell? ⟨gb168, 14, none⟩ = some (.int .u32 a0_14) := (blk_cell BK168.out 14).trans rfl
                have hcz35_15 : wr.cell? ⟨gb168, 15, none⟩ = some (.int .u32 a0_15) := (blk_cell BK168.out 15).trans rfl
                have hcz35_16 : wr.cell? ⟨gb168, 16, none⟩ = some (.int .u32 a0_16) := (blk_cell BK168.out 16).trans rfl
                have hcz35_17 : wr.cell? ⟨gb168, 17, none⟩ = some (.int .u32 a0_17) := (blk_cell BK168.out 17).trans rfl
                have hcz35_18 : wr.cell? ⟨gb168, 18, none⟩ = some (.int .u32 a0_18) := (blk_cell BK168.out 18).trans rfl
                have hcz35_19 : wr.cell? ⟨gb168, 19, none⟩ = some (.int .u32 a0_19) := (blk_cell BK168.out 19).trans rfl
                have hcz35_20 : wr.cell? ⟨gb168, 20, none⟩ = some (.int .u32 a0_20) := (blk_cell BK168.out 20).trans rfl
                have hcz35_21 : wr.cell? ⟨gb168, 21, none⟩ = some (.int .u32 a0_21) := (blk_cell BK168.out 21).trans rfl
                have hcz35_22 : wr.cell? ⟨gb168, 22, none⟩ = some (.int .u32 a0_22) := (blk_cell BK168.out 22).trans rfl
                have hcz35_23 : wr.cell? ⟨gb168, 23, none⟩ = some (.int .u32 a0_23) := (blk_cell BK168.out 23).trans rfl
                have hcz35_24 : wr.cell? ⟨gb168, 24, none⟩ = some (.int .u32 a0_24) := (blk_cell BK168.out 24).trans rfl
                have hcz35_25 : wr.cell? ⟨gb168, 25, none⟩ = some (.int .u32 a0_25) := (blk_cell BK168.out 25).trans rfl
                have hcz35_26 : wr.cell? ⟨gb168, 26, none⟩ = some (.int .u32 a0_26) := (blk_cell BK168.out 26).trans rfl
                have hcz35_27 : wr.cell? ⟨gb168, 27, none⟩ = some (.int .u32 a0_27) := (blk_cell BK168.out 27).trans rfl
                have hcz35_28 : wr.cell? ⟨gb168, 28, none⟩ = some (.int .u32 a0_28) := (blk_cell BK168.out 28).trans rfl
                have hcz35_29 : wr.cell? ⟨gb168, 29, none⟩ = some (.bool a0_29) := (blk_cell BK168.out 29).trans rfl
                have hcz36_0 : wr.cell? ⟨gb169, 0, none⟩ = some (.int .u32 a2_0) := (blk_cell BK169.out 0).trans rfl
                have hcz36_1 : wr.cell? ⟨gb169, 1, none⟩ = some (.int .i64 a2_1) := (blk_cell BK169.out 1).trans rfl
                have hfz36_0 := blk_frozen BK169.out 0
                have hfz36_1 := blk_frozen BK169.out 1
                go_wp2_with (first | ((with_reducible refine gate_dst (N := 37) rfl ?_); refine Go.Proofs.Ytmkipjmadmjfaaa.Cp.load_whole 35 (.tmp 3) gb168 rfl rfl rfl (by (with_reducible repeat (first | refine blk_drewN ?_ _ | refine blk_drew ?_ | refine blk_alloc ?_ _)); exact BK168.out) Try.underlying35 rfl (by kernel_rfl) ?_) | ((with_reducible refine gate_dst (N := 24) rfl ?_); refine Go.Proofs.Ytmkipjmadmjfaaa.Cp.load_whole 35 (.tmp 3) gb168 rfl rfl rfl (by (with_reducible repeat (first | refine blk_drewN ?_ _ | refine blk_drew ?_ | refine blk_alloc ?_ _)); exact BK168.out) Try.underlying35 rfl (by kernel_rfl) ?_) | ((with_reducible refine gate_callee (f := 12) rfl ?_); refine goesL_ (some 44) rfl rfl Try.func12 (by kernel_rfl) rfl #[.agg #[.int .u32 a0_0, .int .u32 a0_1, .int .u32 a0_2, .int .u32 a0_3, .int .u32 a0_4, .int .u32 a0_5, .int .u32 a0_6, .int .u32 a0_7, .int .u32 a0_8, .int .u32 a0_9, .int .u32 a0_10, .int .u32 a0_11, .int .u32 a0_12, .int .u32 a0_13, .int .u32 a0_14, .int .u32 a0_15, .int .u32 a0_16, .int .u32 a0_17, .int .u32 a0_18, .int .u32 a0_19, .int .u32 a0_20, .int .u32 a0_21, .int .u32 a0_22, .int .u32 a0_23, .int .u32 a0_24, .int .u32 a0_25, .int .u32 a0_26, .int .u32 a0_27, .int .u32 a0_28, .bool a0_29], .slice A1 l1.length c1, .int .u32 (((a2_0 - (Int.tmod a2_0 64)) + x10_1) % 4294967296), .int .i64 a2_1] rfl (by (try simp only [List.map_toArray, List.map_cons, List.map_nil]); first | done | rfl | (go_simp; done) | (simp only [List.length_drop, List.length_take]; rfl)) ?_; (first | (with_reducible refine (walk_Trans.calls k1 a0_0 a0_1 a0_2 a0_3 a0_4 a0_5 a0_6 a0_7 a0_8 a0_9 a0_10 a0_11 a0_12 a0_13 a0_14 a0_15 a0_16 a0_17 a0_18 a0_19 a0_20 a0_21 a0_22 a0_23 a0_24 a0_25 a0_26 a0_27 a0_28 a0_29 _ _ l1 (((a2_0 - (Int.tmod a2_0 64)) + x10_1) % 4294967296) a2_1 t173 t174 _ ?side1 ?side2 A17.out).mono ?_) | (with_reducible refine (walk_Trans.calls k1 a0_0 a0_1 a0_2 a0_3 a0_4 a0_5 a0_6 a0_7 a0_8 a0_9 a0_10 a0_11 a0_12 a0_13 a0_14 a0_15 a0_16 a0_17 a0_18 a0_19 a0_20 a0_21 a0_22 a0_23 a0_24 a0_25 a0_26 a0_27 a0_28 a0_29 _ _ l1 _ a2_1 t173 t174 _ ?side1 ?side2 (by have h_ := A17.out; first | exact h_ | (simp only [Int.add_emod_emod, Int.emod_add_emod, Int.sub_emod_emod, Int.emod_sub_emod, Int.reduceDvd, Int.emod_emod_of_dvd, Int.emod_emod] at h_ ⊢; exact h_))).mono ?_)); (case side1 => repeat (first | exact (Kd.C_below HR1.out HB.out) | (with_reducible refine Kd.C_alloc ?_ _) | (with_reducible refine Kd.C_drewN ?_ _) | (with_reducible refine Kd.C_drew ?_))); (case side2 => exact HC1.out); rintro e w37 ⟨rfl, hb⟩; refine ⟨_, rfl, ?_⟩; have n0_ := Aside0.mk (blk_below (g := gb168) (o := .cells #[.int .u32 a0_0, .int .u32 a0_1, .int .u32 a0_2, .int .u32 a0_3, .int .u32 a0_4, .int .u32 a0_5, .int .u32 a0_6, .int .u32 a0_7, .int .u32 a0_8, .int .u32 a0_9, .int .u32 a0_10, .int .u32 a0_11, .int .u32 a0_12, .int .u32 a0_13, .int .u32 a0_14, .int .u32 a0_15, .int .u32 a0_16, .int .u32 a0_17, .int .u32 a0_18, .int .u32 a0_19, .int .u32 a0_20, .int .u32 a0_21, .int .u32 a0_22, .int .u32 a0_23, .int .u32 a0_24, .int .u32 a0_25, .int .u32 a0_26, .int .u32 a0_27, .int .u32 a0_28, .bool a0_29] 35 (0, 0)) (by (with_reducible repeat (first | refine blk_drewN ?_ _ | refine blk_drew ?_ | refine blk_alloc ?_ _)); exact BK168.out) hb); have n1_ := Aside0.mk (blk_below (g := gb169) (o := .cells #[.int .u32 a2_0, .int .i64 a2_1] 37 (0, 0)) (by (with_reducible repeat (first | refine blk_drewN ?_ _ | refine blk_drew ?_ | refine blk_alloc ?_ _)); exact BK169.out) hb); have n2_ := Aside0.mk (below_step (by repeat (first | (with_reducible first | exact HB.out | apply below_alloc | apply pw_below_drewN | apply below_drew1 | refine below_set ?_ GE168.out | refine below_set ?_ GE169.out) | exact HB.out)) hb); clear BK168; clear BK169; clear HB; have BK168 := n0_; have BK169 := n1_; have HB := n2_; clear n0_ n1_ n2_; (try clear hb); (try clear hb2); (try clear hk); (try clear hi)))
                go_ret
                exact ⟨by first | rfl | (simp [errW_none, errW_some] <;> rfl) | (simp [*, errW_none, errW_some] <;> rfl), by repeat (first | (with_reducible first | exact HB.out | apply below_alloc | apply pw_below_drewN | apply below_drew1 | refine below_set ?_ GE168.out | refine below_set ?_ GE169.out) | exact HB.out)⟩
          · rw [if_neg c18] at H
            have c18b0 : (t174 == t172) = false := beq_eq_false_iff_ne.mpr c18
            have c18b1 : (t174 != t172) = true := bne_iff_ne.mpr c18
            obtain rfl := Option.some.inj H
            have hnb38 := NB168_169.out
            have hnc38 := NB169_168.out
            have hcz39_0 : wr.cell? ⟨gb168, 0, none⟩ = some (.int .u32 a0_0) := (blk_cell BK168.out 0).trans rfl
            have hcz39_1 : wr.cell? ⟨gb168, 1, none⟩ = some (.int .u32 a0_1) := (blk_cell BK168.out 1).trans rfl
            have hcz39_2 : wr.cell? ⟨gb168, 2, none⟩ = some (.int .u32 a0_2) := (blk_cell BK168.out 2).trans rfl
            have hcz39_3 : wr.cell? ⟨gb168, 3, none⟩ = some (.int .u32 a0_3) := (blk_cell BK168.out 3).trans rfl
            have hcz39_4 : wr.cell? ⟨gb168, 4, none⟩ = some (.int .u32 a0_4) := (blk_cell BK168.out 4).trans rfl
            have hcz39_5 : wr.cell? ⟨gb168, 5, none⟩ = some (.int .u32 a0_5) := (blk_cell BK168.out 5).trans rfl
            have hcz39_6 : wr.cell? ⟨gb168, 6, none⟩ = some (.int .u32 a0_6) := (blk_cell BK168.out 6).trans rfl
            have hcz39_7 : wr.cell? ⟨gb168, 7, none⟩ = some (.int .u32 a0_7) := (blk_cell BK168.out 7).trans rfl
            have hcz39_8 : wr.cell? ⟨gb168, 8, none⟩ = some (.int .u32 a0_8) := (blk_cell BK168.out 8).trans rfl
            have hcz39_9 : wr.cell? ⟨gb168, 9, none⟩ = some (.int .u32 a0_9) := (blk_cell BK168.out 9).trans rfl
            have hcz39_10 : wr.cell? ⟨gb168, 10, none⟩ = some (.int .u32 a0_10) := (blk_cell BK168.out 10).trans rfl
            have hcz39_11 : wr.cell? ⟨gb168, 11, none⟩ = some (.int .u32 a0_11) := (blk_cell BK168.out 11).trans rfl
            have hcz39_12 : wr.cell? ⟨gb168, 12, none⟩ = some (.int .u32 a0_12) := (blk_cell BK168.out 12).trans rfl
            have hcz39_13 : wr.cell? ⟨gb168, 13, none⟩ = some (.int .u32 a0_13) := (blk_cell BK168.out 13).trans rfl
            have hcz39_14 : wr.cell? ⟨gb168, 14, none⟩ = some (.int .u32 a0_14) := (blk_cell BK168.out 14).trans rfl
            have hcz39_15 : wr.cell? ⟨gb168, 15, none⟩ = some (.int .u32 a0_15) := (blk_cell BK168.out 15).trans rfl
            have hcz39_16 : wr.cell? ⟨gb168, 16, none⟩ = some (.int .u32 a0_16) := (blk_cell BK168.out 16).trans rfl
            have hcz39_17 : wr.cell? ⟨gb168, 17, none⟩ = some (.int .u32 a0_17) := (blk_cell BK168.out 17).trans rfl
            have hcz39_18 : wr.cell? ⟨gb168, 18, none⟩ = some (.int .u32 a0_18) := (blk_cell BK168.out 18).trans rfl
            have hcz39_19 : wr.cell? ⟨gb168, 19, none⟩ = some (.int .u32 a0_19) := (blk_cell BK168.out 19).trans rfl
            have hcz39_20 : wr.cell? ⟨gb168, 20, none⟩ = some (.int .u32 a0_20) := (blk_cell BK168.out 20).trans rfl
            have hcz39_21 : wr.cell? ⟨gb168, 21, none⟩ = some (.int .u32 a0_21) := (blk_cell BK168.out 21).trans rfl
            have hcz39_22 : wr.cell? ⟨gb168, 22, none⟩ = some (.int .u32 a0_22) := (blk_cell BK168.out 22).trans rfl
            have hcz39_23 : wr.cell? ⟨gb168, 23, none⟩ = some (.int .u32 a0_23) := (blk_cell BK168.out 23).trans rfl
            have hcz39_24 : wr.cell? ⟨gb168, 24, none⟩ = some (.int .u32 a0_24) := (blk_cell BK168.out 24).trans rfl
            have hcz39_25 : wr.cell? ⟨gb168, 25, none⟩ = some (.int .u32 a0_25) := (blk_cell BK168.out 25).trans rfl
            have hcz39_26 : wr.cell? ⟨gb168, 26, none⟩ = some (.int .u32 a0_26) := (blk_cell BK168.out 26).trans rfl
            have hcz39_27 : wr.cell? ⟨gb168, 27, none⟩ = some (.int .u32 a0_27) := (blk_cell BK168.out 27).trans rfl
            have hcz39_28 : wr.cell? ⟨gb168, 28, none⟩ = some (.int .u32 a0_28) := (blk_cell BK168.out 28).trans rfl
            have hcz39_29 : wr.cell? ⟨gb168, 29, none⟩ = some (.bool a0_29) := (blk_cell BK168.out 29).trans rfl
            have hcz40_0 : wr.cell? ⟨gb169, 0, none⟩ = some (.int .u32 a2_0) := (blk_cell BK169.out 0).trans rfl
            have hcz40_1 : wr.cell? ⟨gb169, 1, none⟩ = some (.int .i64 a2_1) := (blk_cell BK169.out 1).trans rfl
            have hfz40_0 := blk_frozen BK169.out 0
            have hfz40_1 := blk_frozen BK169.out 1
            go_wp2_with (first | ((with_reducible refine gate_dst (N := 37) rfl ?_); refine Go.Proofs.Ytmkipjmadmjfaaa.Cp.load_whole 35 (.tmp 3) gb168 rfl rfl rfl (by (with_reducible repeat (first | refine blk_drewN ?_ _ | refine blk_drew ?_ | refine blk_alloc ?_ _)); exact BK168.out) Try.underlying35 rfl (by kernel_rfl) ?_) | ((with_reducible refine gate_dst (N := 24) rfl ?_); refine Go.Proofs.Ytmkipjmadmjfaaa.Cp.load_whole 35 (.tmp 3) gb168 rfl rfl rfl (by (with_reducible repeat (first | refine blk_drewN ?_ _ | refine blk_drew ?_ | refine blk_alloc ?_ _)); exact BK168.out) Try.underlying35 rfl (by kernel_rfl) ?_) | ((with_reducible refine gate_callee (f := 12) rfl ?_); refine goesL_ (some 44) rfl rfl Try.func12 (by kernel_rfl) rfl #[.agg #[.int .u32 a0_0, .int .u32 a0_1, .int .u32 a0_2, .int .u32 a0_3, .int .u32 a0_4, .int .u32 a0_5, .int .u32 a0_6, .int .u32 a0_7, .int .u32 a0_8, .int .u32 a0_9, .int .u32 a0_10, .int .u32 a0_11, .int .u32 a0_12, .int .u32 a0_13, .int .u32 a0_14, .int .u32 a0_15, .int .u32 a0_16, .int .u32 a0_17, .int .u32 a0_18, .int .u32 a0_19, .int .u32 a0_20, .int .u32 a0_21, .int .u32 a0_22, .int .u32 a0_23, .int .u32 a0_24, .int .u32 a0_25, .int .u32 a0_26, .int .u32 a0_27, .int .u32 a0_28, .bool a0_29], .slice A1 l1.length c1, .int .u32 (((a2_0 - (Int.tmod a2_0 64)) + x10_1) % 4294967296), .int .i64 a2_1] rfl (by (try simp only [List.map_toArray, List.map_cons, List.map_nil]); first | done | rfl | (go_simp; done) | (simp only [List.length_drop, List.length_take]; rfl)) ?_; (first | (with_reducible refine (walk_Trans.calls k1 a0_0 a0_1 a0_2 a0_3 a0_4 a0_5 a0_6 a0_7 a0_8 a0_9 a0_10 a0_11 a0_12 a0_13 a0_14 a0_15 a0_16 a0_17 a0_18 a0_19 a0_20 a0_21 a0_22 a0_23 a0_24 a0_25 a0_26 a0_27 a0_28 a0_29 _ _ l1 (((a2_0 - (Int.tmod a2_0 64)) + x10_1) % 4294967296) a2_1 t173 t174 _ ?side1 ?side2 A17.out).mono ?_) | (with_reducible refine (walk_Trans.calls k1 a0_0 a0_1 a0_2 a0_3 a0_4 a0_5 a0_6 a0_7 a0_8 a0_9 a0_10 a0_11 a0_12 a0_13 a0_14 a0_15 a0_16 a0_17 a0_18 a0_19 a0_20 a0_21 a0_22 a0_23 a0_24 a0_25 a0_26 a0_27 a0_28 a0_29 _ _ l1 _ a2_1 t173 t174 _ ?side1 ?side2 (by have h_ := A17.out; first | exact h_ | (simp only [Int.add_emod_emod, Int.emod_add_emod, Int.sub_emod_emod, Int.emod_sub_emod, Int.reduceDvd, Int.emod_emod_of_dvd, Int.emod_emod] at h_ ⊢; exact h_))).mono ?_)); (case side1 => repeat (first | exact (Kd.C_below HR1.out HB.out) | (with_reducible refine Kd.C_alloc ?_ _) | (with_reducible refine Kd.C_drewN ?_ _) | (with_reducible refine Kd.C_drew ?_))); (case side2 => exact HC1.out); rintro e w41 ⟨rfl, hb⟩; refine ⟨_, rfl, ?_⟩; have n0_ := Aside0.mk (blk_below (g := gb168) (o := .cells #[.int .u32 a0_0, .int .u32 a0_1, .int .u32 a0_2, .int .u32 a0_3, .int .u32 a0_4, .int .u32 a0_5, .int .u32 a0_6, .int .u32 a0_7, .int .u32 a0_8, .int .u32 a0_9, .int .u32 a0_10, .int .u32 a0_11, .int .u32 a0_12, .int .u32 a0_13, .int .u32 a0_14, .int .u32 a0_15, .int .u32 a0_16, .int .u32 a0_17, .int .u32 a0_18, .int .u32 a0_19, .int .u32 a0_20, .int .u32 a0_21, .int .u32 a0_22, .int .u32 a0_23, .int .u32 a0_24, .int .u32 a0_25, .int .u32 a0_26, .int .u32 a0_27, .int .u32 a0_28, .bool a0_29] 35 (0, 0)) (by (with_reducible repeat (first | refine blk_drewN ?_ _ | refine blk_drew ?_ | refine blk_alloc ?_ _)); exact BK168.out) hb); have n1_ := Aside0.mk (blk_below (g := gb169) (o := .cells #[.int .u32 a2_0, .int .i64 a2_1] 37 (0, 0)) (by (with_reducible repeat (first | refine blk_drewN ?_ _ | refine blk_drew ?_ | refine blk_alloc ?_ _)); exact BK169.out) hb); have n2_ := Aside0.mk (below_step (by repeat (first | (with_reducible first | exact HB.out | apply below_alloc | apply pw_below_drewN | apply below_drew1 | refine below_set ?_ GE168.out | refine below_set ?_ GE169.out) | exact HB.out)) hb); clear BK168; clear BK169; clear HB; have BK168 := n0_; have BK169 := n1_; have HB := n2_; clear n0_ n1_ n2_; (try clear hb); (try clear hb2); (try clear hk); (try clear hi)))
            go_ret
            exact ⟨by first | rfl | (simp [errW_none, errW_some] <;> rfl) | (simp [*, errW_none, errW_some] <;> rfl), by repeat (first | (with_reducible first | exact HB.out | apply below_alloc | apply pw_below_drewN | apply below_drew1 | refine below_set ?_ GE168.out | refine below_set ?_ GE169.out) | exact HB.out)⟩
        · rw [if_neg c16] at H
          have c16b0 : decide (x10_1 < 64) = false := decide_eq_false c16
          clear c16
          replace H := Option.bind_eq_some_iff.mp H
          obtain ⟨t175, A420, H⟩ := H
          replace H : (some t175) = some r := H
          have A42 := Aside0.mk A420
          (try (have e_ := Option.some.inj (A5.out.symm.trans A420); subst e_))
          clear A420
          obtain rfl := Option.some.inj H
          go_wp2_with (first | ((with_reducible refine gate_dst (N := 37) rfl ?_); refine Go.Proofs.Ytmkipjmadmjfaaa.Cp.load_whole 35 (.tmp 3) gb168 rfl rfl rfl (by (with_reducible repeat (first | refine blk_drewN ?_ _ | refine blk_drew ?_ | refine blk_alloc ?_ _)); exact BK168.out) Try.underlying35 rfl (by kernel_rfl) ?_) | ((with_reducible refine gate_dst (N := 24) rfl ?_); refine Go.Proofs.Ytmkipjmadmjfaaa.Cp.load_whole 35 (.tmp 3) gb168 rfl rfl rfl (by (with_reducible repeat (first | refine blk_drewN ?_ _ | refine blk_drew ?_ | refine blk_alloc ?_ _)); exact BK168.out) Try.underlying35 rfl (by kernel_rfl) ?_) | ((with_reducible refine gate_callee (f := 8) rfl ?_); refine goesL_ (some 69) rfl rfl Try.func8 (by kernel_rfl) rfl #[] rfl (by (try simp only [List.map_toArray, List.map_cons, List.map_nil]); first | done | rfl | (simp only [List.length_drop, List.length_take]; rfl)) ?_; (with_reducible refine (cotterellaw13_awake.calls k1  t175 _ A42.out).mono ?_); rintro e w43 ⟨rfl, hb⟩; refine ⟨_, rfl, ?_⟩; have n0_ := Aside0.mk (blk_below (g := gb168) (o := .cells #[.int .u32 a0_0, .int .u32 a0_1, .int .u32 a0_2, .int .u32 a0_3, .int .u32 a0_4, .int .u32 a0_5, .int .u32 a0_6, .int .u32 a0_7, .int .u32 a0_8, .int .u32 a0_9, .int .u32 a0_10, .int .u32 a0_11, .int .u32 a0_12, .int .u32 a0_13, .int .u32 a0_14, .int .u32 a0_15, .int .u32 a0_16, .int .u32 a0_17, .int .u32 a0_18, .int .u32 a0_19, .int .u32 a0_20, .int .u32 a0_21, .int .u32 a0_22, .int .u32 a0_23, .int .u32 a0_24, .int .u32 a0_25, .int .u32 a0_26, .int .u32 a0_27, .int .u32 a0_28, .bool a0_29] 35 (0, 0)) (by (with_reducible repeat (first | refine blk_drewN ?_ _ | refine blk_drew ?_ | refine blk_alloc ?_ _)); exact BK168.out) hb); have n1_ := Aside0.mk (blk_below (g := gb169) (o := .cells #[.int .u32 a2_0, .int .i64 a2_1] 37 (0, 0)) (by (with_reducible repeat (first | refine blk_drewN ?_ _ | refine blk_drew ?_ | refine blk_alloc ?_ _)); exact BK169.out) hb); have n2_ := Aside0.mk (below_step (by repeat (first | (with_reducible first | exact HB.out | apply below_alloc | apply pw_below_drewN | apply below_drew1 | refine below_set ?_ GE168.out | refine below_set ?_ GE169.out) | exact HB.out)) hb); clear BK168; clear BK169; clear HB; have BK168 := n0_; have BK169 := n1_; have HB := n2_; clear n0_ n1_ n2_; (try clear hb); (try clear hb2); (try clear hk); (try clear hi)))
          go_ret
          exact ⟨by first | rfl | (simp [errW_none, errW_some] <;> rfl) | (simp [*, errW_none, errW_some] <;> rfl), by repeat (first | (with_reducible first | exact HB.out | apply below_alloc | apply pw_below_drewN | apply below_drew1 | refine below_set ?_ GE168.out | refine below_set ?_ GE169.out) | exact HB.out)⟩

end Go.Proofs.Ytmkipjmadmjfaaa.PWalkPage
