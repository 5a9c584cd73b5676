-- This session's own text: written by wip/tools/myprint.sh after the kit's printer.
import Derived.Test.YtmkipjmadmjfaaaPWalkMapsx0
import Derived.Test.YtmkipjmadmjfaaaPWalkMapsx1
import Derived.Test.YtmkipjmadmjfaaaPWalkMapsx3
namespace Go.Proofs.Ytmkipjmadmjfaaa.PWalkMaps
open Go.RowKit Go.Proofs.YtmkipjmadmjfaaaW.PrintWords Go.Proofs.YtmkipjmadmjfaaaW.PrintLast Go.Proofs.YtmkipjmadmjfaaaW.PrintMore
attribute [local go_sem] max2_int min2_int max_two min_two max_three min_three max_four min_four   -- for this text's walks alone
set_option linter.unusedVariables false
set_option linter.unusedSimpArgs false

attribute [local go_sem high] eqA61
/-! ### walk_Trans: function 12 -/
def walk_Trans.f (k : Nat) (a0_0 : Int) (a0_1 : Int) (a0_2 : Int) (a0_3 : Int) (a0_4 : Int) (a0_5 : Int) (a0_6 : Int) (a0_7 : Int) (a0_8 : Int) (a0_9 : Int) (a0_10 : Int) (a0_11 : Int) (a0_12 : Int) (a0_13 : Int) (a0_14 : Int) (a0_15 : Int) (a0_16 : Int) (a0_17 : Int) (a0_18 : Int) (a0_19 : Int) (a0_20 : Int) (a0_21 : Int) (a0_22 : Int) (a0_23 : Int) (a0_24 : Int) (a0_25 : Int) (a0_26 : Int) (a0_27 : Int) (a0_28 : Int) (a0_29 : Bool) (l1 : List Int) (a2 : Int) (a3 : Int) : Option (Int × Int) := (walk_Paged.f a0_0 a0_1 a0_2 a0_3 a0_4 a0_5 a0_6 a0_7 a0_8 a0_9 a0_10 a0_11 a0_12 a0_13 a0_14 a0_15 a0_16 a0_17 a0_18 a0_19 a0_20 a0_21 a0_22 a0_23 a0_24 a0_25 a0_26 a0_27 a0_28 a0_29).bind fun t127 => (if t127 = true then ((walk_Fault.f a3).bind fun t128 => (if t128 = 9 then (some (0, t128)) else ((walk_Walk.f k l1 a0_22 a2).bind fun bt129 => (if bt129.2.2.2 = true then ((pte_Allows.f k bt129.1 bt129.2.1 a3 false).bind fun t136 => (if t136 = true then ((pte_Addr.f bt129.1 bt129.2.1 a2).bind fun t137 => (some (t137, 0))) else (some (0, t128)))) else (some (0, t128)))))) else (some (a2, 0)))
theorem walk_Trans.mono : ∀ a0 a1 a2 a3 a4 a5 a6 a7 a8 a9 a10 a11 a12 a13 a14 a15 a16 a17 a18 a19 a20 a21 a22 a23 a24 a25 a26 a27 a28 a29 a30 a31 a32 k, LeO (walk_Trans.f k a0 a1 a2 a3 a4 a5 a6 a7 a8 a9 a10 a11 a12 a13 a14 a15 a16 a17 a18 a19 a20 a21 a22 a23 a24 a25 a26 a27 a28 a29 a30 a31 a32) (walk_Trans.f (k + 1) a0 a1 a2 a3 a4 a5 a6 a7 a8 a9 a10 a11 a12 a13 a14 a15 a16 a17 a18 a19 a20 a21 a22 a23 a24 a25 a26 a27 a28 a29 a30 a31 a32) := by
  intro a0 a1 a2 a3 a4 a5 a6 a7 a8 a9 a10 a11 a12 a13 a14 a15 a16 a17 a18 a19 a20 a21 a22 a23 a24 a25 a26 a27 a28 a29 a30 a31 a32 k
  unfold walk_Trans.f
  repeat' first
      | (with_reducible exact pte_Allows.mono _ _ _ _ _)
      | (with_reducible exact walk_Walk.mono _ _ _ _)
      | (with_reducible exact LeO.refl _)
      | (with_reducible exact LeO.none _)
      | (with_reducible refine LeO.ite ?_ ?_)
      | (with_reducible refine LeO.bind ?_ (fun _ => ?_))
      | exact pte_Allows.mono _ _ _ _ _
      | exact walk_Walk.mono _ _ _ _
      | exact LeO.none _
      | refine LeO.ite ?_ ?_
      | refine LeO.bind ?_ (fun _ => ?_)
set_option maxHeartbeats 8000000 in
set_option maxRecDepth 100000 in
theorem walk_Trans.calls (k : Nat) (a0_0 : Int) (a0_1 : Int) (a0_2 : Int) (a0_3 : Int) (a0_4 : Int) (a0_5 : Int) (a0_6 : Int) (a0_7 : Int) (a0_8 : Int) (a0_9 : Int) (a0_10 : Int) (a0_11 : Int) (a0_12 : Int) (a0_13 : Int) (a0_14 : Int) (a0_15 : Int) (a0_16 : Int) (a0_17 : Int) (a0_18 : Int) (a0_19 : Int) (a0_20 : Int) (a0_21 : Int) (a0_22 : Int) (a0_23 : Int) (a0_24 : Int) (a0_25 : Int) (a0_26 : Int) (a0_27 : Int) (a0_28 : Int) (a0_29 : Bool) (A1 : Option Addr) (c1 : Nat) (l1 : List Int) (a2 : Int) (a3 : Int) (r1 : Int) (r2 : Int) (w : World) (hr1 : Kd.C (Kd.int .u8) w A1 l1.length l1) (hc1 : l1.length ≤ c1) (h : walk_Trans.f k a0_0 a0_1 a0_2 a0_3 a0_4 a0_5 a0_6 a0_7 a0_8 a0_9 a0_10 a0_11 a0_12 a0_13 a0_14 a0_15 a0_16 a0_17 a0_18 a0_19 a0_20 a0_21 a0_22 a0_23 a0_24 a0_25 a0_26 a0_27 a0_28 a0_29 l1 a2 a3 = some (r1, r2)) :
    Calls Try.prog 12 #[.agg #[.int .u32 a0_0, .int .u32 a0_1, .int .u32 a0_2, .int .u32 a0_3, .int .u32 a0_4, .int .u32 a0_5, .int .u32 a0_6, .int .u32 a0_7, .int .u32 a0_8, .int .u32 a0_9, .int .u32 a0_10, .int .u32 a0_11, .int .u32 a0_12, .int .u32 a0_13, .int .u32 a0_14, .int .u32 a0_15, .int .u32 a0_16, .int .u32 a0_17, .int .u32 a0_18, .int .u32 a0_19, .int .u32 a0_20, .int .u32 a0_21, .int .u32 a0_22, .int .u32 a0_23, .int .u32 a0_24, .int .u32 a0_25, .int .u32 a0_26, .int .u32 a0_27, .int .u32 a0_28, .bool a0_29], .slice A1 l1.length c1, .int .u32 a2, .int .i64 a3] w fun e w' => e = .returned (.tuple #[.int .u32 r1, .int .i64 r2]) ∧ Below w.heap.size w w' := by
  have hu35 := Try.underlying35
  have hu26 := Try.underlying26
  have HR1 := Aside0.mk hr1
  have HC1 := Aside0.mk hc1
  clear hr1 hc1
  have HB := Aside0.mk (Below.refl w.heap.size w)
  have H : ((walk_Paged.f a0_0 a0_1 a0_2 a0_3 a0_4 a0_5 a0_6 a0_7 a0_8 a0_9 a0_10 a0_11 a0_12 a0_13 a0_14 a0_15 a0_16 a0_17 a0_18 a0_19 a0_20 a0_21 a0_22 a0_23 a0_24 a0_25 a0_26 a0_27 a0_28 a0_29).bind fun t127 => (if t127 = true then ((walk_Fault.f a3).bind fun t128 => (if t128 = 9 then (some (0, t128)) else ((walk_Walk.f k l1 a0_22 a2).bind fun bt129 => (if bt129.2.2.2 = true then ((pte_Allows.f k bt129.1 bt129.2.1 a3 false).bind fun t136 => (if t136 = true then ((pte_Addr.f bt129.1 bt129.2.1 a2).bind fun t137 => (some (t137, 0))) else (some (0, t128)))) else (some (0, t128)))))) else (some (a2, 0)))) = some (r1, r2) := h
  clear h
  replace H := Option.bind_eq_some_iff.mp H
  obtain ⟨t127, A50, H⟩ := H
  replace H : (if t127 = true then ((walk_Fault.f a3).bind fun t128 => (if t128 = 9 then (some (0, t128)) else ((walk_Walk.f k l1 a0_22 a2).bind fun bt129 => (if bt129.2.2.2 = true then ((pte_Allows.f k bt129.1 bt129.2.1 a3 false).bind fun t136 => (if t136 = true then ((pte_Addr.f bt129.1 bt129.2.1 a2).bind fun t137 => (some (t137, 0))) else (some (0, t128)))) else (some (0, t128)))))) else (some (a2, 0))) = some (r1, r2) := H
  have A5 := Aside0.mk A50
  clear A50
  by_cases c6 : t127 = true
  · subst c6
    have H1 : ((walk_Fault.f a3).bind fun t128 => (if t128 = 9 then (some (0, t128)) else ((walk_Walk.f k l1 a0_22 a2).bind fun bt129 => (if bt129.2.2.2 = true then ((pte_Allows.f k bt129.1 bt129.2.1 a3 false).bind fun t136 => (if t136 = true then ((pte_Addr.f bt129.1 bt129.2.1 a2).bind fun t137 => (some (t137, 0))) else (some (0, t128)))) else (some (0, t128)))))) = some (r1, r2) := by rw [if_pos rfl] at H; exact H
    clear H
    have H := H1
    clear H1
    replace H := Option.bind_eq_some_iff.mp H
    obtain ⟨t128, A70, H⟩ := H
    replace H : (if t128 = 9 then (some (0, t128)) else ((walk_Walk.f k l1 a0_22 a2).bind fun bt129 => (if bt129.2.2.2 = true then ((pte_Allows.f k bt129.1 bt129.2.1 a3 false).bind fun t136 => (if t136 = true then ((pte_Addr.f bt129.1 bt129.2.1 a2).bind fun t137 => (some (t137, 0))) else (some (0, t128)))) else (some (0, t128))))) = some (r1, r2) := H
    have A7 := Aside0.mk A70
    clear A70
    by_cases c8 : t128 = 9
    · rw [if_pos c8] at H
      have c8b0 : (t128 == 9) = true := beq_iff_eq.mpr c8
      have c8b1 : (t128 != 9) = false := bne_eq_false_iff_eq.mpr c8
      clear c8
      simp only [Option.some.injEq, Prod.mk.injEq] at H
      obtain ⟨rfl, rfl⟩ := H
      go_enter Try.func12, Try.ntmps12
      go_wp2_with (first | ((with_reducible refine gate_dst (N := 14) rfl ?_); refine Go.Proofs.Ytmkipjmadmjfaaa.Cp.load_whole 35 (.tmp 4) gb126 rfl rfl rfl (by (with_reducible repeat (first | refine blk_drewN ?_ _ | refine blk_drew ?_ | refine blk_alloc ?_ _)); exact BK126.out) Try.underlying35 rfl (by kernel_rfl) ?_) | ((with_reducible refine gate_dst (N := 4) rfl ?_); refine box_event ?hg (N := 4) ?hd (cs := #[.int .u32 a0_0, .int .u32 a0_1, .int .u32 a0_2, .int .u32 a0_3, .int .u32 a0_4, .int .u32 a0_5, .int .u32 a0_6, .int .u32 a0_7, .int .u32 a0_8, .int .u32 a0_9, .int .u32 a0_10, .int .u32 a0_11, .int .u32 a0_12, .int .u32 a0_13, .int .u32 a0_14, .int .u32 a0_15, .int .u32 a0_16, .int .u32 a0_17, .int .u32 a0_18, .int .u32 a0_19, .int .u32 a0_20, .int .u32 a0_21, .int .u32 a0_22, .int .u32 a0_23, .int .u32 a0_24, .int .u32 a0_25, .int .u32 a0_26, .int .u32 a0_27, .int .u32 a0_28, .bool a0_29]) (t := 35) ?hr ?_; (case hd => rfl); (case hg => rfl); (case hr => first | (go_simp; done) | (go_simp; rfl)); intro gb126 hg w9 hbox hb; have n0_ := Aside0.mk (below_step (by repeat (first | (with_reducible first | exact HB.out | apply below_alloc | apply pw_below_drewN | apply below_drew1) | exact HB.out)) hb); have n1_ := Aside0.mk (hbox); have n2_ := Aside0.mk ((by rw [hg]; exact (below_size (by repeat (first | (with_reducible first | exact HB.out | apply below_alloc | apply pw_below_drewN | apply below_drew1) | exact HB.out))) : w.heap.size ≤ gb126)); have n3_ := Aside0.mk ((by rw [hg]; exact (below_size (by repeat (first | (with_reducible first | exact HB.out | apply below_alloc | apply pw_below_drewN | apply below_drew1) | exact HB.out))) : w.heap.size ≤ gb126)); clear HB; have HB := n0_; have BK126 := n1_; have GW126 := n2_; have GE126 := n3_; clear n0_ n1_ n2_ n3_; clear hb hbox hg; have hcz10_0 : w9.cell? ⟨gb126, 0, none⟩ = some (.int .u32 a0_0) := (blk_cell BK126.out 0).trans rfl; have hcz10_1 : w9.cell? ⟨gb126, 1, none⟩ = some (.int .u32 a0_1) := (blk_cell BK126.out 1).trans rfl; have hcz10_2 : w9.cell? ⟨gb126, 2, none⟩ = some (.int .u32 a0_2) := (blk_cell BK126.out 2).trans rfl; have hcz10_3 : w9.cell? ⟨gb126, 3, none⟩ = some (.int .u32 a0_3) := (blk_cell BK126.out 3).trans rfl; have hcz10_4 : w9.cell? ⟨gb126, 4, none⟩ = some (.int .u32 a0_4) := (blk_cell BK126.out 4).trans rfl; have hcz10_5 : w9.cell? ⟨gb126, 5, none⟩ = some (.int .u32 a0_5) := (blk_cell BK126.out 5).trans rfl; have hcz10_6 : w9.cell? ⟨gb126, 6, none⟩ = some (.int .u32 a0_6) := (blk_cell BK126.out 6).trans rfl; have hcz10_7 : w9.cell? ⟨gb126, 7, none⟩ = some (.int .u32 a0_7) := (blk_cell BK126.out 7).trans rfl; have hcz10_8 : w9.cell? ⟨gb126, 8, none⟩ = some (.int .u32 a0_8) := (blk_cell BK126.out 8).trans rfl; have hcz10_9 : w9.cell? ⟨gb126, 9, none⟩ = some (.int .u32 a0_9) := (blk_cell BK126.out 9).trans rfl; have hcz10_10 : w9.cell? ⟨gb126, 10, none⟩ = some (.int .u32 a0_10) := (blk_cell BK126.out 10).trans rfl; have hcz10_11 : w9.cell? ⟨gb126, 11, none⟩ = some (.int .u32 a0_11) := (blk_cell BK126.out 11).trans rfl; have hcz10_12 : w9.cell? ⟨gb126, 12, none⟩ = some (.int .u32 a0_12) := (blk_cell BK126.out 12).trans rfl; have hcz10_13 : w9.cell? ⟨gb126, 13, none⟩ = some (.int .u32 a0_13) := (blk_cell BK126.out 13).trans rfl; have hcz10_14 : w9.cell? ⟨gb126, 14, none⟩ = some (.int .u32 a0_14) := (blk_cell BK126.out 14).trans rfl; have hcz10_15 : w9.cell? ⟨gb126, 15, none⟩ = some (.int .u32 a0_15) := (blk_cell BK126.out 15).trans rfl; have hcz10_16 : w9.cell? ⟨gb126, 16, none⟩ = some (.int .u32 a0_16) := (blk_cell BK126.out 16).trans rfl; have hcz10_17 : w9.cell? ⟨gb126, 17, none⟩ = some (.int .u32 a0_17) := (blk_cell BK126.out 17).trans rfl; have hcz10_18 : w9.cell? ⟨gb126, 18, none⟩ = some (.int .u32 a0_18) := (blk_cell BK126.out 18).trans rfl; have hcz10_19 : w9.cell? ⟨gb126, 19, none⟩ = some (.int .u32 a0_19) := (blk_cell BK126.out 19).trans rfl; have hcz10_20 : w9.cell? ⟨gb126, 20, none⟩ = some (.int .u32 a0_20) := (blk_cell BK126.out 20).trans rfl; have hcz10_21 : w9.cell? ⟨gb126, 21, none⟩ = some (.int .u32 a0_21) := (blk_cell BK126.out 21).trans rfl; have hcz10_22 : w9.cell? ⟨gb126, 22, none⟩ = some (.int .u32 a0_22) := (blk_cell BK126.out 22).trans rfl; have hcz10_23 : w9.cell? ⟨gb126, 23, none⟩ = some (.int .u32 a0_23) := (blk_cell BK126.out 23).trans rfl; have hcz10_24 : w9.cell? ⟨gb126, 24, none⟩ = some (.int .u32 a0_24) := (blk_cell BK126.out 24).trans rfl; have hcz10_25 : w9.cell? ⟨gb126, 25, none⟩ = some (.int .u32 a0_25) := (blk_cell BK126.out 25).trans rfl; have hcz10_26 : w9.cell? ⟨gb126, 26, none⟩ = some (.int .u32 a0_26) := (blk_cell BK126.out 26).trans rfl; have hcz10_27 : w9.cell? ⟨gb126, 27, none⟩ = some (.int .u32 a0_27) := (blk_cell BK126.out 27).trans rfl; have hcz10_28 : w9.cell? ⟨gb126, 28, none⟩ = some (.int .u32 a0_28) := (blk_cell BK126.out 28).trans rfl; have hcz10_29 : w9.cell? ⟨gb126, 29, none⟩ = some (.bool a0_29) := (blk_cell BK126.out 29).trans rfl) | ((with_reducible refine gate_callee (f := 14) rfl ?_); refine goesL_ (some 15) rfl rfl Try.func14 (by kernel_rfl) rfl #[.agg #[.int .u32 a0_0, .int .u32 a0_1, .int .u32 a0_2, .int .u32 a0_3, .int .u32 a0_4, .int .u32 a0_5, .int .u32 a0_6, .int .u32 a0_7, .int .u32 a0_8, .int .u32 a0_9, .int .u32 a0_10, .int .u32 a0_11, .int .u32 a0_12, .int .u32 a0_13, .int .u32 a0_14, .int .u32 a0_15, .int .u32 a0_16, .int .u32 a0_17, .int .u32 a0_18, .int .u32 a0_19, .int .u32 a0_20, .int .u32 a0_21, .int .u32 a0_22, .int .u32 a0_23, .int .u32 a0_24, .int .u32 a0_25, .int .u32 a0_26, .int .u32 a0_27, .int .u32 a0_28, .bool a0_29]] rfl (by (try simp only [List.map_toArray, List.map_cons, List.map_nil]); first | done | rfl | (simp only [List.length_drop, List.length_take]; rfl)) ?_; (with_reducible refine (walk_Paged.calls a0_0 a0_1 a0_2 a0_3 a0_4 a0_5 a0_6 a0_7 a0_8 a0_9 a0_10 a0_11 a0_12 a0_13 a0_14 a0_15 a0_16 a0_17 a0_18 a0_19 a0_20 a0_21 a0_22 a0_23 a0_24 a0_25 a0_26 a0_27 a0_28 a0_29 true _ A5.out).mono ?_); rintro e w11 ⟨rfl, hb⟩; refine ⟨_, rfl, ?_⟩; have n0_ := Aside0.mk (blk_below (g := gb126) (o := .cells #[.int .u32 a0_0, .int .u32 a0_1, .int .u32 a0_2, .int .u32 a0_3, .int .u32 a0_4, .int .u32 a0_5, .int .u32 a0_6, .int .u32 a0_7, .int .u32 a0_8, .int .u32 a0_9, .int .u32 a0_10, .int .u32 a0_11, .int .u32 a0_12, .int .u32 a0_13, .int .u32 a0_14, .int .u32 a0_15, .int .u32 a0_16, .int .u32 a0_17, .int .u32 a0_18, .int .u32 a0_19, .int .u32 a0_20, .int .u32 a0_21, .int .u32 a0_22, .int .u32 a0_23, .int .u32 a0_24, .int .u32 a0_25, .int .u32 a0_26, .int .u32 a0_27, .int .u32 a0_28, .bool a0_29] 35 (0, 0)) (by (with_reducible repeat (first | refine blk_drewN ?_ _ | refine blk_drew ?_ | refine blk_alloc ?_ _)); exact BK126.out) hb); have n1_ := Aside0.mk (below_step (by repeat (first | (with_reducible first | exact HB.out | apply below_alloc | apply pw_below_drewN | apply below_drew1 | refine below_set ?_ GE126.out) | exact HB.out)) hb); clear BK126; clear HB; have BK126 := n0_; have HB := n1_; clear n0_ n1_; (try clear hb); (try clear hb2); (try clear hk); (try clear hi)) | ((with_reducible refine gate_callee (f := 16) rfl ?_); refine goesL_ (some 19) rfl rfl Try.func16 (by kernel_rfl) rfl #[.int .i64 a3] rfl (by (try simp only [List.map_toArray, List.map_cons, List.map_nil]); first | done | rfl | (simp only [List.length_drop, List.length_take]; rfl)) ?_; (with_reducible refine (walk_Fault.calls a3 t128 _ A7.out).mono ?_); rintro e w' ⟨rfl, ⟨nd, rfl⟩⟩; refine ⟨_, rfl, ?_⟩))
      go_ret2
      exact ⟨by first | rfl | (simp [errW_none, errW_some] <;> rfl) | (simp [*, errW_none, errW_some] <;> rfl), by repeat (first | (with_reducible first | exact HB.out | apply below_alloc | apply pw_below_drewN | apply below_drew1 | refine below_set ?_ GE126.out) | exact HB.out)⟩
    · rw [if_neg c8] at H
      have c8b0 : (t128 == 9) = false := beq_eq_false_iff_ne.mpr c8
      have c8b1 : (t128 != 9) = true := bne_iff_ne.mpr c8
      replace H := Option.bind_eq_some_iff.mp H
      obtain ⟨⟨t129, t130, t131, t134⟩, A120, H⟩ := H
      replace H : (if t134 = true then ((pte_Allows.f k t129 t130 a3 false).bind fun t136 => (if t136 = true then ((pte_Addr.f t129 t130 a2).bind fun t137 => (some (t137, 0))) else (some (0, t128)))) else (some (0, t128))) = some (r1, r2) := H
      have A12 := Aside0.mk A120
      clear A120
      by_cases c13 : t134 = true
      · subst c13
        have H1 : ((pte_Allows.f k t129 t130 a3 false).bind fun t136 => (if t136 = true then ((pte_Addr.f t129 t130 a2).bind fun t137 => (some (t137, 0))) else (some (0, t128)))) = some (r1, r2) := by rw [if_pos rfl] at H; exact H
        clear H
        have H := H1
        clear H1
        replace H := Option.bind_eq_some_iff.mp H
        obtain ⟨t136, A140, H⟩ := H
        replace H : (if t136 = true then ((pte_Addr.f t129 t130 a2).bind fun t137 => (some (t137, 0))) else (some (0, t128))) = some (r1, r2) := H
        have A14 := Aside0.mk A140
        clear A140
        by_cases c15 : t136 = true
        · subst c15
          have H1 : ((pte_Addr.f t129 t130 a2).bind fun t137 => (some (t137, 0))) = some (r1, r2) := by rw [if_pos rfl] at H; exact H
          clear H
          have H := H1
          clear H1
          replace H := Option.bind_eq_some_iff.mp H
          obtain ⟨t137, A160, H⟩ := H
          replace H : (some (t137, 0)) = some (r1, r2) := H
          have A16 := Aside0.mk A160
          clear A160
          simp only [Option.some.injEq, Prod.mk.injEq] at H
          obtain ⟨rfl, rfl⟩ := H
          go_enter Try.func12, Try.ntmps12
          go_wp2_with (first | ((with_reducible refine gate_dst (N := 14) rfl ?_); refine Go.Proofs.Ytmkipjmadmjfaaa.Cp.load_whole 35 (.tmp 4) gb126 rfl rfl rfl (by (with_reducible repeat (first | refine blk_drewN ?_ _ | refine blk_drew ?_ | refine blk_alloc ?_ _)); exact BK126.out) Try.underlying35 rfl (by kernel_rfl) ?_) | ((with_reducible refine gate_dst (N := 4) rfl ?_); refine box_event ?hg (N := 4) ?hd (cs := #[.int .u32 a0_0, .int .u32 a0_1, .int .u32 a0_2, .int .u32 a0_3, .int .u32 a0_4, .int .u32 a0_5, .int .u32 a0_6, .int .u32 a0_7, .int .u32 a0_8, .int .u32 a0_9, .int .u32 a0_10, .int .u32 a0_11, .int .u32 a0_12, .int .u32 a0_13, .int .u32 a0_14, .int .u32 a0_15, .int .u32 a0_16, .int .u32 a0_17, .int .u32 a0_18, .int .u32 a0_19, .int .u32 a0_20, .int .u32 a0_21, .int .u32 a0_22, .int .u32 a0_23, .int .u32 a0_24, .int .u32 a0_25, .int .u32 a0_26, .int .u32 a0_27, .int .u32 a0_28, .bool a0_29]) (t := 35) ?hr ?_; (case hd => rfl); (case hg => rfl); (case hr => first | (go_simp; done) | (go_simp; rfl)); intro gb126 hg w17 hbox hb; have n0_ := Aside0.mk (below_step (by repeat (first | (with_reducible first | exact HB.out | apply below_alloc | apply pw_below_drewN | apply below_drew1) | exact HB.out)) hb); have n1_ := Aside0.mk (hbox); have n2_ := Aside0.mk ((by rw [hg]; exact (below_size (by repeat (first | (with_reducible first | exact HB.out | apply below_alloc | apply pw_below_drewN | apply below_drew1) | exact HB.out))) : w.heap.size ≤ gb126)); have n3_ := Aside0.mk ((by rw [hg]; exact (below_size (by repeat (first | (with_reducible first | exact HB.out | apply below_alloc | apply pw_below_drewN | apply below_drew1) | exact HB.out))) : w.heap.size ≤ gb126)); clear HB; have HB := n0_; have BK126 := n1_; have GW126 := n2_; have GE126 := n3_; clear n0_ n1_ n2_ n3_; clear hb hbox hg; have hcz18_0 : w17.cell? ⟨gb126, 0, none⟩ = some (.int .u32 a0_0) := (blk_cell BK126.out 0).trans rfl; have hcz18_1 : w17.cell? ⟨gb126, 1, none⟩ = some (.int .u32 a0_1) := (blk_cell BK126.out 1).trans rfl; have hcz18_2 : w17.cell? ⟨gb126, 2, none⟩ = some (.int .u32 a0_2) := (blk_cell BK126.out 2).trans rfl; have hcz18_3 : w17.cell? ⟨gb126, 3, none⟩ = some (.int .u32 a0_3) := (blk_cell BK126.out 3).trans rfl; have hcz18_4 : w17.cell? ⟨gb126, 4, none⟩ = some (.int .u32 a0_4) := (blk_cell BK126.out 4).trans rfl; have hcz18_5 : w17.cell? ⟨gb126, 5, none⟩ = some (.int .u32 a0_5) := (blk_cell BK126.out 5).trans rfl; have hcz18_6 : w17.cell? ⟨gb126, 6, none⟩ = some (.int .u32 a0_6) := (blk_cell BK126.out 6).trans rfl; have hcz18_7 : w17.cell? ⟨gb126, 7, none⟩ = some (.int .u32 a0_7) := (blk_cell BK126.out 7).trans rfl; have hcz18_8 : w17.cell? ⟨gb126, 8, none⟩ = some (.int .u32 a0_8) := (blk_cell BK126.out 8).trans rfl; have hcz18_9 : w17.cell? ⟨gb126, 9, none⟩ = some (.int .u32 a0_9) := (blk_cell BK126.out 9).trans rfl; have hcz18_10 : w17.cell? ⟨gb126, 10, none⟩ = some (.int .u32 a0_10) := (blk_cell BK126.out 10).trans rfl; have hcz18_11 : w17.cell? ⟨gb126, 11, none⟩ = some (.int .u32 a0_11) := (blk_cell BK126.out 11).trans rfl; have hcz18_12 : w17.cell? ⟨gb126, 12, none⟩ = some (.int .u32 a0_12) := (blk_cell BK126.out 12).trans rfl; have hcz18_13 : w17.cell? ⟨gb126, 13, none⟩ = some (.int .u32 a0_13) := (blk_cell BK126.out 13).trans rfl; have hcz18_14 : w17.cell? ⟨gb126, 14, none⟩ = some (.int .u32 a0_14) := (blk_cell BK126.out 14).trans rfl; have hcz18_15 : w17.cell? ⟨gb126, 15, none⟩ = some (.int .u32 a0_15) := (blk_cell BK126.out 15).trans rfl; have hcz18_16 : w17.cell? ⟨gb126, 16, none⟩ = some (.int .u32 a0_16) := (blk_cell BK126.out 16).trans rfl; have hcz18_17 : w17.cell? ⟨gb126, 17, none⟩ = some (.int .u32 a0_17) := (blk_cell BK126.out 17).trans rfl; have hcz18_18 : w17.cell? ⟨gb126, 18, none⟩ = some (.int .u32 a0_18) := (blk_cell BK126.out 18).trans rfl; have hcz18_19 : w17.cell? ⟨gb126, 19, none⟩ = some (.int .u32 a0_19) := (blk_cell BK126.out 19).trans rfl; have hcz18_20 : w17.cell? ⟨gb126, 20, none⟩ = some (.int .u32 a0_20) := (blk_cell BK126.out 20).trans rfl; have hcz18_21 : w17.cell? ⟨gb126, 21, none⟩ = some (.int .u32 a0_21) := (blk_cell BK126.out 21).trans rfl; have hcz18_22 : w17.cell? ⟨gb126, 22, none⟩ = some (.int .u32 a0_22) := (blk_cell BK126.out 22).trans rfl; have hcz18_23 : w17.cell? ⟨gb126, 23, none⟩ = some (.int .u32 a0_23) := (blk_cell BK126.out 23).trans rfl; have hcz18_24 : w17.cell? ⟨gb126, 24, none⟩ = some (.int .u32 a0_24) := (blk_cell BK126.out 24).trans rfl; have hcz18_25 : w17.cell? ⟨gb126, 25, none⟩ = some (.int .u32 a0_25) := (blk_cell BK126.out 25).trans rfl; have hcz18_26 : w17.cell? ⟨gb126, 26, none⟩ = some (.int .u32 a0_26) := (blk_cell BK126.out 26).trans rfl; have hcz18_27 : w17.cell? ⟨gb126, 27, none⟩ = some (.int .u32 a0_27) := (blk_cell BK126.out 27).trans rfl; have hcz18_28 : w17.cell? ⟨gb126, 28, none⟩ = some (.int .u32 a0_28) := (blk_cell BK126.out 28).trans rfl; have hcz18_29 : w17.cell? ⟨gb126, 29, none⟩ = some (.bool a0_29) := (blk_cell BK126.out 29).trans rfl) | ((with_reducible refine gate_callee (f := 14) rfl ?_); refine goesL_ (some 15) rfl rfl Try.func14 (by kernel_rfl) rfl #[.agg #[.int .u32 a0_0, .int .u32 a0_1, .int .u32 a0_2, .int .u32 a0_3, .int .u32 a0_4, .int .u32 a0_5, .int .u32 a0_6, .int .u32 a0_7, .int .u32 a0_8, .int .u32 a0_9, .int .u32 a0_10, .int .u32 a0_11, .int .u32 a0_12, .int .u32 a0_13, .int .u32 a0_14, .int .u32 a0_15, .int .u32 a0_16, .int .u32 a0_17, .int .u32 a0_18, .int .u32 a0_19, .int .u32 a0_20, .int .u32 a0_21, .int .u32 a0_22, .int .u32 a0_23, .int .u32 a0_24, .int .u32 a0_25, .int .u32 a0_26, .int .u32 a0_27, .int .u32 a0_28, .bool a0_29]] rfl (by (try simp only [List.map_toArray, List.map_cons, List.map_nil]); first | done | rfl | (simp only [List.length_drop, List.length_take]; rfl)) ?_; (with_reducible refine (walk_Paged.calls a0_0 a0_1 a0_2 a0_3 a0_4 a0_5 a0_6 a0_7 a0_8 a0_9 a0_10 a0_11 a0_12 a0_13 a0_14 a0_15 a0_16 a0_17 a0_18 a0_19 a0_20 a0_21 a0_22 a0_23 a0_24 a0_25 a0_26 a0_27 a0_28 a0_29 true _ A5.out).mono ?_); rintro e w19 ⟨rfl, hb⟩; refine ⟨_, rfl, ?_⟩; have n0_ := Aside0.mk (blk_below (g := gb126) (o := .cells #[.int .u32 a0_0, .int .u32 a0_1, .int .u32 a0_2, .int .u32 a0_3, .int .u32 a0_4, .int .u32 a0_5, .int .u32 a0_6, .int .u32 a0_7, .int .u32 a0_8, .int .u32 a0_9, .int .u32 a0_10, .int .u32 a0_11, .int .u32 a0_12, .int .u32 a0_13, .int .u32 a0_14, .int .u32 a0_15, .int .u32 a0_16, .int .u32 a0_17, .int .u32 a0_18, .int .u32 a0_19, .int .u32 a0_20, .int .u32 a0_21, .int .u32 a0_22, .int .u32 a0_23, .int .u32 a0_24, .int .u32 a0_25, .int .u32 a0_26, .int .u32 a0_27, .int .u32 a0_28, .bool a0_29] 35 (0, 0)) (by (with_reducible repeat (first | refine blk_drewN ?_ _ | refine blk_drew ?_ | refine blk_alloc ?_ _)); exact BK126.out) hb); have n1_ := Aside0.mk (below_step (by repeat (first | (with_reducible first | exact HB.out | apply below_alloc | apply pw_below_drewN | apply below_drew1 | refine below_set ?_ GE126.out) | exact HB.out)) hb); clear BK126; clear HB; have BK126 := n0_; have HB := n1_; clear n0_ n1_; (try clear hb); (try clear hb2); (try clear hk); (try clear hi)) | ((with_reducible refine gate_callee (f := 16) rfl ?_); refine goesL_ (some 19) rfl rfl Try.func16 (by kernel_rfl) rfl #[.int .i64 a3] rfl (by (try simp only [List.map_toArray, List.map_cons, List.map_nil]); first | done | rfl | (simp only [List.length_drop, List.length_take]; rfl)) ?_; (with_reducible refine (walk_Fault.calls a3 t128 _ A7.out).mono ?_); rintro e w' ⟨rfl, ⟨nd, rfl⟩⟩; refine ⟨_, rfl, ?_⟩; (try (rw [drewN_self w19]; generalize hq_ : World.drewN w19 _ = w19; have n0_ : Aside0 (w19.heap[gb126]? = some (.cells #[.int .u32 a0_0, .int .u32 a0_1, .int .u32 a0_2, .int .u32 a0_3, .int .u32 a0_4, .int .u32 a0_5, .int .u32 a0_6, .int .u32 a0_7, .int .u32 a0_8, .int .u32 a0_9, .int .u32 a0_10, .int .u32 a0_11, .int .u32 a0_12, .int .u32 a0_13, .int .u32 a0_14, .int .u32 a0_15, .int .u32 a0_16, .int .u32 a0_17, .int .u32 a0_18, .int .u32 a0_19, .int .u32 a0_20, .int .u32 a0_21, .int .u32 a0_22, .int .u32 a0_23, .int .u32 a0_24, .int .u32 a0_25, .int .u32 a0_26, .int .u32 a0_27, .int .u32 a0_28, .bool a0_29] 35 (0, 0))) := ⟨by rw [← hq_]; exact (by (with_reducible repeat (first | refine blk_drewN ?_ _ | refine blk_drew ?_ | refine blk_alloc ?_ _)); exact BK126.out)⟩; have n1_ : Aside0 (Below w.heap.size w w19) := ⟨by rw [← hq_]; exact (by repeat (first | (with_reducible first | exact HB.out | apply below_alloc | apply pw_below_drewN | apply below_drew1 | refine below_set ?_ GE126.out) | exact HB.out))⟩; clear BK126 HB hq_; have BK126 := n0_; have HB := n1_; clear n0_ n1_)); have hcz20_0 : w19.cell? ⟨gb126, 0, none⟩ = some (.int .u32 a0_0) := (blk_cell BK126.out 0).trans rfl; have hcz20_1 : w19.cell? ⟨gb126, 1, none⟩ = some (.int .u32 a0_1) := (blk_cell BK126.out 1).trans rfl; have hcz20_2 : w19.cell? ⟨gb126, 2, none⟩ = some (.int .u32 a0_2) := (blk_cell BK126.out 2).trans rfl; have hcz20_3 : w19.cell? ⟨gb126, 3, none⟩ = some (.int .u32 a0_3) := (blk_cell BK126.out 3).trans rfl; have hcz20_4 : w19.cell? ⟨gb126, 4, none⟩ = some (.int .u32 a0_4) := (blk_cell BK126.out 4).trans rfl; have hcz20_5 : w19.cell? ⟨gb126, 5, none⟩ = some (.int .u32 a0_5) := (blk_cell BK126.out 5).trans rfl; have hcz20_6 : w19.cell? ⟨gb126, 6, none⟩ = some (.int .u32 a0_6) := (blk_cell BK126.out 6).trans rfl; have hcz20_7 : w19.cell? ⟨gb126, 7, none⟩ = some (.int .u32 a0_7) := (blk_cell BK126.out 7).trans rfl; have hcz20_8 : w19.cell? ⟨gb126, 8, none⟩ = some (.int .u32 a0_8) := (blk_cell BK126.out 8).trans rfl; have hcz20_9 : w19.cell? ⟨gb126, 9, none⟩ = some (.int .u32 a0_9) := (blk_cell BK126.out 9).trans rfl; have hcz20_10 : w19.cell? ⟨gb126, 10, none⟩ = some (.int .u32 a0_10) := (blk_cell BK126.out 10).trans rfl; have hcz20_11 : w19.cell? ⟨gb126, 11, none⟩ = some (.int .u32 a0_11) := (blk_cell BK126.out 11).trans rfl; have hcz20_12 : w19.cell? ⟨gb126, 12, none⟩ = some (.int .u32 a0_12) := (blk_cell BK126.out 12).trans rfl; have hcz20_13 : w19.cell? ⟨gb126, 13, none⟩ = some (.int .u32 a0_13) := (blk_cell BK126.out 13).trans rfl; have hcz20_14 : w19.cell? ⟨gb126, 14, none⟩ = some (.int .u32 a0_14) := (blk_cell BK126.out 14).trans rfl; have hcz20_15 : w19.cell? ⟨gb126, 15, none⟩ = some (.int .u32 a0_15) := (blk_cell BK126.out 15).trans rfl; have hcz20_16 : w19.cell? ⟨gb126, 16, none⟩ = some (.int .u32 a0_16) := (blk_cell BK126.out 16).trans rfl; have hcz20_17 : w19.cell? ⟨gb126, 17, none⟩ = some (.int .u32 a0_17) := (blk_cell BK126.out 17).trans rfl; have hcz20_18 : w19.cell? ⟨gb126, 18, none⟩ = some (.int .u32 a0_18) := (blk_cell BK126.out 18).trans rfl; have hcz20_19 : w19.cell? ⟨gb126, 19, none⟩ = some (.int .u32 a0_19) := (blk_cell BK126.out 19).trans rfl; have hcz20_20 : w19.cell? ⟨gb126, 20, none⟩ = some (.int .u32 a0_20) := (blk_cell BK126.out 20).trans rfl; have hcz20_21 : w19.cell? ⟨gb126, 21, none⟩ = some (.int .u32 a0_21) := (blk_cell BK126.out 21).trans rfl; have hcz20_22 : w19.cell? ⟨gb126, 22, none⟩ = some (.int .u32 a0_22) := (blk_cell BK126.out 22).trans rfl; have hcz20_23 : w19.cell? ⟨gb126, 23, none⟩ = some (.int .u32 a0_23) := (blk_cell BK126.out 23).trans rfl; have hcz20_24 : w19.cell? ⟨gb126, 24, none⟩ = some (.int .u32 a0_24) := (blk_cell BK126.out 24).trans rfl; have hcz20_25 : w19.cell? ⟨gb126, 25, none⟩ = some (.int .u32 a0_25) := (blk_cell BK126.out 25).trans rfl; have hcz20_26 : w19.cell? ⟨gb126, 26, none⟩ = some (.int .u32 a0_26) := (blk_cell BK126.out 26).trans rfl; have hcz20_27 : w19.cell? ⟨gb126, 27, none⟩ = some (.int .u32 a0_27) := (blk_cell BK126.out 27).trans rfl; have hcz20_28 : w19.cell? ⟨gb126, 28, none⟩ = some (.int .u32 a0_28) := (blk_cell BK126.out 28).trans rfl; have hcz20_29 : w19.cell? ⟨gb126, 29, none⟩ = some (.bool a0_29) := (blk_cell BK126.out 29).trans rfl) | ((with_reducible refine gate_callee (f := 9) rfl ?_); refine goesL_ (some 29) rfl rfl Try.func9 (by kernel_rfl) rfl #[.slice A1 l1.length c1, .int .u32 a0_22, .int .u32 a2] rfl (by (try simp only [List.map_toArray, List.map_cons, List.map_nil]); first | done | rfl | (simp only [List.length_drop, List.length_take]; rfl)) ?_; (with_reducible refine (walk_Walk.calls k _ _ l1 a0_22 a2 t129 t130 t131 true _ ?side1 ?side2 A12.out).mono ?_); (case side1 => repeat (first | exact (Kd.C_below HR1.out HB.out) | (with_reducible refine Kd.C_alloc ?_ _) | (with_reducible refine Kd.C_drewN ?_ _) | (with_reducible refine Kd.C_drew ?_))); (case side2 => exact HC1.out); rintro e w21 ⟨v132, rfl, ho0, hb⟩; refine ⟨_, rfl, ?_⟩; have n0_ := Aside0.mk (Kd.R_lower ho0 (below_size (by repeat (first | (with_reducible first | exact HB.out | apply below_alloc | apply pw_below_drewN | apply below_drew1 | refine below_set ?_ GE126.out) | exact HB.out)))); have n1_ := Aside0.mk (blk_below (g := gb126) (o := .cells #[.int .u32 a0_0, .int .u32 a0_1, .int .u32 a0_2, .int .u32 a0_3, .int .u32 a0_4, .int .u32 a0_5, .int .u32 a0_6, .int .u32 a0_7, .int .u32 a0_8, .int .u32 a0_9, .int .u32 a0_10, .int .u32 a0_11, .int .u32 a0_12, .int .u32 a0_13, .int .u32 a0_14, .int .u32 a0_15, .int .u32 a0_16, .int .u32 a0_17, .int .u32 a0_18, .int .u32 a0_19, .int .u32 a0_20, .int .u32 a0_21, .int .u32 a0_22, .int .u32 a0_23, .int .u32 a0_24, .int .u32 a0_25, .int .u32 a0_26, .int .u32 a0_27, .int .u32 a0_28, .bool a0_29] 35 (0, 0)) (by (with_reducible repeat (first | refine blk_drewN ?_ _ | refine blk_drew ?_ | refine blk_alloc ?_ _)); exact BK126.out) hb); have n2_ := Aside0.mk (below_step (by repeat (first | (with_reducible first | exact HB.out | apply below_alloc | apply pw_below_drewN | apply below_drew1 | refine below_set ?_ GE126.out) | exact HB.out)) hb); clear BK126; clear HB; have HO133 := n0_; have BK126 := n1_; have HB := n2_; clear n0_ n1_ n2_; (try clear hb); (try clear hb2); (try clear hk); (try clear hi); (try clear ho0)) | ((with_reducible refine gate_dst (N := 11) rfl ?_); refine box_event ?hg (N := 11) ?hd (cs := #[.int .u32 0, .int .i64 0]) (t := 26) ?hr ?_; (case hd => rfl); (case hg => rfl); (case hr => first | (go_simp; done) | (go_simp; rfl)); intro gb135 hg w22 hbox hb; have n0_ := Aside0.mk (Kd.R_below (by (with_reducible repeat (first | apply Kd.R_alloc | apply Kd.R_drewN | apply Kd.R_drew)); exact HO133.out) hb); have n1_ := Aside0.mk (blk_below (g := gb126) (o := .cells #[.int .u32 a0_0, .int .u32 a0_1, .int .u32 a0_2, .int .u32 a0_3, .int .u32 a0_4, .int .u32 a0_5, .int .u32 a0_6, .int .u32 a0_7, .int .u32 a0_8, .int .u32 a0_9, .int .u32 a0_10, .int .u32 a0_11, .int .u32 a0_12, .int .u32 a0_13, .int .u32 a0_14, .int .u32 a0_15, .int .u32 a0_16, .int .u32 a0_17, .int .u32 a0_18, .int .u32 a0_19, .int .u32 a0_20, .int .u32 a0_21, .int .u32 a0_22, .int .u32 a0_23, .int .u32 a0_24, .int .u32 a0_25, .int .u32 a0_26, .int .u32 a0_27, .int .u32 a0_28, .bool a0_29] 35 (0, 0)) (by (with_reducible repeat (first | refine blk_drewN ?_ _ | refine blk_drew ?_ | refine blk_alloc ?_ _)); exact BK126.out) hb); have n2_ := Aside0.mk (below_step (by repeat (first | (with_reducible first | exact HB.out | apply below_alloc | apply pw_below_drewN | apply below_drew1 | refine below_set ?_ GE126.out) | exact HB.out)) hb); have n3_ := Aside0.mk (hbox); have n4_ := Aside0.mk ((by rw [hg]; exact (below_size (by repeat (first | (with_reducible first | exact HB.out | apply below_alloc | apply pw_below_drewN | apply below_drew1 | refine below_set ?_ GE126.out) | exact HB.out))) : w.heap.size ≤ gb135)); have n5_ := Aside0.mk ((by rw [hg]; exact (below_size (by repeat (first | (with_reducible first | exact HB.out | apply below_alloc | apply pw_below_drewN | apply below_drew1 | refine below_set ?_ GE126.out) | exact HB.out))) : w.heap.size ≤ gb135)); have n6_ := Aside0.mk ((by rw [hg]; exact Nat.ne_of_lt (blk_lt (g := gb126) (o := .cells #[.int .u32 a0_0, .int .u32 a0_1, .int .u32 a0_2, .int .u32 a0_3, .int .u32 a0_4, .int .u32 a0_5, .int .u32 a0_6, .int .u32 a0_7, .int .u32 a0_8, .int .u32 a0_9, .int .u32 a0_10, .int .u32 a0_11, .int .u32 a0_12, .int .u32 a0_13, .int .u32 a0_14, .int .u32 a0_15, .int .u32 a0_16, .int .u32 a0_17, .int .u32 a0_18, .int .u32 a0_19, .int .u32 a0_20, .int .u32 a0_21, .int .u32 a0_22, .int .u32 a0_23, .int .u32 a0_24, .int .u32 a0_25, .int .u32 a0_26, .int .u32 a0_27, .int .u32 a0_28, .bool a0_29] 35 (0, 0)) (by (with_reducible repeat (first | refine blk_drewN ?_ _ | refine blk_drew ?_ | refine blk_alloc ?_ _)); exact BK126.out)) : gb126 ≠ gb135)); have n7_ := Aside0.mk ((by rw [hg]; exact Nat.ne_of_gt (blk_lt (g := gb126) (o := .cells #[.int .u32 a0_0, .int .u32 a0_1, .int .u32 a0_2, .int .u32 a0_3, .int .u32 a0_4, .int .u32 a0_5, .int .u32 a0_6, .int .u32 a0_7, .int .u32 a0_8, .int .u32 a0_9, .int .u32 a0_10, .int .u32 a0_11, .int .u32 a0_12, .int .u32 a0_13, .int .u32 a0_14, .int .u32 a0_15, .int .u32 a0_16, .int .u32 a0_17, .int .u32 a0_18, .int .u32 a0_19, .int .u32 a0_20, .int .u32 a0_21, .int .u32 a0_22, .int .u32 a0_23, .int .u32 a0_24, .int .u32 a0_25, .int .u32 a0_26, .int .u32 a0_27, .int .u32 a0_28, .bool a0_29] 35 (0, 0)) (by (with_reducible repeat (first | refine blk_drewN ?_ _ | refine blk_drew ?_ | refine blk_alloc ?_ _)); exact BK126.out)) : gb135 ≠ gb126)); clear HO133; clear BK126; clear HB; have HO133 := n0_; have BK126 := n1_; have HB := n2_; have BK135 := n3_; have GW135 := n4_; have GE135 := n5_; have NB126_135 := n6_; have NB135_126 := n7_; clear n0_ n1_ n2_ n3_ n4_ n5_ n6_ n7_; clear hb hbox hg; have hnb23 := NB135_126.out; have hnc23 := NB126_135.out; have hcz24_0 : w22.cell? ⟨gb135, 0, none⟩ = some (.int .u32 0) := (blk_cell BK135.out 0).trans rfl; have hcz24_1 : w22.cell? ⟨gb135, 1, none⟩ = some (.int .i64 0) := (blk_cell BK135.out 1).trans rfl; have hfz24_0 := blk_frozen BK135.out 0; have hfz24_1 := blk_frozen BK135.out 1) | (go_at_call 29; (with_reducible refine (pte_Allows.calls k t129 t130 a3 false true _ A14.out).mono ?_); rintro e w25 ⟨rfl, hb⟩; have n0_ := Aside0.mk (Kd.R_below (by (with_reducible repeat (first | apply Kd.R_alloc | apply Kd.R_drewN | apply Kd.R_drew)); exact (Kd.R_mono (Kd.R_far (p := ⟨gb135, 1, none⟩) (Kd.R_far (p := ⟨gb135, 0, none⟩) (Kd.R_types HO133.out BK135.out (by decide)) (fun _ hk => hk.2) (.int .u32 t129)) (fun _ hk => hk.2) (.int .i64 t130)) (fun _ h_ => h_.1))) hb); have n1_ := Aside0.mk (blk_below (g := gb126) (o := .cells #[.int .u32 a0_0, .int .u32 a0_1, .int .u32 a0_2, .int .u32 a0_3, .int .u32 a0_4, .int .u32 a0_5, .int .u32 a0_6, .int .u32 a0_7, .int .u32 a0_8, .int .u32 a0_9, .int .u32 a0_10, .int .u32 a0_11, .int .u32 a0_12, .int .u32 a0_13, .int .u32 a0_14, .int .u32 a0_15, .int .u32 a0_16, .int .u32 a0_17, .int .u32 a0_18, .int .u32 a0_19, .int .u32 a0_20, .int .u32 a0_21, .int .u32 a0_22, .int .u32 a0_23, .int .u32 a0_24, .int .u32 a0_25, .int .u32 a0_26, .int .u32 a0_27, .int .u32 a0_28, .bool a0_29] 35 (0, 0)) (by (with_reducible repeat (first | refine blk_drewN ?_ _ | refine blk_drew ?_ | refine blk_alloc ?_ _)); refine blk_far ?_ NB126_135.out _; (with_reducible repeat (first | refine blk_drewN ?_ _ | refine blk_drew ?_ | refine blk_alloc ?_ _)); refine blk_far ?_ NB126_135.out _; (with_reducible repeat (first | refine blk_drewN ?_ _ | refine blk_drew ?_ | refine blk_alloc ?_ _)); exact BK126.out) hb); have n2_ := Aside0.mk (blk_below (g := gb135) (o := .cells #[.int .u32 t129, .int .i64 t130] 26 (0, 0)) (by (with_reducible repeat (first | refine blk_drewN ?_ _ | refine blk_drew ?_ | refine blk_alloc ?_ _)); refine blk_put (cs := #[.int .u32 t129, .int .i64 0]) ?_ 1 _ (by first | rfl | (simp [Int.emod_emod_of_dvd]; done)); (with_reducible repeat (first | refine blk_drewN ?_ _ | refine blk_drew ?_ | refine blk_alloc ?_ _)); refine blk_put (cs := #[.int .u32 0, .int .i64 0]) ?_ 0 _ (by first | rfl | (simp [Int.emod_emod_of_dvd]; done)); (with_reducible repeat (first | refine blk_drewN ?_ _ | refine blk_drew ?_ | refine blk_alloc ?_ _)); exact BK135.out) hb); have n3_ := Aside0.mk (below_step (by repeat (first | (with_reducible first | exact HB.out | apply below_alloc | apply pw_below_drewN | apply below_drew1 | refine below_set ?_ GE126.out | refine below_set ?_ GE135.out) | exact HB.out)) hb); clear HO133; clear BK126; clear BK135; clear HB; have HO133 := n0_; have BK126 := n1_; have BK135 := n2_; have HB := n3_; clear n0_ n1_ n2_ n3_; (try clear hb); (try clear hb2); (try clear hk); (try clear hi); have hcz26_0 : w25.cell? ⟨gb135, 0, none⟩ = some (.int .u32 t129) := (blk_cell BK135.out 0).trans rfl; have hcz26_1 : w25.cell? ⟨gb135, 1, none⟩ = some (.int .i64 t130) := (blk_cell BK135.out 1).trans rfl; have hfz26_0 := blk_frozen BK135.out 0; have hfz26_1 := blk_frozen BK135.out 1) | ((with_reducible refine gate_callee (f := 30) rfl ?_); refine goesL_ (some 44) rfl rfl Try.func30 (by kernel_rfl) rfl #[.agg #[.int .u32 t129, .int .i64 t130], .int .u32 a2] rfl (by (try simp only [List.map_toArray, List.map_cons, List.map_nil]); first | done | rfl | (simp only [List.length_drop, List.length_take]; rfl)) ?_; (with_reducible refine (pte_Addr.calls t129 t130 a2 t137 _ A16.out).mono ?_); rintro e w27 ⟨rfl, hb⟩; refine ⟨_, rfl, ?_⟩; have n0_ := Aside0.mk (Kd.R_below (by (with_reducible repeat (first | apply Kd.R_alloc | apply Kd.R_drewN | apply Kd.R_drew)); exact HO133.out) hb); have n1_ := Aside0.mk (blk_below (g := gb126) (o := .cells #[.int .u32 a0_0, .int .u32 a0_1, .int .u32 a0_2, .int .u32 a0_3, .int .u32 a0_4, .int .u32 a0_5, .int .u32 a0_6, .int .u32 a0_7, .int .u32 a0_8, .int .u32 a0_9, .int .u32 a0_10, .int .u32 a0_11, .int .u32 a0_12, .int .u32 a0_13, .int .u32 a0_14, .int .u32 a0_15, .int .u32 a0_16, .int .u32 a0_17, .int .u32 a0_18, .int .u32 a0_19, .int .u32 a0_20, .int .u32 a0_21, .int .u32 a0_22, .int .u32 a0_23, .int .u32 a0_24, .int .u32 a0_25, .int .u32 a0_26, .int .u32 a0_27, .int .u32 a0_28, .bool a0_29] 35 (0, 0)) (by (with_reducible repeat (first | refine blk_drewN ?_ _ | refine blk_drew ?_ | refine blk_alloc ?_ _)); exact BK126.out) hb); have n2_ := Aside0.mk (blk_below (g := gb135) (o := .cells #[.int .u32 t129, .int .i64 t130] 26 (0, 0)) (by (with_reducible repeat (first | refine blk_drewN ?_ _ | refine blk_drew ?_ | refine blk_alloc ?_ _)); exact BK135.out) hb); have n3_ := Aside0.mk (below_step (by repeat (first | (with_reducible first | exact HB.out | apply below_alloc | apply pw_below_drewN | apply below_drew1 | refine below_set ?_ GE126.out | refine below_set ?_ GE135.out) | exact HB.out)) hb); clear HO133; clear BK126; clear BK135; clear HB; have HO133 := n0_; have BK126 := n1_; have BK135 := n2_; have HB := n3_; clear n0_ n1_ n2_ n3_; (try clear hb); (try clear hb2); (try clear hk); (try clear hi)))
          go_ret2
          exact ⟨by first | rfl | (simp [errW_none, errW_some] <;> rfl) | (simp [*, errW_none, errW_some] <;> rfl), by repeat (first | (with_reducible first | exact HB.out | apply below_alloc | apply pw_below_drewN | apply below_drew1 | refine below_set ?_ GE126.out | refine below_set ?_ GE135.out) | exact HB.out)⟩
        · replace c15 := Bool.eq_false_iff.mpr c15
          subst c15
          have H1 : (some (0, t128)) = some (r1, r2) := by rw [if_neg (show ¬ (false = true) by decide)] at H; exact H
          clear H
          have H := H1
          clear H1
          simp only [Option.some.injEq, Prod.mk.injEq] at H
          obtain ⟨rfl, rfl⟩ := H
          go_enter Try.func12, Try.ntmps12
          go_wp2_with (first | ((with_reducible refine gate_dst (N := 14) rfl ?_); refine Go.Proofs.Ytmkipjmadmjfaaa.Cp.load_whole 35 (.tmp 4) gb126 rfl rfl rfl (by (with_reducible repeat (first | refine blk_drewN ?_ _ | refine blk_drew ?_ | refine blk_alloc ?_ _)); exact BK126.out) Try.underlying35 rfl (by kernel_rfl) ?_) | ((with_reducible refine gate_dst (N := 4) rfl ?_); refine box_event ?hg (N := 4) ?hd (cs := #[.int .u32 a0_0, .int .u32 a0_1, .int .u32 a0_2, .int .u32 a0_3, .int .u32 a0_4, .int .u32 a0_5, .int .u32 a0_6, .int .u32 a0_7, .int .u32 a0_8, .int .u32 a0_9, .int .u32 a0_10, .int .u32 a0_11, .int .u32 a0_12, .int .u32 a0_13, .int .u32 a0_14, .int .u32 a0_15, .int .u32 a0_16, .int .u32 a0_17, .int .u32 a0_18, .int .u32 a0_19, .int .u32 a0_20, .int .u32 a0_21, .int .u32 a0_22, .int .u32 a0_23, .int .u32 a0_24, .int .u32 a0_25, .int .u32 a0_26, .int .u32 a0_27, .int .u32 a0_28, .bool a0_29]) (t := 35) ?hr ?_; (case hd => rfl); (case hg => rfl); (case hr => first | (go_simp; done) | (go_simp; rfl)); intro gb126 hg w28 hbox hb; have n0_ := Aside0.mk (below_step (by repeat (first | (with_reducible first | exact HB.out | apply below_alloc | apply pw_below_drewN | apply below_drew1) | exact HB.out)) hb); have n1_ := Aside0.mk (hbox); have n2_ := Aside0.mk ((by rw [hg]; exact (below_size (by repeat (first | (with_reducible first | exact HB.out | apply below_alloc | apply pw_below_drewN | apply below_drew1) | exact HB.out))) : w.heap.size ≤ gb126)); have n3_ := Aside0.mk ((by rw [hg]; exact (below_size (by repeat (first | (with_reducible first | exact HB.out | apply below_alloc | apply pw_below_drewN | apply below_drew1) | exact HB.out))) : w.heap.size ≤ gb126)); clear HB; have HB := n0_; have BK126 := n1_; have GW126 := n2_; have GE126 := n3_; clear n0_ n1_ n2_ n3_; clear hb hbox hg; have hcz29_0 : w28.cell? ⟨gb126, 0, none⟩ = some (.int .u32 a0_0) := (blk_cell BK126.out 0).trans rfl; have hcz29_1 : w28.cell? ⟨gb126, 1, none⟩ = some (.int .u32 a0_1) := (blk_cell BK126.out 1).trans rfl; have hcz29_2 : w28.cell? ⟨gb126, 2, none⟩ = some (.int .u32 a0_2) := (blk_cell BK126.out 2).trans rfl; have hcz29_3 : w28.cell? ⟨gb126, 3, none⟩ = some (.int .u32 a0_3) := (blk_cell BK126.out 3).trans rfl; have hcz29_4 : w28.cell? ⟨gb126, 4, none⟩ = some (.int .u32 a0_4) := (blk_cell BK126.out 4).trans rfl; have hcz29_5 : w28.cell? ⟨gb126, 5, none⟩ = some (.int .u32 a0_5) := (blk_cell BK126.out 5).trans rfl; have hcz29_6 : w28.cell? ⟨gb126, 6, none⟩ = some (.int .u32 a0_6) := (blk_cell BK126.out 6).trans rfl; have hcz29_7 : w28.cell? ⟨gb126, 7, none⟩ = some (.int .u32 a0_7) := (blk_cell BK126.out 7).trans rfl; have hcz29_8 : w28.cell? ⟨gb126, 8, none⟩ = some (.int .u32 a0_8) := (blk_cell BK126.out 8).trans rfl; have hcz29_9 : w28.cell? ⟨gb126, 9, none⟩ = some (.int .u32 a0_9) := (blk_cell BK126.out 9).trans rfl; have hcz29_10 : w28.cell? ⟨gb126, 10, none⟩ = some (.int .u32 a0_10) := (blk_cell BK126.out 10).trans rfl; have hcz29_11 : w28.cell? ⟨gb126, 11, none⟩ = some (.int .u32 a0_11) := (blk_cell BK126.out 11).trans rfl; have hcz29_12 : w28.cell? ⟨gb126, 12, none⟩ = some (.int .u32 a0_12) := (blk_cell BK126.out 12).trans rfl; have hcz29_13 : w28.cell? ⟨gb126, 13, none⟩ = some (.int .u32 a0_13) := (blk_cell BK126.out 13).trans rfl; have hcz29_14 : w28.cell? ⟨gb126, 14, none⟩ = some (.int .u32 a0_14) := (blk_cell BK126.out 14).trans rfl; have hcz29_15 : w28.cell? ⟨gb126, 15, none⟩ = some (.int .u32 a0_15) := (blk_cell BK126.out 15).trans rfl; have hcz29_16 : w28.cell? ⟨gb126, 16, none⟩ = some (.int .u32 a0_16) := (blk_cell BK126.out 16).trans rfl; have hcz29_17 : w28.cell? ⟨gb126, 17, none⟩ = some (.int .u32 a0_17) := (blk_cell BK126.out 17).trans rfl; have hcz29_18 : w28.cell? ⟨gb126, 18, none⟩ = some (.int .u32 a0_18) := (blk_cell BK126.out 18).trans rfl; have hcz29_19 : w28.cell? ⟨gb126, 19, none⟩ = some (.int .u32 a0_19) := (blk_cell BK126.out 19).trans rfl; have hcz29_20 : w28.cell? ⟨gb126, 20, none⟩ = some (.int .u32 a0_20) := (blk_cell BK126.out 20).trans rfl; have hcz29_21 : w28.cell? ⟨gb126, 21, none⟩ = some (.int .u32 a0_21) := (blk_cell BK126.out 21).trans rfl; have hcz29_22 : w28.cell? ⟨gb126, 22, none⟩ = some (.int .u32 a0_22) := (blk_cell BK126.out 22).trans rfl; have hcz29_23 : w28.cell? ⟨gb126, 23, none⟩ = some (.int .u32 a0_23) := (blk_cell BK126.out 23).trans rfl; have hcz29_24 : w28.cell? ⟨gb126, 24, none⟩ = some (.int .u32 a0_24) := (blk_cell BK126.out 24).trans rfl; have hcz29_25 : w28.cell? ⟨gb126, 25, none⟩ = some (.int .u32 a0_25) := (blk_cell BK126.out 25).trans rfl; have hcz29_26 : w28.cell? ⟨gb126, 26, none⟩ = some (.int .u32 a0_26) := (blk_cell BK126.out 26).trans rfl; have hcz29_27 : w28.cell? ⟨gb126, 27, none⟩ = some (.int .u32 a0_27) := (blk_cell BK126.out 27).trans rfl; have hcz29_28 : w28.cell? ⟨gb126, 28, none⟩ = some (.int .u32 a0_28) := (blk_cell BK126.out 28).trans rfl; have hcz29_29 : w28.cell? ⟨gb126, 29, none⟩ = some (.bool a0_29) := (blk_cell BK126.out 29).trans rfl) | ((with_reducible refine gate_callee (f := 14) rfl ?_); refine goesL_ (some 15) rfl rfl Try.func14 (by kernel_rfl) rfl #[.agg #[.int .u32 a0_0, .int .u32 a0_1, .int .u32 a0_2, .int .u32 a0_3, .int .u32 a0_4, .int .u32 a0_5, .int .u32 a0_6, .int .u32 a0_7, .int .u32 a0_8, .int .u32 a0_9, .int .u32 a0_10, .int .u32 a0_11, .int .u32 a0_12, .int .u32 a0_13, .int .u32 a0_14, .int .u32 a0_15, .int .u32 a0_16, .int .u32 a0_17, .int .u32 a0_18, .int .u32 a0_19, .int .u32 a0_20, .int .u32 a0_21, .int .u32 a0_22, .int .u32 a0_23, .int .u32 a0_24, .int .u32 a0_25, .int .u32 a0_26, .int .u32 a0_27, .int .u32 a0_28, .bool a0_29]] rfl (by (try simp only [List.map_toArray, List.map_cons, List.map_nil]); first | done | rfl | (simp only [List.length_drop, List.length_take]; rfl)) ?_; (with_reducible refine (walk_Paged.calls a0_0 a0_1 a0_2 a0_3 a0_4 a0_5 a0_6 a0_7 a0_8 a0_9 a0_10 a0_11 a0_12 a0_13 a0_14 a0_15 a0_16 a0_17 a0_18 a0_19 a0_20 a0_21 a0_22 a0_23 a0_24 a0_25 a0_26 a0_27 a0_28 a0_29 true _ A5.out).mono ?_); rintro e w30 ⟨rfl, hb⟩; refine ⟨_, rfl, ?_⟩; have n0_ := Aside0.mk (blk_below (g := gb126) (o := .cells #[.int .u32 a0_0, .int .u32 a0_1, .int .u32 a0_2, .int .u32 a0_3, .int .u32 a0_4, .int .u32 a0_5, .int .u32 a0_6, .int .u32 a0_7, .int .u32 a0_8, .int .u32 a0_9, .int .u32 a0_10, .int .u32 a0_11, .int .u32 a0_12, .int .u32 a0_13, .int .u32 a0_14, .int .u32 a0_15, .int .u32 a0_16, .int .u32 a0_17, .int .u32 a0_18, .int .u32 a0_19, .int .u32 a0_20, .int .u32 a0_21, .int .u32 a0_22, .int .u32 a0_23, .int .u32 a0_24, .int .u32 a0_25, .int .u32 a0_26, .int .u32 a0_27, .int .u32 a0_28, .bool a0_29] 35 (0, 0)) (by (with_reducible repeat (first | refine blk_drewN ?_ _ | refine blk_drew ?_ | refine blk_alloc ?_ _)); exact BK126.out) hb); have n1_ := Aside0.mk (below_step (by repeat (first | (with_reducible first | exact HB.out | apply below_alloc | apply pw_below_drewN | apply below_drew1 | refine below_set ?_ GE126.out) | exact HB.out)) hb); clear BK126; clear HB; have BK126 := n0_; have HB := n1_; clear n0_ n1_; (try clear hb); (try clear hb2); (try clear hk); (try clear hi)) | ((with_reducible refine gate_callee (f := 16) rfl ?_); refine goesL_ (some 19) rfl rfl Try.func16 (by kernel_rfl) rfl #[.int .i64 a3] rfl (by (try simp only [List.map_toArray, List.map_cons, List.map_nil]); first | done | rfl | (simp only [List.length_drop, List.length_take]; rfl)) ?_; (with_reducible refine (walk_Fault.calls a3 t128 _ A7.out).mono ?_); rintro e w' ⟨rfl, ⟨nd, rfl⟩⟩; refine ⟨_, rfl, ?_⟩; (try (rw [drewN_self w30]; generalize hq_ : World.drewN w30 _ = w30; have n0_ : Aside0 (w30.heap[gb126]? = some (.cells #[.int .u32 a0_0, .int .u32 a0_1, .int .u32 a0_2, .int .u32 a0_3, .int .u32 a0_4, .int .u32 a0_5, .int .u32 a0_6, .int .u32 a0_7, .int .u32 a0_8, .int .u32 a0_9, .int .u32 a0_10, .int .u32 a0_11, .int .u32 a0_12, .int .u32 a0_13, .int .u32 a0_14, .int .u32 a0_15, .int .u32 a0_16, .int .u32 a0_17, .int .u32 a0_18, .int .u32 a0_19, .int .u32 a0_20, .int .u32 a0_21, .int .u32 a0_22, .int .u32 a0_23, .int .u32 a0_24, .int .u32 a0_25, .int .u32 a0_26, .int .u32 a0_27, .int .u32 a0_28, .bool a0_29] 35 (0, 0))) := ⟨by rw [← hq_]; exact (by (with_reducible repeat (first | refine blk_drewN ?_ _ | refine blk_drew ?_ | refine blk_alloc ?_ _)); exact BK126.out)⟩; have n1_ : Aside0 (Below w.heap.size w w30) := ⟨by rw [← hq_]; exact (by repeat (first | (with_reducible first | exact HB.out | apply below_alloc | apply pw_below_drewN | apply below_drew1 | refine below_set ?_ GE126.out) | exact HB.out))⟩; clear BK126 HB hq_; have BK126 := n0_; have HB := n1_; clear n0_ n1_)); have hcz31_0 : w30.cell? ⟨gb126, 0, none⟩ = some (.int .u32 a0_0) := (blk_cell BK126.out 0).trans rfl; have hcz31_1 : w30.cell? ⟨gb126, 1, none⟩ = some (.int .u32 a0_1) := (blk_cell BK126.out 1).trans rfl; have hcz31_2 : w30.cell? ⟨gb126, 2, none⟩ = some (.int .u32 a0_2) := (blk_cell BK126.out 2).trans rfl; have hcz31_3 : w30.cell? ⟨gb126, 3, none⟩ = some (.int .u32 a0_3) := (blk_cell BK126.out 3).trans rfl; have hcz31_4 : w30.cell? ⟨gb126, 4, none⟩ = some (.int .u32 a0_4) := (blk_cell BK126.out 4).trans rfl; have hcz31_5 : w30.cell? ⟨gb126, 5, none⟩ = some (.int .u32 a0_5) := (blk_cell BK126.out 5).trans rfl; have hcz31_6 : w30.cell? ⟨gb126, 6, none⟩ = some (.int .u32 a0_6) := (blk_cell BK126.out 6).trans rfl; have hcz31_7 : w30.cell? ⟨gb126, 7, none⟩ = some (.int .u32 a0_7) := (blk_cell BK126.out 7).trans rfl; have hcz31_8 : w30.cell? ⟨gb126, 8, none⟩ = some (.int .u32 a0_8) := (blk_cell BK126.out 8).trans rfl; have hcz31_9 : w30.cell? ⟨gb126, 9, none⟩ = some (.int .u32 a0_9) := (blk_cell BK126.out 9).trans rfl; have hcz31_10 : w30.cell? ⟨gb126, 10, none⟩ = some (.int .u32 a0_10) := (blk_cell BK126.out 10).trans rfl; have hcz31_11 : w30.cell? ⟨gb126, 11, none⟩ = some (.int .u32 a0_11) := (blk_cell BK126.out 11).trans rfl; have hcz31_12 : w30.cell? ⟨gb126, 12, none⟩ = some (.int .u32 a0_12) := (blk_cell BK126.out 12).trans rfl; have hcz31_13 : w30.cell? ⟨gb126, 13, none⟩ = some (.int .u32 a0_13) := (blk_cell BK126.out 13).trans rfl; have hcz31_14 : w30.cell? ⟨gb126, 14, none⟩ = some (.int .u32 a0_14) := (blk_cell BK126.out 14).trans rfl; have hcz31_15 : w30.cell? ⟨gb126, 15, none⟩ = some (.int .u32 a0_15) := (blk_cell BK126.out 15).trans rfl; have hcz31_16 : w30.cell? ⟨gb126, 16, none⟩ = some (.int .u32 a0_16) := (blk_cell BK126.out 16).trans rfl; have hcz31_17 : w30.cell? ⟨gb126, 17, none⟩ = some (.int .u32 a0_17) := (blk_cell BK126.out 17).trans rfl; have hcz31_18 : w30.cell? ⟨gb126, 18, none⟩ = some (.int .u32 a0_18) := (blk_cell BK126.out 18).trans rfl; have hcz31_19 : w30.cell? ⟨gb126, 19, none⟩ = some (.int .u32 a0_19) := (blk_cell BK126.out 19).trans rfl; have hcz31_20 : w30.cell? ⟨gb126, 20, none⟩ = some (.int .u32 a0_20) := (blk_cell BK126.out 20).trans rfl; have hcz31_21 : w30.cell? ⟨gb126, 21, none⟩ = some (.int .u32 a0_21) := (blk_cell BK126.out 21).trans rfl; have hcz31_22 : w30.cell? ⟨gb126, 22, none⟩ = some (.int .u32 a0_22) := (blk_cell BK126.out 22).trans rfl; have hcz31_23 : w30.cell? ⟨gb126, 23, none⟩ = some (.int .u32 a0_23) := (blk_cell BK126.out 23).trans rfl; have hcz31_24 : w30.cell? ⟨gb126, 24, none⟩ = some (.int .u32 a0_24) := (blk_cell BK126.out 24).trans rfl; have hcz31_25 : w30.cell? ⟨gb126, 25, none⟩ = some (.int .u32 a0_25) := (blk_cell BK126.out 25).trans rfl; have hcz31_26 : w30.cell? ⟨gb126, 26, none⟩ = some (.int .u32 a0_26) := (blk_cell BK126.out 26).trans rfl; have hcz31_27 : w30.cell? ⟨gb126, 27, none⟩ = some (.int .u32 a0_27) := (blk_cell BK126.out 27).trans rfl; have hcz31_28 : w30.cell? ⟨gb126, 28, none⟩ = some (.int .u32 a0_28) := (blk_cell BK126.out 28).trans rfl; have hcz31_29 : w30.cell? ⟨gb126, 29, none⟩ = some (.bool a0_29) := (blk_cell BK126.out 29).trans rfl) | ((with_reducible refine gate_callee (f := 9) rfl ?_); refine goesL_ (some 29) rfl rfl Try.func9 (by kernel_rfl) rfl #[.slice A1 l1.length c1, .int .u32 a0_22, .int .u32 a2] rfl (by (try simp only [List.map_toArray, List.map_cons, List.map_nil]); first | done | rfl | (simp only [List.length_drop, List.length_take]; rfl)) ?_; (with_reducible refine (walk_Walk.calls k _ _ l1 a0_22 a2 t129 t130 t131 true _ ?side1 ?side2 A12.out).mono ?_); (case side1 => repeat (first | exact (Kd.C_below HR1.out HB.out) | (with_reducible refine Kd.C_alloc ?_ _) | (with_reducible refine Kd.C_drewN ?_ _) | (with_reducible refine Kd.C_drew ?_))); (case side2 => exact HC1.out); rintro e w32 ⟨v132, rfl, ho0, hb⟩; refine ⟨_, rfl, ?_⟩; have n0_ := Aside0.mk (Kd.R_lower ho0 (below_size (by repeat (first | (with_reducible first | exact HB.out | apply below_alloc | apply pw_below_drewN | apply below_drew1 | refine below_set ?_ GE126.out) | exact HB.out)))); have n1_ := Aside0.mk (blk_below (g := gb126) (o := .cells #[.int .u32 a0_0, .int .u32 a0_1, .int .u32 a0_2, .int .u32 a0_3, .int .u32 a0_4, .int .u32 a0_5, .int .u32 a0_6, .int .u32 a0_7, .int .u32 a0_8, .int .u32 a0_9, .int .u32 a0_10, .int .u32 a0_11, .int .u32 a0_12, .int .u32 a0_13, .int .u32 a0_14, .int .u32 a0_15, .int .u32 a0_16, .int .u32 a0_17, .int .u32 a0_18, .int .u32 a0_19, .int .u32 a0_20, .int .u32 a0_21, .int .u32 a0_22, .int .u32 a0_23, .int .u32 a0_24, .int .u32 a0_25, .int .u32 a0_26, .int .u32 a0_27, .int .u32 a0_28, .bool a0_29] 35 (0, 0)) (by (with_reducible repeat (first | refine blk_drewN ?_ _ | refine blk_drew ?_ | refine blk_alloc ?_ _)); exact BK126.out) hb); have n2_ := Aside0.mk (below_step (by repeat (first | (with_reducible first | exact HB.out | apply below_alloc | apply pw_below_drewN | apply below_drew1 | refine below_set ?_ GE126.out) | exact HB.out)) hb); clear BK126; clear HB; have HO133 := n0_; have BK126 := n1_; have HB := n2_; clear n0_ n1_ n2_; (try clear hb); (try clear hb2); (try clear hk); (try clear hi); (try clear ho0)) | ((with_reducible refine gate_dst (N := 11) rfl ?_); refine box_event ?hg (N := 11) ?hd (cs := #[.int .u32 0, .int .i64 0]) (t := 26) ?hr ?_; (case hd => rfl); (case hg => rfl); (case hr => first | (go_simp; done) | (go_simp; rfl)); intro gb135 hg w33 hbox hb; have n0_ := Aside0.mk (Kd.R_below (by (with_reducible repeat (first | apply Kd.R_alloc | apply Kd.R_drewN | apply Kd.R_drew)); exact HO133.out) hb); have n1_ := Aside0.mk (blk_below (g := gb126) (o := .cells #[.int .u32 a0_0, .int .u32 a0_1, .int .u32 a0_2, .int .u32 a0_3, .int .u32 a0_4, .int .u32 a0_5, .int .u32 a0_6, .int .u32 a0_7, .int .u32 a0_8, .int .u32 a0_9, .int .u32 a0_10, .int .u32 a0_11, .int .u32 a0_12, .int .u32 a0_13, .int .u32 a0_14, .int .u32 a0_15, .int .u32 a0_16, .int .u32 a0_17, .int .u32 a0_18, .int .u32 a0_19, .int .u32 a0_20, .int .u32 a0_21, .int .u32 a0_22, .int .u32 a0_23, .int .u32 a0_24, .int .u32 a0_25, .int .u32 a0_26, .int .u32 a0_27, .int .u32 a0_28, .bool a0_29] 35 (0, 0)) (by (with_reducible repeat (first | refine blk_drewN ?_ _ | refine blk_drew ?_ | refine blk_alloc ?_ _)); exact BK126.out) hb); have n2_ := Aside0.mk (below_step (by repeat (first | (with_reducible first | exact HB.out | apply below_alloc | apply pw_below_drewN | apply below_drew1 | refine below_set ?_ GE126.out) | exact HB.out)) hb); have n3_ := Aside0.mk (hbox); have n4_ := Aside0.mk ((by rw [hg]; exact (below_size (by repeat (first | (with_reducible first | exact HB.out | apply below_alloc | apply pw_below_drewN | apply below_drew1 | refine below_set ?_ GE126.out) | exact HB.out))) : w.heap.size ≤ gb135)); have n5_ := Aside0.mk ((by rw [hg]; exact (below_size (by repeat (first | (with_reducible first | exact HB.out | apply below_alloc | apply pw_below_drewN | apply below_drew1 | refine below_set ?_ GE126.out) | exact HB.out))) : w.heap.size ≤ gb135)); have n6_ := Aside0.mk ((by rw [hg]; exact Nat.ne_of_lt (blk_lt (g := gb126) (o := .cells #[.int .u32 a0_0, .int .u32 a0_1, .int .u32 a0_2, .int .u32 a0_3, .int .u32 a0_4, .int .u32 a0_5, .int .u32 a0_6, .int .u32 a0_7, .int .u32 a0_8, .int .u32 a0_9, .int .u32 a0_10, .int .u32 a0_11, .int .u32 a0_12, .int .u32 a0_13, .int .u32 a0_14, .int .u32 a0_15, .int .u32 a0_16, .int .u32 a0_17, .int .u32 a0_18, .int .u32 a0_19, .int .u32 a0_20, .int .u32 a0_21, .int .u32 a0_22, .int .u32 a0_23, .int .u32 a0_24, .int .u32 a0_25, .int .u32 a0_26, .int .u32 a0_27, .int .u32 a0_28, .bool a0_29] 35 (0, 0)) (by (with_reducible repeat (first | refine blk_drewN ?_ _ | refine blk_drew ?_ | refine blk_alloc ?_ _)); exact BK126.out)) : gb126 ≠ gb135)); have n7_ := Aside0.mk ((by rw [hg]; exact Nat.ne_of_gt (blk_lt (g := gb126) (o := .cells #[.int .u32 a0_0, .int .u32 a0_1, .int .u32 a0_2, .int .u32 a0_3, .int .u32 a0_4, .int .u32 a0_5, .int .u32 a0_6, .int .u32 a0_7, .int .u32 a0_8, .int .u32 a0_9, .int .u32 a0_10, .int .u32 a0_11, .int .u32 a0_12, .int .u32 a0_13, .int .u32 a0_14, .int .u32 a0_15, .int .u32 a0_16, .int .u32 a0_17, .int .u32 a0_18, .int .u32 a0_19, .int .u32 a0_20, .int .u32 a0_21, .int .u32 a0_22, .int .u32 a0_23, .int .u32 a0_24, .int .u32 a0_25, .int .u32 a0_26, .int .u32 a0_27, .int .u32 a0_28, .bool a0_29] 35 (0, 0)) (by (with_reducible repeat (first | refine blk_drewN ?_ _ | refine blk_drew ?_ | refine blk_alloc ?_ _)); exact BK126.out)) : gb135 ≠ gb126)); clear HO133; clear BK126; clear HB; have HO133 := n0_; have BK126 := n1_; have HB := n2_; have BK135 := n3_; have GW135 := n4_; have GE135 := n5_; have NB126_135 := n6_; have NB135_126 := n7_; clear n0_ n1_ n2_ n3_ n4_ n5_ n6_ n7_; clear hb hbox hg; have hnb34 := NB135_126.out; have hnc34 := NB126_135.out; have hcz35_0 : w33.cell? ⟨gb135, 0, none⟩ = some (.int .u32 0) := (blk_cell BK135.out 0).trans rfl; have hcz35_1 : w33.cell? ⟨gb135, 1, none⟩ = some (.int .i64 0) := (blk_cell BK135.out 1).trans rfl; have hfz35_0 := blk_frozen BK135.out 0; have hfz35_1 := blk_frozen BK135.out 1) | (go_at_call 29; (with_reducible refine (pte_Allows.calls k t129 t130 a3 false false _ A14.out).mono ?_); rintro e w36 ⟨rfl, hb⟩; have n0_ := Aside0.mk (Kd.R_below (by (with_reducible repeat (first | apply Kd.R_alloc | apply Kd.R_drewN | apply Kd.R_drew)); exact (Kd.R_mono (Kd.R_far (p := ⟨gb135, 1, none⟩) (Kd.R_far (p := ⟨gb135, 0, none⟩) (Kd.R_types HO133.out BK135.out (by decide)) (fun _ hk => hk.2) (.int .u32 t129)) (fun _ hk => hk.2) (.int .i64 t130)) (fun _ h_ => h_.1))) hb); have n1_ := Aside0.mk (blk_below (g := gb126) (o := .cells #[.int .u32 a0_0, .int .u32 a0_1, .int .u32 a0_2, .int .u32 a0_3, .int .u32 a0_4, .int .u32 a0_5, .int .u32 a0_6, .int .u32 a0_7, .int .u32 a0_8, .int .u32 a0_9, .int .u32 a0_10, .int .u32 a0_11, .int .u32 a0_12, .int .u32 a0_13, .int .u32 a0_14, .int .u32 a0_15, .int .u32 a0_16, .int .u32 a0_17, .int .u32 a0_18, .int .u32 a0_19, .int .u32 a0_20, .int .u32 a0_21, .int .u32 a0_22, .int .u32 a0_23, .int .u32 a0_24, .int .u32 a0_25, .int .u32 a0_26, .int .u32 a0_27, .int .u32 a0_28, .bool a0_29] 35 (0, 0)) (by (with_reducible repeat (first | refine blk_drewN ?_ _ | refine blk_drew ?_ | refine blk_alloc ?_ _)); refine blk_far ?_ NB126_135.out _; (with_reducible repeat (first | refine blk_drewN ?_ _ | refine blk_drew ?_ | refine blk_alloc ?_ _)); refine blk_far ?_ NB126_135.out _; (with_reducible repeat (first | refine blk_drewN ?_ _ | refine blk_drew ?_ | refine blk_alloc ?_ _)); exact BK126.out) hb); have n2_ := Aside0.mk (blk_below (g := gb135) (o := .cells #[.int .u32 t129, .int .i64 t130] 26 (0, 0)) (by (with_reducible repeat (first | refine blk_drewN ?_ _ | refine blk_drew ?_ | refine blk_alloc ?_ _)); refine blk_put (cs := #[.int .u32 t129, .int .i64 0]) ?_ 1 _ (by first | rfl | (simp [Int.emod_emod_of_dvd]; done)); (with_reducible repeat (first | refine blk_drewN ?_ _ | refine blk_drew ?_ | refine blk_alloc ?_ _)); refine blk_put (cs := #[.int .u32 0, .int .i64 0]) ?_ 0 _ (by first | rfl | (simp [Int.emod_emod_of_dvd]; done)); (with_reducible repeat (first | refine blk_drewN ?_ _ | refine blk_drew ?_ | refine blk_alloc ?_ _)); exact BK135.out) hb); have n3_ := Aside0.mk (below_step (by repeat (first | (with_reducible first | exact HB.out | apply below_alloc | apply pw_below_drewN | apply below_drew1 | refine below_set ?_ GE126.out | refine below_set ?_ GE135.out) | exact HB.out)) hb); clear HO133; clear BK126; clear BK135; clear HB; have HO133 := n0_; have BK126 := n1_; have BK135 := n2_; have HB := n3_; clear n0_ n1_ n2_ n3_; (try clear hb); (try clear hb2); (try clear hk); (try clear hi)))
          go_ret2
          exact ⟨by first | rfl | (simp [errW_none, errW_some] <;> rfl) | (simp [*, errW_none, errW_some] <;> rfl), by repeat (first | (with_reducible first | exact HB.out | apply below_alloc | apply pw_below_drewN | apply below_drew1 | refine below_set ?_ GE126.out | refine below_set ?_ GE135.out) | exact HB.out)⟩
      · replace c13 := Bool.eq_false_iff.mpr c13
        subst c13
        have H1 : (some (0, t128)) = some (r1, r2) := by rw [if_neg (show ¬ (false = true) by decide)] at H; exact H
        clear H
        have H := H1
        clear H1
        simp only [Option.some.injEq, Prod.mk.injEq] at H
        obtain ⟨rfl, rfl⟩ := H
        go_enter Try.func12, Try.ntmps12
        go_wp2_with (first | ((with_reducible refine gate_dst (N := 14) rfl ?_); refine Go.Proofs.Ytmkipjmadmjfaaa.Cp.load_whole 35 (.tmp 4) gb126 rfl rfl rfl (by (with_reducible repeat (first | refine blk_drewN ?_ _ | refine blk_drew ?_ | refine blk_alloc ?_ _)); exact BK126.out) Try.underlying35 rfl (by kernel_rfl) ?_) | ((with_reducible refine gate_dst (N := 4) rfl ?_); refine box_event ?hg (N := 4) ?hd (cs := #[.int .u32 a0_0, .int .u32 a0_1, .int .u32 a0_2, .int .u32 a0_3, .int .u32 a0_4, .int .u32 a0_5, .int .u32 a0_6, .int .u32 a0_7, .int .u32 a0_8, .int .u32 a0_9, .int .u32 a0_10, .int .u32 a0_11, .int .u32 a0_12, .int .u32 a0_13, .int .u32 a0_14, .int .u32 a0_15, .int .u32 a0_16, .int .u32 a0_17, .int .u32 a0_18, .int .u32 a0_19, .int .u32 a0_20, .int .u32 a0_21, .int .u32 a0_22, .int .u32 a0_23, .int .u32 a0_24, .int .u32 a0_25, .int .u32 a0_26, .int .u32 a0_27, .int .u32 a0_28, .bool a0_29]) (t := 35) ?hr ?_; (case hd => rfl); (case hg => rfl); (case hr => first | (go_simp; done) | (go_simp; rfl)); intro gb126 hg w37 hbox hb; have n0_ := Aside0.mk (below_step (by repeat (first | (with_reducible first | exact HB.out | apply below_alloc | apply pw_below_drewN | apply below_drew1) | exact HB.out)) hb); have n1_ := Aside0.mk (hbox); have n2_ := Aside0.mk ((by rw [hg]; exact (below_size (by repeat (first | (with_reducible first | exact HB.out | apply below_alloc | apply pw_below_drewN | apply below_drew1) | exact HB.out))) : w.heap.size ≤ gb126)); have n3_ := Aside0.mk ((by rw [hg]; exact (below_size (by repeat (first | (with_reducible first | exact HB.out | apply below_alloc | apply pw_below_drewN | apply below_drew1) | exact HB.out))) : w.heap.size ≤ gb126)); clear HB; have HB := n0_; have BK126 := n1_; have GW126 := n2_; have GE126 := n3_; clear n0_ n1_ n2_ n3_; clear hb hbox hg; have hcz38_0 : w37.cell? ⟨gb126, 0, none⟩ = some (.int .u32 a0_0) := (blk_cell BK126.out 0).trans rfl; have hcz38_1 : w37.cell? ⟨gb126, 1, none⟩ = some (.int .u32 a0_1) := (blk_cell BK126.out 1).trans rfl; have hcz38_2 : w37.cell? ⟨gb126, 2, none⟩ = some (.int .u32 a0_2) := (blk_cell BK126.out 2).trans rfl; have hcz38_3 : w37.cell? ⟨gb126, 3, none⟩ = some (.int .u32 a0_3) := (blk_cell BK126.out 3).trans rfl; have hcz38_4 : w37.cell? ⟨gb126, 4, none⟩ = some (.int .u32 a0_4) := (blk_cell BK126.out 4).trans rfl; have hcz38_5 : w37.cell? ⟨gb126, 5, none⟩ = some (.int .u32 a0_5) := (blk_cell BK126.out 5).trans rfl; have hcz38_6 : w37.cell? ⟨gb126, 6, none⟩ = some (.int .u32 a0_6) := (blk_cell BK126.out 6).trans rfl; have hcz38_7 : w37.cell? ⟨gb126, 7, none⟩ = some (.int .u32 a0_7) := (blk_cell BK126.out 7).trans rfl; have hcz38_8 : w37.cell? ⟨gb126, 8, none⟩ = some (.int .u32 a0_8) := (blk_cell BK126.out 8).trans rfl; have hcz38_9 : w37.cell? ⟨gb126, 9, none⟩ = some (.int .u32 a0_9) := (blk_cell BK126.out 9).trans rfl; have hcz38_10 : w37.cell? ⟨gb126, 10, none⟩ = some (.int .u32 a0_10) := (blk_cell BK126.out 10).trans rfl; have hcz38_11 : w37.cell? ⟨gb126, 11, none⟩ = some (.int .u32 a0_11) := (blk_cell BK126.out 11).trans rfl; have hcz38_12 : w37.cell? ⟨gb126, 12, none⟩ = some (.int .u32 a0_12) := (blk_cell BK126.out 12).trans rfl; have hcz38_13 : w37.cell? ⟨gb126, 13, none⟩ = some (.int .u32 a0_13) := (blk_cell BK126.out 13).trans rfl; have hcz38_14 : w37.cell? ⟨gb126, 14, none⟩ = some (.int .u32 a0_14) := (blk_cell BK126.out 14).trans rfl; have hcz38_15 : w37.cell? ⟨gb126, 15, none⟩ = some (.int .u32 a0_15) := (blk_cell BK126.out 15).trans rfl; have hcz38_16 : w37.cell? ⟨gb126, 16, none⟩ = some (.int .u32 a0_16) := (blk_cell BK126.out 16).trans rfl; have hcz38_17 : w37.cell? ⟨gb126, 17, none⟩ = some (.int .u32 a0_17) := (blk_cell BK126.out 17).trans rfl; have hcz38_18 : w37.cell? ⟨gb126, 18, none⟩ = some (.int .u32 a0_18) := (blk_cell BK126.out 18).trans rfl; have hcz38_19 : w37.cell? ⟨gb126, 19, none⟩ = some (.int .u32 a0_19) := (blk_cell BK126.out 19).trans rfl; have hcz38_20 : w37.cell? ⟨gb126, 20, none⟩ = some (.int .u32 a0_20) := (blk_cell BK126.out 20).trans rfl; have hcz38_21 : w37.cell? ⟨gb126, 21, none⟩ = some (.int .u32 a0_21) := (blk_cell BK126.out 21).trans rfl; have hcz38_22 : w37.cell? ⟨gb126, 22, none⟩ = some (.int .u32 a0_22) := (blk_cell BK126.out 22).trans rfl; have hcz38_23 : w37.cell? ⟨gb126, 23, none⟩ = some (.int .u32 a0_23) := (blk_cell BK126.out 23).trans rfl; have hcz38_24 : w37.cell? ⟨gb126, 24, none⟩ = some (.int .u32 a0_24) := (blk_cell BK126.out 24).trans rfl; have hcz38_25 : w37.cell? ⟨gb126, 25, none⟩ = some (.int .u32 a0_25) := (blk_cell BK126.out 25).trans rfl; have hcz38_26 : w37.cell? ⟨gb126, 26, none⟩ = some (.int .u32 a0_26) := (blk_cell BK126.out 26).trans rfl; have hcz38_27 : w37.cell? ⟨gb126, 27, none⟩ = some (.int .u32 a0_27) := (blk_cell BK126.out 27).trans rfl; have hcz38_28 : w37.cell? ⟨gb126, 28, none⟩ = some (.int .u32 a0_28) := (blk_cell BK126.out 28).trans rfl; have hcz38_29 : w37.cell? ⟨gb126, 29, none⟩ = some (.bool a0_29) := (blk_cell BK126.out 29).trans rfl) | ((with_reducible refine gate_callee (f := 14) rfl ?_); refine goesL_ (some 15) rfl rfl Try.func14 (by kernel_rfl) rfl #[.agg #[.int .u32 a0_0, .int .u32 a0_1, .int .u32 a0_2, .int .u32 a0_3, .int .u32 a0_4, .int .u32 a0_5, .int .u32 a0_6, .int .u32 a0_7, .int .u32 a0_8, .int .u32 a0_9, .int .u32 a0_10, .int .u32 a0_11, .int .u32 a0_12, .int .u32 a0_13, .int .u32 a0_14, .int .u32 a0_15, .int .u32 a0_16, .int .u32 a0_17, .int .u32 a0_18, .int .u32 a0_19, .int .u32 a0_20, .int .u32 a0_21, .int .u32 a0_22, .int .u32 a0_23, .int .u32 a0_24, .int .u32 a0_25, .int .u32 a0_26, .int .u32 a0_27, .int .u32 a0_28, .bool a0_29]] rfl (by (try simp only [List.map_toArray, List.map_cons, List.map_nil]); first | done | rfl | (simp only [List.length_drop, List.length_take]; rfl)) ?_; (with_reducible refine (walk_Paged.calls a0_0 a0_1 a0_2 a0_3 a0_4 a0_5 a0_6 a0_7 a0_8 a0_9 a0_10 a0_11 a0_12 a0_13 a0_14 a0_15 a0_16 a0_17 a0_18 a0_19 a0_20 a0_21 a0_22 a0_23 a0_24 a0_25 a0_26 a0_27 a0_28 a0_29 true _ A5.out).mono ?_); rintro e w39 ⟨rfl, hb⟩; refine ⟨_, rfl, ?_⟩; have n0_ := Aside0.mk (blk_below (g := gb126) (o := .cells #[.int .u32 a0_0, .int .u32 a0_1, .int .u32 a0_2, .int .u32 a0_3, .int .u32 a0_4, .int .u32 a0_5, .int .u32 a0_6, .int .u32 a0_7, .int .u32 a0_8, .int .u32 a0_9, .int .u32 a0_10, .int .u32 a0_11, .int .u32 a0_12, .int .u32 a0_13, .int .u32 a0_14, .int .u32 a0_15, .int .u32 a0_16, .int .u32 a0_17, .int .u32 a0_18, .int .u32 a0_19, .int .u32 a0_20, .int .u32 a0_21, .int .u32 a0_22, .int .u32 a0_23, .int .u32 a0_24, .int .u32 a0_25, .int .u32 a0_26, .int .u32 a0_27, .int .u32 a0_28, .bool a0_29] 35 (0, 0)) (by (with_reducible repeat (first | refine blk_drewN ?_ _ | refine blk_drew ?_ | refine blk_alloc ?_ _)); exact BK126.out) hb); have n1_ := Aside0.mk (below_step (by repeat (first | (with_reducible first | exact HB.out | apply below_alloc | apply pw_below_drewN | apply below_drew1 | refine below_set ?_ GE126.out) | exact HB.out)) hb); clear BK126; clear HB; have BK126 := n0_; have HB := n1_; clear n0_ n1_; (try clear hb); (try clear hb2); (try clear hk); (try clear hi)) | ((with_reducible refine gate_callee (f := 16) rfl ?_); refine goesL_ (some 19) rfl rfl Try.func16 (by kernel_rfl) rfl #[.int .i64 a3] rfl (by (try simp only [List.map_toArray, List.map_cons, List.map_nil]); first | done | rfl | (simp only [List.length_drop, List.length_take]; rfl)) ?_; (with_reducible refine (walk_Fault.calls a3 t128 _ A7.out).mono ?_); rintro e w' ⟨rfl, ⟨nd, rfl⟩⟩; refine ⟨_, rfl, ?_⟩; (try (rw [drewN_self w39]; generalize hq_ : World.drewN w39 _ = w39; have n0_ : Aside0 (w39.heap[gb126]? = some (.cells #[.int .u32 a0_0, .int .u32 a0_1, .int .u32 a0_2, .int .u32 a0_3, .int .u32 a0_4, .int .u32 a0_5, .int .u32 a0_6, .int .u32 a0_7, .int .u32 a0_8, .int .u32 a0_9, .int .u32 a0_10, .int .u32 a0_11, .int .u32 a0_12, .int .u32 a0_13, .int .u32 a0_14, .int .u32 a0_15, .int .u32 a0_16, .int .u32 a0_17, .int .u32 a0_18, .int .u32 a0_19, .int .u32 a0_20, .int .u32 a0_21, .int .u32 a0_22, .int .u32 a0_23, .int .u32 a0_24, .int .u32 a0_25, .int .u32 a0_26, .int .u32 a0_27, .int .u32 a0_28, .bool a0_29] 35 (0, 0))) := ⟨by rw [← hq_]; exact (by (with_reducible repeat (first | refine blk_drewN ?_ _ | refine blk_drew ?_ | refine blk_alloc ?_ _)); exact BK126.out)⟩; have n1_ : Aside0 (Below w.heap.size w w39) := ⟨by rw [← hq_]; exact (by repeat (first | (with_reducible first | exact HB.out | apply below_alloc | apply pw_below_drewN | apply below_drew1 | refine below_set ?_ GE126.out) | exact HB.out))⟩; clear BK126 HB hq_; have BK126 := n0_; have HB := n1_; clear n0_ n1_)); have hcz40_0 : w39.cell? ⟨gb126, 0, none⟩ = some (.int .u32 a0_0) := (blk_cell BK126.out 0).trans rfl; have hcz40_1 : w39.cell? ⟨gb126, 1, none⟩ = some (.int .u32 a0_1) := (blk_cell BK126.out 1).trans rfl; have hcz40_2 : w39.cell? ⟨gb126, 2, none⟩ = some (.int .u32 a0_2) := (blk_cell BK126.out 2).trans rfl; have hcz40_3 : w39.cell? ⟨gb126, 3, none⟩ = some (.int .u32 a0_3) := (blk_cell BK126.out 3).trans rfl; have hcz40_4 : w39.cell? ⟨gb126, 4, none⟩ = some (.int .u32 a0_4) := (blk_cell BK126.out 4).trans rfl; have hcz40_5 : w39.cell? ⟨gb126, 5, none⟩ = some (.int .u32 a0_5) := (blk_cell BK126.out 5).trans rfl; have hcz40_6 : w39.cell? ⟨gb126, 6, none⟩ = some (.int .u32 a0_6) := (blk_cell BK126.out 6).trans rfl; have hcz40_7 : w39.cell? ⟨gb126, 7, none⟩ = some (.int .u32 a0_7) := (blk_cell BK126.out 7).trans rfl; have hcz40_8 : w39.cell? ⟨gb126, 8, none⟩ = some (.int .u32 a0_8) := (blk_cell BK126.out 8).trans rfl; have hcz40_9 : w39.cell? ⟨gb126, 9, none⟩ = some (.int .u32 a0_9) := (blk_cell BK126.out 9).trans rfl; have hcz40_10 : w39.cell? ⟨gb126, 10, none⟩ = some (.int .u32 a0_10) := (blk_cell BK126.out 10).trans rfl; have hcz40_11 : w39.cell? ⟨gb126, 11, none⟩ = some (.int .u32 a0_11) := (blk_cell BK126.out 11).trans rfl; have hcz40_12 : w39.cell? ⟨gb126, 12, none⟩ = some (.int .u32 a0_12) := (blk_cell BK126.out 12).trans rfl; have hcz40_13 : w39.cell? ⟨gb126, 13, none⟩ = some (.int .u32 a0_13) := (blk_cell BK126.out 13).trans rfl; have hcz40_14 : w39.cell? ⟨gb126, 14, none⟩ = some (.int .u32 a0_14) := (blk_cell BK126.out 14).trans rfl; have hcz40_15 : w39.cell? ⟨gb126, 15, none⟩ = some (.int .u32 a0_15) := (blk_cell BK126.out 15).trans rfl; have hcz40_16 : w39.cell? ⟨gb126, 16, none⟩ = some (.int .u32 a0_16) := (blk_cell BK126.out 16).trans rfl; have hcz40_17 : w39.cell? ⟨gb126, 17, none⟩ = some (.int .u32 a0_17) := (blk_cell BK126.out 17).trans rfl; have hcz40_18 : w39.cell? ⟨gb126, 18, none⟩ = some (.int .u32 a0_18) := (blk_cell BK126.out 18).trans rfl; have hcz40_19 : w39.cell? ⟨gb126, 19, none⟩ = some (.int .u32 a0_19) := (blk_cell BK126.out 19).trans rfl; have hcz40_20 : w39.cell? ⟨gb126, 20, none⟩ = some (.int .u32 a0_20) := (blk_cell BK126.out 20).trans rfl; have hcz40_21 : w39.cell? ⟨gb126, 21, none⟩ = some (.int .u32 a0_21) := (blk_cell BK126.out 21).trans rfl; have hcz40_22 : w39.cell? ⟨gb126, 22, none⟩ = some (.int .u32 a0_22) := (blk_cell BK126.out 22).trans rfl; have hcz40_23 : w39.cell? ⟨gb126, 23, none⟩ = some (.int .u32 a0_23) := (blk_cell BK126.out 23).trans rfl; have hcz40_24 : w39.cell? ⟨gb126, 24, none⟩ = some (.int .u32 a0_24) := (blk_cell BK126.out 24).trans rfl; have hcz40_25 : w39.cell? ⟨gb126, 25, none⟩ = some (.int .u32 a0_25) := (blk_cell BK126.out 25).trans rfl; have hcz40_26 : w39.cell? ⟨gb126, 26, none⟩ = some (.int .u32 a0_26) := (blk_cell BK126.out 26).trans rfl; have hcz40_27 : w39.cell? ⟨gb126, 27, none⟩ = some (.int .u32 a0_27) := (blk_cell BK126.out 27).trans rfl; have hcz40_28 : w39.cell? ⟨gb126, 28, none⟩ = some (.int .u32 a0_28) := (blk_cell BK126.out 28).trans rfl; have hcz40_29 : w39.cell? ⟨gb126, 29, none⟩ = some (.bool a0_29) := (blk_cell BK126.out 29).trans rfl) | ((with_reducible refine gate_callee (f := 9) rfl ?_); refine goesL_ (some 29) rfl rfl Try.func9 (by kernel_rfl) rfl #[.slice A1 l1.length c1, .int .u32 a0_22, .int .u32 a2] rfl (by (try simp only [List.map_toArray, List.map_cons, List.map_nil]); first | done | rfl | (simp only [List.length_drop, List.length_take]; rfl)) ?_; (with_reducible refine (walk_Walk.calls k _ _ l1 a0_22 a2 t129 t130 t131 false _ ?side1 ?side2 A12.out).mono ?_); (case side1 => repeat (first | exact (Kd.C_below HR1.out HB.out) | (with_reducible refine Kd.C_alloc ?_ _) | (with_reducible refine Kd.C_drewN ?_ _) | (with_reducible refine Kd.C_drew ?_))); (case side2 => exact HC1.out); rintro e w41 ⟨v132, rfl, ho0, hb⟩; refine ⟨_, rfl, ?_⟩; have n0_ := Aside0.mk (Kd.R_lower ho0 (below_size (by repeat (first | (with_reducible first | exact HB.out | apply below_alloc | apply pw_below_drewN | apply below_drew1 | refine below_set ?_ GE126.out) | exact HB.out)))); have n1_ := Aside0.mk (blk_below (g := gb126) (o := .cells #[.int .u32 a0_0, .int .u32 a0_1, .int .u32 a0_2, .int .u32 a0_3, .int .u32 a0_4, .int .u32 a0_5, .int .u32 a0_6, .int .u32 a0_7, .int .u32 a0_8, .int .u32 a0_9, .int .u32 a0_10, .int .u32 a0_11, .int .u32 a0_12, .int .u32 a0_13, .int .u32 a0_14, .int .u32 a0_15, .int .u32 a0_16, .int .u32 a0_17, .int .u32 a0_18, .int .u32 a0_19, .int .u32 a0_20, .int .u32 a0_21, .int .u32 a0_22, .int .u32 a0_23, .int .u32 a0_24, .int .u32 a0_25, .int .u32 a0_26, .int .u32 a0_27, .int .u32 a0_28, .bool a0_29] 35 (0, 0)) (by (with_reducible repeat (first | refine blk_drewN ?_ _ | refine blk_drew ?_ | refine blk_alloc ?_ _)); exact BK126.out) hb); have n2_ := Aside0.mk (below_step (by repeat (first | (with_reducible first | exact HB.out | apply below_alloc | apply pw_below_drewN | apply below_drew1 | refine below_set ?_ GE126.out) | exact HB.out)) hb); clear BK126; clear HB; have HO133 := n0_; have BK126 := n1_; have HB := n2_; clear n0_ n1_ n2_; (try clear hb); (try clear hb2); (try clear hk); (try clear hi); (try clear ho0)) | ((with_reducible refine gate_dst (N := 11) rfl ?_); refine box_event ?hg (N := 11) ?hd (cs := #[.int .u32 0, .int .i64 0]) (t := 26) ?hr ?_; (case hd => rfl); (case hg => rfl); (case hr => first | (go_simp; done) | (go_simp; rfl)); intro gb135 hg w42 hbox hb; have n0_ := Aside0.mk (Kd.R_below (by (with_reducible repeat (first | apply Kd.R_alloc | apply Kd.R_drewN | apply Kd.R_drew)); exact HO133.out) hb); have n1_ := Aside0.mk (blk_below (g := gb126) (o := .cells #[.int .u32 a0_0, .int .u32 a0_1, .int .u32 a0_2, .int .u32 a0_3, .int .u32 a0_4, .int .u32 a0_5, .int .u32 a0_6, .int .u32 a0_7, .int .u32 a0_8, .int .u32 a0_9, .int .u32 a0_10, .int .u32 a0_11, .int .u32 a0_12, .int .u32 a0_13, .int .u32 a0_14, .int .u32 a0_15, .int .u32 a0_16, .int .u32 a0_17, .int .u32 a0_18, .int .u32 a0_19, .int .u32 a0_20, .int .u32 a0_21, .int .u32 a0_22, .int .u32 a0_23, .int .u32 a0_24, .int .u32 a0_25, .int .u32 a0_26, .int .u32 a0_27, .int .u32 a0_28, .bool a0_29] 35 (0, 0)) (by (with_reducible repeat (first | refine blk_drewN ?_ _ | refine blk_drew ?_ | refine blk_alloc ?_ _)); exact BK126.out) hb); have n2_ := Aside0.mk (below_step (by repeat (first | (with_reducible first | exact HB.out | apply below_alloc | apply pw_below_drewN | apply below_drew1 | refine below_set ?_ GE126.out) | exact HB.out)) hb); have n3_ := Aside0.mk (hbox); have n4_ := Aside0.mk ((by rw [hg]; exact (below_size (by repeat (first | (with_reducible first | exact HB.out | apply below_alloc | apply pw_below_drewN | apply below_drew1 | refine below_set ?_ GE126.out) | exact HB.out))) : w.heap.size ≤ gb135)); have n5_ := Aside0.mk ((by rw [hg]; exact (below_size (by repeat (first | (with_reducible first | exact HB.out | apply below_alloc | apply pw_below_drewN | apply below_drew1 | refine below_set ?_ GE126.out) | exact HB.out))) : w.heap.size ≤ gb135)); have n6_ := Aside0.mk ((by rw [hg]; exact Nat.ne_of_lt (blk_lt (g := gb126) (o := .cells #[.int .u32 a0_0, .int .u32 a0_1, .int .u32 a0_2, .int .u32 a0_3, .int .u32 a0_4, .int .u32 a0_5, .int .u32 a0_6, .int .u32 a0_7, .int .u32 a0_8, .int .u32 a0_9, .int .u32 a0_10, .int .u32 a0_11, .int .u32 a0_12, .int .u32 a0_13, .int .u32 a0_14, .int .u32 a0_15, .int .u32 a0_16, .int .u32 a0_17, .int .u32 a0_18, .int .u32 a0_19, .int .u32 a0_20, .int .u32 a0_21, .int .u32 a0_22, .int .u32 a0_23, .int .u32 a0_24, .int .u32 a0_25, .int .u32 a0_26, .int .u32 a0_27, .int .u32 a0_28, .bool a0_29] 35 (0, 0)) (by (with_reducible repeat (first | refine blk_drewN ?_ _ | refine blk_drew ?_ | refine blk_alloc ?_ _)); exact BK126.out)) : gb126 ≠ gb135)); have n7_ := Aside0.mk ((by rw [hg]; exact Nat.ne_of_gt (blk_lt (g := gb126) (o := .cells #[.int .u32 a0_0, .int .u32 a0_1, .int .u32 a0_2, .int .u32 a0_3, .int .u32 a0_4, .int .u32 a0_5, .int .u32 a0_6, .int .u32 a0_7, .int .u32 a0_8, .int .u32 a0_9, .int .u32 a0_10, .int .u32 a0_11, .int .u32 a0_12, .int .u32 a0_13, .int .u32 a0_14, .int .u32 a0_15, .int .u32 a0_16, .int .u32 a0_17, .int .u32 a0_18, .int .u32 a0_19, .int .u32 a0_20, .int .u32 a0_21, .int .u32 a0_22, .int .u32 a0_23, .int .u32 a0_24, .int .u32 a0_25, .int .u32 a0_26, .int .u32 a0_27, .int .u32 a0_28, .bool a0_29] 35 (0, 0)) (by (with_reducible repeat (first | refine blk_drewN ?_ _ | refine blk_drew ?_ | refine blk_alloc ?_ _)); exact BK126.out)) : gb135 ≠ gb126)); clear HO133; clear BK126; clear HB; have HO133 := n0_; have BK126 := n1_; have HB := n2_; have BK135 := n3_; have GW135 := n4_; have GE135 := n5_; have NB126_135 := n6_; have NB135_126 := n7_; clear n0_ n1_ n2_ n3_ n4_ n5_ n6_ n7_; clear hb hbox hg; have hnb43 := NB135_126.out; have hnc43 := NB126_135.out; have hcz44_0 : w42.cell? ⟨gb135, 0, none⟩ = some (.int .u32 0) := (blk_cell BK135.out 0).trans rfl; have hcz44_1 : w42.cell? ⟨gb135, 1, none⟩ = some (.int .i64 0) := (blk_cell BK135.out 1).trans rfl; have hfz44_0 := blk_frozen BK135.out 0; have hfz44_1 := blk_frozen BK135.out 1))
        go_ret2
        exact ⟨by first | rfl | (simp [errW_none, errW_some] <;> rfl) | (simp [*, errW_none, errW_some] <;> rfl), by repeat (first | (with_reducible first | exact HB.out | apply below_alloc | apply pw_below_drewN | apply below_drew1 | refine below_set ?_ GE126.out | refine below_set ?_ GE135.out) | exact HB.out)⟩
  · replace c6 := Bool.eq_false_iff.mpr c6
    subst c6
    have H1 : (some (a2, 0)) = some (r1, r2) := by rw [if_neg (show ¬ (false = true) by decide)] at H; exact H
    clear H
    have H := H1
    clear H1
    simp only [Option.some.injEq, Prod.mk.injEq] at H
    obtain ⟨rfl, rfl⟩ := H
    go_enter Try.func12, Try.ntmps12
    go_wp2_with (first | ((with_reducible refine gate_dst (N := 14) rfl ?_); refine Go.Proofs.Ytmkipjmadmjfaaa.Cp.load_whole 35 (.tmp 4) gb126 rfl rfl rfl (by (with_reducible repeat (first | refine blk_drewN ?_ _ | refine blk_drew ?_ | refine blk_alloc ?_ _)); exact BK126.out) Try.underlying35 rfl (by kernel_rfl) ?_) | ((with_reducible refine gate_dst (N := 4) rfl ?_); refine box_event ?hg (N := 4) ?hd (cs := #[.int .u32 a0_0, .int .u32 a0_1, .int .u32 a0_2, .int .u32 a0_3, .int .u32 a0_4, .int .u32 a0_5, .int .u32 a0_6, .int .u32 a0_7, .int .u32 a0_8, .int .u32 a0_9, .int .u32 a0_10, .int .u32 a0_11, .int .u32 a0_12, .int .u32 a0_13, .int .u32 a0_14, .int .u32 a0_15, .int .u32 a0_16, .int .u32 a0_17, .int .u32 a0_18, .int .u32 a0_19, .int .u32 a0_20, .int .u32 a0_21, .int .u32 a0_22, .int .u32 a0_23, .int .u32 a0_24, .int .u32 a0_25, .int .u32 a0_26, .int .u32 a0_27, .int .u32 a0_28, .bool a0_29]) (t := 35) ?hr ?_; (case hd => rfl); (case hg => rfl); (case hr => first | (go_simp; done) | (go_simp; rfl)); intro gb126 hg w45 hbox hb; have n0_ := Aside0.mk (below_step (by repeat (first | (with_reducible first | exact HB.out | apply below_alloc | apply pw_below_drewN | apply below_drew1) | exact HB.out)) hb); have n1_ := Aside0.mk (hbox); have n2_ := Aside0.mk ((by rw [hg]; exact (below_size (by repeat (first | (with_reducible first | exact HB.out | apply below_alloc | apply pw_below_drewN | apply below_drew1) | exact HB.out))) : w.heap.size ≤ gb126)); have n3_ := Aside0.mk ((by rw [hg]; exact (below_size (by repeat (first | (with_reducible first | exact HB.out | apply below_alloc | apply pw_below_drewN | apply below_drew1) | exact HB.out))) : w.heap.size ≤ gb126)); clear HB; have HB := n0_; have BK126 := n1_; have GW126 := n2_; have GE126 := n3_; clear n0_ n1_ n2_ n3_; clear hb hbox hg; have hcz46_0 : w45.cell? ⟨gb126, 0, none⟩ = some (.int .u32 a0_0) := (blk_cell BK126.out 0).trans rfl; have hcz46_1 : w45.cell? ⟨gb126, 1, none⟩ = some (.int .u32 a0_1) := (blk_cell BK126.out 1).trans rfl; have hcz46_2 : w45.cell? ⟨gb126, 2, none⟩ = some (.int .u32 a0_2) := (blk_cell BK126.out 2).trans rfl; have hcz46_3 : w45.cell? ⟨gb126, 3, none⟩ = some (.int .u32 a0_3) := (blk_cell BK126.out 3).trans rfl; have hcz46_4 : w45.cell? ⟨gb126, 4, none⟩ = some (.int .u32 a0_4) := (blk_cell BK126.out 4).trans rfl; have hcz46_5 : w45.cell? ⟨gb126, 5, none⟩ = some (.int .u32 a0_5) := (blk_cell BK126.out 5).trans rfl; have hcz46_6 : w45.cell? ⟨gb126, 6, none⟩ = some (.int .u32 a0_6) := (blk_cell BK126.out 6).trans rfl; have hcz46_7 : w45.cell? ⟨gb126, 7, none⟩ = some (.int .u32 a0_7) := (blk_cell BK126.out 7).trans rfl; have hcz46_8 : w45.cell? ⟨gb126, 8, none⟩ = some (.int .u32 a0_8) := (blk_cell BK126.out 8).trans rfl; have hcz46_9 : w45.cell? ⟨gb126, 9, none⟩ = some (.int .u32 a0_9) := (blk_cell BK126.out 9).trans rfl; have hcz46_10 : w45.cell? ⟨gb126, 10, none⟩ = some (.int .u32 a0_10) := (blk_cell BK126.out 10).trans rfl; have hcz46_11 : w45.cell? ⟨gb126, 11, none⟩ = some (.int .u32 a0_11) := (blk_cell BK126.out 11).trans rfl; have hcz46_12 : w45.cell? ⟨gb126, 12, none⟩ = some (.int .u32 a0_12) := (blk_cell BK126.out 12).trans rfl; have hcz46_13 : w45.cell? ⟨gb126, 13, none⟩ = some (.int .u32 a0_13) := (blk_cell BK126.out 13).trans rfl; have hcz46_14 : w45.cell? ⟨gb126, 14, none⟩ = some (.int .u32 a0_14) := (blk_cell BK126.out 14).trans rfl; have hcz46_15 : w45.cell? ⟨gb126, 15, none⟩ = some (.int .u32 a0_15) := (blk_cell BK126.out 15).trans rfl; have hcz46_16 : w45.cell? ⟨gb126, 16, none⟩ = some (.int .u32 a0_16) := (blk_cell BK126.out 16).trans rfl; have hcz46_17 : w45.cell? ⟨gb126, 17, none⟩ = some (.int .u32 a0_17) := (blk_cell BK126.out 17).trans rfl; have hcz46_18 : w45.cell? ⟨gb126, 18, none⟩ = some (.int .u32 a0_18) := (blk_cell BK126.out 18).trans rfl; have hcz46_19 : w45.cell? ⟨gb126, 19, none⟩ = some (.int .u32 a0_19) := (blk_cell BK126.out 19).trans rfl; have hcz46_20 : w45.cell? ⟨gb126, 20, none⟩ = some (.int .u32 a0_20) := (blk_cell BK126.out 20).trans rfl; have hcz46_21 : w45.cell? ⟨gb126, 21, none⟩ = some (.int .u32 a0_21) := (blk_cell BK126.out 21).trans rfl; have hcz46_22 : w45.cell? ⟨gb126, 22, none⟩ = some (.int .u32 a0_22) := (blk_cell BK126.out 22).trans rfl; have hcz46_23 : w45.cell? ⟨gb126, 23, none⟩ = some (.int .u32 a0_23) := (blk_cell BK126.out 23).trans rfl; have hcz46_24 : w45.cell? ⟨gb126, 24, none⟩ = some (.int .u32 a0_24) := (blk_cell BK126.out 24).trans rfl; have hcz46_25 : w45.cell? ⟨gb126, 25, none⟩ = some (.int .u32 a0_25) := (blk_cell BK126.out 25).trans rfl; have hcz46_26 : w45.cell? ⟨gb126, 26, none⟩ = some (.int .u32 a0_26) := (blk_cell BK126.out 26).trans rfl; have hcz46_27 : w45.cell? ⟨gb126, 27, none⟩ = some (.int .u32 a0_27) := (blk_cell BK126.out 27).trans rfl; have hcz46_28 : w45.cell? ⟨gb126, 28, none⟩ = some (.int .u32 a0_28) := (blk_cell BK126.out 28).trans rfl; have hcz46_29 : w45.cell? ⟨gb126, 29, none⟩ = some (.bool a0_29) := (blk_cell BK126.out 29).trans rfl) | ((with_reducible refine gate_callee (f := 14) rfl ?_); refine goesL_ (some 15) rfl rfl Try.func14 (by kernel_rfl) rfl #[.agg #[.int .u32 a0_0, .int .u32 a0_1, .int .u32 a0_2, .int .u32 a0_3, .int .u32 a0_4, .int .u32 a0_5, .int .u32 a0_6, .int .u32 a0_7, .int .u32 a0_8, .int .u32 a0_9, .int .u32 a0_10, .int .u32 a0_11, .int .u32 a0_12, .int .u32 a0_13, .int .u32 a0_14, .int .u32 a0_15, .int .u32 a0_16, .int .u32 a0_17, .int .u32 a0_18, .int .u32 a0_19, .int .u32 a0_20, .int .u32 a0_21, .int .u32 a0_22, .int .u32 a0_23, .int .u32 a0_24, .int .u32 a0_25, .int .u32 a0_26, .int .u32 a0_27, .int .u32 a0_28, .bool a0_29]] rfl (by (try simp only [List.map_toArray, List.map_cons, List.map_nil]); first | done | rfl | (simp only [List.length_drop, List.length_take]; rfl)) ?_; (with_reducible refine (walk_Paged.calls a0_0 a0_1 a0_2 a0_3 a0_4 a0_5 a0_6 a0_7 a0_8 a0_9 a0_10 a0_11 a0_12 a0_13 a0_14 a0_15 a0_16 a0_17 a0_18 a0_19 a0_20 a0_21 a0_22 a0_23 a0_24 a0_25 a0_26 a0_27 a0_28 a0_29 false _ A5.out).mono ?_); rintro e w47 ⟨rfl, hb⟩; refine ⟨_, rfl, ?_⟩; have n0_ := Aside0.mk (blk_below (g := gb126) (o := .cells #[.int .u32 a0_0, .int .u32 a0_1, .int .u32 a0_2, .int .u32 a0_3, .int .u32 a0_4, .int .u32 a0_5, .int .u32 a0_6, .int .u32 a0_7, .int .u32 a0_8, .int .u32 a0_9, .int .u32 a0_10, .int .u32 a0_11, .int .u32 a0_12, .int .u32 a0_13, .int .u32 a0_14, .int .u32 a0_15, .int .u32 a0_16, .int .u32 a0_17, .int .u32 a0_18, .int .u32 a0_19, .int .u32 a0_20, .int .u32 a0_21, .int .u32 a0_22, .int .u32 a0_23, .int .u32 a0_24, .int .u32 a0_25, .int .u32 a0_26, .int .u32 a0_27, .int .u32 a0_28, .bool a0_29] 35 (0, 0)) (by (with_reducible repeat (first | refine blk_drewN ?_ _ | refine blk_drew ?_ | refine blk_alloc ?_ _)); exact BK126.out) hb); have n1_ := Aside0.mk (below_step (by repeat (first | (with_reducible first | exact HB.out | apply below_alloc | apply pw_below_drewN | apply below_drew1 | refine below_set ?_ GE126.out) | exact HB.out)) hb); clear BK126; clear HB; have BK126 := n0_; have HB := n1_; clear n0_ n1_; (try clear hb); (try clear hb2); (try clear hk); (try clear hi)))
    go_ret2
    exact ⟨by first | rfl | (simp [errW_none, errW_some] <;> rfl) | (simp [*, errW_none, errW_some] <;> rfl), by repeat (first | (with_reducible first | exact HB.out | apply below_alloc | apply pw_below_drewN | apply below_drew1 | refine below_set ?_ GE126.out) | exact HB.out)⟩

/-! ### cotterellaw13_tables: function 21 -/
def cotterellaw13_tables.f  : Option (List Int) := if 256 ≤ 281474976710656 then ((some (List.replicate 256 0 : List Int)).bind fun y138 => (if 1 < (y138.length : Int) then (if 0 < (y138.length : Int) then (if 68 < (y138.length : Int) then (if 69 < (y138.length : Int) then (some ((((y138.set (1 : Int).toNat 1).set (0 : Int).toNat 1).set (68 : Int).toNat 51).set (69 : Int).toNat 2)) else (none)) else (none)) else (none)) else (none))) else (none)
set_option maxHeartbeats 8000000 in
set_option maxRecDepth 100000 in
theorem cotterellaw13_tables.calls  (r : List Int) (w : World) (h : cotterellaw13_tables.f  = some r) :
    Calls Try.prog 21 #[] w fun e w' => ∃ v0_ : Value, e = .returned (v0_) ∧ Kd.R (Kd.int .u8) 5 w' w.heap.size (fun _ => True) v0_ r ∧ Below w.heap.size w w' := by
  have HB := Aside0.mk (Below.refl w.heap.size w)
  have H : (if 256 ≤ 281474976710656 then ((some (List.replicate 256 0 : List Int)).bind fun y138 => (if 1 < (y138.length : Int) then (if 0 < (y138.length : Int) then (if 68 < (y138.length : Int) then (if 69 < (y138.length : Int) then (some ((((y138.set (1 : Int).toNat 1).set (0 : Int).toNat 1).set (68 : Int).toNat 51).set (69 : Int).toNat 2)) else (none)) else (none)) else (none)) else (none))) else (none)) = some r := h
  clear h
  by_cases c1 : 256 ≤ 281474976710656
  · rw [if_pos c1] at H
    have c1b0 := eq_true c1
    have c1b1 : decide (256 ≤ 281474976710656) = true := decide_eq_true c1
    clear c1
    obtain ⟨y138, hy138⟩ : ∃ y_ : List Int, y_ = (List.replicate 256 0) := ⟨_, rfl⟩
    replace H : (if 1 < (y138.length : Int) then (if 0 < (y138.length : Int) then (if 68 < (y138.length : Int) then (if 69 < (y138.length : Int) then (some ((((y138.set (1 : Int).toNat 1).set (0 : Int).toNat 1).set (68 : Int).toNat 51).set (69 : Int).toNat 2)) else (none)) else (none)) else (none)) else (none)) = some r := by first | (rw [hy138]; with_reducible exact H) | (have H2_ := (Option.bind_some _ _).symm.trans H; rw [hy138]; with_reducible exact H2_) | (have H2_ := (Option.bind_some _ _).symm.trans H; with_reducible exact H2_) | with_reducible exact H | (rw [hy138]; exact H) | exact H
    have Ny138 := Aside0.mk hy138
    clear hy138
    by_cases c2 : 1 < (y138.length : Int)
    · rw [if_pos c2] at H
      have c2b0 : decide (1 < (y138.length : Int)) = true := decide_eq_true c2
      have c2b1 : decide (1 < y138.length) = true := decide_eq_true (by omega)
      clear c2
      obtain ⟨y141, hy141⟩ : ∃ y_ : List Int, y_ = (y138.set (1 : Int).toNat 1) := ⟨_, rfl⟩
      replace H : (if 0 < (y138.length : Int) then (if 68 < (y138.length : Int) then (if 69 < (y138.length : Int) then (some (((y141.set (0 : Int).toNat 1).set (68 : Int).toNat 51).set (69 : Int).toNat 2)) else (none)) else (none)) else (none)) = some r := by first | (rw [hy141]; with_reducible exact H) | (have H2_ := (Option.bind_some _ _).symm.trans H; rw [hy141]; with_reducible exact H2_) | (have H2_ := (Option.bind_some _ _).symm.trans H; with_reducible exact H2_) | with_reducible exact H | (rw [hy141]; exact H) | exact H
      have Ny141 := Aside0.mk hy141
      clear hy141
      by_cases c4 : 0 < (y138.length : Int)
      · rw [if_pos c4] at H
        have c4b0 : decide (0 < (y138.length : Int)) = true := decide_eq_true c4
        have c4b1 : decide (0 < y138.length) = true := decide_eq_true (by omega)
        clear c4
        obtain ⟨y142, hy142⟩ : ∃ y_ : List Int, y_ = (y141.set (0 : Int).toNat 1) := ⟨_, rfl⟩
        replace H : (if 68 < (y138.length : Int) then (if 69 < (y138.length : Int) then (some ((y142.set (68 : Int).toNat 51).set (69 : Int).toNat 2)) else (none)) else (none)) = some r := by first | (rw [hy142]; with_reducible exact H) | (have H2_ := (Option.bind_some _ _).symm.trans H; rw [hy142]; with_reducible exact H2_) | (have H2_ := (Option.bind_some _ _).symm.trans H; with_reducible exact H2_) | with_reducible exact H | (rw [hy142]; exact H) | exact H
        have Ny142 := Aside0.mk hy142
        clear hy142
        by_cases c6 : 68 < (y138.length : Int)
        · rw [if_pos c6] at H
          have c6b0 : decide (68 < (y138.length : Int)) = true := decide_eq_true c6
          have c6b1 : decide (68 < y138.length) = true := decide_eq_true (by omega)
          clear c6
          obtain ⟨y143, hy143⟩ : ∃ y_ : List Int, y_ = (y142.set (68 : Int).toNat 51) := ⟨_, rfl⟩
          replace H : (if 69 < (y138.length : Int) then (some (y143.set (69 : Int).toNat 2)) else (none)) = some r := by first | (rw [hy143]; with_reducible exact H) | (have H2_ := (Option.bind_some _ _).symm.trans H; rw [hy143]; with_reducible exact H2_) | (have H2_ := (Option.bind_some _ _).symm.trans H; with_reducible exact H2_) | with_reducible exact H | (rw [hy143]; exact H) | exact H
          have Ny143 := Aside0.mk hy143
          clear hy143
          by_cases c8 : 69 < (y138.length : Int)
          · rw [if_pos c8] at H
            have c8b0 : decide (69 < (y138.length : Int)) = true := decide_eq_true c8
            have c8b1 : decide (69 < y138.length) = true := decide_eq_true (by omega)
            clear c8
            obtain ⟨y144, hy144⟩ : ∃ y_ : List Int, y_ = (y143.set (69 : Int).toNat 2) := ⟨_, rfl⟩
            replace H : (some y144) = some r := by first | (rw [hy144]; with_reducible exact H) | (have H2_ := (Option.bind_some _ _).symm.trans H; rw [hy144]; with_reducible exact H2_) | (have H2_ := (Option.bind_some _ _).symm.trans H; with_reducible exact H2_) | with_reducible exact H | (rw [hy144]; exact H) | exact H
            have Ny144 := Aside0.mk hy144
            clear hy144
            obtain rfl := Option.some.inj H
            go_enter Try.func21, Try.ntmps21
            go_wp2_with (first | ((with_reducible refine gate_dst (N := 2) rfl ?_); refine Kd.R_make (Kd.int .u8) _ 5 rfl (N := 2) rfl 22 _ _ rfl 256 rfl rfl Try.underlying22 (.int .u8 0) 1 info5 rfl (by decide) (by omega) 0 (ok := fun _ => True) (okp := fun _ => True) rfl (fun _ hk => hk) trivial (by omega) (by omega) (Below.refl _ _) (Nat.le_refl _) ?_; intro v139 w10 ho11 hb hg_ hnew_; clear hg_ hnew_; (first | rw [← Ny138.out] at ho11 | (simp only [Int.reduceToNat] at ho11; rw [← Ny138.out] at ho11)); have n0_ := Aside0.mk (Kd.R_lower ho11 (below_size (by repeat (first | (with_reducible first | exact HB.out | apply below_alloc | apply pw_below_drewN | apply below_drew1) | exact HB.out)))); have n1_ := Aside0.mk (below_step (by repeat (first | (with_reducible first | exact HB.out | apply below_alloc | apply pw_below_drewN | apply below_drew1) | exact HB.out)) hb); clear HB; have HO140 := n0_; have HB := n1_; clear n0_ n1_; clear hb ho11; have p3 : 0 ≤ (1 : Int) := (by omega); have q3 : (1 : Int) < ((y138.length : Int) : Int) := of_decide_eq_true (by first | (with_reducible assumption) | assumption); have qi3 : (1 < y138.length) = True := eq_true (by omega); obtain ⟨go3, co3, eo3, gb3, gl3, cl3, HG3⟩ := Kd.R_form HO140.out (by omega); (first | cases eo3 | (injection eo3 with ea_ en_ ec_; (first | subst ea_ | (injection ea_ with ea_; subst ea_)); subst ec_; clear en_)); have GB3 := Aside0.mk gb3; have GG3 := Aside0.mk HG3; clear gb3 gl3 HG3; obtain ⟨hx3_0, hf3_0⟩ := Kd.R_celln 0 HO140.out (1 : Int) p3 q3; (try rw [show ((1 : Int)).toNat = 1 from rfl] at hx3_0); (try simp only [Nat.reduceMul, Nat.zero_mul, Nat.zero_add, Nat.reduceAdd] at hx3_0); (try rw [show ((1 : Int)).toNat = 1 from rfl] at hf3_0); (try simp only [Nat.reduceMul, Nat.zero_mul, Nat.zero_add, Nat.reduceAdd] at hf3_0); replace p3 := eq_true p3; replace q3 := eq_true q3; obtain ⟨hy12_, hz12_⟩ := Kd.R_celln 0 HO140.out (1 : Int) (by omega) (of_decide_eq_true (by first | (with_reducible assumption) | assumption)); (try simp only [Int.reduceToNat, Int.toNat_zero, Int.toNat_ofNat, Nat.reduceMul, Nat.zero_mul, Nat.zero_add] at hy12_ hz12_); (try rw [show ((1 : Int)).toNat = 1 from rfl] at hy12_); (try rw [show ((1 : Int)).toNat = 1 from rfl] at hz12_); have HP12 := Kd.R_putg HO140.out (1 : Int) 1) | ((with_reducible refine gate_store (t := 5) (p := 5) rfl ?_); refine store_event (t := 5) (p := 5) (v := ?vo_w13) (w1 := (w10.setCell ⟨go3, (1 : Int).toNat, none⟩ (.int .u8 1))) ?hg ?ho ?hn ?hr ?_; (case ho => rfl); (case hg => rfl); (case hn => rfl); (case hr => first | (go_simp; done) | (go_simp; rfl)); intro w13 hw; have hg : w10.grownBy w13 (some go3) := (by rw [hw]; exact HP12.2); have hp_ : Kd.R (Kd.int .u8) 5 w13 w.heap.size (fun _ => True) (.slice (some ⟨go3, 0, none⟩) y138.length co3) y141 := (by rw [hw, Ny141.out]; exact HP12.1); clear HP12; have n0_ := Aside0.mk (hp_); have n1_ := Aside0.mk ((by rw [hw]; exact below_set (HB.out) GB3.out : Below w.heap.size w w13)); clear HO140; clear HB; have HO140 := n0_; have HB := n1_; clear n0_ n1_; clear hg hw hp_; have p5 : 0 ≤ (0 : Int) := (by omega); have q5 : (0 : Int) < ((y138.length : Int) : Int) := of_decide_eq_true (by first | (with_reducible assumption) | assumption); have qi5 : (0 < y138.length) = True := eq_true (by omega); obtain ⟨hx5_0, hf5_0⟩ := Kd.R_celln 0 HO140.out (0 : Int) p5 q5; (try rw [show ((0 : Int)).toNat = 0 from rfl] at hx5_0); (try simp only [Nat.reduceMul, Nat.zero_mul, Nat.zero_add, Nat.reduceAdd] at hx5_0); (try rw [show ((0 : Int)).toNat = 0 from rfl] at hf5_0); (try simp only [Nat.reduceMul, Nat.zero_mul, Nat.zero_add, Nat.reduceAdd] at hf5_0); replace p5 := eq_true p5; replace q5 := eq_true q5; obtain ⟨hy14_, hz14_⟩ := Kd.R_celln 0 HO140.out (0 : Int) (by omega) (of_decide_eq_true (by first | (with_reducible assumption) | assumption)); (try simp only [Int.reduceToNat, Int.toNat_zero, Int.toNat_ofNat, Nat.reduceMul, Nat.zero_mul, Nat.zero_add] at hy14_ hz14_); (try rw [show ((0 : Int)).toNat = 0 from rfl] at hy14_); (try rw [show ((0 : Int)).toNat = 0 from rfl] at hz14_); have HP14 := Kd.R_putg HO140.out (0 : Int) 1) | ((with_reducible refine gate_store (t := 5) (p := 6) rfl ?_); refine store_event (t := 5) (p := 6) (v := ?vo_w15) (w1 := (w13.setCell ⟨go3, (0 : Int).toNat, none⟩ (.int .u8 1))) ?hg ?ho ?hn ?hr ?_; (case ho => rfl); (case hg => rfl); (case hn => rfl); (case hr => first | (go_simp; done) | (go_simp; rfl)); intro w15 hw; have hg : w13.grownBy w15 (some go3) := (by rw [hw]; exact HP14.2); have hp_ : Kd.R (Kd.int .u8) 5 w15 w.heap.size (fun _ => True) (.slice (some ⟨go3, 0, none⟩) y138.length co3) y142 := (by rw [hw, Ny142.out]; exact HP14.1); clear HP14; have n0_ := Aside0.mk (hp_); have n1_ := Aside0.mk ((by rw [hw]; exact below_set (HB.out) GB3.out : Below w.heap.size w w15)); clear HO140; clear HB; have HO140 := n0_; have HB := n1_; clear n0_ n1_; clear hg hw hp_; have p7 : 0 ≤ (68 : Int) := (by omega); have q7 : (68 : Int) < ((y138.length : Int) : Int) := of_decide_eq_true (by first | (with_reducible assumption) | assumption); have qi7 : (68 < y138.length) = True := eq_true (by omega); obtain ⟨hx7_0, hf7_0⟩ := Kd.R_celln 0 HO140.out (68 : Int) p7 q7; (try rw [show ((68 : Int)).toNat = 68 from rfl] at hx7_0); (try simp only [Nat.reduceMul, Nat.zero_mul, Nat.zero_add, Nat.reduceAdd] at hx7_0); (try rw [show ((68 : Int)).toNat = 68 from rfl] at hf7_0); (try simp only [Nat.reduceMul, Nat.zero_mul, Nat.zero_add, Nat.reduceAdd] at hf7_0); replace p7 := eq_true p7; replace q7 := eq_true q7; obtain ⟨hy16_, hz16_⟩ := Kd.R_celln 0 HO140.out (68 : Int) (by omega) (of_decide_eq_true (by first | (with_reducible assumption) | assumption)); (try simp only [Int.reduceToNat, Int.toNat_zero, Int.toNat_ofNat, Nat.reduceMul, Nat.zero_mul, Nat.zero_add] at hy16_ hz16_); (try rw [show ((68 : Int)).toNat = 68 from rfl] at hy16_); (try rw [show ((68 : Int)).toNat = 68 from rfl] at hz16_); have HP16 := Kd.R_putg HO140.out (68 : Int) 51) | ((with_reducible refine gate_store (t := 5) (p := 9) rfl ?_); refine store_event (t := 5) (p := 9) (v := ?vo_w17) (w1 := (w15.setCell ⟨go3, (68 : Int).toNat, none⟩ (.int .u8 51))) ?hg ?ho ?hn ?hr ?_; (case ho => rfl); (case hg => rfl); (case hn => rfl); (case hr => first | (go_simp; done) | (go_simp; rfl)); intro w17 hw; have hg : w15.grownBy w17 (some go3) := (by rw [hw]; exact HP16.2); have hp_ : Kd.R (Kd.int .u8) 5 w17 w.heap.size (fun _ => True) (.slice (some ⟨go3, 0, none⟩) y138.length co3) y143 := (by rw [hw, Ny143.out]; exact HP16.1); clear HP16; have n0_ := Aside0.mk (hp_); have n1_ := Aside0.mk ((by rw [hw]; exact below_set (HB.out) GB3.out : Below w.heap.size w w17)); clear HO140; clear HB; have HO140 := n0_; have HB := n1_; clear n0_ n1_; clear hg hw hp_; have p9 : 0 ≤ (69 : Int) := (by omega); have q9 : (69 : Int) < ((y138.length : Int) : Int) := of_decide_eq_true (by first | (with_reducible assumption) | assumption); have qi9 : (69 < y138.length) = True := eq_true (by omega); obtain ⟨hx9_0, hf9_0⟩ := Kd.R_celln 0 HO140.out (69 : Int) p9 q9; (try rw [show ((69 : Int)).toNat = 69 from rfl] at hx9_0); (try simp only [Nat.reduceMul, Nat.zero_mul, Nat.zero_add, Nat.reduceAdd] at hx9_0); (try rw [show ((69 : Int)).toNat = 69 from rfl] at hf9_0); (try simp only [Nat.reduceMul, Nat.zero_mul, Nat.zero_add, Nat.reduceAdd] at hf9_0); replace p9 := eq_true p9; replace q9 := eq_true q9; obtain ⟨hy18_, hz18_⟩ := Kd.R_celln 0 HO140.out (69 : Int) (by omega) (of_decide_eq_true (by first | (with_reducible assumption) | assumption)); (try simp only [Int.reduceToNat, Int.toNat_zero, Int.toNat_ofNat, Nat.reduceMul, Nat.zero_mul, Nat.zero_add] at hy18_ hz18_); (try rw [show ((69 : Int)).toNat = 69 from rfl] at hy18_); (try rw [show ((69 : Int)).toNat = 69 from rfl] at hz18_); have HP18 := Kd.R_putg HO140.out (69 : Int) 2) | ((with_reducible refine gate_store (t := 5) (p := 10) rfl ?_); refine store_event (t := 5) (p := 10) (v := ?vo_w19) (w1 := (w17.setCell ⟨go3, (69 : Int).toNat, none⟩ (.int .u8 2))) ?hg ?ho ?hn ?hr ?_; (case ho => rfl); (case hg => rfl); (case hn => rfl); (case hr => first | (go_simp; done) | (go_simp; rfl)); intro w19 hw; have hg : w17.grownBy w19 (some go3) := (by rw [hw]; exact HP18.2); have hp_ : Kd.R (Kd.int .u8) 5 w19 w.heap.size (fun _ => True) (.slice (some ⟨go3, 0, none⟩) y138.length co3) y144 := (by rw [hw, Ny144.out]; exact HP18.1); clear HP18; have n0_ := Aside0.mk (hp_); have n1_ := Aside0.mk ((by rw [hw]; exact below_set (HB.out) GB3.out : Below w.heap.size w w19)); clear HO140; clear HB; have HO140 := n0_; have HB := n1_; clear n0_ n1_; clear hg hw hp_))
            go_ret
            exact ⟨_, by first | rfl | (simp [errW_none, errW_some] <;> rfl) | (simp [*, errW_none, errW_some] <;> rfl), by (with_reducible repeat (first | apply Kd.R_alloc | apply Kd.R_drewN | apply Kd.R_drew)); exact HO140.out, by repeat (first | (with_reducible first | exact HB.out | apply below_alloc | apply pw_below_drewN | apply below_drew1) | exact HB.out)⟩
          · rw [if_neg c8] at H
            exact absurd H (by simp)
        · rw [if_neg c6] at H
          exact absurd H (by simp)
      · rw [if_neg c4] at H
        exact absurd H (by simp)
    · rw [if_neg c2] at H
      exact absurd H (by simp)
  · rw [if_neg c1] at H
    exact absurd H (by simp)

/-! ### cotterellaw13_awake: function 8 -/
def cotterellaw13_awake.f (k : Nat)  : Option (Bool) := (cotterellaw13_tables.f).bind fun t146 => ((walk_Trans.f k 0 0 0 0 0 0 0 0 0 0 0 0 0 0 0 0 0 16 0 0 0 0 0 0 0 0 0 0 0 false t146 70 2).bind fun bt149 => ((cotterellaw13_tables.f).bind fun t151 => ((walk_Walk.f k t151 0 70).bind fun bt154 => ((cotterellaw13_tables.f).bind fun t161 => ((walk_Trans.f k 0 0 0 0 0 0 0 0 0 0 0 0 0 0 0 0 0 16 0 0 0 0 0 0 0 0 0 0 0 false t161 70 3).bind fun bt164 => (if bt149.1 = 134 then (if bt149.2 = 0 then (if bt154.2.2.2 = true then (if (bt154.2.2.1.length : Int) = 2 then (if 1 < (bt154.2.2.1.length : Int) then (if (rd bt154.2.2.1 1) = 68 then (if bt164.2 = 6 then ((walk_Fault.f 2).bind fun t167 => (some (t167 == 4))) else (none)) else (none)) else (none)) else (none)) else (none)) else (none)) else (none)))))))
theorem cotterellaw13_awake.mono : ∀ k, LeO (cotterellaw13_awake.f k ) (cotterellaw13_awake.f (k + 1) ) := by
  intro  k
  unfold cotterellaw13_awake.f
  repeat' first
      | (with_reducible exact walk_Trans.mono _ _ _ _ _ _ _ _ _ _ _ _ _ _ _ _ _ _ _ _ _ _ _ _ _ _ _ _ _ _ _ _ _ _)
      | (with_reducible exact walk_Walk.mono _ _ _ _)
      | (with_reducible exact LeO.refl _)
      | (with_reducible exact LeO.none _)
      | (with_reducible refine LeO.ite ?_ ?_)
      | (with_reducible refine LeO.bind ?_ (fun _ => ?_))
      | exact walk_Trans.mono _ _ _ _ _ _ _ _ _ _ _ _ _ _ _ _ _ _ _ _ _ _ _ _ _ _ _ _ _ _ _ _ _ _
      | exact walk_Walk.mono _ _ _ _
      | exact LeO.none _
      | refine LeO.ite ?_ ?_
      | refine LeO.bind ?_ (fun _ => ?_)
def cotterellaw13_awake.T2 : Bool × List (List Nat × List Nat) := (true, [([], []), ([], []), ([0, 1, 1], [0, 1]), ([2], [2]), ([3], [3]), ([3], [3]), ([4, 2, 0, 1, 2, 3, 4], [4]), ([5, 6, 0, 1, 2, 3, 4, 5, 6], [5])])
def cotterellaw13_awake.B2 : List Nat := [0, 0, 3, 7, 15, 15, 31, 127]
theorem cotterellaw13_awake.tab2 : rtab .any (opsOf Try.f8 2) = cotterellaw13_awake.T2 := by kernel_rfl
theorem cotterellaw13_awake.bits2 : waitsOk cotterellaw13_awake.T2.2 cotterellaw13_awake.B2 = true := by kernel_rfl
def cotterellaw13_awake.T4 : Bool × List (List Nat × List Nat) := (true, [([], []), ([], []), ([0, 1, 1], [0, 1]), ([2], [2]), ([3], [3]), ([3], [3]), ([4, 2, 0, 1, 2, 3, 4], [4]), ([5, 6, 0, 1, 2, 3, 4, 5, 6], [5])])
def cotterellaw13_awake.B4 : List Nat := [0, 0, 3, 7, 15, 15, 31, 127]
theorem cotterellaw13_awake.tab4 : rtab .any (opsOf Try.f8 4) = cotterellaw13_awake.T4 := by kernel_rfl
theorem cotterellaw13_awake.bits4 : waitsOk cotterellaw13_awake.T4.2 cotterellaw13_awake.B4 = true := by kernel_rfl
set_option maxHeartbeats 8000000 in
set_option maxRecDepth 100000 in
theorem cotterellaw13_awake.calls (k : Nat)  (r : Bool) (w : World) (h : cotterellaw13_awake.f k  = some r) :
    Calls Try.prog 8 #[] w fun e w' => e = .returned (.bool r) ∧ Below w.heap.size w w' := by
  have hu33 := Try.underlying33
  have hu35 := Try.underlying35
  have hu26 := Try.underlying26
  have HB := Aside0.mk (Below.refl w.heap.size w)
  have H : ((cotterellaw13_tables.f).bind fun t146 => ((walk_Trans.f k 0 0 0 0 0 0 0 0 0 0 0 0 0 0 0 0 0 16 0 0 0 0 0 0 0 0 0 0 0 false t146 70 2).bind fun bt149 => ((cotterellaw13_tables.f).bind fun t151 => ((walk_Walk.f k t151 0 70).bind fun bt154 => ((cotterellaw13_tables.f).bind fun t161 => ((walk_Trans.f k 0 0 0 0 0 0 0 0 0 0 0 0 0 0 0 0 0 16 0 0 0 0 0 0 0 0 0 0 0 false t161 70 3).bind fun bt164 => (if bt149.1 = 134 then (if bt149.2 = 0 then (if bt154.2.2.2 = true then (if (bt154.2.2.1.length : Int) = 2 then (if 1 < (bt154.2.2.1.length : Int) then (if (rd bt154.2.2.1 1) = 68 then (if bt164.2 = 6 then ((walk_Fault.f 2).bind fun t167 => (some (t167 == 4))) else (none)) else (none)) else (none)) else (none)) else (none)) else (none)) else (none)))))))) = some r := h
  clear h
  replace H := Option.bind_eq_some_iff.mp H
  obtain ⟨t146, A10, H⟩ := H
  replace H : ((walk_Trans.f k 0 0 0 0 0 0 0 0 0 0 0 0 0 0 0 0 0 16 0 0 0 0 0 0 0 0 0 0 0 false t146 70 2).bind fun bt149 => ((cotterellaw13_tables.f).bind fun t151 => ((walk_Walk.f k t151 0 70).bind fun bt154 => ((cotterellaw13_tables.f).bind fun t161 => ((walk_Trans.f k 0 0 0 0 0 0 0 0 0 0 0 0 0 0 0 0 0 16 0 0 0 0 0 0 0 0 0 0 0 false t161 70 3).bind fun bt164 => (if bt149.1 = 134 then (if bt149.2 = 0 then (if bt154.2.2.2 = true then (if (bt154.2.2.1.length : Int) = 2 then (if 1 < (bt154.2.2.1.length : Int) then (if (rd bt154.2.2.1 1) = 68 then (if bt164.2 = 6 then ((walk_Fault.f 2).bind fun t167 => (some (t167 == 4))) else (none)) else (none)) else (none)) else (none)) else (none)) else (none)) else (none))))))) = some r := H
  have A1 := Aside0.mk A10
  clear A10
  replace H := Option.bind_eq_some_iff.mp H
  obtain ⟨⟨t149, t150⟩, A20, H⟩ := H
  replace H : ((cotterellaw13_tables.f).bind fun t151 => ((walk_Walk.f k t151 0 70).bind fun bt154 => ((cotterellaw13_tables.f).bind fun t161 => ((walk_Trans.f k 0 0 0 0 0 0 0 0 0 0 0 0 0 0 0 0 0 16 0 0 0 0 0 0 0 0 0 0 0 false t161 70 3).bind fun bt164 => (if t149 = 134 then (if t150 = 0 then (if bt154.2.2.2 = true then (if (bt154.2.2.1.length : Int) = 2 then (if 1 < (bt154.2.2.1.length : Int) then (if (rd bt154.2.2.1 1) = 68 then (if bt164.2 = 6 then ((walk_Fault.f 2).bind fun t167 => (some (t167 == 4))) else (none)) else (none)) else (none)) else (none)) else (none)) else (none)) else (none)))))) = some r := H
  have A2 := Aside0.mk A20
  clear A20
  replace H := Option.bind_eq_some_iff.mp H
  obtain ⟨t151, A30, H⟩ := H
  replace H : ((walk_Walk.f k t151 0 70).bind fun bt154 => ((cotterellaw13_tables.f).bind fun t161 => ((walk_Trans.f k 0 0 0 0 0 0 0 0 0 0 0 0 0 0 0 0 0 16 0 0 0 0 0 0 0 0 0 0 0 false t161 70 3).bind fun bt164 => (if t149 = 134 then (if t150 = 0 then (if bt154.2.2.2 = true then (if (bt154.2.2.1.length : Int) = 2 then (if 1 < (bt154.2.2.1.length : Int) then (if (rd bt154.2.2.1 1) = 68 then (if bt164.2 = 6 then ((walk_Fault.f 2).bind fun t167 => (some (t167 == 4))) else (none)) else (none)) else (none)) else (none)) else (none)) else (none)) else (none))))) = some r := H
  have A3 := Aside0.mk A30
  clear A30
  replace H := Option.bind_eq_some_iff.mp H
  obtain ⟨⟨t154, t155, t156, t159⟩, A40, H⟩ := H
  replace H : ((cotterellaw13_tables.f).bind fun t161 => ((walk_Trans.f k 0 0 0 0 0 0 0 0 0 0 0 0 0 0 0 0 0 16 0 0 0 0 0 0 0 0 0 0 0 false t161 70 3).bind fun bt164 => (if t149 = 134 then (if t150 = 0 then (if t159 = true then (if (t156.length : Int) = 2 then (if 1 < (t156.length : Int) then (if (rd t156 1) = 68 then (if bt164.2 = 6 then ((walk_Fault.f 2).bind fun t167 => (some (t167 == 4))) else (none)) else (none)) else (none)) else (none)) else (none)) else (none)) else (none)))) = some r := H
  have A4 := Aside0.mk A40
  clear A40
  replace H := Option.bind_eq_some_iff.mp H
  obtain ⟨t161, A50, H⟩ := H
  replace H : ((walk_Trans.f k 0 0 0 0 0 0 0 0 0 0 0 0 0 0 0 0 0 16 0 0 0 0 0 0 0 0 0 0 0 false t161 70 3).bind fun bt164 => (if t149 = 134 then (if t150 = 0 then (if t159 = true then (if (t156.length : Int) = 2 then (if 1 < (t156.length : Int) then (if (rd t156 1) = 68 then (if bt164.2 = 6 then ((walk_Fault.f 2).bind fun t167 => (some (t167 == 4))) else (none)) else (none)) else (none)) else (none)) else (none)) else (none)) else (none))) = some r := H
  have A5 := Aside0.mk A50
  clear A50
  replace H := Option.bind_eq_some_iff.mp H
  obtain ⟨⟨t164, t165⟩, A60, H⟩ := H
  replace H : (if t149 = 134 then (if t150 = 0 then (if t159 = true then (if (t156.length : Int) = 2 then (if 1 < (t156.length : Int) then (if (rd t156 1) = 68 then (if t165 = 6 then ((walk_Fault.f 2).bind fun t167 => (some (t167 == 4))) else (none)) else (none)) else (none)) else (none)) else (none)) else (none)) else (none)) = some r := H
  have A6 := Aside0.mk A60
  clear A60
  by_cases c7 : t149 = 134
  · rw [if_pos c7] at H
    have c7b0 : (t149 == 134) = true := beq_iff_eq.mpr c7
    have c7b1 : (t149 != 134) = false := bne_eq_false_iff_eq.mpr c7
    clear c7
    by_cases c8 : t150 = 0
    · rw [if_pos c8] at H
      have c8b0 : (t150 == 0) = true := beq_iff_eq.mpr c8
      have c8b1 : (t150 != 0) = false := bne_eq_false_iff_eq.mpr c8
      clear c8
      by_cases c9 : t159 = true
      · subst c9
        have H1 : (if (t156.length : Int) = 2 then (if 1 < (t156.length : Int) then (if (rd t156 1) = 68 then (if t165 = 6 then ((walk_Fault.f 2).bind fun t167 => (some (t167 == 4))) else (none)) else (none)) else (none)) else (none)) = some r := by rw [if_pos rfl] at H; exact H
        clear H
        have H := H1
        clear H1
        by_cases c10 : (t156.length : Int) = 2
        · rw [if_pos c10] at H
          have c10b0 : ((t156.length : Int) == 2) = true := beq_iff_eq.mpr c10
          have c10b1 : ((t156.length : Int) != 2) = false := bne_eq_false_iff_eq.mpr c10
          clear c10
          by_cases c11 : 1 < (t156.length : Int)
          · rw [if_pos c11] at H
            have c11b0 : decide (1 < (t156.length : Int)) = true := decide_eq_true c11
            have c11b1 : decide (1 < t156.length) = true := decide_eq_true (by omega)
            clear c11
            by_cases c12 : (rd t156 1) = 68
            · rw [if_pos c12] at H
              have c12b0 : ((rd t156 1) == 68) = true := beq_iff_eq.mpr c12
              have c12b1 : ((rd t156 1) != 68) = false := bne_eq_false_iff_eq.mpr c12
              clear c12
              by_cases c13 : t165 = 6
              · rw [if_pos c13] at H
                have c13b0 : (t165 == 6) = true := beq_iff_eq.mpr c13
                have c13b1 : (t165 != 6) = false := bne_eq_false_iff_eq.mpr c13
                clear c13
                replace H := Option.bind_eq_some_iff.mp H
                obtain ⟨t167, A140, H⟩ := H
                replace H : (some (t167 == 4)) = some r := H
                have A14 := Aside0.mk A140
                clear A140
                obtain rfl := Option.some.inj H
                go_enter Try.func8, Try.ntmps8
                try go_wp2_with (first | ((with_reducible refine Go.Proofs.Ytmkipjmadmjfaaa.Cp.gate_store (ty := 35) (x := .tmp 1) (y := .tmp 10) rfl ?_); refine Go.Proofs.Ytmkipjmadmjfaaa.Cp.store_whole 35 (.tmp 1) (.tmp 10) gb145 #[.int .u32 0, .int .u32 0, .int .u32 0, .int .u32 0, .int .u32 0, .int .u32 0, .int .u32 0, .int .u32 0, .int .u32 0, .int .u32 0, .int .u32 0, .int .u32 0, .int .u32 0, .int .u32 0, .int .u32 0, .int .u32 0, .int .u32 0, .int .u32 16, .int .u32 0, .int .u32 0, .int .u32 0, .int .u32 0, .int .u32 0, .int .u32 0, .int .u32 0, .int .u32 0, .int .u32 0, .int .u32 0, .int .u32 0, .bool false] rfl rfl rfl rfl BK145.out (by kernel_rfl) rfl (by first | kernel_rfl | simp [Value.oneCell']) ?_; intro w17 hbk hbw; have n0_ := Aside0.mk hbk; have n1_ := Aside0.mk (hbw _ _ GE145.out HB.out); clear BK145 HB hbk hbw; have BK145 := n0_; have HB := n1_; clear n0_ n1_) | ((with_reducible refine gate_dst (N := 1) rfl ?_); (try (refine gate_guard (by rfl) ?_; dsimp only)); refine box_event ?hg (N := 1) ?hd (cs := #[.int .u32 0, .int .u32 0, .int .u32 0, .int .u32 0, .int .u32 0, .int .u32 0, .int .u32 0, .int .u32 0, .int .u32 0, .int .u32 0, .int .u32 0, .int .u32 0, .int .u32 0, .int .u32 0, .int .u32 0, .int .u32 0, .int .u32 0, .int .u32 0, .int .u32 0, .int .u32 0, .int .u32 0, .int .u32 0, .int .u32 0, .int .u32 0, .int .u32 0, .int .u32 0, .int .u32 0, .int .u32 0, .int .u32 0, .bool false]) (t := 35) ?hr ?_; (case hd => rfl); (case hg => rfl); (case hr => first | (go_simp; done) | (go_simp; rfl)); intro gb145 hg w15 hbox hb; have n0_ := Aside0.mk (below_step (by repeat (first | (with_reducible first | exact HB.out | apply below_alloc | apply pw_below_drewN | apply below_drew1) | exact HB.out)) hb); have n1_ := Aside0.mk (hbox); have n2_ := Aside0.mk ((by rw [hg]; exact (below_size (by repeat (first | (with_reducible first | exact HB.out | apply below_alloc | apply pw_below_drewN | apply below_drew1) | exact HB.out))) : w.heap.size ≤ gb145)); have n3_ := Aside0.mk ((by rw [hg]; exact (below_size (by repeat (first | (with_reducible first | exact HB.out | apply below_alloc | apply pw_below_drewN | apply below_drew1) | exact HB.out))) : w.heap.size ≤ gb145)); clear HB; have HB := n0_; have BK145 := n1_; have GW145 := n2_; have GE145 := n3_; clear n0_ n1_ n2_ n3_; clear hb hbox hg; have hcz16_0 : w15.cell? ⟨gb145, 0, none⟩ = some (.int .u32 0) := (blk_cell BK145.out 0).trans rfl; have hcz16_1 : w15.cell? ⟨gb145, 1, none⟩ = some (.int .u32 0) := (blk_cell BK145.out 1).trans rfl; have hcz16_2 : w15.cell? ⟨gb145, 2, none⟩ = some (.int .u32 0) := (blk_cell BK145.out 2).trans rfl; have hcz16_3 : w15.cell? ⟨gb145, 3, none⟩ = some (.int .u32 0) := (blk_cell BK145.out 3).trans rfl; have hcz16_4 : w15.cell? ⟨gb145, 4, none⟩ = some (.int .u32 0) := (blk_cell BK145.out 4).trans rfl; have hcz16_5 : w15.cell? ⟨gb145, 5, none⟩ = some (.int .u32 0) := (blk_cell BK145.out 5).trans rfl; have hcz16_6 : w15.cell? ⟨gb145, 6, none⟩ = some (.int .u32 0) := (blk_cell BK145.out 6).trans rfl; have hcz16_7 : w15.cell? ⟨gb145, 7, none⟩ = some (.int .u32 0) := (blk_cell BK145.out 7).trans rfl; have hcz16_8 : w15.cell? ⟨gb145, 8, none⟩ = some (.int .u32 0) := (blk_cell BK145.out 8).trans rfl; have hcz16_9 : w15.cell? ⟨gb145, 9, none⟩ = some (.int .u32 0) := (blk_cell BK145.out 9).trans rfl; have hcz16_10 : w15.cell? ⟨gb145, 10, none⟩ = some (.int .u32 0) := (blk_cell BK145.out 10).trans rfl; have hcz16_11 : w15.cell? ⟨gb145, 11, none⟩ = some (.int .u32 0) := (blk_cell BK145.out 11).trans rfl; have hcz16_12 : w15.cell? ⟨gb145, 12, none⟩ = some (.int .u32 0) := (blk_cell BK145.out 12).trans rfl; have hcz16_13 : w15.cell? ⟨gb145, 13, none⟩ = some (.int .u32 0) := (blk_cell BK145.out 13).trans rfl; have hcz16_14 : w15.cell? ⟨gb145, 14, none⟩ = some (.int .u32 0) := (blk_cell BK145.out 14).trans rfl; have hcz16_15 : w15.cell? ⟨gb145, 15, none⟩ = some (.int .u32 0) := (blk_cell BK145.out 15).trans rfl; have hcz16_16 : w15.cell? ⟨gb145, 16, none⟩ = some (.int .u32 0) := (blk_cell BK145.out 16).trans rfl; have hcz16_17 : w15.cell? ⟨gb145, 17, none⟩ = some (.int .u32 0) := (blk_cell BK145.out 17).trans rfl; have hcz16_18 : w15.cell? ⟨gb145, 18, none⟩ = some (.int .u32 0) := (blk_cell BK145.out 18).trans rfl; have hcz16_19 : w15.cell? ⟨gb145, 19, none⟩ = some (.int .u32 0) := (blk_cell BK145.out 19).trans rfl; have hcz16_20 : w15.cell? ⟨gb145, 20, none⟩ = some (.int .u32 0) := (blk_cell BK145.out 20).trans rfl; have hcz16_21 : w15.cell? ⟨gb145, 21, none⟩ = some (.int .u32 0) := (blk_cell BK145.out 21).trans rfl; have hcz16_22 : w15.cell? ⟨gb145, 22, none⟩ = some (.int .u32 0) := (blk_cell BK145.out 22).trans rfl; have hcz16_23 : w15.cell? ⟨gb145, 23, none⟩ = some (.int .u32 0) := (blk_cell BK145.out 23).trans rfl; have hcz16_24 : w15.cell? ⟨gb145, 24, none⟩ = some (.int .u32 0) := (blk_cell BK145.out 24).trans rfl; have hcz16_25 : w15.cell? ⟨gb145, 25, none⟩ = some (.int .u32 0) := (blk_cell BK145.out 25).trans rfl; have hcz16_26 : w15.cell? ⟨gb145, 26, none⟩ = some (.int .u32 0) := (blk_cell BK145.out 26).trans rfl; have hcz16_27 : w15.cell? ⟨gb145, 27, none⟩ = some (.int .u32 0) := (blk_cell BK145.out 27).trans rfl; have hcz16_28 : w15.cell? ⟨gb145, 28, none⟩ = some (.int .u32 0) := (blk_cell BK145.out 28).trans rfl; have hcz16_29 : w15.cell? ⟨gb145, 29, none⟩ = some (.bool false) := (blk_cell BK145.out 29).trans rfl))
                have n0_ := Aside0.mk (blk_drew BK145.out)
                have n1_ := Aside0.mk (below_drew1 HB.out)
                clear BK145
                clear HB
                have BK145 := n0_
                have HB := n1_
                clear n0_ n1_
                refine start_ (n := 8) (S := fun w' => w'.heap[gb145]? = some (.cells #[.int .u32 0, .int .u32 0, .int .u32 0, .int .u32 0, .int .u32 0, .int .u32 0, .int .u32 0, .int .u32 0, .int .u32 0, .int .u32 0, .int .u32 0, .int .u32 0, .int .u32 0, .int .u32 0, .int .u32 0, .int .u32 0, .int .u32 0, .int .u32 16, .int .u32 0, .int .u32 0, .int .u32 0, .int .u32 0, .int .u32 0, .int .u32 0, .int .u32 0, .int .u32 0, .int .u32 0, .int .u32 0, .int .u32 0, .bool false] 35 (0, 0))) (ds := []) #[false, false, false, false, false, false, false, false] (by kernel_rfl) rfl rfl BK145.out (fun hHeld => ?_); refine with_tabW cotterellaw13_awake.tab2 cotterellaw13_awake.bits2 (fun HT_ HW_ => ?_)
                generalize w17.drew = w18 at BK145 HB hHeld ⊢
                refine take_ (i := 0) (N := some 12) (v := ?_) (a' := ?_) #[true, false, false, false, false, false, false, false] rfl rfl (take_ofW HT_.out HW_.out (by kernel_rfl)) (fun _ _ _ h => h) (Or.inl ⟨by rfl, ?_⟩) hHeld ?_ ?_
                rotate_left
                · intro w' hwgb145
                  first | rw [Go.Proofs.Ytmkipjmadmjfaaa.Cp.yield_whole 35 (.tmp 1) gb145 (hg := hwgb145) (hu := Try.underlying35) (hd := rfl)]
                  all_goals (first | rfl | kernel_rfl)
                rotate_left
                · simp only [Act.put, List.setIfInBounds_toArray, List.set_cons_zero, List.set_cons_succ, i64_w, i32_w, IntKind.wrap_u32]
                  rfl
                refine one_ (i := 1) (N := some 13) #[true, true, false, false, false, false, false, false] rfl rfl (one_of HT_.out (by kernel_rfl)) (by decide) (fun K hK => ?_)
                refine goes_ Try.func21 (by kernel_rfl) rfl #[] (by rfl) rfl rfl (by (try simp only [List.map_toArray, List.map_cons, List.map_nil]); first | done | rfl | (simp only [List.length_drop, List.length_take]; rfl)) ?_
                with_reducible refine (cotterellaw13_tables.calls  t146 _ A1.out).mono ?_
                rintro e w19 ⟨v147, rfl, ho0, hb⟩
                refine ⟨_, rfl, ?_⟩
                have n0_ := Aside0.mk (Kd.R_lower ho0 (below_size (by repeat (first | (with_reducible first | exact HB.out | apply below_alloc | apply pw_below_drewN | apply below_drew1 | refine below_set ?_ GE145.out) | exact HB.out))))
                have n1_ := Aside0.mk (blk_below (g := gb145) (o := .cells #[.int .u32 0, .int .u32 0, .int .u32 0, .int .u32 0, .int .u32 0, .int .u32 0, .int .u32 0, .int .u32 0, .int .u32 0, .int .u32 0, .int .u32 0, .int .u32 0, .int .u32 0, .int .u32 0, .int .u32 0, .int .u32 0, .int .u32 0, .int .u32 16, .int .u32 0, .int .u32 0, .int .u32 0, .int .u32 0, .int .u32 0, .int .u32 0, .int .u32 0, .int .u32 0, .int .u32 0, .int .u32 0, .int .u32 0, .bool false] 35 (0, 0)) (by (with_reducible repeat (first | refine blk_drewN ?_ _ | refine blk_drew ?_ | refine blk_alloc ?_ _)); exact BK145.out) hb)
                have n2_ := Aside0.mk (below_step (by repeat (first | (with_reducible first | exact HB.out | apply below_alloc | apply pw_below_drewN | apply below_drew1 | refine below_set ?_ GE145.out) | exact HB.out)) hb)
                clear BK145
                clear HB
                have HO148 := n0_
                have BK145 := n1_
                have HB := n2_
                clear n0_ n1_ n2_
                (try clear hb)
                (try clear hb2)
                (try clear hk)
                (try clear hi)
                (try clear ho0)
                obtain ⟨Ao20, co20, eo20⟩ := Kd.R_slice HO148.out
                (first | subst eo20 | (injection eo20 with f1_ f2_ f3_; have f4_ := f1_.symm; have f5_ := f3_.symm; clear f1_ f2_ f3_; subst f4_; subst f5_))
                refine hK.out _ _ BK145.out (fun hHeld => ?_)
                clear hK K
                refine norm_ (a' := ?_) ?_ ?_
                rotate_left
                · show Act.put _ (some 13) _ = _
                  simp only [Act.put, List.setIfInBounds_toArray, List.set_cons_zero, List.set_cons_succ, i64_w, i32_w, IntKind.wrap_u32]
                  rfl
                refine one_ (i := 2) (N := some 14) #[true, true, true, false, false, false, false, false] rfl rfl (one_of HT_.out (by kernel_rfl)) (by decide) (fun K hK => ?_)
                refine goes_ Try.func12 (by kernel_rfl) rfl #[.agg #[.int .u32 0, .int .u32 0, .int .u32 0, .int .u32 0, .int .u32 0, .int .u32 0, .int .u32 0, .int .u32 0, .int .u32 0, .int .u32 0, .int .u32 0, .int .u32 0, .int .u32 0, .int .u32 0, .int .u32 0, .int .u32 0, .int .u32 0, .int .u32 16, .int .u32 0, .int .u32 0, .int .u32 0, .int .u32 0, .int .u32 0, .int .u32 0, .int .u32 0, .int .u32 0, .int .u32 0, .int .u32 0, .int .u32 0, .bool false], .slice Ao20 t146.length co20, .int .u32 70, .int .i64 2] (by rfl) rfl rfl (by (try simp only [List.map_toArray, List.map_cons, List.map_nil]); first | done | rfl | (simp only [List.length_drop, List.length_take]; rfl)) ?_
                with_reducible refine (walk_Trans.calls k 0 0 0 0 0 0 0 0 0 0 0 0 0 0 0 0 0 16 0 0 0 0 0 0 0 0 0 0 0 false _ _ t146 70 2 t149 t150 _ ?side1 ?side2 A2.out).mono ?_
                (case side1 => repeat (first | exact (Kd.R_reads' HO148.out).2.2 | (with_reducible refine Kd.C_alloc ?_ _) | (with_reducible refine Kd.C_drewN ?_ _) | (with_reducible refine Kd.C_drew ?_)))
                (case side2 => exact (Kd.R_reads' HO148.out).2.1)
                rintro e w21 ⟨rfl, hb⟩
                refine ⟨_, rfl, ?_⟩
                have n0_ := Aside0.mk (Kd.R_below (by (with_reducible repeat (first | apply Kd.R_alloc | apply Kd.R_drewN | apply Kd.R_drew)); exact HO148.out) hb)
                have n1_ := Aside0.mk (blk_below (g := gb145) (o := .cells #[.int .u32 0, .int .u32 0, .int .u32 0, .int .u32 0, .int .u32 0, .int .u32 0, .int .u32 0, .int .u32 0, .int .u32 0, .int .u32 0, .int .u32 0, .int .u32 0, .int .u32 0, .int .u32 0, .int .u32 0, .int .u32 0, .int .u32 0, .int .u32 16, .int .u32 0, .int .u32 0, .int .u32 0, .int .u32 0, .int .u32 0, .int .u32 0, .int .u32 0, .int .u32 0, .int .u32 0, .int .u32 0, .int .u32 0, .bool false] 35 (0, 0)) (by (with_reducible repeat (first | refine blk_drewN ?_ _ | refine blk_drew ?_ | refine blk_alloc ?_ _)); exact BK145.out) hb)
                have n2_ := Aside0.mk (below_step (by repeat (first | (with_reducible first | exact HB.out | apply below_alloc | apply pw_below_drewN | apply below_drew1 | refine below_set ?_ GE145.out) | exact HB.out)) hb)
                clear HO148
                clear BK145
                clear HB
                have HO148 := n0_
                have BK145 := n1_
                have HB := n2_
                clear n0_ n1_ n2_
                (try clear hb)
                (try clear hb2)
                (try clear hk)
                (try clear hi)
                refine hK.out _ _ BK145.out (fun hHeld => ?_)
                clear hK K
                refine norm_ (a' := ?_) ?_ ?_
                rotate_left
                · show Act.put _ (some 14) _ = _
                  simp only [Act.put, List.setIfInBounds_toArray, List.set_cons_zero, List.set_cons_succ, i64_w, i32_w, IntKind.wrap_u32]
                  rfl
                refine pure_ (i := 3) (N := some 11) (v := ?_) (a' := ?_) #[true, true, true, true, false, false, false, false] rfl rfl (any_of HT_.out (by kernel_rfl)) (fun _ _ _ h => h) (Or.inl ⟨by rfl, ?_⟩) ?_ ?_
                rotate_left
                · intro w'
                  go_simp
                  with_reducible rfl
                rotate_left
                · simp only [Act.put, List.setIfInBounds_toArray, List.set_cons_zero, List.set_cons_succ, i64_w, i32_w, IntKind.wrap_u32]
                  rfl
                refine pure_ (i := 4) (N := some 15) (v := ?_) (a' := ?_) #[true, true, true, true, true, false, false, false] rfl rfl (any_of HT_.out (by kernel_rfl)) (fun _ _ _ h => h) (Or.inl ⟨by rfl, ?_⟩) ?_ ?_
                rotate_left
                · intro w'
                  go_simp
                  with_reducible rfl
                rotate_left
                · simp only [Act.put, List.setIfInBounds_toArray, List.set_cons_zero, List.set_cons_succ, i64_w, i32_w, IntKind.wrap_u32]
                  rfl
                refine pure_ (i := 5) (N := some 16) (v := ?_) (a' := ?_) #[true, true, true, true, true, true, false, false] rfl rfl (any_of HT_.out (by kernel_rfl)) (fun _ _ _ h => h) (Or.inl ⟨by rfl, ?_⟩) ?_ ?_
                rotate_left
                · intro w'
                  go_simp
                  with_reducible rfl
                rotate_left
                · simp only [Act.put, List.setIfInBounds_toArray, List.set_cons_zero, List.set_cons_succ, i64_w, i32_w, IntKind.wrap_u32]
                  rfl
                refine pure_ (i := 6) (N := some 2) (v := ?_) (a' := ?_) #[true, true, true, true, true, true, true, false] rfl rfl (any_of HT_.out (by kernel_rfl)) (fun _ _ _ h => h) (Or.inl ⟨by rfl, ?_⟩) ?_ ?_
                rotate_left
                · intro w'
                  go_simp
                  with_reducible rfl
                rotate_left
                · simp only [Act.put, List.setIfInBounds_toArray, List.set_cons_zero, List.set_cons_succ, i64_w, i32_w, IntKind.wrap_u32]
                  rfl
                refine pure_ (i := 7) (N := some 3) (v := ?_) (a' := ?_) #[true, true, true, true, true, true, true, true] rfl rfl (any_of HT_.out (by kernel_rfl)) (fun _ _ _ h => h) (Or.inl ⟨by rfl, ?_⟩) ?_ ?_
                rotate_left
                · intro w'
                  go_simp
                  with_reducible rfl
                rotate_left
                · simp only [Act.put, List.setIfInBounds_toArray, List.set_cons_zero, List.set_cons_succ, i64_w, i32_w, IntKind.wrap_u32]
                  rfl
                refine done_ (done_of HT_.out (by kernel_rfl)) ?_
                try go_wp2_with (first | ((with_reducible refine gate_callee (f := 21) rfl ?_); refine goesL_ (some 18) rfl rfl Try.func21 (by kernel_rfl) rfl #[] rfl (by (try simp only [List.map_toArray, List.map_cons, List.map_nil]); first | done | rfl | (simp only [List.length_drop, List.length_take]; rfl)) ?_; (with_reducible refine (cotterellaw13_tables.calls  t151 _ A3.out).mono ?_); rintro e w22 ⟨v152, rfl, ho0, hb⟩; refine ⟨_, rfl, ?_⟩; have n0_ := Aside0.mk (Kd.R_elder' (by (with_reducible repeat (first | apply Kd.R_alloc | apply Kd.R_drewN | apply Kd.R_drew)); exact HO148.out) (Kd.R_base ho0) hb); have n1_ := Aside0.mk (Kd.R_lower (Kd.R_new' ho0 (Kd.R_lt (by (with_reducible repeat (first | apply Kd.R_alloc | apply Kd.R_drewN | apply Kd.R_drew)); exact HO148.out))) (below_size (by repeat (first | (with_reducible first | exact HB.out | apply below_alloc | apply pw_below_drewN | apply below_drew1 | refine below_set ?_ GE145.out) | exact HB.out)))); have n2_ := Aside0.mk (blk_below (g := gb145) (o := .cells #[.int .u32 0, .int .u32 0, .int .u32 0, .int .u32 0, .int .u32 0, .int .u32 0, .int .u32 0, .int .u32 0, .int .u32 0, .int .u32 0, .int .u32 0, .int .u32 0, .int .u32 0, .int .u32 0, .int .u32 0, .int .u32 0, .int .u32 0, .int .u32 16, .int .u32 0, .int .u32 0, .int .u32 0, .int .u32 0, .int .u32 0, .int .u32 0, .int .u32 0, .int .u32 0, .int .u32 0, .int .u32 0, .int .u32 0, .bool false] 35 (0, 0)) (by (with_reducible repeat (first | refine blk_drewN ?_ _ | refine blk_drew ?_ | refine blk_alloc ?_ _)); exact BK145.out) hb); have n3_ := Aside0.mk (below_step (by repeat (first | (with_reducible first | exact HB.out | apply below_alloc | apply pw_below_drewN | apply below_drew1 | refine below_set ?_ GE145.out) | exact HB.out)) hb); clear HO148; clear BK145; clear HB; have HO148 := n0_; have HO153 := n1_; have BK145 := n2_; have HB := n3_; clear n0_ n1_ n2_ n3_; (try clear hb); (try clear hb2); (try clear hk); (try clear hi); (try clear ho0); obtain ⟨Ao23, co23, eo23⟩ := Kd.R_slice HO153.out; subst eo23) | ((with_reducible refine gate_callee (f := 9) rfl ?_); refine goesL_ (some 19) rfl rfl Try.func9 (by kernel_rfl) rfl #[.slice Ao23 t151.length co23, .int .u32 0, .int .u32 70] rfl (by (try simp only [List.map_toArray, List.map_cons, List.map_nil]); first | done | rfl | (simp only [List.length_drop, List.length_take]; rfl)) ?_; (with_reducible refine (walk_Walk.calls k _ _ t151 0 70 t154 t155 t156 true _ ?side1 ?side2 A4.out).mono ?_); (case side1 => repeat (first | exact (Kd.R_reads' HO153.out).2.2 | (with_reducible refine Kd.C_alloc ?_ _) | (with_reducible refine Kd.C_drewN ?_ _) | (with_reducible refine Kd.C_drew ?_))); (case side2 => exact (Kd.R_reads' HO153.out).2.1); rintro e w24 ⟨v157, rfl, ho0, hb⟩; refine ⟨_, rfl, ?_⟩; have n0_ := Aside0.mk (Kd.R_below (by (with_reducible repeat (first | apply Kd.R_alloc | apply Kd.R_drewN | apply Kd.R_drew)); exact HO148.out) hb); have n1_ := Aside0.mk (Kd.R_below (by (with_reducible repeat (first | apply Kd.R_alloc | apply Kd.R_drewN | apply Kd.R_drew)); exact HO153.out) hb); have n2_ := Aside0.mk (Kd.R_lower ho0 (below_size (by repeat (first | (with_reducible first | exact HB.out | apply below_alloc | apply pw_below_drewN | apply below_drew1 | refine below_set ?_ GE145.out) | exact HB.out)))); have n3_ := Aside0.mk (blk_below (g := gb145) (o := .cells #[.int .u32 0, .int .u32 0, .int .u32 0, .int .u32 0, .int .u32 0, .int .u32 0, .int .u32 0, .int .u32 0, .int .u32 0, .int .u32 0, .int .u32 0, .int .u32 0, .int .u32 0, .int .u32 0, .int .u32 0, .int .u32 0, .int .u32 0, .int .u32 16, .int .u32 0, .int .u32 0, .int .u32 0, .int .u32 0, .int .u32 0, .int .u32 0, .int .u32 0, .int .u32 0, .int .u32 0, .int .u32 0, .int .u32 0, .bool false] 35 (0, 0)) (by (with_reducible repeat (first | refine blk_drewN ?_ _ | refine blk_drew ?_ | refine blk_alloc ?_ _)); exact BK145.out) hb); have n4_ := Aside0.mk (below_step (by repeat (first | (with_reducible first | exact HB.out | apply below_alloc | apply pw_below_drewN | apply below_drew1 | refine below_set ?_ GE145.out) | exact HB.out)) hb); clear HO148; clear HO153; clear BK145; clear HB; have HO148 := n0_; have HO153 := n1_; have HO158 := n2_; have BK145 := n3_; have HB := n4_; clear n0_ n1_ n2_ n3_ n4_; (try clear hb); (try clear hb2); (try clear hk); (try clear hi); (try clear ho0)) | ((with_reducible refine gate_dst (N := 4) rfl ?_); (try (refine gate_guard (by rfl) ?_; dsimp only)); refine box_event ?hg (N := 4) ?hd (cs := #[.int .u32 0, .int .i64 0]) (t := 26) ?hr ?_; (case hd => rfl); (case hg => rfl); (case hr => first | (go_simp; done) | (go_simp; rfl)); intro gb160 hg w25 hbox hb; have n0_ := Aside0.mk (Kd.R_below (by (with_reducible repeat (first | apply Kd.R_alloc | apply Kd.R_drewN | apply Kd.R_drew)); exact HO148.out) hb); have n1_ := Aside0.mk (Kd.R_below (by (with_reducible repeat (first | apply Kd.R_alloc | apply Kd.R_drewN | apply Kd.R_drew)); exact HO153.out) hb); have n2_ := Aside0.mk (Kd.R_below (by (with_reducible repeat (first | apply Kd.R_alloc | apply Kd.R_drewN | apply Kd.R_drew)); exact HO158.out) hb); have n3_ := Aside0.mk (blk_below (g := gb145) (o := .cells #[.int .u32 0, .int .u32 0, .int .u32 0, .int .u32 0, .int .u32 0, .int .u32 0, .int .u32 0, .int .u32 0, .int .u32 0, .int .u32 0, .int .u32 0, .int .u32 0, .int .u32 0, .int .u32 0, .int .u32 0, .int .u32 0, .int .u32 0, .int .u32 16, .int .u32 0, .int .u32 0, .int .u32 0, .int .u32 0, .int .u32 0, .int .u32 0, .int .u32 0, .int .u32 0, .int .u32 0, .int .u32 0, .int .u32 0, .bool false] 35 (0, 0)) (by (with_reducible repeat (first | refine blk_drewN ?_ _ | refine blk_drew ?_ | refine blk_alloc ?_ _)); exact BK145.out) hb); have n4_ := Aside0.mk (below_step (by repeat (first | (with_reducible first | exact HB.out | apply below_alloc | apply pw_below_drewN | apply below_drew1 | refine below_set ?_ GE145.out) | exact HB.out)) hb); have n5_ := Aside0.mk (hbox); have n6_ := Aside0.mk ((by rw [hg]; exact (below_size (by repeat (first | (with_reducible first | exact HB.out | apply below_alloc | apply pw_below_drewN | apply below_drew1 | refine below_set ?_ GE145.out) | exact HB.out))) : w.heap.size ≤ gb160)); have n7_ := Aside0.mk ((by rw [hg]; exact (below_size (by repeat (first | (with_reducible first | exact HB.out | apply below_alloc | apply pw_below_drewN | apply below_drew1 | refine below_set ?_ GE145.out) | exact HB.out))) : w.heap.size ≤ gb160)); have n8_ := Aside0.mk ((by rw [hg]; exact Nat.ne_of_lt (blk_lt (g := gb145) (o := .cells #[.int .u32 0, .int .u32 0, .int .u32 0, .int .u32 0, .int .u32 0, .int .u32 0, .int .u32 0, .int .u32 0, .int .u32 0, .int .u32 0, .int .u32 0, .int .u32 0, .int .u32 0, .int .u32 0, .int .u32 0, .int .u32 0, .int .u32 0, .int .u32 16, .int .u32 0, .int .u32 0, .int .u32 0, .int .u32 0, .int .u32 0, .int .u32 0, .int .u32 0, .int .u32 0, .int .u32 0, .int .u32 0, .int .u32 0, .bool false] 35 (0, 0)) (by (with_reducible repeat (first | refine blk_drewN ?_ _ | refine blk_drew ?_ | refine blk_alloc ?_ _)); exact BK145.out)) : gb145 ≠ gb160)); have n9_ := Aside0.mk ((by rw [hg]; exact Nat.ne_of_gt (blk_lt (g := gb145) (o := .cells #[.int .u32 0, .int .u32 0, .int .u32 0, .int .u32 0, .int .u32 0, .int .u32 0, .int .u32 0, .int .u32 0, .int .u32 0, .int .u32 0, .int .u32 0, .int .u32 0, .int .u32 0, .int .u32 0, .int .u32 0, .int .u32 0, .int .u32 0, .int .u32 16, .int .u32 0, .int .u32 0, .int .u32 0, .int .u32 0, .int .u32 0, .int .u32 0, .int .u32 0, .int .u32 0, .int .u32 0, .int .u32 0, .int .u32 0, .bool false] 35 (0, 0)) (by (with_reducible repeat (first | refine blk_drewN ?_ _ | refine blk_drew ?_ | refine blk_alloc ?_ _)); exact BK145.out)) : gb160 ≠ gb145)); clear HO148; clear HO153; clear HO158; clear BK145; clear HB; have HO148 := n0_; have HO153 := n1_; have HO158 := n2_; have BK145 := n3_; have HB := n4_; have BK160 := n5_; have GW160 := n6_; have GE160 := n7_; have NB145_160 := n8_; have NB160_145 := n9_; clear n0_ n1_ n2_ n3_ n4_ n5_ n6_ n7_ n8_ n9_; clear hb hbox hg; have hnb26 := NB160_145.out; have hnc26 := NB145_160.out; have hcz27_0 : w25.cell? ⟨gb160, 0, none⟩ = some (.int .u32 0) := (blk_cell BK160.out 0).trans rfl; have hcz27_1 : w25.cell? ⟨gb160, 1, none⟩ = some (.int .i64 0) := (blk_cell BK160.out 1).trans rfl; have hfz27_0 := blk_frozen BK160.out 0; have hfz27_1 := blk_frozen BK160.out 1))
                have n0_ : Aside0 (Kd.R (Kd.int .u8) 5 ((w25.setCell ⟨gb160, 0, none⟩ (.int .u32 t154)).setCell ⟨gb160, 1, none⟩ (.int .i64 t155)) w.heap.size (fun k_ => some k_ ≠ (.slice Ao23 t151.length co23 : Value).ownBlock) (.slice Ao20 t146.length co20) t146) := ⟨by (with_reducible repeat (first | apply Kd.R_alloc | apply Kd.R_drewN | apply Kd.R_drew)); exact Kd.R_mono (Kd.R_far (p := ⟨gb160, 1, none⟩) (Kd.R_far (p := ⟨gb160, 0, none⟩) (Kd.R_types HO148.out BK160.out (by decide)) (fun _ hk => hk.2) (.int .u32 t154)) (fun _ hk => hk.2) (.int .i64 t155)) (fun _ hk => hk.1.2)⟩
                have n1_ : Aside0 (Kd.R (Kd.int .u8) 5 ((w25.setCell ⟨gb160, 0, none⟩ (.int .u32 t154)).setCell ⟨gb160, 1, none⟩ (.int .i64 t155)) w.heap.size (fun k_ => some k_ ≠ (.slice Ao20 t146.length co20 : Value).ownBlock) (.slice Ao23 t151.length co23) t151) := ⟨by (with_reducible repeat (first | apply Kd.R_alloc | apply Kd.R_drewN | apply Kd.R_drew)); exact Kd.R_mono (Kd.R_far (p := ⟨gb160, 1, none⟩) (Kd.R_far (p := ⟨gb160, 0, none⟩) (Kd.R_types HO153.out BK160.out (by decide)) (fun _ hk => hk.2) (.int .u32 t154)) (fun _ hk => hk.2) (.int .i64 t155)) (fun _ hk => hk.1.2)⟩
                have n2_ : Aside0 (Kd.R (Kd.int .u32) 23 ((w25.setCell ⟨gb160, 0, none⟩ (.int .u32 t154)).setCell ⟨gb160, 1, none⟩ (.int .i64 t155)) w.heap.size (fun _ => True) v157 t156) := ⟨by (with_reducible repeat (first | apply Kd.R_alloc | apply Kd.R_drewN | apply Kd.R_drew)); exact Kd.R_mono (Kd.R_far (p := ⟨gb160, 1, none⟩) (Kd.R_far (p := ⟨gb160, 0, none⟩) (Kd.R_types HO158.out BK160.out (by decide)) (fun _ hk => hk.2) (.int .u32 t154)) (fun _ hk => hk.2) (.int .i64 t155)) (fun _ hk => trivial)⟩
                have n3_ : Aside0 (((w25.setCell ⟨gb160, 0, none⟩ (.int .u32 t154)).setCell ⟨gb160, 1, none⟩ (.int .i64 t155)).heap[gb145]? = some (.cells #[.int .u32 0, .int .u32 0, .int .u32 0, .int .u32 0, .int .u32 0, .int .u32 0, .int .u32 0, .int .u32 0, .int .u32 0, .int .u32 0, .int .u32 0, .int .u32 0, .int .u32 0, .int .u32 0, .int .u32 0, .int .u32 0, .int .u32 0, .int .u32 16, .int .u32 0, .int .u32 0, .int .u32 0, .int .u32 0, .int .u32 0, .int .u32 0, .int .u32 0, .int .u32 0, .int .u32 0, .int .u32 0, .int .u32 0, .bool false] 35 (0, 0))) := ⟨by (with_reducible repeat (first | refine blk_drewN ?_ _ | refine blk_drew ?_ | refine blk_alloc ?_ _)); refine blk_far ?_ NB145_160.out _; (with_reducible repeat (first | refine blk_drewN ?_ _ | refine blk_drew ?_ | refine blk_alloc ?_ _)); refine blk_far ?_ NB145_160.out _; (with_reducible repeat (first | refine blk_drewN ?_ _ | refine blk_drew ?_ | refine blk_alloc ?_ _)); exact BK145.out⟩
                have n4_ : Aside0 (((w25.setCell ⟨gb160, 0, none⟩ (.int .u32 t154)).setCell ⟨gb160, 1, none⟩ (.int .i64 t155)).heap[gb160]? = some (.cells #[.int .u32 t154, .int .i64 t155] 26 (0, 0))) := ⟨by (with_reducible repeat (first | refine blk_drewN ?_ _ | refine blk_drew ?_ | refine blk_alloc ?_ _)); refine blk_put (cs := #[.int .u32 t154, .int .i64 0]) ?_ 1 _ (by first | rfl | (simp [Int.emod_emod_of_dvd]; done)); (with_reducible repeat (first | refine blk_drewN ?_ _ | refine blk_drew ?_ | refine blk_alloc ?_ _)); refine blk_put (cs := #[.int .u32 0, .int .i64 0]) ?_ 0 _ (by first | rfl | (simp [Int.emod_emod_of_dvd]; done)); (with_reducible repeat (first | refine blk_drewN ?_ _ | refine blk_drew ?_ | refine blk_alloc ?_ _)); exact BK160.out⟩
                have n5_ : Aside0 (Below w.heap.size w ((w25.setCell ⟨gb160, 0, none⟩ (.int .u32 t154)).setCell ⟨gb160, 1, none⟩ (.int .i64 t155))) := ⟨by repeat (first | (with_reducible first | exact HB.out | apply below_alloc | apply pw_below_drewN | apply below_drew1 | refine below_set ?_ GE145.out | refine below_set ?_ GE160.out) | exact HB.out)⟩
                (try clear HO148)
                (try clear HO153)
                (try clear HO158)
                (try clear BK145)
                (try clear BK160)
                (try clear HB)
                generalize ((w25.setCell ⟨gb160, 0, none⟩ (.int .u32 t154)).setCell ⟨gb160, 1, none⟩ (.int .i64 t155)) = w28 at n0_ n1_ n2_ n3_ n4_ n5_ ⊢
                have HO148 := n0_
                have HO153 := n1_
                have HO158 := n2_
                have BK145 := n3_
                have BK160 := n4_
                have HB := n5_
                clear n0_ n1_ n2_ n3_ n4_ n5_
                have n0_ := Aside0.mk (Kd.R_drew HO148.out)
                have n1_ := Aside0.mk (Kd.R_drew HO153.out)
                have n2_ := Aside0.mk (Kd.R_drew HO158.out)
                have n3_ := Aside0.mk (blk_drew BK145.out)
                have n4_ := Aside0.mk (blk_drew BK160.out)
                have n5_ := Aside0.mk (below_drew1 HB.out)
                clear HO148
                clear HO153
                clear HO158
                clear BK145
                clear BK160
                clear HB
                have HO148 := n0_
                have HO153 := n1_
                have HO158 := n2_
                have BK145 := n3_
                have BK160 := n4_
                have HB := n5_
                clear n0_ n1_ n2_ n3_ n4_ n5_
                refine start_ (n := 8) (S := fun w' => w'.heap[gb145]? = some (.cells #[.int .u32 0, .int .u32 0, .int .u32 0, .int .u32 0, .int .u32 0, .int .u32 0, .int .u32 0, .int .u32 0, .int .u32 0, .int .u32 0, .int .u32 0, .int .u32 0, .int .u32 0, .int .u32 0, .int .u32 0, .int .u32 0, .int .u32 0, .int .u32 16, .int .u32 0, .int .u32 0, .int .u32 0, .int .u32 0, .int .u32 0, .int .u32 0, .int .u32 0, .int .u32 0, .int .u32 0, .int .u32 0, .int .u32 0, .bool false] 35 (0, 0))) (ds := []) #[false, false, false, false, false, false, false, false] (by kernel_rfl) rfl rfl BK145.out (fun hHeld => ?_); refine with_tabW cotterellaw13_awake.tab4 cotterellaw13_awake.bits4 (fun HT_ HW_ => ?_)
                generalize w28.drew = w29 at HO148 HO153 HO158 BK145 BK160 HB hHeld ⊢
                refine take_ (i := 0) (N := some 24) (v := ?_) (a' := ?_) #[true, false, false, false, false, false, false, false] rfl rfl (take_ofW HT_.out HW_.out (by kernel_rfl)) (fun _ _ _ h => h) (Or.inl ⟨by rfl, ?_⟩) hHeld ?_ ?_
                rotate_left
                · intro w' hwgb145
                  first | rw [Go.Proofs.Ytmkipjmadmjfaaa.Cp.yield_whole 35 (.tmp 1) gb145 (hg := hwgb145) (hu := Try.underlying35) (hd := rfl)]
                  all_goals (first | rfl | kernel_rfl)
                rotate_left
                · simp only [Act.put, List.setIfInBounds_toArray, List.set_cons_zero, List.set_cons_succ, i64_w, i32_w, IntKind.wrap_u32]
                  rfl
                refine one_ (i := 1) (N := some 25) #[true, true, false, false, false, false, false, false] rfl rfl (one_of HT_.out (by kernel_rfl)) (by decide) (fun K hK => ?_)
                refine goes_ Try.func21 (by kernel_rfl) rfl #[] (by rfl) rfl rfl (by (try simp only [List.map_toArray, List.map_cons, List.map_nil]); first | done | rfl | (simp only [List.length_drop, List.length_take]; rfl)) ?_
                with_reducible refine (cotterellaw13_tables.calls  t161 _ A5.out).mono ?_
                rintro e w30 ⟨v162, rfl, ho0, hb⟩
                refine ⟨_, rfl, ?_⟩
                have n0_ := Aside0.mk (Kd.R_elder' (by (with_reducible repeat (first | apply Kd.R_alloc | apply Kd.R_drewN | apply Kd.R_drew)); exact HO148.out) (Kd.R_base ho0) hb)
                have n1_ := Aside0.mk (Kd.R_elder' (by (with_reducible repeat (first | apply Kd.R_alloc | apply Kd.R_drewN | apply Kd.R_drew)); exact HO153.out) (Kd.R_base ho0) hb)
                have n2_ := Aside0.mk (Kd.R_below (by (with_reducible repeat (first | apply Kd.R_alloc | apply Kd.R_drewN | apply Kd.R_drew)); exact HO158.out) hb)
                have n3_ := Aside0.mk (Kd.R_lower (Kd.R_new' (Kd.R_new' ho0 (Kd.R_lt (by (with_reducible repeat (first | apply Kd.R_alloc | apply Kd.R_drewN | apply Kd.R_drew)); exact HO148.out))) (Kd.R_lt (by (with_reducible repeat (first | apply Kd.R_alloc | apply Kd.R_drewN | apply Kd.R_drew)); exact HO153.out))) (below_size (by repeat (first | (with_reducible first | exact HB.out | apply below_alloc | apply pw_below_drewN | apply below_drew1 | refine below_set ?_ GE145.out | refine below_set ?_ GE160.out) | exact HB.out))))
                have n4_ := Aside0.mk (blk_below (g := gb145) (o := .cells #[.int .u32 0, .int .u32 0, .int .u32 0, .int .u32 0, .int .u32 0, .int .u32 0, .int .u32 0, .int .u32 0, .int .u32 0, .int .u32 0, .int .u32 0, .int .u32 0, .int .u32 0, .int .u32 0, .int .u32 0, .int .u32 0, .int .u32 0, .int .u32 16, .int .u32 0, .int .u32 0, .int .u32 0, .int .u32 0, .int .u32 0, .int .u32 0, .int .u32 0, .int .u32 0, .int .u32 0, .int .u32 0, .int .u32 0, .bool false] 35 (0, 0)) (by (with_reducible repeat (first | refine blk_drewN ?_ _ | refine blk_drew ?_ | refine blk_alloc ?_ _)); exact BK145.out) hb)
                have n5_ := Aside0.mk (blk_below (g := gb160) (o := .cells #[.int .u32 t154, .int .i64 t155] 26 (0, 0)) (by (with_reducible repeat (first | refine blk_drewN ?_ _ | refine blk_drew ?_ | refine blk_alloc ?_ _)); exact BK160.out) hb)
                have n6_ := Aside0.mk (below_step (by repeat (first | (with_reducible first | exact HB.out | apply below_alloc | apply pw_below_drewN | apply below_drew1 | refine below_set ?_ GE145.out | refine below_set ?_ GE160.out) | exact HB.out)) hb)
                clear HO148
                clear HO153
                clear HO158
                clear BK145
                clear BK160
                clear HB
                have HO148 := n0_
                have HO153 := n1_
                have HO158 := n2_
                have HO163 := n3_
                have BK145 := n4_
                have BK160 := n5_
                have HB := n6_
                clear n0_ n1_ n2_ n3_ n4_ n5_ n6_
                (try clear hb)
                (try clear hb2)
                (try clear hk)
                (try clear hi)
                (try clear ho0)
                obtain ⟨Ao31, co31, eo31⟩ := Kd.R_slice HO163.out
                (first | subst eo31 | (injection eo31 with f1_ f2_ f3_; have f4_ := f1_.symm; have f5_ := f3_.symm; clear f1_ f2_ f3_; subst f4_; subst f5_))
                refine hK.out _ _ BK145.out (fun hHeld => ?_)
                clear hK K
                refine norm_ (a' := ?_) ?_ ?_
                rotate_left
                · show Act.put _ (some 25) _ = _
                  simp only [Act.put, List.setIfInBounds_toArray, List.set_cons_zero, List.set_cons_succ, i64_w, i32_w, IntKind.wrap_u32]
                  rfl
                refine one_ (i := 2) (N := some 26) #[true, true, true, false, false, false, false, false] rfl rfl (one_of HT_.out (by kernel_rfl)) (by decide) (fun K hK => ?_)
                refine goes_ Try.func12 (by kernel_rfl) rfl #[.agg #[.int .u32 0, .int .u32 0, .int .u32 0, .int .u32 0, .int .u32 0, .int .u32 0, .int .u32 0, .int .u32 0, .int .u32 0, .int .u32 0, .int .u32 0, .int .u32 0, .int .u32 0, .int .u32 0, .int .u32 0, .int .u32 0, .int .u32 0, .int .u32 16, .int .u32 0, .int .u32 0, .int .u32 0, .int .u32 0, .int .u32 0, .int .u32 0, .int .u32 0, .int .u32 0, .int .u32 0, .int .u32 0, .int .u32 0, .bool false], .slice Ao31 t161.length co31, .int .u32 70, .int .i64 3] (by rfl) rfl rfl (by (try simp only [List.map_toArray, List.map_cons, List.map_nil]); first | done | rfl | (simp only [List.length_drop, List.length_take]; rfl)) ?_
                with_reducible refine (walk_Trans.calls k 0 0 0 0 0 0 0 0 0 0 0 0 0 0 0 0 0 16 0 0 0 0 0 0 0 0 0 0 0 false _ _ t161 70 3 t164 t165 _ ?side1 ?side2 A6.out).mono ?_
                (case side1 => repeat (first | exact (Kd.R_reads' HO163.out).2.2 | (with_reducible refine Kd.C_alloc ?_ _) | (with_reducible refine Kd.C_drewN ?_ _) | (with_reducible refine Kd.C_drew ?_)))
                (case side2 => exact (Kd.R_reads' HO163.out).2.1)
                rintro e w32 ⟨rfl, hb⟩
                refine ⟨_, rfl, ?_⟩
                have n0_ := Aside0.mk (Kd.R_below (by (with_reducible repeat (first | apply Kd.R_alloc | apply Kd.R_drewN | apply Kd.R_drew)); exact HO148.out) hb)
                have n1_ := Aside0.mk (Kd.R_below (by (with_reducible repeat (first | apply Kd.R_alloc | apply Kd.R_drewN | apply Kd.R_drew)); exact HO153.out) hb)
                have n2_ := Aside0.mk (Kd.R_below (by (with_reducible repeat (first | apply Kd.R_alloc | apply Kd.R_drewN | apply Kd.R_drew)); exact HO158.out) hb)
                have n3_ := Aside0.mk (Kd.R_below (by (with_reducible repeat (first | apply Kd.R_alloc | apply Kd.R_drewN | apply Kd.R_drew)); exact HO163.out) hb)
                have n4_ := Aside0.mk (blk_below (g := gb145) (o := .cells #[.int .u32 0, .int .u32 0, .int .u32 0, .int .u32 0, .int .u32 0, .int .u32 0, .int .u32 0, .int .u32 0, .int .u32 0, .int .u32 0, .int .u32 0, .int .u32 0, .int .u32 0, .int .u32 0, .int .u32 0, .int .u32 0, .int .u32 0, .int .u32 16, .int .u32 0, .int .u32 0, .int .u32 0, .int .u32 0, .int .u32 0, .int .u32 0, .int .u32 0, .int .u32 0, .int .u32 0, .int .u32 0, .int .u32 0, .bool false] 35 (0, 0)) (by (with_reducible repeat (first | refine blk_drewN ?_ _ | refine blk_drew ?_ | refine blk_alloc ?_ _)); exact BK145.out) hb)
                have n5_ := Aside0.mk (blk_below (g := gb160) (o := .cells #[.int .u32 t154, .int .i64 t155] 26 (0, 0)) (by (with_reducible repeat (first | refine blk_drewN ?_ _ | refine blk_drew ?_ | refine blk_alloc ?_ _)); exact BK160.out) hb)
                have n6_ := Aside0.mk (below_step (by repeat (first | (with_reducible first | exact HB.out | apply below_alloc | apply pw_below_drewN | apply below_drew1 | refine below_set ?_ GE145.out | refine below_set ?_ GE160.out) | exact HB.out)) hb)
                clear HO148
                clear HO153
                clear HO158
                clear HO163
                clear BK145
                clear BK160
                clear HB
                have HO148 := n0_
                have HO153 := n1_
                have HO158 := n2_
                have HO163 := n3_
                have BK145 := n4_
                have BK160 := n5_
                have HB := n6_
                clear n0_ n1_ n2_ n3_ n4_ n5_ n6_
                (try clear hb)
                (try clear hb2)
                (try clear hk)
                (try clear hi)
                refine hK.out _ _ BK145.out (fun hHeld => ?_)
                clear hK K
                refine norm_ (a' := ?_) ?_ ?_
                rotate_left
                · show Act.put _ (some 26) _ = _
                  simp only [Act.put, List.setIfInBounds_toArray, List.set_cons_zero, List.set_cons_succ, i64_w, i32_w, IntKind.wrap_u32]
                  rfl
                refine pure_ (i := 3) (N := some 23) (v := ?_) (a' := ?_) #[true, true, true, true, false, false, false, false] rfl rfl (any_of HT_.out (by kernel_rfl)) (fun _ _ _ h => h) (Or.inl ⟨by rfl, ?_⟩) ?_ ?_
                rotate_left
                · intro w'
                  go_simp
                  with_reducible rfl
                rotate_left
                · simp only [Act.put, List.setIfInBounds_toArray, List.set_cons_zero, List.set_cons_succ, i64_w, i32_w, IntKind.wrap_u32]
                  rfl
                refine pure_ (i := 4) (N := some 27) (v := ?_) (a' := ?_) #[true, true, true, true, true, false, false, false] rfl rfl (any_of HT_.out (by kernel_rfl)) (fun _ _ _ h => h) (Or.inl ⟨by rfl, ?_⟩) ?_ ?_
                rotate_left
                · intro w'
                  go_simp
                  with_reducible rfl
                rotate_left
                · simp only [Act.put, List.setIfInBounds_toArray, List.set_cons_zero, List.set_cons_succ, i64_w, i32_w, IntKind.wrap_u32]
                  rfl
                refine pure_ (i := 5) (N := some 28) (v := ?_) (a' := ?_) #[true, true, true, true, true, true, false, false] rfl rfl (any_of HT_.out (by kernel_rfl)) (fun _ _ _ h => h) (Or.inl ⟨by rfl, ?_⟩) ?_ ?_
                rotate_left
                · intro w'
                  go_simp
                  with_reducible rfl
                rotate_left
                · simp only [Act.put, List.setIfInBounds_toArray, List.set_cons_zero, List.set_cons_succ, i64_w, i32_w, IntKind.wrap_u32]
                  rfl
                refine pure_ (i := 6) (N := some 7) (v := ?_) (a' := ?_) #[true, true, true, true, true, true, true, false] rfl rfl (any_of HT_.out (by kernel_rfl)) (fun _ _ _ h => h) (Or.inl ⟨by rfl, ?_⟩) ?_ ?_
                rotate_left
                · intro w'
                  go_simp
                  with_reducible rfl
                rotate_left
                · simp only [Act.put, List.setIfInBounds_toArray, List.set_cons_zero, List.set_cons_succ, i64_w, i32_w, IntKind.wrap_u32]
                  rfl
                refine pure_ (i := 7) (N := some 8) (v := ?_) (a' := ?_) #[true, true, true, true, true, true, true, true] rfl rfl (any_of HT_.out (by kernel_rfl)) (fun _ _ _ h => h) (Or.inl ⟨by rfl, ?_⟩) ?_ ?_
                rotate_left
                · intro w'
                  go_simp
                  with_reducible rfl
                rotate_left
                · simp only [Act.put, List.setIfInBounds_toArray, List.set_cons_zero, List.set_cons_succ, i64_w, i32_w, IntKind.wrap_u32]
                  rfl
                refine done_ (done_of HT_.out (by kernel_rfl)) ?_
                obtain ⟨Ao33, co33, eo33⟩ := Kd.R_slice HO158.out
                subst eo33
                have p166 : 0 ≤ (1 : Int) := (by omega)
                have q166 : 1 < (t156.length : Int) := of_decide_eq_true (by first | (with_reducible assumption) | assumption)
                obtain ⟨ad166, e166, hx166_0⟩ := Kd.at_int (Kd.R_reads' HO158.out).2.2 1 p166 q166
                cases e166
                (try simp only [show (1 : Int).toNat = 1 from rfl, Nat.reduceMul, Nat.reduceEqDiff, Go.Addr.add, ↓reduceIte] at hx166_0)
                have qi166 : (1 < t156.length) = True := eq_true (by omega)
                (try rw [show ((1 : Int)).toNat = 1 from rfl] at hx166_0)
                replace p166 := eq_true p166
                replace q166 := eq_true q166
                try go_wp2_with (first | (go_at_call 16; (with_reducible refine (walk_Fault.calls 2 t167 _ A14.out).mono ?_); rintro e w' ⟨rfl, ⟨nd, rfl⟩⟩))
                go_ret
                exact ⟨by first | rfl | (simp [errW_none, errW_some] <;> rfl) | (simp [*, errW_none, errW_some] <;> rfl), by repeat (first | (with_reducible first | exact HB.out | apply below_alloc | apply pw_below_drewN | apply below_drew1 | refine below_set ?_ GE145.out | refine below_set ?_ GE160.out) | exact HB.out)⟩
              · rw [if_neg c13] at H
                exact absurd H (by simp)
            · rw [if_neg c12] at H
              exact absurd H (by simp)
          · rw [if_neg c11] at H
            exact absurd H (by simp)
        · rw [if_neg c10] at H
          exact absurd H (by simp)
      · replace c9 := Bool.eq_false_iff.mpr c9
        subst c9
        have H1 : (none) = some r := by rw [if_neg (show ¬ (false = true) by decide)] at H; exact H
        clear H
        have H := H1
        clear H1
        exact absurd H (by simp)
    · rw [if_neg c8] at H
      exact absurd H (by simp)
  · rw [if_neg c7] at H
    exact absurd H (by simp)

/-! ### cotterelsame_Names: function 18 -/
mutual
def cotterelsame_Names.l0 : Nat → List (S61) → List (S61) → Int → Option (Bool)
  | 0, _, _, _ => none
  | k + 1, x0, x1, x5 => if x5 < (x0.length : Int) then (cotterelsame_Names.j1 k x0 x1 x5 (decide (x5 < (x1.length : Int)))) else (cotterelsame_Names.j1 k x0 x1 x5 false)
def cotterelsame_Names.j1 : Nat → List (S61) → List (S61) → Int → Bool → Option (Bool)
  | 0, _, _, _, _ => none
  | k + 1, x0, x1, x5, x20 => if x20 = true then (if 0 ≤ x5 then (if x5 < (x0.length : Int) then (if x5 < (x1.length : Int) then (if (!((((rd_T61 x0 x5).f0).toList) == (((rd_T61 x1 x5).f0).toList)) || (!(((rd_T61 x0 x5).f1) == ((rd_T61 x1 x5).f1)))) = true then (some false) else (cotterelsame_Names.l0 k x0 x1 (wrap64 (x5 + 1)))) else (none)) else (none)) else (none)) else (some true)
end
def cotterelsame_Names.f (k : Nat) (l0 : List (S61)) (l1 : List (S61)) : Option (Bool) := if (l0.length : Int) = (l1.length : Int) then (cotterelsame_Names.l0 k l0 l1 0) else (some false)
theorem cotterelsame_Names.mono_l : ∀ k, (∀ y0 y1 y2, LeO (cotterelsame_Names.l0 k y0 y1 y2) (cotterelsame_Names.l0 (k + 1) y0 y1 y2)) ∧ (∀ y0 y1 y2 y3, LeO (cotterelsame_Names.j1 k y0 y1 y2 y3) (cotterelsame_Names.j1 (k + 1) y0 y1 y2 y3))
  | 0 => ⟨fun _ _ _ r h => by simp [cotterelsame_Names.l0] at h, fun _ _ _ _ r h => by simp [cotterelsame_Names.j1] at h⟩
  | k + 1 => by
    obtain ⟨ih0, ih1⟩ := cotterelsame_Names.mono_l k
    refine ⟨?_, ?_⟩
    · intro y0 y1 y2
      unfold cotterelsame_Names.l0
      repeat' first
      | (with_reducible exact ih0 _ _ _)
      | (with_reducible exact ih1 _ _ _ _)
      | (with_reducible exact LeO.refl _)
      | (with_reducible exact LeO.none _)
      | (with_reducible refine LeO.ite ?_ ?_)
      | (with_reducible refine LeO.bind ?_ (fun _ => ?_))
      | exact ih0 _ _ _
      | exact ih1 _ _ _ _
      | exact LeO.none _
      | refine LeO.ite ?_ ?_
      | refine LeO.bind ?_ (fun _ => ?_)
    · intro y0 y1 y2 y3
      unfold cotterelsame_Names.j1
      repeat' first
      | (with_reducible exact ih0 _ _ _)
      | (with_reducible exact ih1 _ _ _ _)
      | (with_reducible exact LeO.refl _)
      | (with_reducible exact LeO.none _)
      | (with_reducible refine LeO.ite ?_ ?_)
      | (with_reducible refine LeO.bind ?_ (fun _ => ?_))
      | exact ih0 _ _ _
      | exact ih1 _ _ _ _
      | exact LeO.none _
      | refine LeO.ite ?_ ?_
      | refine LeO.bind ?_ (fun _ => ?_)
theorem cotterelsame_Names.mono : ∀ a0 a1 k, LeO (cotterelsame_Names.f k a0 a1) (cotterelsame_Names.f (k + 1) a0 a1) := by
  intro a0 a1 k
  obtain ⟨ih0, ih1⟩ := cotterelsame_Names.mono_l k
  unfold cotterelsame_Names.f
  repeat' first
      | (with_reducible exact ih0 _ _ _)
      | (with_reducible exact ih1 _ _ _ _)
      | (with_reducible exact LeO.refl _)
      | (with_reducible exact LeO.none _)
      | (with_reducible refine LeO.ite ?_ ?_)
      | (with_reducible refine LeO.bind ?_ (fun _ => ?_))
      | exact ih0 _ _ _
      | exact ih1 _ _ _ _
      | exact LeO.none _
      | refine LeO.ite ?_ ?_
      | refine LeO.bind ?_ (fun _ => ?_)
set_option maxHeartbeats 8000000 in
set_option maxRecDepth 100000 in
theorem cotterelsame_Names.calls (k : Nat) (A0 : Option Addr) (c0 : Nat) (l0 : List (S61)) (A1 : Option Addr) (c1 : Nat) (l1 : List (S61)) (r : Bool) (w : World) (hr0 : Kd.C k61 w A0 l0.length l0) (hc0 : l0.length ≤ c0) (hr1 : Kd.C k61 w A1 l1.length l1) (hc1 : l1.length ≤ c1) (h : cotterelsame_Names.f k l0 l1 = some r) :
    Calls Try.prog 18 #[.slice A0 l0.length c0, .slice A1 l1.length c1] w fun e w' => e = .returned (.bool r) ∧ Drawn0 w w' := by
  have hu61 := Try.underlying61
  have HR0 := Aside0.mk hr0
  have HC0 := Aside0.mk hc0
  clear hr0 hc0
  have HR1 := Aside0.mk hr1
  have HC1 := Aside0.mk hc1
  clear hr1 hc1
  have H : (if (l0.length : Int) = (l1.length : Int) then (cotterelsame_Names.l0 k l0 l1 0) else (some false)) = some r := h
  clear h
  by_cases c3 : (l0.length : Int) = (l1.length : Int)
  · rw [if_pos c3] at H
    have c3b0 : ((l0.length : Int) == (l1.length : Int)) = true := beq_iff_eq.mpr c3
    have c3b1 : ((l0.length : Int) != (l1.length : Int)) = false := bne_eq_false_iff_eq.mpr c3
    have c3b2 : (l0.length == l1.length) = true := by first | simpa using c3 | (simp at c3 ⊢; omega)
    clear c3
    have H' := Aside0.mk H
    clear H
    go_enter Try.func18, Try.ntmps18
    go_wp2
    repeat (go_quiet (fail); try go_wp2)
    go_loopg [5] k (fun kq v5 w' => ∃ (x5_1 : Int), v5 = .int .i64 x5_1 ∧ Aside0 (cotterelsame_Names.l0 kq l0 l1 x5_1 = some r) ∧ Aside0 (kq ≤ k) ∧ Drawn0 w w')
    case atStart => exact ⟨(0), (by first | rfl | (simp; done) | (simp [*]; done)), H', ⟨Nat.le_refl _⟩, by repeat (first | exact Drawn0.refl _ | apply Drawn0.step)⟩
    case round =>
      clear H'
      try clear c1
      try clear p2
      try clear c3
      try clear c3b0
      try clear c3b1
      try clear c3b2
      obtain ⟨x5_1, rfl, HA, HK1, ⟨m1, rfl⟩⟩ := hrel
      cases gk with
      | zero => exact absurd HA.out (by simp [cotterelsame_Names.l0])
      | succ k1 =>
        have H := HA.out
        clear HA
        simp only [cotterelsame_Names.l0] at H
        have HC4 := Aside0.mk H
        clear H
        go_upto_region 4 with (fail)
        repeat (go_quiet (fail); go_upto_region 4 with (fail))
        go_cut [20] (fun v20 wc => ∃ (kq : Nat) (x20_3 : Bool), v20 = .bool x20_3 ∧ Aside0 (cotterelsame_Names.j1 kq l0 l1 x5_1 x20_3 = some r) ∧ Aside0 (kq ≤ k1) ∧ Drawn0 w wc)
        case first =>
          have H := HC4.out
          clear HC4
          by_cases c5 : x5_1 < (l0.length : Int)
          · rw [if_pos c5] at H
            have c5b0 : decide (x5_1 < (l0.length : Int)) = true := decide_eq_true c5
            clear c5
            (first | rw [c5b0] | (simp only [i64_w, i32_w, IntKind.wrap_u32]; rw [c5b0]) | skip)
            have H' := Aside0.mk H
            clear H
            go_wp2
            repeat (go_quiet (fail); try go_wp2)
            go_meet
            case rel => exact ⟨_, (decide (x5_1 < (l1.length : Int))), (by first | rfl | (simp; done) | (simp [*]; done)), H', ⟨by have := HK1.out; first | omega | exact Nat.le_refl _⟩, by repeat (first | exact Drawn0.refl _ | apply Drawn0.step)⟩
          · rw [if_neg c5] at H
            have c5b0 : decide (x5_1 < (l0.length : Int)) = false := decide_eq_false c5
            clear c5
            (first | rw [c5b0] | (simp only [i64_w, i32_w, IntKind.wrap_u32]; rw [c5b0]) | skip)
            have H' := Aside0.mk H
            clear H
            go_wp2
            repeat (go_quiet (fail); try go_wp2)
            go_meet
            case rel => exact ⟨_, (false), (by first | rfl | (simp; done) | (simp [*]; done)), H', ⟨by have := HK1.out; first | omega | exact Nat.le_refl _⟩, by repeat (first | exact Drawn0.refl _ | apply Drawn0.step)⟩
        case rest =>
          clear HC4
          try clear c1
          try clear p2
          try clear c3
          try clear c3b0
          try clear c3b1
          try clear c3b2
          try clear c5
          try clear c5b0
          try clear p2
          obtain ⟨kq, x20_3, rfl, HA, HJ3, ⟨mc3, rfl⟩⟩ := hcut
          cases kq with
          | zero => exact absurd HA.out (by simp [cotterelsame_Names.j1])
          | succ kj3 =>
            have H := HA.out
            clear HA
            simp only [cotterelsame_Names.j1] at H
            by_cases c6 : x20_3 = true
            · subst c6
              have H1 : (if 0 ≤ x5_1 then (if x5_1 < (l0.length : Int) then (if x5_1 < (l1.length : Int) then (if (!((((rd_T61 l0 x5_1).f0).toList) == (((rd_T61 l1 x5_1).f0).toList)) || (!(((rd_T61 l0 x5_1).f1) == ((rd_T61 l1 x5_1).f1)))) = true then (some false) else (cotterelsame_Names.l0 kj3 l0 l1 (wrap64 (x5_1 + 1)))) else (none)) else (none)) else (none)) = some r := by rw [if_pos rfl] at H; exact H
              clear H
              have H := H1
              clear H1
              by_cases c7 : 0 ≤ x5_1
              · rw [if_pos c7] at H
                have c7b0 : decide (0 ≤ x5_1) = true := decide_eq_true c7
                clear c7
                by_cases c8 : x5_1 < (l0.length : Int)
                · rw [if_pos c8] at H
                  have c8b0 : decide (x5_1 < (l0.length : Int)) = true := decide_eq_true c8
                  clear c8
                  by_cases c9 : x5_1 < (l1.length : Int)
                  · rw [if_pos c9] at H
                    have c9b0 : decide (x5_1 < (l1.length : Int)) = true := decide_eq_true c9
                    clear c9
                    by_cases c10 : (!((((rd_T61 l0 x5_1).f0).toList) == (((rd_T61 l1 x5_1).f0).toList)) || (!(((rd_T61 l0 x5_1).f1) == ((rd_T61 l1 x5_1).f1)))) = true
                    · rw [if_pos c10] at H
                      have c10b0 : (!((((rd_T61 l0 x5_1).f0).toList) == (((rd_T61 l1 x5_1).f0).toList)) || (!(((rd_T61 l0 x5_1).f1) == ((rd_T61 l1 x5_1).f1)))) = true := c10
                      clear c10
                      obtain rfl := Option.some.inj H
                      have p168 : 0 ≤ (x5_1 : Int) := of_decide_eq_true (by first | (with_reducible assumption) | assumption)
                      have q168 : x5_1 < (l0.length : Int) := of_decide_eq_true (by first | (with_reducible assumption) | assumption)
                      obtain ⟨ad168, e168, hx168_0, hx168_1⟩ := at_T61 HR0.out x5_1 p168 q168
                      cases e168
                      replace p168 := eq_true p168
                      replace q168 := eq_true q168
                      have p169 : 0 ≤ (x5_1 : Int) := of_decide_eq_true (by first | (with_reducible assumption) | assumption)
                      have q169 : x5_1 < (l1.length : Int) := of_decide_eq_true (by first | (with_reducible assumption) | assumption)
                      obtain ⟨ad169, e169, hx169_0, hx169_1⟩ := at_T61 HR1.out x5_1 p169 q169
                      cases e169
                      replace p169 := eq_true p169
                      replace q169 := eq_true q169
                      go_wp2
                      repeat (go_quiet (fail); try go_wp2)
                      go_ret
                      exact ⟨by first | rfl | (simp; done) | (simp [*]; done), by repeat (first | exact Drawn0.refl _ | apply Drawn0.step)⟩
                    · rw [if_neg c10] at H
                      have c10b0 : (!((((rd_T61 l0 x5_1).f0).toList) == (((rd_T61 l1 x5_1).f0).toList)) || (!(((rd_T61 l0 x5_1).f1) == ((rd_T61 l1 x5_1).f1)))) = false := by simpa using c10
                      clear c10
                      have H' := Aside0.mk H
                      clear H
                      have p168 : 0 ≤ (x5_1 : Int) := of_decide_eq_true (by first | (with_reducible assumption) | assumption)
                      have q168 : x5_1 < (l0.length : Int) := of_decide_eq_true (by first | (with_reducible assumption) | assumption)
                      obtain ⟨ad168, e168, hx168_0, hx168_1⟩ := at_T61 HR0.out x5_1 p168 q168
                      cases e168
                      replace p168 := eq_true p168
                      replace q168 := eq_true q168
                      have p169 : 0 ≤ (x5_1 : Int) := of_decide_eq_true (by first | (with_reducible assumption) | assumption)
                      have q169 : x5_1 < (l1.length : Int) := of_decide_eq_true (by first | (with_reducible assumption) | assumption)
                      obtain ⟨ad169, e169, hx169_0, hx169_1⟩ := at_T61 HR1.out x5_1 p169 q169
                      cases e169
                      replace p169 := eq_true p169
                      replace q169 := eq_true q169
                      go_wp2
                      repeat (go_quiet (fail); try go_wp2)
                      go_roundg kj3
                      case measure => have := HK1.out; have := HJ3.out; omega
                      case rel => exact ⟨(wrap64 (x5_1 + 1)), (by first | rfl | (simp; done) | (simp [*]; done)), H', ⟨by have := HK1.out; have := HJ3.out; omega⟩, by repeat (first | exact Drawn0.refl _ | apply Drawn0.step)⟩
                  · rw [if_neg c9] at H
                    exact absurd H (by simp)
                · rw [if_neg c8] at H
                  exact absurd H (by simp)
              · rw [if_neg c7] at H
                exact absurd H (by simp)
            · replace c6 := Bool.eq_false_iff.mpr c6
              subst c6
              have H1 : (some true) = some r := by rw [if_neg (show ¬ (false = true) by decide)] at H; exact H
              clear H
              have H := H1
              clear H1
              obtain rfl := Option.some.inj H
              go_wp2
              repeat (go_quiet (fail); try go_wp2)
              go_ret
              exact ⟨by first | rfl | (simp; done) | (simp [*]; done), by repeat (first | exact Drawn0.refl _ | apply Drawn0.step)⟩
  · rw [if_neg c3] at H
    have c3b0 : ((l0.length : Int) == (l1.length : Int)) = false := beq_eq_false_iff_ne.mpr c3
    have c3b1 : ((l0.length : Int) != (l1.length : Int)) = true := bne_iff_ne.mpr c3
    have c3b2 : (l0.length == l1.length) = false := by first | simpa using c3 | (simp at c3 ⊢; omega)
    obtain rfl := Option.some.inj H
    go_enter Try.func18, Try.ntmps18
    go_wp2
    repeat (go_quiet (fail); try go_wp2)
    go_ret
    exact ⟨by first | rfl | (simp; done) | (simp [*]; done), by repeat (first | exact Drawn0.refl _ | apply Drawn0.step)⟩

end Go.Proofs.Ytmkipjmadmjfaaa.PWalkMaps
