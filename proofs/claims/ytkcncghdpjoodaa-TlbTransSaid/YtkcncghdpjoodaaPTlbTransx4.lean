-- This session's own text: written by wip/tools/myprint.sh after the kit's printer.
import Derived.Test.YtkcncghdpjoodaaPTlbTransx0
import Derived.Test.YtkcncghdpjoodaaPTlbTransx2
import Derived.Test.YtkcncghdpjoodaaPTlbTransx3
namespace Go.Proofs.Ytkcncghdpjoodaa.PTlbTrans
open Go.RowKit Go.Proofs.YtkcncghdpjoodaaW.PrintWords Go.Proofs.YtkcncghdpjoodaaW.PrintLast Go.Proofs.YtkcncghdpjoodaaW.PrintMore
attribute [local go_sem] max2_int min2_int max_two min_two max_three min_three max_four min_four   -- for this text's walks alone
set_option linter.unusedVariables false
set_option linter.unusedSimpArgs false

/-! ### tlb_Trans: function 11 -/
def tlb_Trans.j0 : Nat → List (S53) → Int → Int → Int → Bool → Int → Int → Option (Int × Int × (List (S53)) × Int × Bool)
  | 0, _, _, _, _, _, _, _ => none
  | k + 1, x2, x3, x4, x5, x18, x145000, x145001 => (pte_Allows.f k x145000 x145001 x5 false).bind fun t158 => (if t158 = true then ((pte_Addr.f x145000 x145001 x4).bind fun t159 => (some (t159, 0, x2, x3, x18))) else ((walk_Fault.f x5).bind fun t160 => (some (0, t160, x2, x3, x18))))
def tlb_Trans.f (k : Nat) (a0_0 : Int) (a0_1 : Int) (a0_2 : Int) (a0_3 : Int) (a0_4 : Int) (a0_5 : Int) (a0_6 : Int) (a0_7 : Int) (a0_8 : Int) (a0_9 : Int) (a0_10 : Int) (a0_11 : Int) (a0_12 : Int) (a0_13 : Int) (a0_14 : Int) (a0_15 : Int) (a0_16 : Int) (a0_17 : Int) (a0_18 : Int) (a0_19 : Int) (a0_20 : Int) (a0_21 : Int) (a0_22 : Int) (a0_23 : Int) (a0_24 : Int) (a0_25 : Int) (a0_26 : Int) (a0_27 : Int) (a0_28 : Int) (a0_29 : Bool) (l1 : List Int) (l2 : List (S53)) (a3 : Int) (a4 : Int) (a5 : Int) : Option (Int × Int × (List (S53)) × Int × Bool) := (walk_Paged.f a0_0 a0_1 a0_2 a0_3 a0_4 a0_5 a0_6 a0_7 a0_8 a0_9 a0_10 a0_11 a0_12 a0_13 a0_14 a0_15 a0_16 a0_17 a0_18 a0_19 a0_20 a0_21 a0_22 a0_23 a0_24 a0_25 a0_26 a0_27 a0_28 a0_29).bind fun t140 => (if t140 = true then ((tlb_Find.f k l2 a4).bind fun bt141 => (if bt141.2.2 = true then (tlb_Trans.j0 k l2 a3 a4 a5 bt141.2.2 bt141.1 bt141.2.1) else ((walk_Walk.f k l1 a0_22 a4).bind fun bt145 => (if bt145.2.2.2 = true then (if (Go.bits .and .u32 bt145.1 1) = 0 then (tlb_Trans.j0 k l2 a3 a4 a5 bt141.2.2 bt145.1 bt145.2.1) else ((pte_Leaf.f bt145.1 bt145.2.1).bind fun t153 => (if t153 = true then ((tlb_Put.f k l2 a3 a4 bt145.1 bt145.2.1).bind fun bt154 => (tlb_Trans.j0 k bt154.1 bt154.2 a4 a5 bt141.2.2 bt145.1 bt145.2.1)) else (tlb_Trans.j0 k l2 a3 a4 a5 bt141.2.2 bt145.1 bt145.2.1)))) else ((walk_Fault.f a5).bind fun t152 => (some (0, t152, l2, a3, false))))))) else (some (a4, 0, l2, a3, true)))
theorem tlb_Trans.mono_l : ∀ k, (∀ y0 y1 y2 y3 y4 y5 y6, LeO (tlb_Trans.j0 k y0 y1 y2 y3 y4 y5 y6) (tlb_Trans.j0 (k + 1) y0 y1 y2 y3 y4 y5 y6))
  | 0 => fun _ _ _ _ _ _ _ r h => by simp [tlb_Trans.j0] at h
  | k + 1 => by
    have ih0 := tlb_Trans.mono_l k
    · intro y0 y1 y2 y3 y4 y5 y6
      unfold tlb_Trans.j0
      repeat' first
      | (with_reducible exact ih0 _ _ _ _ _ _ _)
      | (with_reducible exact pte_Allows.mono _ _ _ _ _)
      | (with_reducible exact tlb_Find.mono _ _ _)
      | (with_reducible exact tlb_Put.mono _ _ _ _ _ _)
      | (with_reducible exact walk_Walk.mono _ _ _ _)
      | (with_reducible exact LeO.refl _)
      | (with_reducible exact LeO.none _)
      | (with_reducible refine LeO.ite ?_ ?_)
      | (with_reducible refine LeO.bind ?_ (fun _ => ?_))
      | exact ih0 _ _ _ _ _ _ _
      | exact pte_Allows.mono _ _ _ _ _
      | exact tlb_Find.mono _ _ _
      | exact tlb_Put.mono _ _ _ _ _ _
      | exact walk_Walk.mono _ _ _ _
      | exact LeO.none _
      | refine LeO.ite ?_ ?_
      | refine LeO.bind ?_ (fun _ => ?_)
theorem tlb_Trans.mono : ∀ a0 a1 a2 a3 a4 a5 a6 a7 a8 a9 a10 a11 a12 a13 a14 a15 a16 a17 a18 a19 a20 a21 a22 a23 a24 a25 a26 a27 a28 a29 a30 a31 a32 a33 a34 k, LeO (tlb_Trans.f k a0 a1 a2 a3 a4 a5 a6 a7 a8 a9 a10 a11 a12 a13 a14 a15 a16 a17 a18 a19 a20 a21 a22 a23 a24 a25 a26 a27 a28 a29 a30 a31 a32 a33 a34) (tlb_Trans.f (k + 1) a0 a1 a2 a3 a4 a5 a6 a7 a8 a9 a10 a11 a12 a13 a14 a15 a16 a17 a18 a19 a20 a21 a22 a23 a24 a25 a26 a27 a28 a29 a30 a31 a32 a33 a34) := by
  intro a0 a1 a2 a3 a4 a5 a6 a7 a8 a9 a10 a11 a12 a13 a14 a15 a16 a17 a18 a19 a20 a21 a22 a23 a24 a25 a26 a27 a28 a29 a30 a31 a32 a33 a34 k
  have ih0 := tlb_Trans.mono_l k
  unfold tlb_Trans.f
  repeat' first
      | (with_reducible exact ih0 _ _ _ _ _ _ _)
      | (with_reducible exact pte_Allows.mono _ _ _ _ _)
      | (with_reducible exact tlb_Find.mono _ _ _)
      | (with_reducible exact tlb_Put.mono _ _ _ _ _ _)
      | (with_reducible exact walk_Walk.mono _ _ _ _)
      | (with_reducible exact LeO.refl _)
      | (with_reducible exact LeO.none _)
      | (with_reducible refine LeO.ite ?_ ?_)
      | (with_reducible refine LeO.bind ?_ (fun _ => ?_))
      | exact ih0 _ _ _ _ _ _ _
      | exact pte_Allows.mono _ _ _ _ _
      | exact tlb_Find.mono _ _ _
      | exact tlb_Put.mono _ _ _ _ _ _
      | exact walk_Walk.mono _ _ _ _
      | exact LeO.none _
      | refine LeO.ite ?_ ?_
      | refine LeO.bind ?_ (fun _ => ?_)
set_option maxHeartbeats 8000000 in
set_option maxRecDepth 100000 in
theorem tlb_Trans.calls (k : Nat) (a0_0 : Int) (a0_1 : Int) (a0_2 : Int) (a0_3 : Int) (a0_4 : Int) (a0_5 : Int) (a0_6 : Int) (a0_7 : Int) (a0_8 : Int) (a0_9 : Int) (a0_10 : Int) (a0_11 : Int) (a0_12 : Int) (a0_13 : Int) (a0_14 : Int) (a0_15 : Int) (a0_16 : Int) (a0_17 : Int) (a0_18 : Int) (a0_19 : Int) (a0_20 : Int) (a0_21 : Int) (a0_22 : Int) (a0_23 : Int) (a0_24 : Int) (a0_25 : Int) (a0_26 : Int) (a0_27 : Int) (a0_28 : Int) (a0_29 : Bool) (A1 : Option Addr) (c1 : Nat) (l1 : List Int) (P2_ : Nat → Prop) (A2 : Option Addr) (c2 : Nat) (l2 : List (S53)) (a3 : Int) (a4 : Int) (a5 : Int) (r1 : Int) (r2 : Int) (r3 : List (S53)) (r4 : Int) (r5 : Bool) (w : World) (hr1 : Kd.C (Kd.int .u8) w A1 l1.length l1) (hc1 : l1.length ≤ c1) (hs2 : Kd.V k53 53 w w.heap.size (fun k_ => P2_ k_) (.slice A2 l2.length c2) l2) (h : tlb_Trans.f k a0_0 a0_1 a0_2 a0_3 a0_4 a0_5 a0_6 a0_7 a0_8 a0_9 a0_10 a0_11 a0_12 a0_13 a0_14 a0_15 a0_16 a0_17 a0_18 a0_19 a0_20 a0_21 a0_22 a0_23 a0_24 a0_25 a0_26 a0_27 a0_28 a0_29 l1 l2 a3 a4 a5 = some (r1, r2, r3, r4, r5)) :
    Calls Try.prog 11 #[.agg #[.int .u32 a0_0, .int .u32 a0_1, .int .u32 a0_2, .int .u32 a0_3, .int .u32 a0_4, .int .u32 a0_5, .int .u32 a0_6, .int .u32 a0_7, .int .u32 a0_8, .int .u32 a0_9, .int .u32 a0_10, .int .u32 a0_11, .int .u32 a0_12, .int .u32 a0_13, .int .u32 a0_14, .int .u32 a0_15, .int .u32 a0_16, .int .u32 a0_17, .int .u32 a0_18, .int .u32 a0_19, .int .u32 a0_20, .int .u32 a0_21, .int .u32 a0_22, .int .u32 a0_23, .int .u32 a0_24, .int .u32 a0_25, .int .u32 a0_26, .int .u32 a0_27, .int .u32 a0_28, .bool a0_29], .slice A1 l1.length c1, .slice A2 l2.length c2, .int .i64 a3, .int .u32 a4, .int .i64 a5] w fun e w' => ∃ v2_ : Value, e = .returned (.tuple #[.int .u32 r1, .int .i64 r2, v2_, .int .i64 r4, .bool r5]) ∧ Kd.V k53 53 w' w.heap.size (fun k_ => (P2_ k_ ∨ w.heap.size ≤ k_)) v2_ r3 ∧ Below w.heap.size w w' := by
  have hu36 := Try.underlying36
  have hu27 := Try.underlying27
  have HR1 := Aside0.mk hr1
  have HC1 := Aside0.mk hc1
  clear hr1 hc1
  have HO2 := Aside0.mk (show Kd.V k53 53 w w.heap.size (fun k_ => (P2_ k_ ∨ w.heap.size ≤ k_)) (.slice A2 l2.length c2) l2 from Kd.V_mono hs2 (fun k_ hk => .inl hk))
  have HB := Aside0.mk (Below.refl w.heap.size w)
  have H : ((walk_Paged.f a0_0 a0_1 a0_2 a0_3 a0_4 a0_5 a0_6 a0_7 a0_8 a0_9 a0_10 a0_11 a0_12 a0_13 a0_14 a0_15 a0_16 a0_17 a0_18 a0_19 a0_20 a0_21 a0_22 a0_23 a0_24 a0_25 a0_26 a0_27 a0_28 a0_29).bind fun t140 => (if t140 = true then ((tlb_Find.f k l2 a4).bind fun bt141 => (if bt141.2.2 = true then (tlb_Trans.j0 k l2 a3 a4 a5 bt141.2.2 bt141.1 bt141.2.1) else ((walk_Walk.f k l1 a0_22 a4).bind fun bt145 => (if bt145.2.2.2 = true then (if (Go.bits .and .u32 bt145.1 1) = 0 then (tlb_Trans.j0 k l2 a3 a4 a5 bt141.2.2 bt145.1 bt145.2.1) else ((pte_Leaf.f bt145.1 bt145.2.1).bind fun t153 => (if t153 = true then ((tlb_Put.f k l2 a3 a4 bt145.1 bt145.2.1).bind fun bt154 => (tlb_Trans.j0 k bt154.1 bt154.2 a4 a5 bt141.2.2 bt145.1 bt145.2.1)) else (tlb_Trans.j0 k l2 a3 a4 a5 bt141.2.2 bt145.1 bt145.2.1)))) else ((walk_Fault.f a5).bind fun t152 => (some (0, t152, l2, a3, false))))))) else (some (a4, 0, l2, a3, true)))) = some (r1, r2, r3, r4, r5) := h
  clear h
  replace H := Option.bind_eq_some_iff.mp H
  obtain ⟨t140, A70, H⟩ := H
  replace H : (if t140 = true then ((tlb_Find.f k l2 a4).bind fun bt141 => (if bt141.2.2 = true then (tlb_Trans.j0 k l2 a3 a4 a5 bt141.2.2 bt141.1 bt141.2.1) else ((walk_Walk.f k l1 a0_22 a4).bind fun bt145 => (if bt145.2.2.2 = true then (if (Go.bits .and .u32 bt145.1 1) = 0 then (tlb_Trans.j0 k l2 a3 a4 a5 bt141.2.2 bt145.1 bt145.2.1) else ((pte_Leaf.f bt145.1 bt145.2.1).bind fun t153 => (if t153 = true then ((tlb_Put.f k l2 a3 a4 bt145.1 bt145.2.1).bind fun bt154 => (tlb_Trans.j0 k bt154.1 bt154.2 a4 a5 bt141.2.2 bt145.1 bt145.2.1)) else (tlb_Trans.j0 k l2 a3 a4 a5 bt141.2.2 bt145.1 bt145.2.1)))) else ((walk_Fault.f a5).bind fun t152 => (some (0, t152, l2, a3, false))))))) else (some (a4, 0, l2, a3, true))) = some (r1, r2, r3, r4, r5) := H
  have A7 := Aside0.mk A70
  clear A70
  by_cases c8 : t140 = true
  · subst c8
    have H1 : ((tlb_Find.f k l2 a4).bind fun bt141 => (if bt141.2.2 = true then (tlb_Trans.j0 k l2 a3 a4 a5 bt141.2.2 bt141.1 bt141.2.1) else ((walk_Walk.f k l1 a0_22 a4).bind fun bt145 => (if bt145.2.2.2 = true then (if (Go.bits .and .u32 bt145.1 1) = 0 then (tlb_Trans.j0 k l2 a3 a4 a5 bt141.2.2 bt145.1 bt145.2.1) else ((pte_Leaf.f bt145.1 bt145.2.1).bind fun t153 => (if t153 = true then ((tlb_Put.f k l2 a3 a4 bt145.1 bt145.2.1).bind fun bt154 => (tlb_Trans.j0 k bt154.1 bt154.2 a4 a5 bt141.2.2 bt145.1 bt145.2.1)) else (tlb_Trans.j0 k l2 a3 a4 a5 bt141.2.2 bt145.1 bt145.2.1)))) else ((walk_Fault.f a5).bind fun t152 => (some (0, t152, l2, a3, false))))))) = some (r1, r2, r3, r4, r5) := by rw [if_pos rfl] at H; exact H
    clear H
    have H := H1
    clear H1
    replace H := Option.bind_eq_some_iff.mp H
    obtain ⟨⟨t141, t142, t143⟩, A90, H⟩ := H
    replace H : (if t143 = true then (tlb_Trans.j0 k l2 a3 a4 a5 t143 t141 t142) else ((walk_Walk.f k l1 a0_22 a4).bind fun bt145 => (if bt145.2.2.2 = true then (if (Go.bits .and .u32 bt145.1 1) = 0 then (tlb_Trans.j0 k l2 a3 a4 a5 t143 bt145.1 bt145.2.1) else ((pte_Leaf.f bt145.1 bt145.2.1).bind fun t153 => (if t153 = true then ((tlb_Put.f k l2 a3 a4 bt145.1 bt145.2.1).bind fun bt154 => (tlb_Trans.j0 k bt154.1 bt154.2 a4 a5 t143 bt145.1 bt145.2.1)) else (tlb_Trans.j0 k l2 a3 a4 a5 t143 bt145.1 bt145.2.1)))) else ((walk_Fault.f a5).bind fun t152 => (some (0, t152, l2, a3, false)))))) = some (r1, r2, r3, r4, r5) := H
    have A9 := Aside0.mk A90
    clear A90
    have HC10 := Aside0.mk H
    clear H
    go_enter Try.func11, Try.ntmps11
    go_upto_if 35 with (first | ((with_reducible refine gate_dst (N := 22) rfl ?_); refine Go.Proofs.Ytkcncghdpjoodaa.Cp.load_whole 36 (.tmp 6) gb139 rfl rfl rfl (by (with_reducible repeat (first | refine blk_drewN ?_ _ | refine blk_drew ?_ | refine blk_alloc ?_ _)); exact BK139.out) Try.underlying36 rfl (by kernel_rfl) ?_) | ((with_reducible refine gate_dst (N := 6) rfl ?_); refine box_event ?hg (N := 6) ?hd (cs := #[.int .u32 a0_0, .int .u32 a0_1, .int .u32 a0_2, .int .u32 a0_3, .int .u32 a0_4, .int .u32 a0_5, .int .u32 a0_6, .int .u32 a0_7, .int .u32 a0_8, .int .u32 a0_9, .int .u32 a0_10, .int .u32 a0_11, .int .u32 a0_12, .int .u32 a0_13, .int .u32 a0_14, .int .u32 a0_15, .int .u32 a0_16, .int .u32 a0_17, .int .u32 a0_18, .int .u32 a0_19, .int .u32 a0_20, .int .u32 a0_21, .int .u32 a0_22, .int .u32 a0_23, .int .u32 a0_24, .int .u32 a0_25, .int .u32 a0_26, .int .u32 a0_27, .int .u32 a0_28, .bool a0_29]) (t := 36) ?hr ?_; (case hd => rfl); (case hg => rfl); (case hr => first | (go_simp; done) | (go_simp; rfl)); intro gb139 hg w11 hbox hb; have n0_ := Aside0.mk (Kd.V_below (Kd.V_elderB (by (with_reducible repeat (first | apply Kd.V_alloc | apply Kd.V_drewN | apply Kd.V_drew)); exact HO2.out) gb139 (Nat.le_of_eq hg.symm)) hb); have n1_ := Aside0.mk (below_step (by repeat (first | (with_reducible first | exact HB.out | apply below_alloc | apply pw_below_drewN | apply below_drew1) | exact HB.out)) hb); have n2_ := Aside0.mk (hbox); have n3_ := Aside0.mk ((by rw [hg]; exact (below_size (by repeat (first | (with_reducible first | exact HB.out | apply below_alloc | apply pw_below_drewN | apply below_drew1) | exact HB.out))) : w.heap.size ≤ gb139)); have n4_ := Aside0.mk ((by rw [hg]; exact (below_size (by repeat (first | (with_reducible first | exact HB.out | apply below_alloc | apply pw_below_drewN | apply below_drew1) | exact HB.out))) : w.heap.size ≤ gb139)); clear HO2; clear HB; have HO2 := n0_; have HB := n1_; have BK139 := n2_; have GW139 := n3_; have GE139 := n4_; clear n0_ n1_ n2_ n3_ n4_; clear hb hbox hg; have hcz12_17 : w11.cell? ⟨gb139, 17, none⟩ = some (.int .u32 a0_17) := (blk_cell BK139.out 17).trans rfl; have hcz12_22 : w11.cell? ⟨gb139, 22, none⟩ = some (.int .u32 a0_22) := (blk_cell BK139.out 22).trans rfl) | ((with_reducible refine gate_callee (f := 24) rfl ?_); refine goesL_ (some 23) rfl rfl Try.func24 (by kernel_rfl) rfl #[.agg #[.int .u32 a0_0, .int .u32 a0_1, .int .u32 a0_2, .int .u32 a0_3, .int .u32 a0_4, .int .u32 a0_5, .int .u32 a0_6, .int .u32 a0_7, .int .u32 a0_8, .int .u32 a0_9, .int .u32 a0_10, .int .u32 a0_11, .int .u32 a0_12, .int .u32 a0_13, .int .u32 a0_14, .int .u32 a0_15, .int .u32 a0_16, .int .u32 a0_17, .int .u32 a0_18, .int .u32 a0_19, .int .u32 a0_20, .int .u32 a0_21, .int .u32 a0_22, .int .u32 a0_23, .int .u32 a0_24, .int .u32 a0_25, .int .u32 a0_26, .int .u32 a0_27, .int .u32 a0_28, .bool a0_29]] rfl (by (try simp only [List.map_toArray, List.map_cons, List.map_nil]); first | done | rfl | (simp only [List.length_drop, List.length_take]; rfl)) ?_; (with_reducible refine (walk_Paged.calls a0_0 a0_1 a0_2 a0_3 a0_4 a0_5 a0_6 a0_7 a0_8 a0_9 a0_10 a0_11 a0_12 a0_13 a0_14 a0_15 a0_16 a0_17 a0_18 a0_19 a0_20 a0_21 a0_22 a0_23 a0_24 a0_25 a0_26 a0_27 a0_28 a0_29 true _ A7.out).mono ?_); rintro e w13 ⟨rfl, hb⟩; refine ⟨_, rfl, ?_⟩; have n0_ := Aside0.mk (Kd.V_below (by (with_reducible repeat (first | apply Kd.V_alloc | apply Kd.V_drewN | apply Kd.V_drew)); exact HO2.out) hb); have n1_ := Aside0.mk (blk_below (g := gb139) (o := .cells #[.int .u32 a0_0, .int .u32 a0_1, .int .u32 a0_2, .int .u32 a0_3, .int .u32 a0_4, .int .u32 a0_5, .int .u32 a0_6, .int .u32 a0_7, .int .u32 a0_8, .int .u32 a0_9, .int .u32 a0_10, .int .u32 a0_11, .int .u32 a0_12, .int .u32 a0_13, .int .u32 a0_14, .int .u32 a0_15, .int .u32 a0_16, .int .u32 a0_17, .int .u32 a0_18, .int .u32 a0_19, .int .u32 a0_20, .int .u32 a0_21, .int .u32 a0_22, .int .u32 a0_23, .int .u32 a0_24, .int .u32 a0_25, .int .u32 a0_26, .int .u32 a0_27, .int .u32 a0_28, .bool a0_29] 36 (0, 0)) (by (with_reducible repeat (first | refine blk_drewN ?_ _ | refine blk_drew ?_ | refine blk_alloc ?_ _)); exact BK139.out) hb); have n2_ := Aside0.mk (below_step (by repeat (first | (with_reducible first | exact HB.out | apply below_alloc | apply pw_below_drewN | apply below_drew1 | refine below_set ?_ GE139.out) | exact HB.out)) hb); clear HO2; clear BK139; clear HB; have HO2 := n0_; have BK139 := n1_; have HB := n2_; clear n0_ n1_ n2_; (try clear hb); (try clear hb2); (try clear hk); (try clear hi)) | ((with_reducible refine gate_callee (f := 13) rfl ?_); refine goesL_ (some 31) rfl rfl Try.func13 (by kernel_rfl) rfl #[.slice A2 l2.length c2, .int .u32 a4] rfl (by (try simp only [List.map_toArray, List.map_cons, List.map_nil]); first | done | rfl | (simp only [List.length_drop, List.length_take]; rfl)) ?_; (with_reducible refine (tlb_Find.calls k _ _ l2 a4 t141 t142 t143 _ ?side1 ?side2 A9.out).mono ?_); (case side1 => repeat (first | exact (Kd.V_reads' HO2.out).2.2 | (with_reducible refine Kd.C_alloc ?_ _) | (with_reducible refine Kd.C_drewN ?_ _) | (with_reducible refine Kd.C_drew ?_))); (case side2 => exact (Kd.V_reads' HO2.out).2.1); rintro e w14 ⟨rfl, hb⟩; refine ⟨_, rfl, ?_⟩; have n0_ := Aside0.mk (Kd.V_below (by (with_reducible repeat (first | apply Kd.V_alloc | apply Kd.V_drewN | apply Kd.V_drew)); exact HO2.out) hb); have n1_ := Aside0.mk (blk_below (g := gb139) (o := .cells #[.int .u32 a0_0, .int .u32 a0_1, .int .u32 a0_2, .int .u32 a0_3, .int .u32 a0_4, .int .u32 a0_5, .int .u32 a0_6, .int .u32 a0_7, .int .u32 a0_8, .int .u32 a0_9, .int .u32 a0_10, .int .u32 a0_11, .int .u32 a0_12, .int .u32 a0_13, .int .u32 a0_14, .int .u32 a0_15, .int .u32 a0_16, .int .u32 a0_17, .int .u32 a0_18, .int .u32 a0_19, .int .u32 a0_20, .int .u32 a0_21, .int .u32 a0_22, .int .u32 a0_23, .int .u32 a0_24, .int .u32 a0_25, .int .u32 a0_26, .int .u32 a0_27, .int .u32 a0_28, .bool a0_29] 36 (0, 0)) (by (with_reducible repeat (first | refine blk_drewN ?_ _ | refine blk_drew ?_ | refine blk_alloc ?_ _)); exact BK139.out) hb); have n2_ := Aside0.mk (below_step (by repeat (first | (with_reducible first | exact HB.out | apply below_alloc | apply pw_below_drewN | apply below_drew1 | refine below_set ?_ GE139.out) | exact HB.out)) hb); clear HO2; clear BK139; clear HB; have HO2 := n0_; have BK139 := n1_; have HB := n2_; clear n0_ n1_ n2_; (try clear hb); (try clear hb2); (try clear hk); (try clear hi)) | ((with_reducible refine gate_dst (N := 17) rfl ?_); refine box_event ?hg (N := 17) ?hd (cs := #[.int .u32 0, .int .i64 0]) (t := 27) ?hr ?_; (case hd => rfl); (case hg => rfl); (case hr => first | (go_simp; done) | (go_simp; rfl)); intro gb144 hg w15 hbox hb; have n0_ := Aside0.mk (Kd.V_below (Kd.V_elderB (by (with_reducible repeat (first | apply Kd.V_alloc | apply Kd.V_drewN | apply Kd.V_drew)); exact HO2.out) gb144 (Nat.le_of_eq hg.symm)) hb); have n1_ := Aside0.mk (blk_below (g := gb139) (o := .cells #[.int .u32 a0_0, .int .u32 a0_1, .int .u32 a0_2, .int .u32 a0_3, .int .u32 a0_4, .int .u32 a0_5, .int .u32 a0_6, .int .u32 a0_7, .int .u32 a0_8, .int .u32 a0_9, .int .u32 a0_10, .int .u32 a0_11, .int .u32 a0_12, .int .u32 a0_13, .int .u32 a0_14, .int .u32 a0_15, .int .u32 a0_16, .int .u32 a0_17, .int .u32 a0_18, .int .u32 a0_19, .int .u32 a0_20, .int .u32 a0_21, .int .u32 a0_22, .int .u32 a0_23, .int .u32 a0_24, .int .u32 a0_25, .int .u32 a0_26, .int .u32 a0_27, .int .u32 a0_28, .bool a0_29] 36 (0, 0)) (by (with_reducible repeat (first | refine blk_drewN ?_ _ | refine blk_drew ?_ | refine blk_alloc ?_ _)); exact BK139.out) hb); have n2_ := Aside0.mk (below_step (by repeat (first | (with_reducible first | exact HB.out | apply below_alloc | apply pw_below_drewN | apply below_drew1 | refine below_set ?_ GE139.out) | exact HB.out)) hb); have n3_ := Aside0.mk (hbox); have n4_ := Aside0.mk ((by rw [hg]; exact (below_size (by repeat (first | (with_reducible first | exact HB.out | apply below_alloc | apply pw_below_drewN | apply below_drew1 | refine below_set ?_ GE139.out) | exact HB.out))) : w.heap.size ≤ gb144)); have n5_ := Aside0.mk ((by rw [hg]; exact (below_size (by repeat (first | (with_reducible first | exact HB.out | apply below_alloc | apply pw_below_drewN | apply below_drew1 | refine below_set ?_ GE139.out) | exact HB.out))) : w.heap.size ≤ gb144)); have n6_ := Aside0.mk ((by rw [hg]; exact Nat.ne_of_lt (blk_lt (g := gb139) (o := .cells #[.int .u32 a0_0, .int .u32 a0_1, .int .u32 a0_2, .int .u32 a0_3, .int .u32 a0_4, .int .u32 a0_5, .int .u32 a0_6, .int .u32 a0_7, .int .u32 a0_8, .int .u32 a0_9, .int .u32 a0_10, .int .u32 a0_11, .int .u32 a0_12, .int .u32 a0_13, .int .u32 a0_14, .int .u32 a0_15, .int .u32 a0_16, .int .u32 a0_17, .int .u32 a0_18, .int .u32 a0_19, .int .u32 a0_20, .int .u32 a0_21, .int .u32 a0_22, .int .u32 a0_23, .int .u32 a0_24, .int .u32 a0_25, .int .u32 a0_26, .int .u32 a0_27, .int .u32 a0_28, .bool a0_29] 36 (0, 0)) (by (with_reducible repeat (first | refine blk_drewN ?_ _ | refine blk_drew ?_ | refine blk_alloc ?_ _)); exact BK139.out)) : gb139 ≠ gb144)); have n7_ := Aside0.mk ((by rw [hg]; exact Nat.ne_of_gt (blk_lt (g := gb139) (o := .cells #[.int .u32 a0_0, .int .u32 a0_1, .int .u32 a0_2, .int .u32 a0_3, .int .u32 a0_4, .int .u32 a0_5, .int .u32 a0_6, .int .u32 a0_7, .int .u32 a0_8, .int .u32 a0_9, .int .u32 a0_10, .int .u32 a0_11, .int .u32 a0_12, .int .u32 a0_13, .int .u32 a0_14, .int .u32 a0_15, .int .u32 a0_16, .int .u32 a0_17, .int .u32 a0_18, .int .u32 a0_19, .int .u32 a0_20, .int .u32 a0_21, .int .u32 a0_22, .int .u32 a0_23, .int .u32 a0_24, .int .u32 a0_25, .int .u32 a0_26, .int .u32 a0_27, .int .u32 a0_28, .bool a0_29] 36 (0, 0)) (by (with_reducible repeat (first | refine blk_drewN ?_ _ | refine blk_drew ?_ | refine blk_alloc ?_ _)); exact BK139.out)) : gb144 ≠ gb139)); clear HO2; clear BK139; clear HB; have HO2 := n0_; have BK139 := n1_; have HB := n2_; have BK144 := n3_; have GW144 := n4_; have GE144 := n5_; have NB139_144 := n6_; have NB144_139 := n7_; clear n0_ n1_ n2_ n3_ n4_ n5_ n6_ n7_; clear hb hbox hg; have hnb16 := NB144_139.out; have hnc16 := NB139_144.out; have hcz17_0 : w15.cell? ⟨gb144, 0, none⟩ = some (.int .u32 0) := (blk_cell BK144.out 0).trans rfl; have hcz17_1 : w15.cell? ⟨gb144, 1, none⟩ = some (.int .i64 0) := (blk_cell BK144.out 1).trans rfl; have hfz17_0 := blk_frozen BK144.out 0; have hfz17_1 := blk_frozen BK144.out 1))
    (try simp only [Act.put, List.setIfInBounds_toArray, List.set_cons_zero, List.set_cons_succ])
    go_cut [2, 3] (fun v2 v3 wc => ∃ (kq : Nat) (x2_9 : List (S53)) (x3_9 : Int) (x145000_9 : Int) (x145001_9 : Int), v3 = .int .i64 x3_9 ∧ Aside0 (tlb_Trans.j0 kq x2_9 x3_9 a4 a5 t143 x145000_9 x145001_9 = some (r1, r2, r3, r4, r5)) ∧ Aside0 (kq ≤ k) ∧ Aside0 (Kd.V k53 53 wc w.heap.size (fun k_ => (P2_ k_ ∨ w.heap.size ≤ k_) ∧ k_ ≠ gb139 ∧ k_ ≠ gb144) v2 x2_9) ∧ Aside0 (wc.heap[gb139]? = some (.cells #[.int .u32 a0_0, .int .u32 a0_1, .int .u32 a0_2, .int .u32 a0_3, .int .u32 a0_4, .int .u32 a0_5, .int .u32 a0_6, .int .u32 a0_7, .int .u32 a0_8, .int .u32 a0_9, .int .u32 a0_10, .int .u32 a0_11, .int .u32 a0_12, .int .u32 a0_13, .int .u32 a0_14, .int .u32 a0_15, .int .u32 a0_16, .int .u32 a0_17, .int .u32 a0_18, .int .u32 a0_19, .int .u32 a0_20, .int .u32 a0_21, .int .u32 a0_22, .int .u32 a0_23, .int .u32 a0_24, .int .u32 a0_25, .int .u32 a0_26, .int .u32 a0_27, .int .u32 a0_28, .bool a0_29] 36 (0, 0))) ∧ Aside0 (wc.heap[gb144]? = some (.cells #[.int .u32 x145000_9, .int .i64 x145001_9] 27 (0, 0))) ∧ Aside0 (Below w.heap.size w wc))
    case first =>
      have H := HC10.out
      clear HC10
      by_cases c18 : t143 = true
      · subst c18
        have H1 : (tlb_Trans.j0 k l2 a3 a4 a5 true t141 t142) = some (r1, r2, r3, r4, r5) := by rw [if_pos rfl] at H; exact H
        clear H
        have H := H1
        clear H1
        have H' := Aside0.mk H
        clear H
        go_wp2
        go_meet
        case rel => exact ⟨_, (l2), (a3), (t141), (t142), (by first | rfl | (simp; done) | (simp [*]; done)), H', ⟨by first | omega | exact Nat.le_refl _⟩, ⟨by (with_reducible repeat (first | apply Kd.V_alloc | apply Kd.V_drewN | apply Kd.V_drew)); exact Kd.V_mono (Kd.V_far (p := ⟨gb144, 1, none⟩) (Kd.V_far (p := ⟨gb144, 0, none⟩) (Kd.V_mono HO2.out (fun k_ hk => (⟨hk, hk.2⟩ : _ ∧ k_ ≠ gb144))) (fun _ hk => hk.2) (.int .u32 t141)) (fun _ hk => hk.2) (.int .i64 t142)) (fun _ hk => ⟨hk.1.1.1, ⟨hk.1.1.2, hk.1.2⟩⟩)⟩, ⟨by (with_reducible repeat (first | refine blk_drewN ?_ _ | refine blk_drew ?_ | refine blk_alloc ?_ _)); refine blk_far ?_ NB139_144.out _; (with_reducible repeat (first | refine blk_drewN ?_ _ | refine blk_drew ?_ | refine blk_alloc ?_ _)); refine blk_far ?_ NB139_144.out _; (with_reducible repeat (first | refine blk_drewN ?_ _ | refine blk_drew ?_ | refine blk_alloc ?_ _)); exact BK139.out⟩, ⟨by (with_reducible repeat (first | refine blk_drewN ?_ _ | refine blk_drew ?_ | refine blk_alloc ?_ _)); refine blk_put (cs := #[.int .u32 t141, .int .i64 0]) ?_ 1 _ (by first | rfl | (simp [Int.emod_emod_of_dvd]; done)); (with_reducible repeat (first | refine blk_drewN ?_ _ | refine blk_drew ?_ | refine blk_alloc ?_ _)); refine blk_put (cs := #[.int .u32 0, .int .i64 0]) ?_ 0 _ (by first | rfl | (simp [Int.emod_emod_of_dvd]; done)); (with_reducible repeat (first | refine blk_drewN ?_ _ | refine blk_drew ?_ | refine blk_alloc ?_ _)); exact BK144.out⟩, ⟨by repeat (first | (with_reducible first | exact HB.out | apply below_alloc | apply pw_below_drewN | apply below_drew1 | refine below_set ?_ GE139.out | refine below_set ?_ GE144.out) | exact HB.out)⟩⟩
      · replace c18 := Bool.eq_false_iff.mpr c18
        subst c18
        have H1 : ((walk_Walk.f k l1 a0_22 a4).bind fun bt145 => (if bt145.2.2.2 = true then (if (Go.bits .and .u32 bt145.1 1) = 0 then (tlb_Trans.j0 k l2 a3 a4 a5 false bt145.1 bt145.2.1) else ((pte_Leaf.f bt145.1 bt145.2.1).bind fun t153 => (if t153 = true then ((tlb_Put.f k l2 a3 a4 bt145.1 bt145.2.1).bind fun bt154 => (tlb_Trans.j0 k bt154.1 bt154.2 a4 a5 false bt145.1 bt145.2.1)) else (tlb_Trans.j0 k l2 a3 a4 a5 false bt145.1 bt145.2.1)))) else ((walk_Fault.f a5).bind fun t152 => (some (0, t152, l2, a3, false))))) = some (r1, r2, r3, r4, r5) := by rw [if_neg (show ¬ (false = true) by decide)] at H; exact H
        clear H
        have H := H1
        clear H1
        replace H := Option.bind_eq_some_iff.mp H
        obtain ⟨⟨t145, t146, t147, t150⟩, A190, H⟩ := H
        replace H : (if t150 = true then (if (Go.bits .and .u32 t145 1) = 0 then (tlb_Trans.j0 k l2 a3 a4 a5 false t145 t146) else ((pte_Leaf.f t145 t146).bind fun t153 => (if t153 = true then ((tlb_Put.f k l2 a3 a4 t145 t146).bind fun bt154 => (tlb_Trans.j0 k bt154.1 bt154.2 a4 a5 false t145 t146)) else (tlb_Trans.j0 k l2 a3 a4 a5 false t145 t146)))) else ((walk_Fault.f a5).bind fun t152 => (some (0, t152, l2, a3, false)))) = some (r1, r2, r3, r4, r5) := H
        have A19 := Aside0.mk A190
        clear A190
        by_cases c20 : t150 = true
        · subst c20
          have H1 : (if (Go.bits .and .u32 t145 1) = 0 then (tlb_Trans.j0 k l2 a3 a4 a5 false t145 t146) else ((pte_Leaf.f t145 t146).bind fun t153 => (if t153 = true then ((tlb_Put.f k l2 a3 a4 t145 t146).bind fun bt154 => (tlb_Trans.j0 k bt154.1 bt154.2 a4 a5 false t145 t146)) else (tlb_Trans.j0 k l2 a3 a4 a5 false t145 t146)))) = some (r1, r2, r3, r4, r5) := by rw [if_pos rfl] at H; exact H
          clear H
          have H := H1
          clear H1
          by_cases c21 : (Go.bits .and .u32 t145 1) = 0
          · rw [if_pos c21] at H
            have c21b0 : ((Go.bits .and .u32 t145 1) == 0) = true := beq_iff_eq.mpr c21
            have c21b1 : ((Go.bits .and .u32 t145 1) != 0) = false := bne_eq_false_iff_eq.mpr c21
            clear c21
            (first | rw [c21b0] | (simp only [i64_w, i32_w, IntKind.wrap_u32]; rw [c21b0]) | skip)
            have H' := Aside0.mk H
            clear H
            have hnb22 := NB139_144.out
            have hnc22 := NB144_139.out
            have hcz23_17 : w15.cell? ⟨gb139, 17, none⟩ = some (.int .u32 a0_17) := (blk_cell BK139.out 17).trans rfl
            have hcz23_22 : w15.cell? ⟨gb139, 22, none⟩ = some (.int .u32 a0_22) := (blk_cell BK139.out 22).trans rfl
            go_wp2_with (first | ((with_reducible refine gate_dst (N := 22) rfl ?_); refine Go.Proofs.Ytkcncghdpjoodaa.Cp.load_whole 36 (.tmp 6) gb139 rfl rfl rfl (by (with_reducible repeat (first | refine blk_drewN ?_ _ | refine blk_drew ?_ | refine blk_alloc ?_ _)); exact BK139.out) Try.underlying36 rfl (by kernel_rfl) ?_) | ((with_reducible refine gate_callee (f := 25) rfl ?_); refine goesL_ (some 42) rfl rfl Try.func25 (by kernel_rfl) rfl #[.slice A1 l1.length c1, .int .u32 a0_22, .int .u32 a4] rfl (by (try simp only [List.map_toArray, List.map_cons, List.map_nil]); first | done | rfl | (simp only [List.length_drop, List.length_take]; rfl)) ?_; (with_reducible refine (walk_Walk.calls k _ _ l1 a0_22 a4 t145 t146 t147 true _ ?side1 ?side2 A19.out).mono ?_); (case side1 => exact Kd.C_below HR1.out (by repeat (first | (with_reducible first | exact HB.out | apply below_alloc | apply pw_below_drewN | apply below_drew1 | refine below_set ?_ GE139.out | refine below_set ?_ GE144.out) | exact HB.out))); (case side2 => exact HC1.out); rintro e w24 ⟨v148, rfl, ho0, hb⟩; refine ⟨_, rfl, ?_⟩; have n0_ := Aside0.mk (Kd.V_elder' (by (with_reducible repeat (first | apply Kd.V_alloc | apply Kd.V_drewN | apply Kd.V_drew)); exact (Kd.V_mono (Kd.V_far (p := ⟨gb144, 1, none⟩) (Kd.V_far (p := ⟨gb144, 0, none⟩) (Kd.V_mono HO2.out (fun k_ hk => (⟨hk, hk.2⟩ : _ ∧ k_ ≠ gb144))) (fun _ hk => hk.2) (.int .u32 t141)) (fun _ hk => hk.2) (.int .i64 t142)) (fun _ h_ => h_.1))) (Kd.R_base ho0) hb); have n1_ := Aside0.mk (Kd.R_lower (Kd.R_newM (M := fun k_ => (w.heap.size ≤ k_)) ho0 (below_size (by repeat (first | (with_reducible first | exact HB.out | apply below_alloc | apply pw_below_drewN | apply below_drew1 | refine below_set ?_ GE139.out | refine below_set ?_ GE144.out) | exact HB.out))) (fun k_ h_ => h_)) (below_size (by repeat (first | (with_reducible first | exact HB.out | apply below_alloc | apply pw_below_drewN | apply below_drew1 | refine below_set ?_ GE139.out | refine below_set ?_ GE144.out) | exact HB.out)))); have n2_ := Aside0.mk (blk_below (g := gb139) (o := .cells #[.int .u32 a0_0, .int .u32 a0_1, .int .u32 a0_2, .int .u32 a0_3, .int .u32 a0_4, .int .u32 a0_5, .int .u32 a0_6, .int .u32 a0_7, .int .u32 a0_8, .int .u32 a0_9, .int .u32 a0_10, .int .u32 a0_11, .int .u32 a0_12, .int .u32 a0_13, .int .u32 a0_14, .int .u32 a0_15, .int .u32 a0_16, .int .u32 a0_17, .int .u32 a0_18, .int .u32 a0_19, .int .u32 a0_20, .int .u32 a0_21, .int .u32 a0_22, .int .u32 a0_23, .int .u32 a0_24, .int .u32 a0_25, .int .u32 a0_26, .int .u32 a0_27, .int .u32 a0_28, .bool a0_29] 36 (0, 0)) (by (with_reducible repeat (first | refine blk_drewN ?_ _ | refine blk_drew ?_ | refine blk_alloc ?_ _)); refine blk_far ?_ NB139_144.out _; (with_reducible repeat (first | refine blk_drewN ?_ _ | refine blk_drew ?_ | refine blk_alloc ?_ _)); refine blk_far ?_ NB139_144.out _; (with_reducible repeat (first | refine blk_drewN ?_ _ | refine blk_drew ?_ | refine blk_alloc ?_ _)); exact BK139.out) hb); have n3_ := Aside0.mk (blk_below (g := gb144) (o := .cells #[.int .u32 t141, .int .i64 t142] 27 (0, 0)) (by (with_reducible repeat (first | refine blk_drewN ?_ _ | refine blk_drew ?_ | refine blk_alloc ?_ _)); refine blk_put (cs := #[.int .u32 t141, .int .i64 0]) ?_ 1 _ (by first | rfl | (simp [Int.emod_emod_of_dvd]; done)); (with_reducible repeat (first | refine blk_drewN ?_ _ | refine blk_drew ?_ | refine blk_alloc ?_ _)); refine blk_put (cs := #[.int .u32 0, .int .i64 0]) ?_ 0 _ (by first | rfl | (simp [Int.emod_emod_of_dvd]; done)); (with_reducible repeat (first | refine blk_drewN ?_ _ | refine blk_drew ?_ | refine blk_alloc ?_ _)); exact BK144.out) hb); have n4_ := Aside0.mk (below_step (by repeat (first | (with_reducible first | exact HB.out | apply below_alloc | apply pw_below_drewN | apply below_drew1 | refine below_set ?_ GE139.out | refine below_set ?_ GE144.out) | exact HB.out)) hb); clear HO2; clear BK139; clear BK144; clear HB; have HO2 := n0_; have HO149 := n1_; have BK139 := n2_; have BK144 := n3_; have HB := n4_; clear n0_ n1_ n2_ n3_ n4_; (try clear hb); (try clear hb2); (try clear hk); (try clear hi); (try clear ho0)) | ((with_reducible refine gate_dst (N := 19) rfl ?_); refine box_event ?hg (N := 19) ?hd (cs := #[.int .u32 0, .int .i64 0]) (t := 27) ?hr ?_; (case hd => rfl); (case hg => rfl); (case hr => first | (go_simp; done) | (go_simp; rfl)); intro gb151 hg w25 hbox hb; have n0_ := Aside0.mk (Kd.V_below (Kd.V_elderB (by (with_reducible repeat (first | apply Kd.V_alloc | apply Kd.V_drewN | apply Kd.V_drew)); exact HO2.out) gb151 (Nat.le_of_eq hg.symm)) hb); have n1_ := Aside0.mk (Kd.R_below (by (with_reducible repeat (first | apply Kd.R_alloc | apply Kd.R_drewN | apply Kd.R_drew)); exact HO149.out) hb); have n2_ := Aside0.mk (blk_below (g := gb139) (o := .cells #[.int .u32 a0_0, .int .u32 a0_1, .int .u32 a0_2, .int .u32 a0_3, .int .u32 a0_4, .int .u32 a0_5, .int .u32 a0_6, .int .u32 a0_7, .int .u32 a0_8, .int .u32 a0_9, .int .u32 a0_10, .int .u32 a0_11, .int .u32 a0_12, .int .u32 a0_13, .int .u32 a0_14, .int .u32 a0_15, .int .u32 a0_16, .int .u32 a0_17, .int .u32 a0_18, .int .u32 a0_19, .int .u32 a0_20, .int .u32 a0_21, .int .u32 a0_22, .int .u32 a0_23, .int .u32 a0_24, .int .u32 a0_25, .int .u32 a0_26, .int .u32 a0_27, .int .u32 a0_28, .bool a0_29] 36 (0, 0)) (by (with_reducible repeat (first | refine blk_drewN ?_ _ | refine blk_drew ?_ | refine blk_alloc ?_ _)); exact BK139.out) hb); have n3_ := Aside0.mk (blk_below (g := gb144) (o := .cells #[.int .u32 t141, .int .i64 t142] 27 (0, 0)) (by (with_reducible repeat (first | refine blk_drewN ?_ _ | refine blk_drew ?_ | refine blk_alloc ?_ _)); exact BK144.out) hb); have n4_ := Aside0.mk (below_step (by repeat (first | (with_reducible first | exact HB.out | apply below_alloc | apply pw_below_drewN | apply below_drew1 | refine below_set ?_ GE139.out | refine below_set ?_ GE144.out) | exact HB.out)) hb); have n5_ := Aside0.mk (hbox); have n6_ := Aside0.mk ((by rw [hg]; exact (below_size (by repeat (first | (with_reducible first | exact HB.out | apply below_alloc | apply pw_below_drewN | apply below_drew1 | refine below_set ?_ GE139.out | refine below_set ?_ GE144.out) | exact HB.out))) : w.heap.size ≤ gb151)); have n7_ := Aside0.mk ((by rw [hg]; exact (below_size (by repeat (first | (with_reducible first | exact HB.out | apply below_alloc | apply pw_below_drewN | apply below_drew1 | refine below_set ?_ GE139.out | refine below_set ?_ GE144.out) | exact HB.out))) : w.heap.size ≤ gb151)); have n8_ := Aside0.mk ((by rw [hg]; exact Nat.ne_of_lt (blk_lt (g := gb139) (o := .cells #[.int .u32 a0_0, .int .u32 a0_1, .int .u32 a0_2, .int .u32 a0_3, .int .u32 a0_4, .int .u32 a0_5, .int .u32 a0_6, .int .u32 a0_7, .int .u32 a0_8, .int .u32 a0_9, .int .u32 a0_10, .int .u32 a0_11, .int .u32 a0_12, .int .u32 a0_13, .int .u32 a0_14, .int .u32 a0_15, .int .u32 a0_16, .int .u32 a0_17, .int .u32 a0_18, .int .u32 a0_19, .int .u32 a0_20, .int .u32 a0_21, .int .u32 a0_22, .int .u32 a0_23, .int .u32 a0_24, .int .u32 a0_25, .int .u32 a0_26, .int .u32 a0_27, .int .u32 a0_28, .bool a0_29] 36 (0, 0)) (by (with_reducible repeat (first | refine blk_drewN ?_ _ | refine blk_drew ?_ | refine blk_alloc ?_ _)); exact BK139.out)) : gb139 ≠ gb151)); have n9_ := Aside0.mk ((by rw [hg]; exact Nat.ne_of_gt (blk_lt (g := gb139) (o := .cells #[.int .u32 a0_0, .int .u32 a0_1, .int .u32 a0_2, .int .u32 a0_3, .int .u32 a0_4, .int .u32 a0_5, .int .u32 a0_6, .int .u32 a0_7, .int .u32 a0_8, .int .u32 a0_9, .int .u32 a0_10, .int .u32 a0_11, .int .u32 a0_12, .int .u32 a0_13, .int .u32 a0_14, .int .u32 a0_15, .int .u32 a0_16, .int .u32 a0_17, .int .u32 a0_18, .int .u32 a0_19, .int .u32 a0_20, .int .u32 a0_21, .int .u32 a0_22, .int .u32 a0_23, .int .u32 a0_24, .int .u32 a0_25, .int .u32 a0_26, .int .u32 a0_27, .int .u32 a0_28, .bool a0_29] 36 (0, 0)) (by (with_reducible repeat (first | refine blk_drewN ?_ _ | refine blk_drew ?_ | refine blk_alloc ?_ _)); exact BK139.out)) : gb151 ≠ gb139)); have n10_ := Aside0.mk ((by rw [hg]; exact Nat.ne_of_lt (blk_lt (g := gb144) (o := .cells #[.int .u32 t141, .int .i64 t142] 27 (0, 0)) (by (with_reducible repeat (first | refine blk_drewN ?_ _ | refine blk_drew ?_ | refine blk_alloc ?_ _)); exact BK144.out)) : gb144 ≠ gb151)); have n11_ := Aside0.mk ((by rw [hg]; exact Nat.ne_of_gt (blk_lt (g := gb144) (o := .cells #[.int .u32 t141, .int .i64 t142] 27 (0, 0)) (by (with_reducible repeat (first | refine blk_drewN ?_ _ | refine blk_drew ?_ | refine blk_alloc ?_ _)); exact BK144.out)) : gb151 ≠ gb144)); clear HO2; clear HO149; clear BK139; clear BK144; clear HB; have HO2 := n0_; have HO149 := n1_; have BK139 := n2_; have BK144 := n3_; have HB := n4_; have BK151 := n5_; have GW151 := n6_; have GE151 := n7_; have NB139_151 := n8_; have NB151_139 := n9_; have NB144_151 := n10_; have NB151_144 := n11_; clear n0_ n1_ n2_ n3_ n4_ n5_ n6_ n7_ n8_ n9_ n10_ n11_; clear hb hbox hg; have hnb26 := NB151_139.out; have hnc26 := NB139_151.out; have hnb27 := NB151_144.out; have hnc27 := NB144_151.out; have hcz28_0 : w25.cell? ⟨gb151, 0, none⟩ = some (.int .u32 0) := (blk_cell BK151.out 0).trans rfl; have hcz28_1 : w25.cell? ⟨gb151, 1, none⟩ = some (.int .i64 0) := (blk_cell BK151.out 1).trans rfl; have hfz28_0 := blk_frozen BK151.out 0; have hfz28_1 := blk_frozen BK151.out 1; have hcz29_0 : w25.cell? ⟨gb144, 0, none⟩ = some (.int .u32 t141) := (blk_cell BK144.out 0).trans rfl; have hcz29_1 : w25.cell? ⟨gb144, 1, none⟩ = some (.int .i64 t142) := (blk_cell BK144.out 1).trans rfl; have hfz29_0 := blk_frozen BK144.out 0; have hfz29_1 := blk_frozen BK144.out 1))
            go_meet
            case rel => exact ⟨_, (l2), (a3), (t145), (t146), (by first | rfl | (simp; done) | (simp [*]; done)), H', ⟨by first | omega | exact Nat.le_refl _⟩, ⟨by (with_reducible repeat (first | apply Kd.V_alloc | apply Kd.V_drewN | apply Kd.V_drew)); exact Kd.V_mono (Kd.V_far (p := ⟨gb144, 1, none⟩) (Kd.V_far (p := ⟨gb144, 0, none⟩) (Kd.V_far (p := ⟨gb151, 1, none⟩) (Kd.V_far (p := ⟨gb151, 0, none⟩) (Kd.V_mono (Kd.V_mono HO2.out (fun k_ hk => (⟨hk, hk.2⟩ : _ ∧ k_ ≠ gb151))) (fun k_ hk => (⟨hk, hk.1.1.1.2⟩ : _ ∧ k_ ≠ gb144))) (fun _ hk => hk.1.2) (.int .u32 t145)) (fun _ hk => hk.1.2) (.int .i64 t146)) (fun _ hk => hk.2) (.int .u32 t145)) (fun _ hk => hk.2) (.int .i64 t146)) (fun _ hk => ⟨hk.1.1.1.1.1.1, ⟨hk.1.1.1.1.1.2, hk.1.1.1.1.2⟩⟩)⟩, ⟨by (with_reducible repeat (first | refine blk_drewN ?_ _ | refine blk_drew ?_ | refine blk_alloc ?_ _)); refine blk_far ?_ NB139_144.out _; (with_reducible repeat (first | refine blk_drewN ?_ _ | refine blk_drew ?_ | refine blk_alloc ?_ _)); refine blk_far ?_ NB139_144.out _; (with_reducible repeat (first | refine blk_drewN ?_ _ | refine blk_drew ?_ | refine blk_alloc ?_ _)); refine blk_far ?_ NB139_151.out _; (with_reducible repeat (first | refine blk_drewN ?_ _ | refine blk_drew ?_ | refine blk_alloc ?_ _)); refine blk_far ?_ NB139_151.out _; (with_reducible repeat (first | refine blk_drewN ?_ _ | refine blk_drew ?_ | refine blk_alloc ?_ _)); exact BK139.out⟩, ⟨by (with_reducible repeat (first | refine blk_drewN ?_ _ | refine blk_drew ?_ | refine blk_alloc ?_ _)); refine blk_put (cs := #[.int .u32 t145, .int .i64 t142]) ?_ 1 _ (by first | rfl | (simp [Int.emod_emod_of_dvd]; done)); (with_reducible repeat (first | refine blk_drewN ?_ _ | refine blk_drew ?_ | refine blk_alloc ?_ _)); refine blk_put (cs := #[.int .u32 t141, .int .i64 t142]) ?_ 0 _ (by first | rfl | (simp [Int.emod_emod_of_dvd]; done)); (with_reducible repeat (first | refine blk_drewN ?_ _ | refine blk_drew ?_ | refine blk_alloc ?_ _)); refine blk_far ?_ NB144_151.out _; (with_reducible repeat (first | refine blk_drewN ?_ _ | refine blk_drew ?_ | refine blk_alloc ?_ _)); refine blk_far ?_ NB144_151.out _; (with_reducible repeat (first | refine blk_drewN ?_ _ | refine blk_drew ?_ | refine blk_alloc ?_ _)); exact BK144.out⟩, ⟨by repeat (first | (with_reducible first | exact HB.out | apply below_alloc | apply pw_below_drewN | apply below_drew1 | refine below_set ?_ GE139.out | refine below_set ?_ GE144.out | refine below_set ?_ GE151.out) | exact HB.out)⟩⟩
          · rw [if_neg c21] at H
            have c21b0 : ((Go.bits .and .u32 t145 1) == 0) = false := beq_eq_false_iff_ne.mpr c21
            have c21b1 : ((Go.bits .and .u32 t145 1) != 0) = true := bne_iff_ne.mpr c21
            (first | rw [c21b0] | (simp only [i64_w, i32_w, IntKind.wrap_u32]; rw [c21b0]) | skip)
            replace H := Option.bind_eq_some_iff.mp H
            obtain ⟨t153, A300, H⟩ := H
            replace H : (if t153 = true then ((tlb_Put.f k l2 a3 a4 t145 t146).bind fun bt154 => (tlb_Trans.j0 k bt154.1 bt154.2 a4 a5 false t145 t146)) else (tlb_Trans.j0 k l2 a3 a4 a5 false t145 t146)) = some (r1, r2, r3, r4, r5) := H
            have A30 := Aside0.mk A300
            clear A300
            by_cases c31 : t153 = true
            · subst c31
              have H1 : ((tlb_Put.f k l2 a3 a4 t145 t146).bind fun bt154 => (tlb_Trans.j0 k bt154.1 bt154.2 a4 a5 false t145 t146)) = some (r1, r2, r3, r4, r5) := by rw [if_pos rfl] at H; exact H
              clear H
              have H := H1
              clear H1
              replace H := Option.bind_eq_some_iff.mp H
              obtain ⟨⟨t154, t157⟩, A320, H⟩ := H
              replace H : (tlb_Trans.j0 k t154 t157 a4 a5 false t145 t146) = some (r1, r2, r3, r4, r5) := H
              have A32 := Aside0.mk A320
              clear A320
              have H' := Aside0.mk H
              clear H
              have hnb33 := NB139_144.out
              have hnc33 := NB144_139.out
              have hcz34_17 : w15.cell? ⟨gb139, 17, none⟩ = some (.int .u32 a0_17) := (blk_cell BK139.out 17).trans rfl
              have hcz34_22 : w15.cell? ⟨gb139, 22, none⟩ = some (.int .u32 a0_22) := (blk_cell BK139.out 22).trans rfl
              go_wp2_with (first | ((with_reducible refine gate_dst (N := 22) rfl ?_); refine Go.Proofs.Ytkcncghdpjoodaa.Cp.load_whole 36 (.tmp 6) gb139 rfl rfl rfl (by (with_reducible repeat (first | refine blk_drewN ?_ _ | refine blk_drew ?_ | refine blk_alloc ?_ _)); exact BK139.out) Try.underlying36 rfl (by kernel_rfl) ?_) | ((with_reducible refine gate_callee (f := 25) rfl ?_); refine goesL_ (some 42) rfl rfl Try.func25 (by kernel_rfl) rfl #[.slice A1 l1.length c1, .int .u32 a0_22, .int .u32 a4] rfl (by (try simp only [List.map_toArray, List.map_cons, List.map_nil]); first | done | rfl | (simp only [List.length_drop, List.length_take]; rfl)) ?_; (with_reducible refine (walk_Walk.calls k _ _ l1 a0_22 a4 t145 t146 t147 true _ ?side1 ?side2 A19.out).mono ?_); (case side1 => exact Kd.C_below HR1.out (by repeat (first | (with_reducible first | exact HB.out | apply below_alloc | apply pw_below_drewN | apply below_drew1 | refine below_set ?_ GE139.out | refine below_set ?_ GE144.out) | exact HB.out))); (case side2 => exact HC1.out); rintro e w35 ⟨v148, rfl, ho0, hb⟩; refine ⟨_, rfl, ?_⟩; have n0_ := Aside0.mk (Kd.V_elder' (by (with_reducible repeat (first | apply Kd.V_alloc | apply Kd.V_drewN | apply Kd.V_drew)); exact (Kd.V_mono (Kd.V_far (p := ⟨gb144, 1, none⟩) (Kd.V_far (p := ⟨gb144, 0, none⟩) (Kd.V_mono HO2.out (fun k_ hk => (⟨hk, hk.2⟩ : _ ∧ k_ ≠ gb144))) (fun _ hk => hk.2) (.int .u32 t141)) (fun _ hk => hk.2) (.int .i64 t142)) (fun _ h_ => h_.1))) (Kd.R_base ho0) hb); have n1_ := Aside0.mk (Kd.R_lower (Kd.R_newM (M := fun k_ => (w.heap.size ≤ k_)) ho0 (below_size (by repeat (first | (with_reducible first | exact HB.out | apply below_alloc | apply pw_below_drewN | apply below_drew1 | refine below_set ?_ GE139.out | refine below_set ?_ GE144.out) | exact HB.out))) (fun k_ h_ => h_)) (below_size (by repeat (first | (with_reducible first | exact HB.out | apply below_alloc | apply pw_below_drewN | apply below_drew1 | refine below_set ?_ GE139.out | refine below_set ?_ GE144.out) | exact HB.out)))); have n2_ := Aside0.mk (blk_below (g := gb139) (o := .cells #[.int .u32 a0_0, .int .u32 a0_1, .int .u32 a0_2, .int .u32 a0_3, .int .u32 a0_4, .int .u32 a0_5, .int .u32 a0_6, .int .u32 a0_7, .int .u32 a0_8, .int .u32 a0_9, .int .u32 a0_10, .int .u32 a0_11, .int .u32 a0_12, .int .u32 a0_13, .int .u32 a0_14, .int .u32 a0_15, .int .u32 a0_16, .int .u32 a0_17, .int .u32 a0_18, .int .u32 a0_19, .int .u32 a0_20, .int .u32 a0_21, .int .u32 a0_22, .int .u32 a0_23, .int .u32 a0_24, .int .u32 a0_25, .int .u32 a0_26, .int .u32 a0_27, .int .u32 a0_28, .bool a0_29] 36 (0, 0)) (by (with_reducible repeat (first | refine blk_drewN ?_ _ | refine blk_drew ?_ | refine blk_alloc ?_ _)); refine blk_far ?_ NB139_144.out _; (with_reducible repeat (first | refine blk_drewN ?_ _ | refine blk_drew ?_ | refine blk_alloc ?_ _)); refine blk_far ?_ NB139_144.out _; (with_reducible repeat (first | refine blk_drewN ?_ _ | refine blk_drew ?_ | refine blk_alloc ?_ _)); exact BK139.out) hb); have n3_ := Aside0.mk (blk_below (g := gb144) (o := .cells #[.int .u32 t141, .int .i64 t142] 27 (0, 0)) (by (with_reducible repeat (first | refine blk_drewN ?_ _ | refine blk_drew ?_ | refine blk_alloc ?_ _)); refine blk_put (cs := #[.int .u32 t141, .int .i64 0]) ?_ 1 _ (by first | rfl | (simp [Int.emod_emod_of_dvd]; done)); (with_reducible repeat (first | refine blk_drewN ?_ _ | refine blk_drew ?_ | refine blk_alloc ?_ _)); refine blk_put (cs := #[.int .u32 0, .int .i64 0]) ?_ 0 _ (by first | rfl | (simp [Int.emod_emod_of_dvd]; done)); (with_reducible repeat (first | refine blk_drewN ?_ _ | refine blk_drew ?_ | refine blk_alloc ?_ _)); exact BK144.out) hb); have n4_ := Aside0.mk (below_step (by repeat (first | (with_reducible first | exact HB.out | apply below_alloc | apply pw_below_drewN | apply below_drew1 | refine below_set ?_ GE139.out | refine below_set ?_ GE144.out) | exact HB.out)) hb); clear HO2; clear BK139; clear BK144; clear HB; have HO2 := n0_; have HO149 := n1_; have BK139 := n2_; have BK144 := n3_; have HB := n4_; clear n0_ n1_ n2_ n3_ n4_; (try clear hb); (try clear hb2); (try clear hk); (try clear hi); (try clear ho0)) | ((with_reducible refine gate_dst (N := 19) rfl ?_); refine box_event ?hg (N := 19) ?hd (cs := #[.int .u32 0, .int .i64 0]) (t := 27) ?hr ?_; (case hd => rfl); (case hg => rfl); (case hr => first | (go_simp; done) | (go_simp; rfl)); intro gb151 hg w36 hbox hb; have n0_ := Aside0.mk (Kd.V_below (Kd.V_elderB (by (with_reducible repeat (first | apply Kd.V_alloc | apply Kd.V_drewN | apply Kd.V_drew)); exact HO2.out) gb151 (Nat.le_of_eq hg.symm)) hb); have n1_ := Aside0.mk (Kd.R_below (by (with_reducible repeat (first | apply Kd.R_alloc | apply Kd.R_drewN | apply Kd.R_drew)); exact HO149.out) hb); have n2_ := Aside0.mk (blk_below (g := gb139) (o := .cells #[.int .u32 a0_0, .int .u32 a0_1, .int .u32 a0_2, .int .u32 a0_3, .int .u32 a0_4, .int .u32 a0_5, .int .u32 a0_6, .int .u32 a0_7, .int .u32 a0_8, .int .u32 a0_9, .int .u32 a0_10, .int .u32 a0_11, .int .u32 a0_12, .int .u32 a0_13, .int .u32 a0_14, .int .u32 a0_15, .int .u32 a0_16, .int .u32 a0_17, .int .u32 a0_18, .int .u32 a0_19, .int .u32 a0_20, .int .u32 a0_21, .int .u32 a0_22, .int .u32 a0_23, .int .u32 a0_24, .int .u32 a0_25, .int .u32 a0_26, .int .u32 a0_27, .int .u32 a0_28, .bool a0_29] 36 (0, 0)) (by (with_reducible repeat (first | refine blk_drewN ?_ _ | refine blk_drew ?_ | refine blk_alloc ?_ _)); exact BK139.out) hb); have n3_ := Aside0.mk (blk_below (g := gb144) (o := .cells #[.int .u32 t141, .int .i64 t142] 27 (0, 0)) (by (with_reducible repeat (first | refine blk_drewN ?_ _ | refine blk_drew ?_ | refine blk_alloc ?_ _)); exact BK144.out) hb); have n4_ := Aside0.mk (below_step (by repeat (first | (with_reducible first | exact HB.out | apply below_alloc | apply pw_below_drewN | apply below_drew1 | refine below_set ?_ GE139.out | refine below_set ?_ GE144.out) | exact HB.out)) hb); have n5_ := Aside0.mk (hbox); have n6_ := Aside0.mk ((by rw [hg]; exact (below_size (by repeat (first | (with_reducible first | exact HB.out | apply below_alloc | apply pw_below_drewN | apply below_drew1 | refine below_set ?_ GE139.out | refine below_set ?_ GE144.out) | exact HB.out))) : w.heap.size ≤ gb151)); have n7_ := Aside0.mk ((by rw [hg]; exact (below_size (by repeat (first | (with_reducible first | exact HB.out | apply below_alloc | apply pw_below_drewN | apply below_drew1 | refine below_set ?_ GE139.out | refine below_set ?_ GE144.out) | exact HB.out))) : w.heap.size ≤ gb151)); have n8_ := Aside0.mk ((by rw [hg]; exact Nat.ne_of_lt (blk_lt (g := gb139) (o := .cells #[.int .u32 a0_0, .int .u32 a0_1, .int .u32 a0_2, .int .u32 a0_3, .int .u32 a0_4, .int .u32 a0_5, .int .u32 a0_6, .int .u32 a0_7, .int .u32 a0_8, .int .u32 a0_9, .int .u32 a0_10, .int .u32 a0_11, .int .u32 a0_12, .int .u32 a0_13, .int .u32 a0_14, .int .u32 a0_15, .int .u32 a0_16, .int .u32 a0_17, .int .u32 a0_18, .int .u32 a0_19, .int .u32 a0_20, .int .u32 a0_21, .int .u32 a0_22, .int .u32 a0_23, .int .u32 a0_24, .int .u32 a0_25, .int .u32 a0_26, .int .u32 a0_27, .int .u32 a0_28, .bool a0_29] 36 (0, 0)) (by (with_reducible repeat (first | refine blk_drewN ?_ _ | refine blk_drew ?_ | refine blk_alloc ?_ _)); exact BK139.out)) : gb139 ≠ gb151)); have n9_ := Aside0.mk ((by rw [hg]; exact Nat.ne_of_gt (blk_lt (g := gb139) (o := .cells #[.int .u32 a0_0, .int .u32 a0_1, .int .u32 a0_2, .int .u32 a0_3, .int .u32 a0_4, .int .u32 a0_5, .int .u32 a0_6, .int .u32 a0_7, .int .u32 a0_8, .int .u32 a0_9, .int .u32 a0_10, .int .u32 a0_11, .int .u32 a0_12, .int .u32 a0_13, .int .u32 a0_14, .int .u32 a0_15, .int .u32 a0_16, .int .u32 a0_17, .int .u32 a0_18, .int .u32 a0_19, .int .u32 a0_20, .int .u32 a0_21, .int .u32 a0_22, .int .u32 a0_23, .int .u32 a0_24, .int .u32 a0_25, .int .u32 a0_26, .int .u32 a0_27, .int .u32 a0_28, .bool a0_29] 36 (0, 0)) (by (with_reducible repeat (first | refine blk_drewN ?_ _ | refine blk_drew ?_ | refine blk_alloc ?_ _)); exact BK139.out)) : gb151 ≠ gb139)); have n10_ := Aside0.mk ((by rw [hg]; exact Nat.ne_of_lt (blk_lt (g := gb144) (o := .cells #[.int .u32 t141, .int .i64 t142] 27 (0, 0)) (by (with_reducible repeat (first | refine blk_drewN ?_ _ | refine blk_drew ?_ | refine blk_alloc ?_ _)); exact BK144.out)) : gb144 ≠ gb151)); have n11_ := Aside0.mk ((by rw [hg]; exact Nat.ne_of_gt (blk_lt (g := gb144) (o := .cells #[.int .u32 t141, .int .i64 t142] 27 (0, 0)) (by (with_reducible repeat (first | refine blk_drewN ?_ _ | refine blk_drew ?_ | refine blk_alloc ?_ _)); exact BK144.out)) : gb151 ≠ gb144)); clear HO2; clear HO149; clear BK139; clear BK144; clear HB; have HO2 := n0_; have HO149 := n1_; have BK139 := n2_; have BK144 := n3_; have HB := n4_; have BK151 := n5_; have GW151 := n6_; have GE151 := n7_; have NB139_151 := n8_; have NB151_139 := n9_; have NB144_151 := n10_; have NB151_144 := n11_; clear n0_ n1_ n2_ n3_ n4_ n5_ n6_ n7_ n8_ n9_ n10_ n11_; clear hb hbox hg; have hnb37 := NB151_139.out; have hnc37 := NB139_151.out; have hnb38 := NB151_144.out; have hnc38 := NB144_151.out; have hcz39_0 : w36.cell? ⟨gb151, 0, none⟩ = some (.int .u32 0) := (blk_cell BK151.out 0).trans rfl; have hcz39_1 : w36.cell? ⟨gb151, 1, none⟩ = some (.int .i64 0) := (blk_cell BK151.out 1).trans rfl; have hfz39_0 := blk_frozen BK151.out 0; have hfz39_1 := blk_frozen BK151.out 1; have hcz40_0 : w36.cell? ⟨gb144, 0, none⟩ = some (.int .u32 t141) := (blk_cell BK144.out 0).trans rfl; have hcz40_1 : w36.cell? ⟨gb144, 1, none⟩ = some (.int .i64 t142) := (blk_cell BK144.out 1).trans rfl; have hfz40_0 := blk_frozen BK144.out 0; have hfz40_1 := blk_frozen BK144.out 1) | (go_at_call 27; (with_reducible refine (pte_Leaf.calls t145 t146 true _ A30.out).mono ?_); rintro e w41 ⟨rfl, hb⟩; have n0_ := Aside0.mk (Kd.V_below (by (with_reducible repeat (first | apply Kd.V_alloc | apply Kd.V_drewN | apply Kd.V_drew)); exact (Kd.V_mono (Kd.V_mono (Kd.V_far (p := ⟨gb144, 1, none⟩) (Kd.V_far (p := ⟨gb144, 0, none⟩) (Kd.V_far (p := ⟨gb151, 1, none⟩) (Kd.V_far (p := ⟨gb151, 0, none⟩) (Kd.V_mono (Kd.V_mono HO2.out (fun k_ hk => (⟨hk, hk.2⟩ : _ ∧ k_ ≠ gb151))) (fun k_ hk => (⟨hk, hk.1.1.1.2⟩ : _ ∧ k_ ≠ gb144))) (fun _ hk => hk.1.2) (.int .u32 t145)) (fun _ hk => hk.1.2) (.int .i64 t146)) (fun _ hk => hk.2) (.int .u32 t145)) (fun _ hk => hk.2) (.int .i64 t146)) (fun _ h_ => h_.1)) (fun _ h_ => h_.1))) hb); have n1_ := Aside0.mk (Kd.R_below (by (with_reducible repeat (first | apply Kd.R_alloc | apply Kd.R_drewN | apply Kd.R_drew)); exact (Kd.R_mono (Kd.R_mono (Kd.R_far (p := ⟨gb144, 1, none⟩) (Kd.R_far (p := ⟨gb144, 0, none⟩) (Kd.R_far (p := ⟨gb151, 1, none⟩) (Kd.R_far (p := ⟨gb151, 0, none⟩) (Kd.R_types (Kd.R_types HO149.out BK151.out (by decide)) BK144.out (by decide)) (fun _ hk => hk.1.2) (.int .u32 t145)) (fun _ hk => hk.1.2) (.int .i64 t146)) (fun _ hk => hk.2) (.int .u32 t145)) (fun _ hk => hk.2) (.int .i64 t146)) (fun _ h_ => h_.1)) (fun _ h_ => h_.1))) hb); have n2_ := Aside0.mk (blk_below (g := gb139) (o := .cells #[.int .u32 a0_0, .int .u32 a0_1, .int .u32 a0_2, .int .u32 a0_3, .int .u32 a0_4, .int .u32 a0_5, .int .u32 a0_6, .int .u32 a0_7, .int .u32 a0_8, .int .u32 a0_9, .int .u32 a0_10, .int .u32 a0_11, .int .u32 a0_12, .int .u32 a0_13, .int .u32 a0_14, .int .u32 a0_15, .int .u32 a0_16, .int .u32 a0_17, .int .u32 a0_18, .int .u32 a0_19, .int .u32 a0_20, .int .u32 a0_21, .int .u32 a0_22, .int .u32 a0_23, .int .u32 a0_24, .int .u32 a0_25, .int .u32 a0_26, .int .u32 a0_27, .int .u32 a0_28, .bool a0_29] 36 (0, 0)) (by (with_reducible repeat (first | refine blk_drewN ?_ _ | refine blk_drew ?_ | refine blk_alloc ?_ _)); refine blk_far ?_ NB139_144.out _; (with_reducible repeat (first | refine blk_drewN ?_ _ | refine blk_drew ?_ | refine blk_alloc ?_ _)); refine blk_far ?_ NB139_144.out _; (with_reducible repeat (first | refine blk_drewN ?_ _ | refine blk_drew ?_ | refine blk_alloc ?_ _)); refine blk_far ?_ NB139_151.out _; (with_reducible repeat (first | refine blk_drewN ?_ _ | refine blk_drew ?_ | refine blk_alloc ?_ _)); refine blk_far ?_ NB139_151.out _; (with_reducible repeat (first | refine blk_drewN ?_ _ | refine blk_drew ?_ | refine blk_alloc ?_ _)); exact BK139.out) hb); have n3_ := Aside0.mk (blk_below (g := gb144) (o := .cells #[.int .u32 t145, .int .i64 t146] 27 (0, 0)) (by (with_reducible repeat (first | refine blk_drewN ?_ _ | refine blk_drew ?_ | refine blk_alloc ?_ _)); refine blk_put (cs := #[.int .u32 t145, .int .i64 t142]) ?_ 1 _ (by first | rfl | (simp [Int.emod_emod_of_dvd]; done)); (with_reducible repeat (first | refine blk_drewN ?_ _ | refine blk_drew ?_ | refine blk_alloc ?_ _)); refine blk_put (cs := #[.int .u32 t141, .int .i64 t142]) ?_ 0 _ (by first | rfl | (simp [Int.emod_emod_of_dvd]; done)); (with_reducible repeat (first | refine blk_drewN ?_ _ | refine blk_drew ?_ | refine blk_alloc ?_ _)); refine blk_far ?_ NB144_151.out _; (with_reducible repeat (first | refine blk_drewN ?_ _ | refine blk_drew ?_ | refine blk_alloc ?_ _)); refine blk_far ?_ NB144_151.out _; (with_reducible repeat (first | refine blk_drewN ?_ _ | refine blk_drew ?_ | refine blk_alloc ?_ _)); exact BK144.out) hb); have n4_ := Aside0.mk (blk_below (g := gb151) (o := .cells #[.int .u32 t145, .int .i64 t146] 27 (0, 0)) (by (with_reducible repeat (first | refine blk_drewN ?_ _ | refine blk_drew ?_ | refine blk_alloc ?_ _)); refine blk_far ?_ NB151_144.out _; (with_reducible repeat (first | refine blk_drewN ?_ _ | refine blk_drew ?_ | refine blk_alloc ?_ _)); refine blk_far ?_ NB151_144.out _; (with_reducible repeat (first | refine blk_drewN ?_ _ | refine blk_drew ?_ | refine blk_alloc ?_ _)); refine blk_put (cs := #[.int .u32 t145, .int .i64 0]) ?_ 1 _ (by first | rfl | (simp [Int.emod_emod_of_dvd]; done)); (with_reducible repeat (first | refine blk_drewN ?_ _ | refine blk_drew ?_ | refine blk_alloc ?_ _)); refine blk_put (cs := #[.int .u32 0, .int .i64 0]) ?_ 0 _ (by first | rfl | (simp [Int.emod_emod_of_dvd]; done)); (with_reducible repeat (first | refine blk_drewN ?_ _ | refine blk_drew ?_ | refine blk_alloc ?_ _)); exact BK151.out) hb); have n5_ := Aside0.mk (below_step (by repeat (first | (with_reducible first | exact HB.out | apply below_alloc | apply pw_below_drewN | apply below_drew1 | refine below_set ?_ GE139.out | refine below_set ?_ GE144.out | refine below_set ?_ GE151.out) | exact HB.out)) hb); clear HO2; clear HO149; clear BK139; clear BK144; clear BK151; clear HB; have HO2 := n0_; have HO149 := n1_; have BK139 := n2_; have BK144 := n3_; have BK151 := n4_; have HB := n5_; clear n0_ n1_ n2_ n3_ n4_ n5_; (try clear hb); (try clear hb2); (try clear hk); (try clear hi); have hcz42_0 : w41.cell? ⟨gb144, 0, none⟩ = some (.int .u32 t145) := (blk_cell BK144.out 0).trans rfl; have hcz42_1 : w41.cell? ⟨gb144, 1, none⟩ = some (.int .i64 t146) := (blk_cell BK144.out 1).trans rfl; have hfz42_0 := blk_frozen BK144.out 0; have hfz42_1 := blk_frozen BK144.out 1) | ((with_reducible refine gate_callee (f := 8) rfl ?_); refine goesL_ (some 66) rfl rfl Try.func8 (by kernel_rfl) rfl #[.slice A2 l2.length c2, .int .i64 a3, .int .u32 a4, .agg #[.int .u32 t145, .int .i64 t146]] rfl (by (try simp only [List.map_toArray, List.map_cons, List.map_nil]); first | done | rfl | (simp only [List.length_drop, List.length_take]; rfl)) ?_; (with_reducible refine (tlb_Put.calls k (fun k_ => (((((P2_ k_ ∨ w.heap.size ≤ k_) ∧ k_ ≠ gb139) ∧ k_ ≠ gb144) ∧ some k_ ≠ (v148 : Value).ownBlock) ∧ k_ ≠ gb151)) _ _ l2 a3 a4 t145 t146 t154 t157 _ ?side1 A32.out).mono ?_); (case side1 => exact HO2.out); rintro e w43 ⟨v155, rfl, ho0, hb⟩; refine ⟨_, rfl, ?_⟩; have n0_ := Aside0.mk (Kd.V_below (by (with_reducible repeat (first | apply Kd.V_alloc | apply Kd.V_drewN | apply Kd.V_drew)); exact HO2.out) hb); have n1_ := Aside0.mk (Kd.R_below (by (with_reducible repeat (first | apply Kd.R_alloc | apply Kd.R_drewN | apply Kd.R_drew)); exact HO149.out) hb); have n2_ := Aside0.mk (Kd.V_lower (Kd.V_mono (ok' := fun k_ => (P2_ k_ ∨ w.heap.size ≤ k_) ∧ some k_ ≠ (v148 : Value).ownBlock ∧ k_ ≠ gb139 ∧ k_ ≠ gb144 ∧ k_ ≠ gb151) ho0 (fun k_ hk_ => ⟨Or.elim hk_ (fun hs_ => hs_.1.1.1.1) (fun hn_ => (.inr (Nat.le_trans (below_size (by repeat (first | (with_reducible first | exact HB.out | apply below_alloc | apply pw_below_drewN | apply below_drew1 | refine below_set ?_ GE139.out | refine below_set ?_ GE144.out | refine below_set ?_ GE151.out) | exact HB.out))) hn_))), Or.elim hk_ (fun hs_ => hs_.1.2) (fun hn_ => (Kd.fresh' (Kd.R_lt (by (with_reducible repeat (first | apply Kd.R_alloc | apply Kd.R_drewN | apply Kd.R_drew)); exact HO149.out)) k_ hn_)), Or.elim hk_ (fun hs_ => hs_.1.1.1.2) (fun hn_ => (Kd.freshB (g := gb139) (o := .cells #[.int .u32 a0_0, .int .u32 a0_1, .int .u32 a0_2, .int .u32 a0_3, .int .u32 a0_4, .int .u32 a0_5, .int .u32 a0_6, .int .u32 a0_7, .int .u32 a0_8, .int .u32 a0_9, .int .u32 a0_10, .int .u32 a0_11, .int .u32 a0_12, .int .u32 a0_13, .int .u32 a0_14, .int .u32 a0_15, .int .u32 a0_16, .int .u32 a0_17, .int .u32 a0_18, .int .u32 a0_19, .int .u32 a0_20, .int .u32 a0_21, .int .u32 a0_22, .int .u32 a0_23, .int .u32 a0_24, .int .u32 a0_25, .int .u32 a0_26, .int .u32 a0_27, .int .u32 a0_28, .bool a0_29] 36 (0, 0)) (by (with_reducible repeat (first | refine blk_drewN ?_ _ | refine blk_drew ?_ | refine blk_alloc ?_ _)); exact BK139.out) k_ hn_)), Or.elim hk_ (fun hs_ => hs_.1.1.2) (fun hn_ => (Kd.freshB (g := gb144) (o := .cells #[.int .u32 t145, .int .i64 t146] 27 (0, 0)) (by (with_reducible repeat (first | refine blk_drewN ?_ _ | refine blk_drew ?_ | refine blk_alloc ?_ _)); exact BK144.out) k_ hn_)), Or.elim hk_ (fun hs_ => hs_.2) (fun hn_ => (Kd.freshB (g := gb151) (o := .cells #[.int .u32 t145, .int .i64 t146] 27 (0, 0)) (by (with_reducible repeat (first | refine blk_drewN ?_ _ | refine blk_drew ?_ | refine blk_alloc ?_ _)); exact BK151.out) k_ hn_))⟩)) (below_size (by repeat (first | (with_reducible first | exact HB.out | apply below_alloc | apply pw_below_drewN | apply below_drew1 | refine below_set ?_ GE139.out | refine below_set ?_ GE144.out | refine below_set ?_ GE151.out) | exact HB.out)))); have n3_ := Aside0.mk (blk_below (g := gb139) (o := .cells #[.int .u32 a0_0, .int .u32 a0_1, .int .u32 a0_2, .int .u32 a0_3, .int .u32 a0_4, .int .u32 a0_5, .int .u32 a0_6, .int .u32 a0_7, .int .u32 a0_8, .int .u32 a0_9, .int .u32 a0_10, .int .u32 a0_11, .int .u32 a0_12, .int .u32 a0_13, .int .u32 a0_14, .int .u32 a0_15, .int .u32 a0_16, .int .u32 a0_17, .int .u32 a0_18, .int .u32 a0_19, .int .u32 a0_20, .int .u32 a0_21, .int .u32 a0_22, .int .u32 a0_23, .int .u32 a0_24, .int .u32 a0_25, .int .u32 a0_26, .int .u32 a0_27, .int .u32 a0_28, .bool a0_29] 36 (0, 0)) (by (with_reducible repeat (first | refine blk_drewN ?_ _ | refine blk_drew ?_ | refine blk_alloc ?_ _)); exact BK139.out) hb); have n4_ := Aside0.mk (blk_below (g := gb144) (o := .cells #[.int .u32 t145, .int .i64 t146] 27 (0, 0)) (by (with_reducible repeat (first | refine blk_drewN ?_ _ | refine blk_drew ?_ | refine blk_alloc ?_ _)); exact BK144.out) hb); have n5_ := Aside0.mk (blk_below (g := gb151) (o := .cells #[.int .u32 t145, .int .i64 t146] 27 (0, 0)) (by (with_reducible repeat (first | refine blk_drewN ?_ _ | refine blk_drew ?_ | refine blk_alloc ?_ _)); exact BK151.out) hb); have n6_ := Aside0.mk (below_step (by repeat (first | (with_reducible first | exact HB.out | apply below_alloc | apply pw_below_drewN | apply below_drew1 | refine below_set ?_ GE139.out | refine below_set ?_ GE144.out | refine below_set ?_ GE151.out) | exact HB.out)) hb); clear HO2; clear HO149; clear BK139; clear BK144; clear BK151; clear HB; have HO2 := n0_; have HO149 := n1_; have HO156 := n2_; have BK139 := n3_; have BK144 := n4_; have BK151 := n5_; have HB := n6_; clear n0_ n1_ n2_ n3_ n4_ n5_ n6_; (try clear hb); (try clear hb2); (try clear hk); (try clear hi); (try clear ho0)))
              go_meet
              case rel => exact ⟨_, (t154), (t157), (t145), (t146), (by first | rfl | (simp; done) | (simp [*]; done)), H', ⟨by first | omega | exact Nat.le_refl _⟩, ⟨by (with_reducible repeat (first | apply Kd.V_alloc | apply Kd.V_drewN | apply Kd.V_drew)); exact Kd.V_mono HO156.out (fun _ hk => ⟨hk.1, ⟨hk.2.2.1, hk.2.2.2.1⟩⟩)⟩, ⟨by (with_reducible repeat (first | refine blk_drewN ?_ _ | refine blk_drew ?_ | refine blk_alloc ?_ _)); exact BK139.out⟩, ⟨by (with_reducible repeat (first | refine blk_drewN ?_ _ | refine blk_drew ?_ | refine blk_alloc ?_ _)); exact BK144.out⟩, ⟨by repeat (first | (with_reducible first | exact HB.out | apply below_alloc | apply pw_below_drewN | apply below_drew1 | refine below_set ?_ GE139.out | refine below_set ?_ GE144.out | refine below_set ?_ GE151.out) | exact HB.out)⟩⟩
            · replace c31 := Bool.eq_false_iff.mpr c31
              subst c31
              have H1 : (tlb_Trans.j0 k l2 a3 a4 a5 false t145 t146) = some (r1, r2, r3, r4, r5) := by rw [if_neg (show ¬ (false = true) by decide)] at H; exact H
              clear H
              have H := H1
              clear H1
              have H' := Aside0.mk H
              clear H
              have hnb44 := NB139_144.out
              have hnc44 := NB144_139.out
              have hcz45_17 : w15.cell? ⟨gb139, 17, none⟩ = some (.int .u32 a0_17) := (blk_cell BK139.out 17).trans rfl
              have hcz45_22 : w15.cell? ⟨gb139, 22, none⟩ = some (.int .u32 a0_22) := (blk_cell BK139.out 22).trans rfl
              go_wp2_with (first | ((with_reducible refine gate_dst (N := 22) rfl ?_); refine Go.Proofs.Ytkcncghdpjoodaa.Cp.load_whole 36 (.tmp 6) gb139 rfl rfl rfl (by (with_reducible repeat (first | refine blk_drewN ?_ _ | refine blk_drew ?_ | refine blk_alloc ?_ _)); exact BK139.out) Try.underlying36 rfl (by kernel_rfl) ?_) | ((with_reducible refine gate_callee (f := 25) rfl ?_); refine goesL_ (some 42) rfl rfl Try.func25 (by kernel_rfl) rfl #[.slice A1 l1.length c1, .int .u32 a0_22, .int .u32 a4] rfl (by (try simp only [List.map_toArray, List.map_cons, List.map_nil]); first | done | rfl | (simp only [List.length_drop, List.length_take]; rfl)) ?_; (with_reducible refine (walk_Walk.calls k _ _ l1 a0_22 a4 t145 t146 t147 true _ ?side1 ?side2 A19.out).mono ?_); (case side1 => exact Kd.C_below HR1.out (by repeat (first | (with_reducible first | exact HB.out | apply below_alloc | apply pw_below_drewN | apply below_drew1 | refine below_set ?_ GE139.out | refine below_set ?_ GE144.out) | exact HB.out))); (case side2 => exact HC1.out); rintro e w46 ⟨v148, rfl, ho0, hb⟩; refine ⟨_, rfl, ?_⟩; have n0_ := Aside0.mk (Kd.V_elder' (by (with_reducible repeat (first | apply Kd.V_alloc | apply Kd.V_drewN | apply Kd.V_drew)); exact (Kd.V_mono (Kd.V_far (p := ⟨gb144, 1, none⟩) (Kd.V_far (p := ⟨gb144, 0, none⟩) (Kd.V_mono HO2.out (fun k_ hk => (⟨hk, hk.2⟩ : _ ∧ k_ ≠ gb144))) (fun _ hk => hk.2) (.int .u32 t141)) (fun _ hk => hk.2) (.int .i64 t142)) (fun _ h_ => h_.1))) (Kd.R_base ho0) hb); have n1_ := Aside0.mk (Kd.R_lower (Kd.R_newM (M := fun k_ => (w.heap.size ≤ k_)) ho0 (below_size (by repeat (first | (with_reducible first | exact HB.out | apply below_alloc | apply pw_below_drewN | apply below_drew1 | refine below_set ?_ GE139.out | refine below_set ?_ GE144.out) | exact HB.out))) (fun k_ h_ => h_)) (below_size (by repeat (first | (with_reducible first | exact HB.out | apply below_alloc | apply pw_below_drewN | apply below_drew1 | refine below_set ?_ GE139.out | refine below_set ?_ GE144.out) | exact HB.out)))); have n2_ := Aside0.mk (blk_below (g := gb139) (o := .cells #[.int .u32 a0_0, .int .u32 a0_1, .int .u32 a0_2, .int .u32 a0_3, .int .u32 a0_4, .int .u32 a0_5, .int .u32 a0_6, .int .u32 a0_7, .int .u32 a0_8, .int .u32 a0_9, .int .u32 a0_10, .int .u32 a0_11, .int .u32 a0_12, .int .u32 a0_13, .int .u32 a0_14, .int .u32 a0_15, .int .u32 a0_16, .int .u32 a0_17, .int .u32 a0_18, .int .u32 a0_19, .int .u32 a0_20, .int .u32 a0_21, .int .u32 a0_22, .int .u32 a0_23, .int .u32 a0_24, .int .u32 a0_25, .int .u32 a0_26, .int .u32 a0_27, .int .u32 a0_28, .bool a0_29] 36 (0, 0)) (by (with_reducible repeat (first | refine blk_drewN ?_ _ | refine blk_drew ?_ | refine blk_alloc ?_ _)); refine blk_far ?_ NB139_144.out _; (with_reducible repeat (first | refine blk_drewN ?_ _ | refine blk_drew ?_ | refine blk_alloc ?_ _)); refine blk_far ?_ NB139_144.out _; (with_reducible repeat (first | refine blk_drewN ?_ _ | refine blk_drew ?_ | refine blk_alloc ?_ _)); exact BK139.out) hb); have n3_ := Aside0.mk (blk_below (g := gb144) (o := .cells #[.int .u32 t141, .int .i64 t142] 27 (0, 0)) (by (with_reducible repeat (first | refine blk_drewN ?_ _ | refine blk_drew ?_ | refine blk_alloc ?_ _)); refine blk_put (cs := #[.int .u32 t141, .int .i64 0]) ?_ 1 _ (by first | rfl | (simp [Int.emod_emod_of_dvd]; done)); (with_reducible repeat (first | refine blk_drewN ?_ _ | refine blk_drew ?_ | refine blk_alloc ?_ _)); refine blk_put (cs := #[.int .u32 0, .int .i64 0]) ?_ 0 _ (by first | rfl | (simp [Int.emod_emod_of_dvd]; done)); (with_reducible repeat (first | refine blk_drewN ?_ _ | refine blk_drew ?_ | refine blk_alloc ?_ _)); exact BK144.out) hb); have n4_ := Aside0.mk (below_step (by repeat (first | (with_reducible first | exact HB.out | apply below_alloc | apply pw_below_drewN | apply below_drew1 | refine below_set ?_ GE139.out | refine below_set ?_ GE144.out) | exact HB.out)) hb); clear HO2; clear BK139; clear BK144; clear HB; have HO2 := n0_; have HO149 := n1_; have BK139 := n2_; have BK144 := n3_; have HB := n4_; clear n0_ n1_ n2_ n3_ n4_; (try clear hb); (try clear hb2); (try clear hk); (try clear hi); (try clear ho0)) | ((with_reducible refine gate_dst (N := 19) rfl ?_); refine box_event ?hg (N := 19) ?hd (cs := #[.int .u32 0, .int .i64 0]) (t := 27) ?hr ?_; (case hd => rfl); (case hg => rfl); (case hr => first | (go_simp; done) | (go_simp; rfl)); intro gb151 hg w47 hbox hb; have n0_ := Aside0.mk (Kd.V_below (Kd.V_elderB (by (with_reducible repeat (first | apply Kd.V_alloc | apply Kd.V_drewN | apply Kd.V_drew)); exact HO2.out) gb151 (Nat.le_of_eq hg.symm)) hb); have n1_ := Aside0.mk (Kd.R_below (by (with_reducible repeat (first | apply Kd.R_alloc | apply Kd.R_drewN | apply Kd.R_drew)); exact HO149.out) hb); have n2_ := Aside0.mk (blk_below (g := gb139) (o := .cells #[.int .u32 a0_0, .int .u32 a0_1, .int .u32 a0_2, .int .u32 a0_3, .int .u32 a0_4, .int .u32 a0_5, .int .u32 a0_6, .int .u32 a0_7, .int .u32 a0_8, .int .u32 a0_9, .int .u32 a0_10, .int .u32 a0_11, .int .u32 a0_12, .int .u32 a0_13, .int .u32 a0_14, .int .u32 a0_15, .int .u32 a0_16, .int .u32 a0_17, .int .u32 a0_18, .int .u32 a0_19, .int .u32 a0_20, .int .u32 a0_21, .int .u32 a0_22, .int .u32 a0_23, .int .u32 a0_24, .int .u32 a0_25, .int .u32 a0_26, .int .u32 a0_27, .int .u32 a0_28, .bool a0_29] 36 (0, 0)) (by (with_reducible repeat (first | refine blk_drewN ?_ _ | refine blk_drew ?_ | refine blk_alloc ?_ _)); exact BK139.out) hb); have n3_ := Aside0.mk (blk_below (g := gb144) (o := .cells #[.int .u32 t141, .int .i64 t142] 27 (0, 0)) (by (with_reducible repeat (first | refine blk_drewN ?_ _ | refine blk_drew ?_ | refine blk_alloc ?_ _)); exact BK144.out) hb); have n4_ := Aside0.mk (below_step (by repeat (first | (with_reducible first | exact HB.out | apply below_alloc | apply pw_below_drewN | apply below_drew1 | refine below_set ?_ GE139.out | refine below_set ?_ GE144.out) | exact HB.out)) hb); have n5_ := Aside0.mk (hbox); have n6_ := Aside0.mk ((by rw [hg]; exact (below_size (by repeat (first | (with_reducible first | exact HB.out | apply below_alloc | apply pw_below_drewN | apply below_drew1 | refine below_set ?_ GE139.out | refine below_set ?_ GE144.out) | exact HB.out))) : w.heap.size ≤ gb151)); have n7_ := Aside0.mk ((by rw [hg]; exact (below_size (by repeat (first | (with_reducible first | exact HB.out | apply below_alloc | apply pw_below_drewN | apply below_drew1 | refine below_set ?_ GE139.out | refine below_set ?_ GE144.out) | exact HB.out))) : w.heap.size ≤ gb151)); have n8_ := Aside0.mk ((by rw [hg]; exact Nat.ne_of_lt (blk_lt (g := gb139) (o := .cells #[.int .u32 a0_0, .int .u32 a0_1, .int .u32 a0_2, .int .u32 a0_3, .int .u32 a0_4, .int .u32 a0_5, .int .u32 a0_6, .int .u32 a0_7, .int .u32 a0_8, .int .u32 a0_9, .int .u32 a0_10, .int .u32 a0_11, .int .u32 a0_12, .int .u32 a0_13, .int .u32 a0_14, .int .u32 a0_15, .int .u32 a0_16, .int .u32 a0_17, .int .u32 a0_18, .int .u32 a0_19, .int .u32 a0_20, .int .u32 a0_21, .int .u32 a0_22, .int .u32 a0_23, .int .u32 a0_24, .int .u32 a0_25, .int .u32 a0_26, .int .u32 a0_27, .int .u32 a0_28, .bool a0_29] 36 (0, 0)) (by (with_reducible repeat (first | refine blk_drewN ?_ _ | refine blk_drew ?_ | refine blk_alloc ?_ _)); exact BK139.out)) : gb139 ≠ gb151)); have n9_ := Aside0.mk ((by rw [hg]; exact Nat.ne_of_gt (blk_lt (g := gb139) (o := .cells #[.int .u32 a0_0, .int .u32 a0_1, .int .u32 a0_2, .int .u32 a0_3, .int .u32 a0_4, .int .u32 a0_5, .int .u32 a0_6, .int .u32 a0_7, .int .u32 a0_8, .int .u32 a0_9, .int .u32 a0_10, .int .u32 a0_11, .int .u32 a0_12, .int .u32 a0_13, .int .u32 a0_14, .int .u32 a0_15, .int .u32 a0_16, .int .u32 a0_17, .int .u32 a0_18, .int .u32 a0_19, .int .u32 a0_20, .int .u32 a0_21, .int .u32 a0_22, .int .u32 a0_23, .int .u32 a0_24, .int .u32 a0_25, .int .u32 a0_26, .int .u32 a0_27, .int .u32 a0_28, .bool a0_29] 36 (0, 0)) (by (with_reducible repeat (first | refine blk_drewN ?_ _ | refine blk_drew ?_ | refine blk_alloc ?_ _)); exact BK139.out)) : gb151 ≠ gb139)); have n10_ := Aside0.mk ((by rw [hg]; exact Nat.ne_of_lt (blk_lt (g := gb144) (o := .cells #[.int .u32 t141, .int .i64 t142] 27 (0, 0)) (by (with_reducible repeat (first | refine blk_drewN ?_ _ | refine blk_drew ?_ | refine blk_alloc ?_ _)); exact BK144.out)) : gb144 ≠ gb151)); have n11_ := Aside0.mk ((by rw [hg]; exact Nat.ne_of_gt (blk_lt (g := gb144) (o := .cells #[.int .u32 t141, .int .i64 t142] 27 (0, 0)) (by (with_reducible repeat (first | refine blk_drewN ?_ _ | refine blk_drew ?_ | refine blk_alloc ?_ _)); exact BK144.out)) : gb151 ≠ gb144)); clear HO2; clear HO149; clear BK139; clear BK144; clear HB; have HO2 := n0_; have HO149 := n1_; have BK139 := n2_; have BK144 := n3_; have HB := n4_; have BK151 := n5_; have GW151 := n6_; have GE151 := n7_; have NB139_151 := n8_; have NB151_139 := n9_; have NB144_151 := n10_; have NB151_144 := n11_; clear n0_ n1_ n2_ n3_ n4_ n5_ n6_ n7_ n8_ n9_ n10_ n11_; clear hb hbox hg; have hnb48 := NB151_139.out; have hnc48 := NB139_151.out; have hnb49 := NB151_144.out; have hnc49 := NB144_151.out; have hcz50_0 : w47.cell? ⟨gb151, 0, none⟩ = some (.int .u32 0) := (blk_cell BK151.out 0).trans rfl; have hcz50_1 : w47.cell? ⟨gb151, 1, none⟩ = some (.int .i64 0) := (blk_cell BK151.out 1).trans rfl; have hfz50_0 := blk_frozen BK151.out 0; have hfz50_1 := blk_frozen BK151.out 1; have hcz51_0 : w47.cell? ⟨gb144, 0, none⟩ = some (.int .u32 t141) := (blk_cell BK144.out 0).trans rfl; have hcz51_1 : w47.cell? ⟨gb144, 1, none⟩ = some (.int .i64 t142) := (blk_cell BK144.out 1).trans rfl; have hfz51_0 := blk_frozen BK144.out 0; have hfz51_1 := blk_frozen BK144.out 1) | (go_at_call 27; (with_reducible refine (pte_Leaf.calls t145 t146 false _ A30.out).mono ?_); rintro e w52 ⟨rfl, hb⟩; have n0_ := Aside0.mk (Kd.V_below (by (with_reducible repeat (first | apply Kd.V_alloc | apply Kd.V_drewN | apply Kd.V_drew)); exact (Kd.V_mono (Kd.V_mono (Kd.V_far (p := ⟨gb144, 1, none⟩) (Kd.V_far (p := ⟨gb144, 0, none⟩) (Kd.V_far (p := ⟨gb151, 1, none⟩) (Kd.V_far (p := ⟨gb151, 0, none⟩) (Kd.V_mono (Kd.V_mono HO2.out (fun k_ hk => (⟨hk, hk.2⟩ : _ ∧ k_ ≠ gb151))) (fun k_ hk => (⟨hk, hk.1.1.1.2⟩ : _ ∧ k_ ≠ gb144))) (fun _ hk => hk.1.2) (.int .u32 t145)) (fun _ hk => hk.1.2) (.int .i64 t146)) (fun _ hk => hk.2) (.int .u32 t145)) (fun _ hk => hk.2) (.int .i64 t146)) (fun _ h_ => h_.1)) (fun _ h_ => h_.1))) hb); have n1_ := Aside0.mk (Kd.R_below (by (with_reducible repeat (first | apply Kd.R_alloc | apply Kd.R_drewN | apply Kd.R_drew)); exact (Kd.R_mono (Kd.R_mono (Kd.R_far (p := ⟨gb144, 1, none⟩) (Kd.R_far (p := ⟨gb144, 0, none⟩) (Kd.R_far (p := ⟨gb151, 1, none⟩) (Kd.R_far (p := ⟨gb151, 0, none⟩) (Kd.R_types (Kd.R_types HO149.out BK151.out (by decide)) BK144.out (by decide)) (fun _ hk => hk.1.2) (.int .u32 t145)) (fun _ hk => hk.1.2) (.int .i64 t146)) (fun _ hk => hk.2) (.int .u32 t145)) (fun _ hk => hk.2) (.int .i64 t146)) (fun _ h_ => h_.1)) (fun _ h_ => h_.1))) hb); have n2_ := Aside0.mk (blk_below (g := gb139) (o := .cells #[.int .u32 a0_0, .int .u32 a0_1, .int .u32 a0_2, .int .u32 a0_3, .int .u32 a0_4, .int .u32 a0_5, .int .u32 a0_6, .int .u32 a0_7, .int .u32 a0_8, .int .u32 a0_9, .int .u32 a0_10, .int .u32 a0_11, .int .u32 a0_12, .int .u32 a0_13, .int .u32 a0_14, .int .u32 a0_15, .int .u32 a0_16, .int .u32 a0_17, .int .u32 a0_18, .int .u32 a0_19, .int .u32 a0_20, .int .u32 a0_21, .int .u32 a0_22, .int .u32 a0_23, .int .u32 a0_24, .int .u32 a0_25, .int .u32 a0_26, .int .u32 a0_27, .int .u32 a0_28, .bool a0_29] 36 (0, 0)) (by (with_reducible repeat (first | refine blk_drewN ?_ _ | refine blk_drew ?_ | refine blk_alloc ?_ _)); refine blk_far ?_ NB139_144.out _; (with_reducible repeat (first | refine blk_drewN ?_ _ | refine blk_drew ?_ | refine blk_alloc ?_ _)); refine blk_far ?_ NB139_144.out _; (with_reducible repeat (first | refine blk_drewN ?_ _ | refine blk_drew ?_ | refine blk_alloc ?_ _)); refine blk_far ?_ NB139_151.out _; (with_reducible repeat (first | refine blk_drewN ?_ _ | refine blk_drew ?_ | refine blk_alloc ?_ _)); refine blk_far ?_ NB139_151.out _; (with_reducible repeat (first | refine blk_drewN ?_ _ | refine blk_drew ?_ | refine blk_alloc ?_ _)); exact BK139.out) hb); have n3_ := Aside0.mk (blk_below (g := gb144) (o := .cells #[.int .u32 t145, .int .i64 t146] 27 (0, 0)) (by (with_reducible repeat (first | refine blk_drewN ?_ _ | refine blk_drew ?_ | refine blk_alloc ?_ _)); refine blk_put (cs := #[.int .u32 t145, .int .i64 t142]) ?_ 1 _ (by first | rfl | (simp [Int.emod_emod_of_dvd]; done)); (with_reducible repeat (first | refine blk_drewN ?_ _ | refine blk_drew ?_ | refine blk_alloc ?_ _)); refine blk_put (cs := #[.int .u32 t141, .int .i64 t142]) ?_ 0 _ (by first | rfl | (simp [Int.emod_emod_of_dvd]; done)); (with_reducible repeat (first | refine blk_drewN ?_ _ | refine blk_drew ?_ | refine blk_alloc ?_ _)); refine blk_far ?_ NB144_151.out _; (with_reducible repeat (first | refine blk_drewN ?_ _ | refine blk_drew ?_ | refine blk_alloc ?_ _)); refine blk_far ?_ NB144_151.out _; (with_reducible repeat (first | refine blk_drewN ?_ _ | refine blk_drew ?_ | refine blk_alloc ?_ _)); exact BK144.out) hb); have n4_ := Aside0.mk (blk_below (g := gb151) (o := .cells #[.int .u32 t145, .int .i64 t146] 27 (0, 0)) (by (with_reducible repeat (first | refine blk_drewN ?_ _ | refine blk_drew ?_ | refine blk_alloc ?_ _)); refine blk_far ?_ NB151_144.out _; (with_reducible repeat (first | refine blk_drewN ?_ _ | refine blk_drew ?_ | refine blk_alloc ?_ _)); refine blk_far ?_ NB151_144.out _; (with_reducible repeat (first | refine blk_drewN ?_ _ | refine blk_drew ?_ | refine blk_alloc ?_ _)); refine blk_put (cs := #[.int .u32 t145, .int .i64 0]) ?_ 1 _ (by first | rfl | (simp [Int.emod_emod_of_dvd]; done)); (with_reducible repeat (first | refine blk_drewN ?_ _ | refine blk_drew ?_ | refine blk_alloc ?_ _)); refine blk_put (cs := #[.int .u32 0, .int .i64 0]) ?_ 0 _ (by first | rfl | (simp [Int.emod_emod_of_dvd]; done)); (with_reducible repeat (first | refine blk_drewN ?_ _ | refine blk_drew ?_ | refine blk_alloc ?_ _)); exact BK151.out) hb); have n5_ := Aside0.mk (below_step (by repeat (first | (with_reducible first | exact HB.out | apply below_alloc | apply pw_below_drewN | apply below_drew1 | refine below_set ?_ GE139.out | refine below_set ?_ GE144.out | refine below_set ?_ GE151.out) | exact HB.out)) hb); clear HO2; clear HO149; clear BK139; clear BK144; clear BK151; clear HB; have HO2 := n0_; have HO149 := n1_; have BK139 := n2_; have BK144 := n3_; have BK151 := n4_; have HB := n5_; clear n0_ n1_ n2_ n3_ n4_ n5_; (try clear hb); (try clear hb2); (try clear hk); (try clear hi)))
              go_meet
              case rel => exact ⟨_, (l2), (a3), (t145), (t146), (by first | rfl | (simp; done) | (simp [*]; done)), H', ⟨by first | omega | exact Nat.le_refl _⟩, ⟨by (with_reducible repeat (first | apply Kd.V_alloc | apply Kd.V_drewN | apply Kd.V_drew)); exact Kd.V_mono HO2.out (fun _ hk => ⟨hk.1.1.1.1, ⟨hk.1.1.1.2, hk.1.1.2⟩⟩)⟩, ⟨by (with_reducible repeat (first | refine blk_drewN ?_ _ | refine blk_drew ?_ | refine blk_alloc ?_ _)); exact BK139.out⟩, ⟨by (with_reducible repeat (first | refine blk_drewN ?_ _ | refine blk_drew ?_ | refine blk_alloc ?_ _)); exact BK144.out⟩, ⟨by repeat (first | (with_reducible first | exact HB.out | apply below_alloc | apply pw_below_drewN | apply below_drew1 | refine below_set ?_ GE139.out | refine below_set ?_ GE144.out | refine below_set ?_ GE151.out) | exact HB.out)⟩⟩
        · replace c20 := Bool.eq_false_iff.mpr c20
          subst c20
          have H1 : ((walk_Fault.f a5).bind fun t152 => (some (0, t152, l2, a3, false))) = some (r1, r2, r3, r4, r5) := by rw [if_neg (show ¬ (false = true) by decide)] at H; exact H
          clear H
          have H := H1
          clear H1
          replace H := Option.bind_eq_some_iff.mp H
          obtain ⟨t152, A530, H⟩ := H
          replace H : (some (0, t152, l2, a3, false)) = some (r1, r2, r3, r4, r5) := H
          have A53 := Aside0.mk A530
          clear A530
          simp only [Option.some.injEq, Prod.mk.injEq] at H
          obtain ⟨rfl, rfl, rfl, rfl, rfl⟩ := H
          have hnb54 := NB139_144.out
          have hnc54 := NB144_139.out
          have hcz55_17 : w15.cell? ⟨gb139, 17, none⟩ = some (.int .u32 a0_17) := (blk_cell BK139.out 17).trans rfl
          have hcz55_22 : w15.cell? ⟨gb139, 22, none⟩ = some (.int .u32 a0_22) := (blk_cell BK139.out 22).trans rfl
          go_wp2_with (first | ((with_reducible refine gate_dst (N := 22) rfl ?_); refine Go.Proofs.Ytkcncghdpjoodaa.Cp.load_whole 36 (.tmp 6) gb139 rfl rfl rfl (by (with_reducible repeat (first | refine blk_drewN ?_ _ | refine blk_drew ?_ | refine blk_alloc ?_ _)); exact BK139.out) Try.underlying36 rfl (by kernel_rfl) ?_) | ((with_reducible refine gate_callee (f := 25) rfl ?_); refine goesL_ (some 42) rfl rfl Try.func25 (by kernel_rfl) rfl #[.slice A1 l1.length c1, .int .u32 a0_22, .int .u32 a4] rfl (by (try simp only [List.map_toArray, List.map_cons, List.map_nil]); first | done | rfl | (simp only [List.length_drop, List.length_take]; rfl)) ?_; (with_reducible refine (walk_Walk.calls k _ _ l1 a0_22 a4 t145 t146 t147 false _ ?side1 ?side2 A19.out).mono ?_); (case side1 => exact Kd.C_below HR1.out (by repeat (first | (with_reducible first | exact HB.out | apply below_alloc | apply pw_below_drewN | apply below_drew1 | refine below_set ?_ GE139.out | refine below_set ?_ GE144.out) | exact HB.out))); (case side2 => exact HC1.out); rintro e w56 ⟨v148, rfl, ho0, hb⟩; refine ⟨_, rfl, ?_⟩; have n0_ := Aside0.mk (Kd.V_elder' (by (with_reducible repeat (first | apply Kd.V_alloc | apply Kd.V_drewN | apply Kd.V_drew)); exact (Kd.V_mono (Kd.V_far (p := ⟨gb144, 1, none⟩) (Kd.V_far (p := ⟨gb144, 0, none⟩) (Kd.V_mono HO2.out (fun k_ hk => (⟨hk, hk.2⟩ : _ ∧ k_ ≠ gb144))) (fun _ hk => hk.2) (.int .u32 t141)) (fun _ hk => hk.2) (.int .i64 t142)) (fun _ h_ => h_.1))) (Kd.R_base ho0) hb); have n1_ := Aside0.mk (Kd.R_lower (Kd.R_newM (M := fun k_ => (w.heap.size ≤ k_)) ho0 (below_size (by repeat (first | (with_reducible first | exact HB.out | apply below_alloc | apply pw_below_drewN | apply below_drew1 | refine below_set ?_ GE139.out | refine below_set ?_ GE144.out) | exact HB.out))) (fun k_ h_ => h_)) (below_size (by repeat (first | (with_reducible first | exact HB.out | apply below_alloc | apply pw_below_drewN | apply below_drew1 | refine below_set ?_ GE139.out | refine below_set ?_ GE144.out) | exact HB.out)))); have n2_ := Aside0.mk (blk_below (g := gb139) (o := .cells #[.int .u32 a0_0, .int .u32 a0_1, .int .u32 a0_2, .int .u32 a0_3, .int .u32 a0_4, .int .u32 a0_5, .int .u32 a0_6, .int .u32 a0_7, .int .u32 a0_8, .int .u32 a0_9, .int .u32 a0_10, .int .u32 a0_11, .int .u32 a0_12, .int .u32 a0_13, .int .u32 a0_14, .int .u32 a0_15, .int .u32 a0_16, .int .u32 a0_17, .int .u32 a0_18, .int .u32 a0_19, .int .u32 a0_20, .int .u32 a0_21, .int .u32 a0_22, .int .u32 a0_23, .int .u32 a0_24, .int .u32 a0_25, .int .u32 a0_26, .int .u32 a0_27, .int .u32 a0_28, .bool a0_29] 36 (0, 0)) (by (with_reducible repeat (first | refine blk_drewN ?_ _ | refine blk_drew ?_ | refine blk_alloc ?_ _)); refine blk_far ?_ NB139_144.out _; (with_reducible repeat (first | refine blk_drewN ?_ _ | refine blk_drew ?_ | refine blk_alloc ?_ _)); refine blk_far ?_ NB139_144.out _; (with_reducible repeat (first | refine blk_drewN ?_ _ | refine blk_drew ?_ | refine blk_alloc ?_ _)); exact BK139.out) hb); have n3_ := Aside0.mk (blk_below (g := gb144) (o := .cells #[.int .u32 t141, .int .i64 t142] 27 (0, 0)) (by (with_reducible repeat (first | refine blk_drewN ?_ _ | refine blk_drew ?_ | refine blk_alloc ?_ _)); refine blk_put (cs := #[.int .u32 t141, .int .i64 0]) ?_ 1 _ (by first | rfl | (simp [Int.emod_emod_of_dvd]; done)); (with_reducible repeat (first | refine blk_drewN ?_ _ | refine blk_drew ?_ | refine blk_alloc ?_ _)); refine blk_put (cs := #[.int .u32 0, .int .i64 0]) ?_ 0 _ (by first | rfl | (simp [Int.emod_emod_of_dvd]; done)); (with_reducible repeat (first | refine blk_drewN ?_ _ | refine blk_drew ?_ | refine blk_alloc ?_ _)); exact BK144.out) hb); have n4_ := Aside0.mk (below_step (by repeat (first | (with_reducible first | exact HB.out | apply below_alloc | apply pw_below_drewN | apply below_drew1 | refine below_set ?_ GE139.out | refine below_set ?_ GE144.out) | exact HB.out)) hb); clear HO2; clear BK139; clear BK144; clear HB; have HO2 := n0_; have HO149 := n1_; have BK139 := n2_; have BK144 := n3_; have HB := n4_; clear n0_ n1_ n2_ n3_ n4_; (try clear hb); (try clear hb2); (try clear hk); (try clear hi); (try clear ho0)) | ((with_reducible refine gate_dst (N := 19) rfl ?_); refine box_event ?hg (N := 19) ?hd (cs := #[.int .u32 0, .int .i64 0]) (t := 27) ?hr ?_; (case hd => rfl); (case hg => rfl); (case hr => first | (go_simp; done) | (go_simp; rfl)); intro gb151 hg w57 hbox hb; have n0_ := Aside0.mk (Kd.V_below (Kd.V_elderB (by (with_reducible repeat (first | apply Kd.V_alloc | apply Kd.V_drewN | apply Kd.V_drew)); exact HO2.out) gb151 (Nat.le_of_eq hg.symm)) hb); have n1_ := Aside0.mk (Kd.R_below (by (with_reducible repeat (first | apply Kd.R_alloc | apply Kd.R_drewN | apply Kd.R_drew)); exact HO149.out) hb); have n2_ := Aside0.mk (blk_below (g := gb139) (o := .cells #[.int .u32 a0_0, .int .u32 a0_1, .int .u32 a0_2, .int .u32 a0_3, .int .u32 a0_4, .int .u32 a0_5, .int .u32 a0_6, .int .u32 a0_7, .int .u32 a0_8, .int .u32 a0_9, .int .u32 a0_10, .int .u32 a0_11, .int .u32 a0_12, .int .u32 a0_13, .int .u32 a0_14, .int .u32 a0_15, .int .u32 a0_16, .int .u32 a0_17, .int .u32 a0_18, .int .u32 a0_19, .int .u32 a0_20, .int .u32 a0_21, .int .u32 a0_22, .int .u32 a0_23, .int .u32 a0_24, .int .u32 a0_25, .int .u32 a0_26, .int .u32 a0_27, .int .u32 a0_28, .bool a0_29] 36 (0, 0)) (by (with_reducible repeat (first | refine blk_drewN ?_ _ | refine blk_drew ?_ | refine blk_alloc ?_ _)); exact BK139.out) hb); have n3_ := Aside0.mk (blk_below (g := gb144) (o := .cells #[.int .u32 t141, .int .i64 t142] 27 (0, 0)) (by (with_reducible repeat (first | refine blk_drewN ?_ _ | refine blk_drew ?_ | refine blk_alloc ?_ _)); exact BK144.out) hb); have n4_ := Aside0.mk (below_step (by repeat (first | (with_reducible first | exact HB.out | apply below_alloc | apply pw_below_drewN | apply below_drew1 | refine below_set ?_ GE139.out | refine below_set ?_ GE144.out) | exact HB.out)) hb); have n5_ := Aside0.mk (hbox); have n6_ := Aside0.mk ((by rw [hg]; exact (below_size (by repeat (first | (with_reducible first | exact HB.out | apply below_alloc | apply pw_below_drewN | apply below_drew1 | refine below_set ?_ GE139.out | refine below_set ?_ GE144.out) | exact HB.out))) : w.heap.size ≤ gb151)); have n7_ := Aside0.mk ((by rw [hg]; exact (below_size (by repeat (first | (with_reducible first | exact HB.out | apply below_alloc | apply pw_below_drewN | apply below_drew1 | refine below_set ?_ GE139.out | refine below_set ?_ GE144.out) | exact HB.out))) : w.heap.size ≤ gb151)); have n8_ := Aside0.mk ((by rw [hg]; exact Nat.ne_of_lt (blk_lt (g := gb139) (o := .cells #[.int .u32 a0_0, .int .u32 a0_1, .int .u32 a0_2, .int .u32 a0_3, .int .u32 a0_4, .int .u32 a0_5, .int .u32 a0_6, .int .u32 a0_7, .int .u32 a0_8, .int .u32 a0_9, .int .u32 a0_10, .int .u32 a0_11, .int .u32 a0_12, .int .u32 a0_13, .int .u32 a0_14, .int .u32 a0_15, .int .u32 a0_16, .int .u32 a0_17, .int .u32 a0_18, .int .u32 a0_19, .int .u32 a0_20, .int .u32 a0_21, .int .u32 a0_22, .int .u32 a0_23, .int .u32 a0_24, .int .u32 a0_25, .int .u32 a0_26, .int .u32 a0_27, .int .u32 a0_28, .bool a0_29] 36 (0, 0)) (by (with_reducible repeat (first | refine blk_drewN ?_ _ | refine blk_drew ?_ | refine blk_alloc ?_ _)); exact BK139.out)) : gb139 ≠ gb151)); have n9_ := Aside0.mk ((by rw [hg]; exact Nat.ne_of_gt (blk_lt (g := gb139) (o := .cells #[.int .u32 a0_0, .int .u32 a0_1, .int .u32 a0_2, .int .u32 a0_3, .int .u32 a0_4, .int .u32 a0_5, .int .u32 a0_6, .int .u32 a0_7, .int .u32 a0_8, .int .u32 a0_9, .int .u32 a0_10, .int .u32 a0_11, .int .u32 a0_12, .int .u32 a0_13, .int .u32 a0_14, .int .u32 a0_15, .int .u32 a0_16, .int .u32 a0_17, .int .u32 a0_18, .int .u32 a0_19, .int .u32 a0_20, .int .u32 a0_21, .int .u32 a0_22, .int .u32 a0_23, .int .u32 a0_24, .int .u32 a0_25, .int .u32 a0_26, .int .u32 a0_27, .int .u32 a0_28, .bool a0_29] 36 (0, 0)) (by (with_reducible repeat (first | refine blk_drewN ?_ _ | refine blk_drew ?_ | refine blk_alloc ?_ _)); exact BK139.out)) : gb151 ≠ gb139)); have n10_ := Aside0.mk ((by rw [hg]; exact Nat.ne_of_lt (blk_lt (g := gb144) (o := .cells #[.int .u32 t141, .int .i64 t142] 27 (0, 0)) (by (with_reducible repeat (first | refine blk_drewN ?_ _ | refine blk_drew ?_ | refine blk_alloc ?_ _)); exact BK144.out)) : gb144 ≠ gb151)); have n11_ := Aside0.mk ((by rw [hg]; exact Nat.ne_of_gt (blk_lt (g := gb144) (o := .cells #[.int .u32 t141, .int .i64 t142] 27 (0, 0)) (by (with_reducible repeat (first | refine blk_drewN ?_ _ | refine blk_drew ?_ | refine blk_alloc ?_ _)); exact BK144.out)) : gb151 ≠ gb144)); clear HO2; clear HO149; clear BK139; clear BK144; clear HB; have HO2 := n0_; have HO149 := n1_; have BK139 := n2_; have BK144 := n3_; have HB := n4_; have BK151 := n5_; have GW151 := n6_; have GE151 := n7_; have NB139_151 := n8_; have NB151_139 := n9_; have NB144_151 := n10_; have NB151_144 := n11_; clear n0_ n1_ n2_ n3_ n4_ n5_ n6_ n7_ n8_ n9_ n10_ n11_; clear hb hbox hg; have hnb58 := NB151_139.out; have hnc58 := NB139_151.out; have hnb59 := NB151_144.out; have hnc59 := NB144_151.out; have hcz60_0 : w57.cell? ⟨gb151, 0, none⟩ = some (.int .u32 0) := (blk_cell BK151.out 0).trans rfl; have hcz60_1 : w57.cell? ⟨gb151, 1, none⟩ = some (.int .i64 0) := (blk_cell BK151.out 1).trans rfl; have hfz60_0 := blk_frozen BK151.out 0; have hfz60_1 := blk_frozen BK151.out 1) | ((with_reducible refine gate_callee (f := 26) rfl ?_); refine goesL_ (some 49) rfl rfl Try.func26 (by kernel_rfl) rfl #[.int .i64 a5] rfl (by (try simp only [List.map_toArray, List.map_cons, List.map_nil]); first | done | rfl | (simp only [List.length_drop, List.length_take]; rfl)) ?_; (with_reducible refine (walk_Fault.calls a5 t152 _ A53.out).mono ?_); rintro e w' ⟨rfl, ⟨nd, rfl⟩⟩; refine ⟨_, rfl, ?_⟩))
          refine bodyPost_ret (results_list (rs := [.tmp 12, .tmp 13, .tmp 14, .tmp 15, .tmp 16]) rfl (by simp) (.tmp (.tmp (.tmp (.tmp (.tmp .nil)))))) rfl ?_
          exact ⟨_, by first | rfl | (simp [errW_none, errW_some] <;> rfl) | (simp [*, errW_none, errW_some] <;> rfl), by (with_reducible repeat (first | apply Kd.V_alloc | apply Kd.V_drewN | apply Kd.V_drew)); exact Kd.V_mono (Kd.V_far (p := ⟨gb151, 1, none⟩) (Kd.V_far (p := ⟨gb151, 0, none⟩) (Kd.V_mono HO2.out (fun k_ hk => (⟨hk, hk.2⟩ : _ ∧ k_ ≠ gb151))) (fun _ hk => hk.2) (.int .u32 t145)) (fun _ hk => hk.2) (.int .i64 t146)) (fun _ hk => hk.1.1.1.1.1), by repeat (first | (with_reducible first | exact HB.out | apply below_alloc | apply pw_below_drewN | apply below_drew1 | refine below_set ?_ GE139.out | refine below_set ?_ GE144.out | refine below_set ?_ GE151.out) | exact HB.out)⟩
    case rest =>
      clear HC10
      try clear c1
      try clear c2
      try clear p2
      try clear c3
      try clear c4
      try clear c5
      try clear c8
      try clear c11
      try clear c13
      try clear c16
      try clear c18
      try clear c20
      try clear c21
      try clear c21b0
      try clear c21b1
      try clear c22
      try clear c24
      try clear c25
      try clear c26
      try clear c27
      try clear c31
      try clear c33
      try clear c37
      try clear c38
      try clear c44
      try clear c48
      try clear c49
      try clear c54
      try clear c58
      try clear c59
      try clear hcz12_0
      try clear hcz12_1
      try clear hcz12_10
      try clear hcz12_11
      try clear hcz12_12
      try clear hcz12_13
      try clear hcz12_14
      try clear hcz12_15
      try clear hcz12_16
      try clear hcz12_17
      try clear hcz12_18
      try clear hcz12_19
      try clear hcz12_2
      try clear hcz12_20
      try clear hcz12_21
      try clear hcz12_22
      try clear hcz12_23
      try clear hcz12_24
      try clear hcz12_25
      try clear hcz12_26
      try clear hcz12_27
      try clear hcz12_28
      try clear hcz12_29
      try clear hcz12_3
      try clear hcz12_4
      try clear hcz12_5
      try clear hcz12_6
      try clear hcz12_7
      try clear hcz12_8
      try clear hcz12_9
      try clear hcz17_0
      try clear hcz17_1
      try clear hcz23_0
      try clear hcz23_1
      try clear hcz23_10
      try clear hcz23_11
      try clear hcz23_12
      try clear hcz23_13
      try clear hcz23_14
      try clear hcz23_15
      try clear hcz23_16
      try clear hcz23_17
      try clear hcz23_18
      try clear hcz23_19
      try clear hcz23_2
      try clear hcz23_20
      try clear hcz23_21
      try clear hcz23_22
      try clear hcz23_23
      try clear hcz23_24
      try clear hcz23_25
      try clear hcz23_26
      try clear hcz23_27
      try clear hcz23_28
      try clear hcz23_29
      try clear hcz23_3
      try clear hcz23_4
      try clear hcz23_5
      try clear hcz23_6
      try clear hcz23_7
      try clear hcz23_8
      try clear hcz23_9
      try clear hcz28_0
      try clear hcz28_1
      try clear hcz29_0
      try clear hcz29_1
      try clear hcz34_0
      try clear hcz34_1
      try clear hcz34_10
      try clear hcz34_11
      try clear hcz34_12
      try clear hcz34_13
      try clear hcz34_14
      try clear hcz34_15
      try clear hcz34_16
      try clear hcz34_17
      try clear hcz34_18
      try clear hcz34_19
      try clear hcz34_2
      try clear hcz34_20
      try clear hcz34_21
      try clear hcz34_22
      try clear hcz34_23
      try clear hcz34_24
      try clear hcz34_25
      try clear hcz34_26
      try clear hcz34_27
      try clear hcz34_28
      try clear hcz34_29
      try clear hcz34_3
      try clear hcz34_4
      try clear hcz34_5
      try clear hcz34_6
      try clear hcz34_7
      try clear hcz34_8
      try clear hcz34_9
      try clear hcz39_0
      try clear hcz39_1
      try clear hcz40_0
      try clear hcz40_1
      try clear hcz42_0
      try clear hcz42_1
      try clear hcz45_0
      try clear hcz45_1
      try clear hcz45_10
      try clear hcz45_11
      try clear hcz45_12
      try clear hcz45_13
      try clear hcz45_14
      try clear hcz45_15
      try clear hcz45_16
      try clear hcz45_17
      try clear hcz45_18
      try clear hcz45_19
      try clear hcz45_2
      try clear hcz45_20
      try clear hcz45_21
      try clear hcz45_22
      try clear hcz45_23
      try clear hcz45_24
      try clear hcz45_25
      try clear hcz45_26
      try clear hcz45_27
      try clear hcz45_28
      try clear hcz45_29
      try clear hcz45_3
      try clear hcz45_4
      try clear hcz45_5
      try clear hcz45_6
      try clear hcz45_7
      try clear hcz45_8
      try clear hcz45_9
      try clear hcz50_0
      try clear hcz50_1
      try clear hcz51_0
      try clear hcz51_1
      try clear hcz55_0
      try clear hcz55_1
      try clear hcz55_10
      try clear hcz55_11
      try clear hcz55_12
      try clear hcz55_13
      try clear hcz55_14
      try clear hcz55_15
      try clear hcz55_16
      try clear hcz55_17
      try clear hcz55_18
      try clear hcz55_19
      try clear hcz55_2
      try clear hcz55_20
      try clear hcz55_21
      try clear hcz55_22
      try clear hcz55_23
      try clear hcz55_24
      try clear hcz55_25
      try clear hcz55_26
      try clear hcz55_27
      try clear hcz55_28
      try clear hcz55_29
      try clear hcz55_3
      try clear hcz55_4
      try clear hcz55_5
      try clear hcz55_6
      try clear hcz55_7
      try clear hcz55_8
      try clear hcz55_9
      try clear hcz60_0
      try clear hcz60_1
      try clear hfz12_0
      try clear hfz12_1
      try clear hfz12_10
      try clear hfz12_11
      try clear hfz12_12
      try clear hfz12_13
      try clear hfz12_14
      try clear hfz12_15
      try clear hfz12_16
      try clear hfz12_17
      try clear hfz12_18
      try clear hfz12_19
      try clear hfz12_2
      try clear hfz12_20
      try clear hfz12_21
      try clear hfz12_22
      try clear hfz12_23
      try clear hfz12_24
      try clear hfz12_25
      try clear hfz12_26
      try clear hfz12_27
      try clear hfz12_28
      try clear hfz12_29
      try clear hfz12_3
      try clear hfz12_4
      try clear hfz12_5
      try clear hfz12_6
      try clear hfz12_7
      try clear hfz12_8
      try clear hfz12_9
      try clear hfz17_0
      try clear hfz17_1
      try clear hfz23_0
      try clear hfz23_1
      try clear hfz23_10
      try clear hfz23_11
      try clear hfz23_12
      try clear hfz23_13
      try clear hfz23_14
      try clear hfz23_15
      try clear hfz23_16
      try clear hfz23_17
      try clear hfz23_18
      try clear hfz23_19
      try clear hfz23_2
      try clear hfz23_20
      try clear hfz23_21
      try clear hfz23_22
      try clear hfz23_23
      try clear hfz23_24
      try clear hfz23_25
      try clear hfz23_26
      try clear hfz23_27
      try clear hfz23_28
      try clear hfz23_29
      try clear hfz23_3
      try clear hfz23_4
      try clear hfz23_5
      try clear hfz23_6
      try clear hfz23_7
      try clear hfz23_8
      try clear hfz23_9
      try clear hfz28_0
      try clear hfz28_1
      try clear hfz29_0
      try clear hfz29_1
      try clear hfz34_0
      try clear hfz34_1
      try clear hfz34_10
      try clear hfz34_11
      try clear hfz34_12
      try clear hfz34_13
      try clear hfz34_14
      try clear hfz34_15
      try clear hfz34_16
      try clear hfz34_17
      try clear hfz34_18
      try clear hfz34_19
      try clear hfz34_2
      try clear hfz34_20
      try clear hfz34_21
      try clear hfz34_22
      try clear hfz34_23
      try clear hfz34_24
      try clear hfz34_25
      try clear hfz34_26
      try clear hfz34_27
      try clear hfz34_28
      try clear hfz34_29
      try clear hfz34_3
      try clear hfz34_4
      try clear hfz34_5
      try clear hfz34_6
      try clear hfz34_7
      try clear hfz34_8
      try clear hfz34_9
      try clear hfz39_0
      try clear hfz39_1
      try clear hfz40_0
      try clear hfz40_1
      try clear hfz42_0
      try clear hfz42_1
      try clear hfz45_0
      try clear hfz45_1
      try clear hfz45_10
      try clear hfz45_11
      try clear hfz45_12
      try clear hfz45_13
      try clear hfz45_14
      try clear hfz45_15
      try clear hfz45_16
      try clear hfz45_17
      try clear hfz45_18
      try clear hfz45_19
      try clear hfz45_2
      try clear hfz45_20
      try clear hfz45_21
      try clear hfz45_22
      try clear hfz45_23
      try clear hfz45_24
      try clear hfz45_25
      try clear hfz45_26
      try clear hfz45_27
      try clear hfz45_28
      try clear hfz45_29
      try clear hfz45_3
      try clear hfz45_4
      try clear hfz45_5
      try clear hfz45_6
      try clear hfz45_7
      try clear hfz45_8
      try clear hfz45_9
      try clear hfz50_0
      try clear hfz50_1
      try clear hfz51_0
      try clear hfz51_1
      try clear hfz55_0
      try clear hfz55_1
      try clear hfz55_10
      try clear hfz55_11
      try clear hfz55_12
      try clear hfz55_13
      try clear hfz55_14
      try clear hfz55_15
      try clear hfz55_16
      try clear hfz55_17
      try clear hfz55_18
      try clear hfz55_19
      try clear hfz55_2
      try clear hfz55_20
      try clear hfz55_21
      try clear hfz55_22
      try clear hfz55_23
      try clear hfz55_24
      try clear hfz55_25
      try clear hfz55_26
      try clear hfz55_27
      try clear hfz55_28
      try clear hfz55_29
      try clear hfz55_3
      try clear hfz55_4
      try clear hfz55_5
      try clear hfz55_6
      try clear hfz55_7
      try clear hfz55_8
      try clear hfz55_9
      try clear hfz60_0
      try clear hfz60_1
      obtain ⟨kq, x2_9, x3_9, x145000_9, x145001_9, rfl, HA, HJ9, HO_2, BK139, BK144, HB⟩ := hcut
      cases kq with
      | zero => exact absurd HA.out (by simp [tlb_Trans.j0])
      | succ kj9 =>
        have H := HA.out
        clear HA
        simp only [tlb_Trans.j0] at H
        replace H := Option.bind_eq_some_iff.mp H
        obtain ⟨t158, A610, H⟩ := H
        replace H : (if t158 = true then ((pte_Addr.f x145000_9 x145001_9 a4).bind fun t159 => (some (t159, 0, x2_9, x3_9, t143))) else ((walk_Fault.f a5).bind fun t160 => (some (0, t160, x2_9, x3_9, t143)))) = some (r1, r2, r3, r4, r5) := H
        have A61 := Aside0.mk A610
        clear A610
        by_cases c62 : t158 = true
        · subst c62
          have H1 : ((pte_Addr.f x145000_9 x145001_9 a4).bind fun t159 => (some (t159, 0, x2_9, x3_9, t143))) = some (r1, r2, r3, r4, r5) := by rw [if_pos rfl] at H; exact H
          clear H
          have H := H1
          clear H1
          replace H := Option.bind_eq_some_iff.mp H
          obtain ⟨t159, A630, H⟩ := H
          replace H : (some (t159, 0, x2_9, x3_9, t143)) = some (r1, r2, r3, r4, r5) := H
          have A63 := Aside0.mk A630
          clear A630
          simp only [Option.some.injEq, Prod.mk.injEq] at H
          obtain ⟨rfl, rfl, rfl, rfl, rfl⟩ := H
          have hnb64 := NB144_139.out
          have hnc64 := NB139_144.out
          have hcz65_0 : wc.cell? ⟨gb144, 0, none⟩ = some (.int .u32 x145000_9) := (blk_cell BK144.out 0).trans rfl
          have hcz65_1 : wc.cell? ⟨gb144, 1, none⟩ = some (.int .i64 x145001_9) := (blk_cell BK144.out 1).trans rfl
          have hfz65_0 := blk_frozen BK144.out 0
          have hfz65_1 := blk_frozen BK144.out 1
          go_wp2_with (first | ((with_reducible refine gate_dst (N := 22) rfl ?_); refine Go.Proofs.Ytkcncghdpjoodaa.Cp.load_whole 36 (.tmp 6) gb139 rfl rfl rfl (by (with_reducible repeat (first | refine blk_drewN ?_ _ | refine blk_drew ?_ | refine blk_alloc ?_ _)); exact BK139.out) Try.underlying36 rfl (by kernel_rfl) ?_) | ((with_reducible refine gate_callee (f := 28) rfl ?_); refine goesL_ (some 71) rfl rfl Try.func28 (by kernel_rfl) rfl #[.agg #[.int .u32 x145000_9, .int .i64 x145001_9], .int .i64 a5, .bool false] rfl (by (try simp only [List.map_toArray, List.map_cons, List.map_nil]); first | done | rfl | (simp only [List.length_drop, List.length_take]; rfl)) ?_; (with_reducible refine (pte_Allows.calls kj9 x145000_9 x145001_9 a5 false true _ A61.out).mono ?_); rintro e w66 ⟨rfl, hb⟩; refine ⟨_, rfl, ?_⟩; have n0_ := Aside0.mk (Kd.V_below (by (with_reducible repeat (first | apply Kd.V_alloc | apply Kd.V_drewN | apply Kd.V_drew)); exact HO_2.out) hb); have n1_ := Aside0.mk (blk_below (g := gb139) (o := .cells #[.int .u32 a0_0, .int .u32 a0_1, .int .u32 a0_2, .int .u32 a0_3, .int .u32 a0_4, .int .u32 a0_5, .int .u32 a0_6, .int .u32 a0_7, .int .u32 a0_8, .int .u32 a0_9, .int .u32 a0_10, .int .u32 a0_11, .int .u32 a0_12, .int .u32 a0_13, .int .u32 a0_14, .int .u32 a0_15, .int .u32 a0_16, .int .u32 a0_17, .int .u32 a0_18, .int .u32 a0_19, .int .u32 a0_20, .int .u32 a0_21, .int .u32 a0_22, .int .u32 a0_23, .int .u32 a0_24, .int .u32 a0_25, .int .u32 a0_26, .int .u32 a0_27, .int .u32 a0_28, .bool a0_29] 36 (0, 0)) (by (with_reducible repeat (first | refine blk_drewN ?_ _ | refine blk_drew ?_ | refine blk_alloc ?_ _)); exact BK139.out) hb); have n2_ := Aside0.mk (blk_below (g := gb144) (o := .cells #[.int .u32 x145000_9, .int .i64 x145001_9] 27 (0, 0)) (by (with_reducible repeat (first | refine blk_drewN ?_ _ | refine blk_drew ?_ | refine blk_alloc ?_ _)); exact BK144.out) hb); have n3_ := Aside0.mk (below_step (by repeat (first | (with_reducible first | exact HB.out | apply below_alloc | apply pw_below_drewN | apply below_drew1 | refine below_set ?_ GE139.out | refine below_set ?_ GE144.out) | exact HB.out)) hb); clear HO_2; clear BK139; clear BK144; clear HB; have HO_2 := n0_; have BK139 := n1_; have BK144 := n2_; have HB := n3_; clear n0_ n1_ n2_ n3_; (try clear hb); (try clear hb2); (try clear hk); (try clear hi); have hcz67_0 : w66.cell? ⟨gb144, 0, none⟩ = some (.int .u32 x145000_9) := (blk_cell BK144.out 0).trans rfl; have hcz67_1 : w66.cell? ⟨gb144, 1, none⟩ = some (.int .i64 x145001_9) := (blk_cell BK144.out 1).trans rfl; have hfz67_0 := blk_frozen BK144.out 0; have hfz67_1 := blk_frozen BK144.out 1) | ((with_reducible refine gate_callee (f := 29) rfl ?_); refine goesL_ (some 80) rfl rfl Try.func29 (by kernel_rfl) rfl #[.agg #[.int .u32 x145000_9, .int .i64 x145001_9], .int .u32 a4] rfl (by (try simp only [List.map_toArray, List.map_cons, List.map_nil]); first | done | rfl | (simp only [List.length_drop, List.length_take]; rfl)) ?_; (with_reducible refine (pte_Addr.calls x145000_9 x145001_9 a4 t159 _ A63.out).mono ?_); rintro e w68 ⟨rfl, hb⟩; refine ⟨_, rfl, ?_⟩; have n0_ := Aside0.mk (Kd.V_below (by (with_reducible repeat (first | apply Kd.V_alloc | apply Kd.V_drewN | apply Kd.V_drew)); exact HO_2.out) hb); have n1_ := Aside0.mk (blk_below (g := gb139) (o := .cells #[.int .u32 a0_0, .int .u32 a0_1, .int .u32 a0_2, .int .u32 a0_3, .int .u32 a0_4, .int .u32 a0_5, .int .u32 a0_6, .int .u32 a0_7, .int .u32 a0_8, .int .u32 a0_9, .int .u32 a0_10, .int .u32 a0_11, .int .u32 a0_12, .int .u32 a0_13, .int .u32 a0_14, .int .u32 a0_15, .int .u32 a0_16, .int .u32 a0_17, .int .u32 a0_18, .int .u32 a0_19, .int .u32 a0_20, .int .u32 a0_21, .int .u32 a0_22, .int .u32 a0_23, .int .u32 a0_24, .int .u32 a0_25, .int .u32 a0_26, .int .u32 a0_27, .int .u32 a0_28, .bool a0_29] 36 (0, 0)) (by (with_reducible repeat (first | refine blk_drewN ?_ _ | refine blk_drew ?_ | refine blk_alloc ?_ _)); exact BK139.out) hb); have n2_ := Aside0.mk (blk_below (g := gb144) (o := .cells #[.int .u32 x145000_9, .int .i64 x145001_9] 27 (0, 0)) (by (with_reducible repeat (first | refine blk_drewN ?_ _ | refine blk_drew ?_ | refine blk_alloc ?_ _)); exact BK144.out) hb); have n3_ := Aside0.mk (below_step (by repeat (first | (with_reducible first | exact HB.out | apply below_alloc | apply pw_below_drewN | apply below_drew1 | refine below_set ?_ GE139.out | refine below_set ?_ GE144.out) | exact HB.out)) hb); clear HO_2; clear BK139; clear BK144; clear HB; have HO_2 := n0_; have BK139 := n1_; have BK144 := n2_; have HB := n3_; clear n0_ n1_ n2_ n3_; (try clear hb); (try clear hb2); (try clear hk); (try clear hi)))
          refine bodyPost_ret (results_list (rs := [.tmp 12, .tmp 13, .tmp 14, .tmp 15, .tmp 16]) rfl (by simp) (.tmp (.tmp (.tmp (.tmp (.tmp .nil)))))) rfl ?_
          exact ⟨_, by first | rfl | (simp [errW_none, errW_some] <;> rfl) | (simp [*, errW_none, errW_some] <;> rfl), by (with_reducible repeat (first | apply Kd.V_alloc | apply Kd.V_drewN | apply Kd.V_drew)); exact Kd.V_mono HO_2.out (fun _ hk => hk.1), by repeat (first | (with_reducible first | exact HB.out | apply below_alloc | apply pw_below_drewN | apply below_drew1 | refine below_set ?_ GE139.out | refine below_set ?_ GE144.out) | exact HB.out)⟩
        · replace c62 := Bool.eq_false_iff.mpr c62
          subst c62
          have H1 : ((walk_Fault.f a5).bind fun t160 => (some (0, t160, x2_9, x3_9, t143))) = some (r1, r2, r3, r4, r5) := by rw [if_neg (show ¬ (false = true) by decide)] at H; exact H
          clear H
          have H := H1
          clear H1
          replace H := Option.bind_eq_some_iff.mp H
          obtain ⟨t160, A690, H⟩ := H
          replace H : (some (0, t160, x2_9, x3_9, t143)) = some (r1, r2, r3, r4, r5) := H
          have A69 := Aside0.mk A690
          clear A690
          simp only [Option.some.injEq, Prod.mk.injEq] at H
          obtain ⟨rfl, rfl, rfl, rfl, rfl⟩ := H
          have hnb70 := NB144_139.out
          have hnc70 := NB139_144.out
          have hcz71_0 : wc.cell? ⟨gb144, 0, none⟩ = some (.int .u32 x145000_9) := (blk_cell BK144.out 0).trans rfl
          have hcz71_1 : wc.cell? ⟨gb144, 1, none⟩ = some (.int .i64 x145001_9) := (blk_cell BK144.out 1).trans rfl
          have hfz71_0 := blk_frozen BK144.out 0
          have hfz71_1 := blk_frozen BK144.out 1
          go_wp2_with (first | ((with_reducible refine gate_dst (N := 22) rfl ?_); refine Go.Proofs.Ytkcncghdpjoodaa.Cp.load_whole 36 (.tmp 6) gb139 rfl rfl rfl (by (with_reducible repeat (first | refine blk_drewN ?_ _ | refine blk_drew ?_ | refine blk_alloc ?_ _)); exact BK139.out) Try.underlying36 rfl (by kernel_rfl) ?_) | ((with_reducible refine gate_callee (f := 28) rfl ?_); refine goesL_ (some 71) rfl rfl Try.func28 (by kernel_rfl) rfl #[.agg #[.int .u32 x145000_9, .int .i64 x145001_9], .int .i64 a5, .bool false] rfl (by (try simp only [List.map_toArray, List.map_cons, List.map_nil]); first | done | rfl | (simp only [List.length_drop, List.length_take]; rfl)) ?_; (with_reducible refine (pte_Allows.calls kj9 x145000_9 x145001_9 a5 false false _ A61.out).mono ?_); rintro e w72 ⟨rfl, hb⟩; refine ⟨_, rfl, ?_⟩; have n0_ := Aside0.mk (Kd.V_below (by (with_reducible repeat (first | apply Kd.V_alloc | apply Kd.V_drewN | apply Kd.V_drew)); exact HO_2.out) hb); have n1_ := Aside0.mk (blk_below (g := gb139) (o := .cells #[.int .u32 a0_0, .int .u32 a0_1, .int .u32 a0_2, .int .u32 a0_3, .int .u32 a0_4, .int .u32 a0_5, .int .u32 a0_6, .int .u32 a0_7, .int .u32 a0_8, .int .u32 a0_9, .int .u32 a0_10, .int .u32 a0_11, .int .u32 a0_12, .int .u32 a0_13, .int .u32 a0_14, .int .u32 a0_15, .int .u32 a0_16, .int .u32 a0_17, .int .u32 a0_18, .int .u32 a0_19, .int .u32 a0_20, .int .u32 a0_21, .int .u32 a0_22, .int .u32 a0_23, .int .u32 a0_24, .int .u32 a0_25, .int .u32 a0_26, .int .u32 a0_27, .int .u32 a0_28, .bool a0_29] 36 (0, 0)) (by (with_reducible repeat (first | refine blk_drewN ?_ _ | refine blk_drew ?_ | refine blk_alloc ?_ _)); exact BK139.out) hb); have n2_ := Aside0.mk (blk_below (g := gb144) (o := .cells #[.int .u32 x145000_9, .int .i64 x145001_9] 27 (0, 0)) (by (with_reducible repeat (first | refine blk_drewN ?_ _ | refine blk_drew ?_ | refine blk_alloc ?_ _)); exact BK144.out) hb); have n3_ := Aside0.mk (below_step (by repeat (first | (with_reducible first | exact HB.out | apply below_alloc | apply pw_below_drewN | apply below_drew1 | refine below_set ?_ GE139.out | refine below_set ?_ GE144.out) | exact HB.out)) hb); clear HO_2; clear BK139; clear BK144; clear HB; have HO_2 := n0_; have BK139 := n1_; have BK144 := n2_; have HB := n3_; clear n0_ n1_ n2_ n3_; (try clear hb); (try clear hb2); (try clear hk); (try clear hi)) | ((with_reducible refine gate_callee (f := 26) rfl ?_); refine goesL_ (some 74) rfl rfl Try.func26 (by kernel_rfl) rfl #[.int .i64 a5] rfl (by (try simp only [List.map_toArray, List.map_cons, List.map_nil]); first | done | rfl | (simp only [List.length_drop, List.length_take]; rfl)) ?_; (with_reducible refine (walk_Fault.calls a5 t160 _ A69.out).mono ?_); rintro e w' ⟨rfl, ⟨nd, rfl⟩⟩; refine ⟨_, rfl, ?_⟩))
          refine bodyPost_ret (results_list (rs := [.tmp 12, .tmp 13, .tmp 14, .tmp 15, .tmp 16]) rfl (by simp) (.tmp (.tmp (.tmp (.tmp (.tmp .nil)))))) rfl ?_
          exact ⟨_, by first | rfl | (simp [errW_none, errW_some] <;> rfl) | (simp [*, errW_none, errW_some] <;> rfl), by (with_reducible repeat (first | apply Kd.V_alloc | apply Kd.V_drewN | apply Kd.V_drew)); exact Kd.V_mono HO_2.out (fun _ hk => hk.1), by repeat (first | (with_reducible first | exact HB.out | apply below_alloc | apply pw_below_drewN | apply below_drew1 | refine below_set ?_ GE139.out | refine below_set ?_ GE144.out) | exact HB.out)⟩
  · replace c8 := Bool.eq_false_iff.mpr c8
    subst c8
    have H1 : (some (a4, 0, l2, a3, true)) = some (r1, r2, r3, r4, r5) := by rw [if_neg (show ¬ (false = true) by decide)] at H; exact H
    clear H
    have H := H1
    clear H1
    simp only [Option.some.injEq, Prod.mk.injEq] at H
    obtain ⟨rfl, rfl, rfl, rfl, rfl⟩ := H
    go_enter Try.func11, Try.ntmps11
    go_wp2_with (first | ((with_reducible refine gate_dst (N := 22) rfl ?_); refine Go.Proofs.Ytkcncghdpjoodaa.Cp.load_whole 36 (.tmp 6) gb139 rfl rfl rfl (by (with_reducible repeat (first | refine blk_drewN ?_ _ | refine blk_drew ?_ | refine blk_alloc ?_ _)); exact BK139.out) Try.underlying36 rfl (by kernel_rfl) ?_) | ((with_reducible refine gate_dst (N := 6) rfl ?_); refine box_event ?hg (N := 6) ?hd (cs := #[.int .u32 a0_0, .int .u32 a0_1, .int .u32 a0_2, .int .u32 a0_3, .int .u32 a0_4, .int .u32 a0_5, .int .u32 a0_6, .int .u32 a0_7, .int .u32 a0_8, .int .u32 a0_9, .int .u32 a0_10, .int .u32 a0_11, .int .u32 a0_12, .int .u32 a0_13, .int .u32 a0_14, .int .u32 a0_15, .int .u32 a0_16, .int .u32 a0_17, .int .u32 a0_18, .int .u32 a0_19, .int .u32 a0_20, .int .u32 a0_21, .int .u32 a0_22, .int .u32 a0_23, .int .u32 a0_24, .int .u32 a0_25, .int .u32 a0_26, .int .u32 a0_27, .int .u32 a0_28, .bool a0_29]) (t := 36) ?hr ?_; (case hd => rfl); (case hg => rfl); (case hr => first | (go_simp; done) | (go_simp; rfl)); intro gb139 hg w73 hbox hb; have n0_ := Aside0.mk (Kd.V_below (Kd.V_elderB (by (with_reducible repeat (first | apply Kd.V_alloc | apply Kd.V_drewN | apply Kd.V_drew)); exact HO2.out) gb139 (Nat.le_of_eq hg.symm)) hb); have n1_ := Aside0.mk (below_step (by repeat (first | (with_reducible first | exact HB.out | apply below_alloc | apply pw_below_drewN | apply below_drew1) | exact HB.out)) hb); have n2_ := Aside0.mk (hbox); have n3_ := Aside0.mk ((by rw [hg]; exact (below_size (by repeat (first | (with_reducible first | exact HB.out | apply below_alloc | apply pw_below_drewN | apply below_drew1) | exact HB.out))) : w.heap.size ≤ gb139)); have n4_ := Aside0.mk ((by rw [hg]; exact (below_size (by repeat (first | (with_reducible first | exact HB.out | apply below_alloc | apply pw_below_drewN | apply below_drew1) | exact HB.out))) : w.heap.size ≤ gb139)); clear HO2; clear HB; have HO2 := n0_; have HB := n1_; have BK139 := n2_; have GW139 := n3_; have GE139 := n4_; clear n0_ n1_ n2_ n3_ n4_; clear hb hbox hg; have hcz74_17 : w73.cell? ⟨gb139, 17, none⟩ = some (.int .u32 a0_17) := (blk_cell BK139.out 17).trans rfl; have hcz74_22 : w73.cell? ⟨gb139, 22, none⟩ = some (.int .u32 a0_22) := (blk_cell BK139.out 22).trans rfl) | ((with_reducible refine gate_callee (f := 24) rfl ?_); refine goesL_ (some 23) rfl rfl Try.func24 (by kernel_rfl) rfl #[.agg #[.int .u32 a0_0, .int .u32 a0_1, .int .u32 a0_2, .int .u32 a0_3, .int .u32 a0_4, .int .u32 a0_5, .int .u32 a0_6, .int .u32 a0_7, .int .u32 a0_8, .int .u32 a0_9, .int .u32 a0_10, .int .u32 a0_11, .int .u32 a0_12, .int .u32 a0_13, .int .u32 a0_14, .int .u32 a0_15, .int .u32 a0_16, .int .u32 a0_17, .int .u32 a0_18, .int .u32 a0_19, .int .u32 a0_20, .int .u32 a0_21, .int .u32 a0_22, .int .u32 a0_23, .int .u32 a0_24, .int .u32 a0_25, .int .u32 a0_26, .int .u32 a0_27, .int .u32 a0_28, .bool a0_29]] rfl (by (try simp only [List.map_toArray, List.map_cons, List.map_nil]); first | done | rfl | (simp only [List.length_drop, List.length_take]; rfl)) ?_; (with_reducible refine (walk_Paged.calls a0_0 a0_1 a0_2 a0_3 a0_4 a0_5 a0_6 a0_7 a0_8 a0_9 a0_10 a0_11 a0_12 a0_13 a0_14 a0_15 a0_16 a0_17 a0_18 a0_19 a0_20 a0_21 a0_22 a0_23 a0_24 a0_25 a0_26 a0_27 a0_28 a0_29 false _ A7.out).mono ?_); rintro e w75 ⟨rfl, hb⟩; refine ⟨_, rfl, ?_⟩; have n0_ := Aside0.mk (Kd.V_below (by (with_reducible repeat (first | apply Kd.V_alloc | apply Kd.V_drewN | apply Kd.V_drew)); exact HO2.out) hb); have n1_ := Aside0.mk (blk_below (g := gb139) (o := .cells #[.int .u32 a0_0, .int .u32 a0_1, .int .u32 a0_2, .int .u32 a0_3, .int .u32 a0_4, .int .u32 a0_5, .int .u32 a0_6, .int .u32 a0_7, .int .u32 a0_8, .int .u32 a0_9, .int .u32 a0_10, .int .u32 a0_11, .int .u32 a0_12, .int .u32 a0_13, .int .u32 a0_14, .int .u32 a0_15, .int .u32 a0_16, .int .u32 a0_17, .int .u32 a0_18, .int .u32 a0_19, .int .u32 a0_20, .int .u32 a0_21, .int .u32 a0_22, .int .u32 a0_23, .int .u32 a0_24, .int .u32 a0_25, .int .u32 a0_26, .int .u32 a0_27, .int .u32 a0_28, .bool a0_29] 36 (0, 0)) (by (with_reducible repeat (first | refine blk_drewN ?_ _ | refine blk_drew ?_ | refine blk_alloc ?_ _)); exact BK139.out) hb); have n2_ := Aside0.mk (below_step (by repeat (first | (with_reducible first | exact HB.out | apply below_alloc | apply pw_below_drewN | apply below_drew1 | refine below_set ?_ GE139.out) | exact HB.out)) hb); clear HO2; clear BK139; clear HB; have HO2 := n0_; have BK139 := n1_; have HB := n2_; clear n0_ n1_ n2_; (try clear hb); (try clear hb2); (try clear hk); (try clear hi)))
    refine bodyPost_ret (results_list (rs := [.tmp 12, .tmp 13, .tmp 14, .tmp 15, .tmp 16]) rfl (by simp) (.tmp (.tmp (.tmp (.tmp (.tmp .nil)))))) rfl ?_
    exact ⟨_, by first | rfl | (simp [errW_none, errW_some] <;> rfl) | (simp [*, errW_none, errW_some] <;> rfl), by (with_reducible repeat (first | apply Kd.V_alloc | apply Kd.V_drewN | apply Kd.V_drew)); exact Kd.V_mono HO2.out (fun _ hk => hk.1), by repeat (first | (with_reducible first | exact HB.out | apply below_alloc | apply pw_below_drewN | apply below_drew1 | refine below_set ?_ GE139.out) | exact HB.out)⟩

/-! ### tlb_New: function 15 -/
def tlb_New.f (a0 : Int) : Option ((List (S53))) := if 0 ≤ (mn (mx a0 0) 8) then (if (mn (mx a0 0) 8 : Int).toNat ≤ 11728124029610 then (some (List.replicate (mn (mx a0 0) 8 : Int).toNat z53)) else (none)) else (none)
set_option maxHeartbeats 8000000 in
set_option maxRecDepth 100000 in
theorem tlb_New.calls (a0 : Int) (r : List (S53)) (w : World) (h : tlb_New.f a0 = some r) :
    Calls Try.prog 15 #[.int .i64 a0] w fun e w' => ∃ v0_ : Value, e = .returned (v0_) ∧ Kd.R k53 53 w' w.heap.size (fun _ => True) v0_ r ∧ Below w.heap.size w w' := by
  have HB := Aside0.mk (Below.refl w.heap.size w)
  have H : (if 0 ≤ (mn (mx a0 0) 8) then (if (mn (mx a0 0) 8 : Int).toNat ≤ 11728124029610 then (some (List.replicate (mn (mx a0 0) 8 : Int).toNat z53)) else (none)) else (none)) = some r := h
  clear h
  obtain ⟨ji2, hji2⟩ : ∃ j_ : Int, (mx a0 0) = j_ := ⟨_, rfl⟩
  replace H : (if 0 ≤ (mn (ji2) 8) then (if (mn (ji2) 8 : Int).toNat ≤ 11728124029610 then (some (List.replicate (mn (ji2) 8 : Int).toNat z53)) else (none)) else (none)) = some r := by first | (rw [hji2] at H; exact H) | (simp only [hji2] at H ⊢; exact H)
  (try (have hji2l : 0 ≤ ji2 := by (rw [← hji2]; unfold mx; (repeat' split) <;> omega)))
  (try (have hji2m : 0 ≤ ji2 := by omega))
  have hji2_ : (if a0 < 0 then 0 else a0) = ji2 := hji2
  have hji2bl : 0 ≤ ji2 := by rw [← hji2]; unfold mx; split <;> omega
  obtain ⟨ji3, hji3⟩ : ∃ j_ : Int, (mn (ji2) 8) = j_ := ⟨_, rfl⟩
  replace H : (if 0 ≤ (ji3) then (if (ji3 : Int).toNat ≤ 11728124029610 then (some (List.replicate (ji3 : Int).toNat z53)) else (none)) else (none)) = some r := by first | (rw [hji3] at H; exact H) | (simp only [hji3] at H ⊢; exact H)
  have hji3_ : (if 8 < (ji2) then 8 else (ji2)) = ji3 := hji3
  have hji3bl : 0 ≤ ji3 := by rw [← hji3]; unfold mn; split <;> omega
  have hji3bh : ji3 ≤ 8 := by rw [← hji3]; unfold mn; split <;> omega
  by_cases c4 : 0 ≤ (ji3)
  · rw [if_pos c4] at H
    have c4b0 := eq_true c4
    have c4b1 : decide (0 ≤ (ji3)) = true := decide_eq_true c4
    clear c4
    by_cases c5 : (ji3 : Int).toNat ≤ 11728124029610
    · rw [if_pos c5] at H
      have c5b0 := eq_true c5
      have c5b1 : decide ((ji3 : Int).toNat ≤ 11728124029610) = true := decide_eq_true c5
      clear c5
      obtain ⟨y161, hy161⟩ : ∃ y_ : List (S53), y_ = (List.replicate (ji3 : Int).toNat z53) := ⟨_, rfl⟩
      replace H : (some y161) = some r := by first | (rw [hy161]; with_reducible exact H) | (have H2_ := (Option.bind_some _ _).symm.trans H; rw [hy161]; with_reducible exact H2_) | (have H2_ := (Option.bind_some _ _).symm.trans H; with_reducible exact H2_) | with_reducible exact H | (rw [hy161]; exact H) | exact H
      have Ny161 := Aside0.mk hy161
      clear hy161
      obtain rfl := Option.some.inj H
      go_enter Try.func15, Try.ntmps15
      go_wp2_with (first | ((with_reducible refine gate_dst (N := 6) rfl ?_); refine Kd.R_make k53 _ 53 rfl (N := 6) rfl 22 _ _ rfl ji3 rfl rfl Try.underlying22 (.agg #[(.bool false), (.int .u32 0), (.int .u32 0), (.int .i64 0)]) 24 info53 rfl (by decide) (by omega) z53 (ok := fun _ => True) (okp := fun _ => True) (k53_mkM _ _ _ z53 ) (fun _ hk => hk) trivial (of_decide_eq_true (by first | (with_reducible assumption) | assumption)) (Nat.le_trans (Nat.mul_le_mul_right _ (of_decide_eq_true (by first | (with_reducible assumption) | assumption) : ji3.toNat ≤ 11728124029610)) (by omega)) (Below.refl _ _) (Nat.le_refl _) ?_; intro v162 w6 ho7 hb hg_ hnew_; clear hg_ hnew_; (first | rw [← Ny161.out] at ho7 | (simp only [Int.reduceToNat] at ho7; rw [← Ny161.out] at ho7)); have n0_ := Aside0.mk (Kd.R_lower ho7 (below_size (by repeat (first | (with_reducible first | exact HB.out | apply below_alloc | apply pw_below_drewN | apply below_drew1) | exact HB.out)))); have n1_ := Aside0.mk (below_step (by repeat (first | (with_reducible first | exact HB.out | apply below_alloc | apply pw_below_drewN | apply below_drew1) | exact HB.out)) hb); clear HB; have HO163 := n0_; have HB := n1_; clear n0_ n1_; clear hb ho7))
      go_ret
      exact ⟨_, by first | rfl | (simp [errW_none, errW_some] <;> rfl) | (simp only [← hji2, ← hji3]; first | rfl | (simp [errW_none, errW_some] <;> rfl)) | (simp [*, errW_none, errW_some] <;> rfl), by (with_reducible repeat (first | apply Kd.R_alloc | apply Kd.R_drewN | apply Kd.R_drew)); exact HO163.out, by repeat (first | (with_reducible first | exact HB.out | apply below_alloc | apply pw_below_drewN | apply below_drew1) | exact HB.out)⟩
    · rw [if_neg c5] at H
      exact absurd H (by simp)
  · rw [if_neg c4] at H
    exact absurd H (by simp)

/-! ### cotterellaw22_awake: function 7 -/
def cotterellaw22_awake.f (k : Nat)  : Option (Bool) := (tlb_New.f 2).bind fun t164 => ((tlb_Put.f k t164 1 130 3 5).bind fun bt167 => ((tlb_Find.f k bt167.1 191).bind fun bt171 => ((tlb_Trans.f k 0 0 0 0 0 0 0 0 0 0 0 0 0 0 0 0 0 0 0 0 0 0 0 0 0 0 0 0 0 false ([] : List Int) bt167.1 bt167.2 100 2).bind fun bt175 => (if (bt167.1.length : Int) = 2 then (if bt167.2 = 0 then (if bt171.2.1 = 5 then (if bt171.2.2 = true then (if bt175.1 = 100 then (if bt175.2.1 = 0 then (some bt175.2.2.2.2) else (none)) else (none)) else (none)) else (none)) else (none)) else (none)))))
theorem cotterellaw22_awake.mono : ∀ k, LeO (cotterellaw22_awake.f k ) (cotterellaw22_awake.f (k + 1) ) := by
  intro  k
  unfold cotterellaw22_awake.f
  repeat' first
      | (with_reducible exact tlb_Find.mono _ _ _)
      | (with_reducible exact tlb_Put.mono _ _ _ _ _ _)
      | (with_reducible exact tlb_Trans.mono _ _ _ _ _ _ _ _ _ _ _ _ _ _ _ _ _ _ _ _ _ _ _ _ _ _ _ _ _ _ _ _ _ _ _ _)
      | (with_reducible exact LeO.refl _)
      | (with_reducible exact LeO.none _)
      | (with_reducible refine LeO.ite ?_ ?_)
      | (with_reducible refine LeO.bind ?_ (fun _ => ?_))
      | exact tlb_Find.mono _ _ _
      | exact tlb_Put.mono _ _ _ _ _ _
      | exact tlb_Trans.mono _ _ _ _ _ _ _ _ _ _ _ _ _ _ _ _ _ _ _ _ _ _ _ _ _ _ _ _ _ _ _ _ _ _ _ _
      | exact LeO.none _
      | refine LeO.ite ?_ ?_
      | refine LeO.bind ?_ (fun _ => ?_)
set_option maxHeartbeats 8000000 in
set_option maxRecDepth 100000 in
theorem cotterellaw22_awake.calls (k : Nat)  (r : Bool) (w : World) (h : cotterellaw22_awake.f k  = some r) :
    Calls Try.prog 7 #[] w fun e w' => e = .returned (.bool r) ∧ Below w.heap.size w w' := by
  have hu27 := Try.underlying27
  have hu36 := Try.underlying36
  have HB := Aside0.mk (Below.refl w.heap.size w)
  have H : ((tlb_New.f 2).bind fun t164 => ((tlb_Put.f k t164 1 130 3 5).bind fun bt167 => ((tlb_Find.f k bt167.1 191).bind fun bt171 => ((tlb_Trans.f k 0 0 0 0 0 0 0 0 0 0 0 0 0 0 0 0 0 0 0 0 0 0 0 0 0 0 0 0 0 false ([] : List Int) bt167.1 bt167.2 100 2).bind fun bt175 => (if (bt167.1.length : Int) = 2 then (if bt167.2 = 0 then (if bt171.2.1 = 5 then (if bt171.2.2 = true then (if bt175.1 = 100 then (if bt175.2.1 = 0 then (some bt175.2.2.2.2) else (none)) else (none)) else (none)) else (none)) else (none)) else (none)))))) = some r := h
  clear h
  replace H := Option.bind_eq_some_iff.mp H
  obtain ⟨t164, A10, H⟩ := H
  replace H : ((tlb_Put.f k t164 1 130 3 5).bind fun bt167 => ((tlb_Find.f k bt167.1 191).bind fun bt171 => ((tlb_Trans.f k 0 0 0 0 0 0 0 0 0 0 0 0 0 0 0 0 0 0 0 0 0 0 0 0 0 0 0 0 0 false ([] : List Int) bt167.1 bt167.2 100 2).bind fun bt175 => (if (bt167.1.length : Int) = 2 then (if bt167.2 = 0 then (if bt171.2.1 = 5 then (if bt171.2.2 = true then (if bt175.1 = 100 then (if bt175.2.1 = 0 then (some bt175.2.2.2.2) else (none)) else (none)) else (none)) else (none)) else (none)) else (none))))) = some r := H
  have A1 := Aside0.mk A10
  clear A10
  replace H := Option.bind_eq_some_iff.mp H
  obtain ⟨⟨t167, t170⟩, A20, H⟩ := H
  replace H : ((tlb_Find.f k t167 191).bind fun bt171 => ((tlb_Trans.f k 0 0 0 0 0 0 0 0 0 0 0 0 0 0 0 0 0 0 0 0 0 0 0 0 0 0 0 0 0 false ([] : List Int) t167 t170 100 2).bind fun bt175 => (if (t167.length : Int) = 2 then (if t170 = 0 then (if bt171.2.1 = 5 then (if bt171.2.2 = true then (if bt175.1 = 100 then (if bt175.2.1 = 0 then (some bt175.2.2.2.2) else (none)) else (none)) else (none)) else (none)) else (none)) else (none)))) = some r := H
  have A2 := Aside0.mk A20
  clear A20
  replace H := Option.bind_eq_some_iff.mp H
  obtain ⟨⟨t171, t172, t173⟩, A30, H⟩ := H
  replace H : ((tlb_Trans.f k 0 0 0 0 0 0 0 0 0 0 0 0 0 0 0 0 0 0 0 0 0 0 0 0 0 0 0 0 0 false ([] : List Int) t167 t170 100 2).bind fun bt175 => (if (t167.length : Int) = 2 then (if t170 = 0 then (if t172 = 5 then (if t173 = true then (if bt175.1 = 100 then (if bt175.2.1 = 0 then (some bt175.2.2.2.2) else (none)) else (none)) else (none)) else (none)) else (none)) else (none))) = some r := H
  have A3 := Aside0.mk A30
  clear A30
  replace H := Option.bind_eq_some_iff.mp H
  obtain ⟨⟨t175, t176, t177, t180, t181⟩, A40, H⟩ := H
  replace H : (if (t167.length : Int) = 2 then (if t170 = 0 then (if t172 = 5 then (if t173 = true then (if t175 = 100 then (if t176 = 0 then (some t181) else (none)) else (none)) else (none)) else (none)) else (none)) else (none)) = some r := H
  have A4 := Aside0.mk A40
  clear A40
  by_cases c5 : (t167.length : Int) = 2
  · rw [if_pos c5] at H
    have c5b0 : ((t167.length : Int) == 2) = true := beq_iff_eq.mpr c5
    have c5b1 : ((t167.length : Int) != 2) = false := bne_eq_false_iff_eq.mpr c5
    clear c5
    by_cases c6 : t170 = 0
    · rw [if_pos c6] at H
      have c6b0 : (t170 == 0) = true := beq_iff_eq.mpr c6
      have c6b1 : (t170 != 0) = false := bne_eq_false_iff_eq.mpr c6
      clear c6
      by_cases c7 : t172 = 5
      · rw [if_pos c7] at H
        have c7b0 : (t172 == 5) = true := beq_iff_eq.mpr c7
        have c7b1 : (t172 != 5) = false := bne_eq_false_iff_eq.mpr c7
        clear c7
        by_cases c8 : t173 = true
        · subst c8
          have H1 : (if t175 = 100 then (if t176 = 0 then (some t181) else (none)) else (none)) = some r := by rw [if_pos rfl] at H; exact H
          clear H
          have H := H1
          clear H1
          by_cases c9 : t175 = 100
          · rw [if_pos c9] at H
            have c9b0 : (t175 == 100) = true := beq_iff_eq.mpr c9
            have c9b1 : (t175 != 100) = false := bne_eq_false_iff_eq.mpr c9
            clear c9
            by_cases c10 : t176 = 0
            · rw [if_pos c10] at H
              have c10b0 : (t176 == 0) = true := beq_iff_eq.mpr c10
              have c10b1 : (t176 != 0) = false := bne_eq_false_iff_eq.mpr c10
              clear c10
              obtain rfl := Option.some.inj H
              go_enter Try.func7, Try.ntmps7
              go_wp2_with (first | ((with_reducible refine gate_callee (f := 15) rfl ?_); refine goesL_ (some 11) rfl rfl Try.func15 (by kernel_rfl) rfl #[.int .i64 2] rfl (by (try simp only [List.map_toArray, List.map_cons, List.map_nil]); first | done | rfl | (simp only [List.length_drop, List.length_take]; rfl)) ?_; (with_reducible refine (tlb_New.calls 2 t164 _ A1.out).mono ?_); rintro e w11 ⟨v165, rfl, ho0, hb⟩; refine ⟨_, rfl, ?_⟩; have n0_ := Aside0.mk (Kd.R_lower ho0 (below_size (by repeat (first | (with_reducible first | exact HB.out | apply below_alloc | apply pw_below_drewN | apply below_drew1) | exact HB.out)))); have n1_ := Aside0.mk (below_step (by repeat (first | (with_reducible first | exact HB.out | apply below_alloc | apply pw_below_drewN | apply below_drew1) | exact HB.out)) hb); clear HB; have HO166 := n0_; have HB := n1_; clear n0_ n1_; (try clear hb); (try clear hb2); (try clear hk); (try clear hi); (try clear ho0); obtain ⟨Ao12, co12, eo12⟩ := Kd.R_slice HO166.out; subst eo12) | ((with_reducible refine gate_callee (f := 8) rfl ?_); refine goesL_ (some 13) rfl rfl Try.func8 (by kernel_rfl) rfl #[.slice Ao12 t164.length co12, .int .i64 1, .int .u32 130, .agg #[.int .u32 3, .int .i64 5]] rfl (by (try simp only [List.map_toArray, List.map_cons, List.map_nil]); first | done | rfl | (simp only [List.length_drop, List.length_take]; rfl)) ?_; (with_reducible refine (tlb_Put.calls k (fun k_ => some k_ = (.slice Ao12 t164.length co12 : Value).ownBlock) _ _ t164 1 130 3 5 t167 t170 _ ?side1 A2.out).mono ?_); (case side1 => exact Kd.R_V (Kd.R_tight rfl (HO166.out))); rintro e w13 ⟨v168, rfl, ho0, hb⟩; refine ⟨_, rfl, ?_⟩; have n0_ := Aside0.mk (Kd.R_below (by (with_reducible repeat (first | apply Kd.R_alloc | apply Kd.R_drewN | apply Kd.R_drew)); exact HO166.out) hb); have n1_ := Aside0.mk (Kd.V_lower (Kd.V_mono (ok' := fun k_ => True) ho0 (fun k_ hk_ => trivial)) (below_size (by repeat (first | (with_reducible first | exact HB.out | apply below_alloc | apply pw_below_drewN | apply below_drew1) | exact HB.out)))); have n2_ := Aside0.mk (below_step (by repeat (first | (with_reducible first | exact HB.out | apply below_alloc | apply pw_below_drewN | apply below_drew1) | exact HB.out)) hb); clear HO166; clear HB; have HO166 := n0_; have HO169 := n1_; have HB := n2_; clear n0_ n1_ n2_; (try clear hb); (try clear hb2); (try clear hk); (try clear hi); (try clear ho0); obtain ⟨Ao14, co14, eo14⟩ := Kd.V_slice HO169.out; subst eo14) | ((with_reducible refine gate_callee (f := 13) rfl ?_); refine goesL_ (some 18) rfl rfl Try.func13 (by kernel_rfl) rfl #[.slice Ao14 t167.length co14, .int .u32 191] rfl (by (try simp only [List.map_toArray, List.map_cons, List.map_nil]); first | done | rfl | (simp only [List.length_drop, List.length_take]; rfl)) ?_; (with_reducible refine (tlb_Find.calls k _ _ t167 191 t171 t172 true _ ?side1 ?side2 A3.out).mono ?_); (case side1 => repeat (first | exact (Kd.V_reads' HO169.out).2.2 | (with_reducible refine Kd.C_alloc ?_ _) | (with_reducible refine Kd.C_drewN ?_ _) | (with_reducible refine Kd.C_drew ?_))); (case side2 => exact (Kd.V_reads' HO169.out).2.1); rintro e w15 ⟨rfl, hb⟩; refine ⟨_, rfl, ?_⟩; have n0_ := Aside0.mk (Kd.R_below (by (with_reducible repeat (first | apply Kd.R_alloc | apply Kd.R_drewN | apply Kd.R_drew)); exact HO166.out) hb); have n1_ := Aside0.mk (Kd.V_below (by (with_reducible repeat (first | apply Kd.V_alloc | apply Kd.V_drewN | apply Kd.V_drew)); exact HO169.out) hb); have n2_ := Aside0.mk (below_step (by repeat (first | (with_reducible first | exact HB.out | apply below_alloc | apply pw_below_drewN | apply below_drew1) | exact HB.out)) hb); clear HO166; clear HO169; clear HB; have HO166 := n0_; have HO169 := n1_; have HB := n2_; clear n0_ n1_ n2_; (try clear hb); (try clear hb2); (try clear hk); (try clear hi)) | ((with_reducible refine gate_dst (N := 3) rfl ?_); refine box_event ?hg (N := 3) ?hd (cs := #[.int .u32 0, .int .i64 0]) (t := 27) ?hr ?_; (case hd => rfl); (case hg => rfl); (case hr => first | (go_simp; done) | (go_simp; rfl)); intro gb174 hg w16 hbox hb; have n0_ := Aside0.mk (Kd.R_below (by (with_reducible repeat (first | apply Kd.R_alloc | apply Kd.R_drewN | apply Kd.R_drew)); exact HO166.out) hb); have n1_ := Aside0.mk (Kd.V_below (Kd.V_elderB (by (with_reducible repeat (first | apply Kd.V_alloc | apply Kd.V_drewN | apply Kd.V_drew)); exact HO169.out) gb174 (Nat.le_of_eq hg.symm)) hb); have n2_ := Aside0.mk (below_step (by repeat (first | (with_reducible first | exact HB.out | apply below_alloc | apply pw_below_drewN | apply below_drew1) | exact HB.out)) hb); have n3_ := Aside0.mk (hbox); have n4_ := Aside0.mk ((by rw [hg]; exact (below_size (by repeat (first | (with_reducible first | exact HB.out | apply below_alloc | apply pw_below_drewN | apply below_drew1) | exact HB.out))) : w.heap.size ≤ gb174)); have n5_ := Aside0.mk ((by rw [hg]; exact (below_size (by repeat (first | (with_reducible first | exact HB.out | apply below_alloc | apply pw_below_drewN | apply below_drew1) | exact HB.out))) : w.heap.size ≤ gb174)); clear HO166; clear HO169; clear HB; have HO166 := n0_; have HO169 := n1_; have HB := n2_; have BK174 := n3_; have GW174 := n4_; have GE174 := n5_; clear n0_ n1_ n2_ n3_ n4_ n5_; clear hb hbox hg; have hcz17_0 : w16.cell? ⟨gb174, 0, none⟩ = some (.int .u32 0) := (blk_cell BK174.out 0).trans rfl; have hcz17_1 : w16.cell? ⟨gb174, 1, none⟩ = some (.int .i64 0) := (blk_cell BK174.out 1).trans rfl; have hfz17_0 := blk_frozen BK174.out 0; have hfz17_1 := blk_frozen BK174.out 1) | ((with_reducible refine gate_store (t := 27) (p := 3) rfl ?_); refine store_event (t := 27) (p := 3) (v := ?vo_w18) (w1 := ((w16.setCell ⟨gb174, 0, none⟩ (.int .u32 t171)).setCell ⟨gb174, 1, none⟩ (.int .i64 t172))) ?hg ?ho ?hn ?hr ?_; (case ho => rfl); (case hg => rfl); (case hn => rfl); (case hr => first | (go_simp; done) | (go_simp; rfl)); intro w18 hw; have n0_ : Aside0 (Kd.R k53 53 w18 w.heap.size (fun _ => True) (.slice Ao12 t164.length co12) t164) := ⟨(by rw [hw]; exact (by (with_reducible repeat (first | apply Kd.R_alloc | apply Kd.R_drewN | apply Kd.R_drew)); exact Kd.R_mono (Kd.R_far (p := ⟨gb174, 1, none⟩) (Kd.R_far (p := ⟨gb174, 0, none⟩) (Kd.R_types HO166.out BK174.out (by decide)) (fun _ hk => hk.2) (.int .u32 t171)) (fun _ hk => hk.2) (.int .i64 t172)) (fun _ hk => trivial)))⟩; have n1_ : Aside0 (Kd.V k53 53 w18 w.heap.size (fun k_ => k_ ≠ gb174) (.slice Ao14 t167.length co14) t167) := ⟨(by rw [hw]; exact (by (with_reducible repeat (first | apply Kd.V_alloc | apply Kd.V_drewN | apply Kd.V_drew)); exact Kd.V_mono (Kd.V_far (p := ⟨gb174, 1, none⟩) (Kd.V_far (p := ⟨gb174, 0, none⟩) (Kd.V_mono HO169.out (fun k_ hk => (⟨hk, hk.2⟩ : _ ∧ k_ ≠ gb174))) (fun _ hk => hk.2) (.int .u32 t171)) (fun _ hk => hk.2) (.int .i64 t172)) (fun _ hk => hk.1.2)))⟩; have n2_ : Aside0 (w18.heap[gb174]? = some (.cells #[.int .u32 t171, .int .i64 t172] 27 (0, 0))) := ⟨(by rw [hw]; exact (by (with_reducible repeat (first | refine blk_drewN ?_ _ | refine blk_drew ?_ | refine blk_alloc ?_ _)); refine blk_put (cs := #[.int .u32 t171, .int .i64 0]) ?_ 1 _ (by first | rfl | (simp [Int.emod_emod_of_dvd]; done)); (with_reducible repeat (first | refine blk_drewN ?_ _ | refine blk_drew ?_ | refine blk_alloc ?_ _)); refine blk_put (cs := #[.int .u32 0, .int .i64 0]) ?_ 0 _ (by first | rfl | (simp [Int.emod_emod_of_dvd]; done)); (with_reducible repeat (first | refine blk_drewN ?_ _ | refine blk_drew ?_ | refine blk_alloc ?_ _)); exact BK174.out))⟩; have n3_ : Aside0 (Below w.heap.size w w18) := ⟨(by rw [hw]; exact (by repeat (first | (with_reducible first | exact HB.out | apply below_alloc | apply pw_below_drewN | apply below_drew1 | refine below_set ?_ GE174.out) | exact HB.out)))⟩; clear hw; clear HO166; clear HO169; clear BK174; clear HB; have HO166 := n0_; have HO169 := n1_; have BK174 := n2_; have HB := n3_; clear n0_ n1_ n2_ n3_) | ((with_reducible refine gate_callee (f := 11) rfl ?_); refine goesL_ (some 25) rfl rfl Try.func11 (by kernel_rfl) rfl #[.agg #[.int .u32 0, .int .u32 0, .int .u32 0, .int .u32 0, .int .u32 0, .int .u32 0, .int .u32 0, .int .u32 0, .int .u32 0, .int .u32 0, .int .u32 0, .int .u32 0, .int .u32 0, .int .u32 0, .int .u32 0, .int .u32 0, .int .u32 0, .int .u32 0, .int .u32 0, .int .u32 0, .int .u32 0, .int .u32 0, .int .u32 0, .int .u32 0, .int .u32 0, .int .u32 0, .int .u32 0, .int .u32 0, .int .u32 0, .bool false], .slice none 0 0, .slice Ao14 t167.length co14, .int .i64 t170, .int .u32 100, .int .i64 2] rfl (by (try simp only [List.map_toArray, List.map_cons, List.map_nil]); first | done | rfl | (simp only [List.length_drop, List.length_take]; rfl)) ?_; (refine (tlb_Trans.calls k 0 0 0 0 0 0 0 0 0 0 0 0 0 0 0 0 0 0 0 0 0 0 0 0 0 0 0 0 0 false _ _ ([] : List Int) (fun k_ => k_ ≠ gb174) _ _ t167 t170 100 2 t175 t176 t177 t180 t181 _ ?side1 ?side2 ?side3 A4.out).mono ?_); (case side1 => exact Kd.C_nil _ _); (case side2 => exact Nat.le_refl _); (case side3 => exact HO169.out); rintro e w19 ⟨v178, rfl, ho0, hb⟩; refine ⟨_, rfl, ?_⟩; have n0_ := Aside0.mk (Kd.R_below (by (with_reducible repeat (first | apply Kd.R_alloc | apply Kd.R_drewN | apply Kd.R_drew)); exact HO166.out) hb); have n1_ := Aside0.mk (Kd.V_below (by (with_reducible repeat (first | apply Kd.V_alloc | apply Kd.V_drewN | apply Kd.V_drew)); exact HO169.out) hb); have n2_ := Aside0.mk (Kd.V_lower (Kd.V_mono (ok' := fun k_ => k_ ≠ gb174) ho0 (fun k_ hk_ => Or.elim hk_ (fun hs_ => hs_) (fun hn_ => (Kd.freshB (g := gb174) (o := .cells #[.int .u32 t171, .int .i64 t172] 27 (0, 0)) (by (with_reducible repeat (first | refine blk_drewN ?_ _ | refine blk_drew ?_ | refine blk_alloc ?_ _)); exact BK174.out) k_ hn_)))) (below_size (by repeat (first | (with_reducible first | exact HB.out | apply below_alloc | apply pw_below_drewN | apply below_drew1 | refine below_set ?_ GE174.out) | exact HB.out)))); have n3_ := Aside0.mk (blk_below (g := gb174) (o := .cells #[.int .u32 t171, .int .i64 t172] 27 (0, 0)) (by (with_reducible repeat (first | refine blk_drewN ?_ _ | refine blk_drew ?_ | refine blk_alloc ?_ _)); exact BK174.out) hb); have n4_ := Aside0.mk (below_step (by repeat (first | (with_reducible first | exact HB.out | apply below_alloc | apply pw_below_drewN | apply below_drew1 | refine below_set ?_ GE174.out) | exact HB.out)) hb); clear HO166; clear HO169; clear BK174; clear HB; have HO166 := n0_; have HO169 := n1_; have HO179 := n2_; have BK174 := n3_; have HB := n4_; clear n0_ n1_ n2_ n3_ n4_; (try clear hb); (try clear hb2); (try clear hk); (try clear hi); (try clear ho0); have hcz20_0 : w19.cell? ⟨gb174, 0, none⟩ = some (.int .u32 t171) := (blk_cell BK174.out 0).trans rfl; have hcz20_1 : w19.cell? ⟨gb174, 1, none⟩ = some (.int .i64 t172) := (blk_cell BK174.out 1).trans rfl; have hfz20_0 := blk_frozen BK174.out 0; have hfz20_1 := blk_frozen BK174.out 1))
              go_ret
              exact ⟨by first | rfl | (simp [errW_none, errW_some] <;> rfl) | (simp [*, errW_none, errW_some] <;> rfl), by repeat (first | (with_reducible first | exact HB.out | apply below_alloc | apply pw_below_drewN | apply below_drew1 | refine below_set ?_ GE174.out) | exact HB.out)⟩
            · rw [if_neg c10] at H
              exact absurd H (by simp)
          · rw [if_neg c9] at H
            exact absurd H (by simp)
        · replace c8 := Bool.eq_false_iff.mpr c8
          subst c8
          have H1 : (none) = some r := by rw [if_neg (show ¬ (false = true) by decide)] at H; exact H
          clear H
          have H := H1
          clear H1
          exact absurd H (by simp)
      · rw [if_neg c7] at H
        exact absurd H (by simp)
    · rw [if_neg c6] at H
      exact absurd H (by simp)
  · rw [if_neg c5] at H
    exact absurd H (by simp)

end Go.Proofs.Ytkcncghdpjoodaa.PTlbTrans
