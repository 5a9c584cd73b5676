-- This session's own text: written by wip/tools/myprint.sh after the kit's printer.
import Derived.Test.YtkcncghdpjoodaaPTlbTransx0
import Derived.Test.YtkcncghdpjoodaaPTlbTransx2
namespace Go.Proofs.Ytkcncghdpjoodaa.PTlbTrans
open Go.RowKit Go.Proofs.YtkcncghdpjoodaaW.PrintWords Go.Proofs.YtkcncghdpjoodaaW.PrintLast Go.Proofs.YtkcncghdpjoodaaW.PrintMore
attribute [local go_sem] max2_int min2_int max_two min_two max_three min_three max_four min_four   -- for this text's walks alone
set_option linter.unusedVariables false
set_option linter.unusedSimpArgs false

/-! ### pte_Index: function 40 -/
def pte_Index.f (a0 : Int) (a1 : Int) : Option (Int) := if a1 = 0 then ((bits_Field.f a0 13 10).bind fun t133 => (some (wrap64 (t133)))) else (if a1 = 1 then ((bits_Field.f a0 9 6).bind fun t134 => (some (wrap64 (t134)))) else (some 0))
set_option maxHeartbeats 8000000 in
set_option maxRecDepth 100000 in
theorem pte_Index.calls (a0 : Int) (a1 : Int) (r : Int) (w : World) (h : pte_Index.f a0 a1 = some r) :
    Calls Try.prog 40 #[.int .u32 a0, .int .i64 a1] w fun e w' => e = .returned (.int .i64 r) ∧ Below w.heap.size w w' := by
  have HB := Aside0.mk (Below.refl w.heap.size w)
  have H : (if a1 = 0 then ((bits_Field.f a0 13 10).bind fun t133 => (some (wrap64 (t133)))) else (if a1 = 1 then ((bits_Field.f a0 9 6).bind fun t134 => (some (wrap64 (t134)))) else (some 0))) = some r := h
  clear h
  by_cases c3 : a1 = 0
  · rw [if_pos c3] at H
    have c3b0 : (a1 == 0) = true := beq_iff_eq.mpr c3
    have c3b1 : (a1 != 0) = false := bne_eq_false_iff_eq.mpr c3
    clear c3
    replace H := Option.bind_eq_some_iff.mp H
    obtain ⟨t133, A40, H⟩ := H
    replace H : (some (wrap64 (t133))) = some r := H
    have A4 := Aside0.mk A40
    clear A40
    obtain rfl := Option.some.inj H
    go_enter Try.func40, Try.ntmps40
    go_wp2_with (first | ((with_reducible refine gate_callee (f := 50) rfl ?_); refine goesL_ (some 9) rfl rfl Try.func50 (by kernel_rfl) rfl #[.int .u32 a0, .int .i64 13, .int .i64 10] rfl (by (try simp only [List.map_toArray, List.map_cons, List.map_nil]); first | done | rfl | (simp only [List.length_drop, List.length_take]; rfl)) ?_; (with_reducible refine (bits_Field.calls a0 13 10 t133 _ A4.out).mono ?_); rintro e w5 ⟨rfl, hb⟩; refine ⟨_, rfl, ?_⟩; have n0_ := Aside0.mk (below_step (by repeat (first | (with_reducible first | exact HB.out | apply below_alloc | apply pw_below_drewN | apply below_drew1) | exact HB.out)) hb); clear HB; have HB := n0_; clear n0_; (try clear hb); (try clear hb2); (try clear hk); (try clear hi)))
    go_ret
    exact ⟨by first | rfl | (simp [errW_none, errW_some] <;> rfl) | (simp [*, errW_none, errW_some] <;> rfl), by repeat (first | (with_reducible first | exact HB.out | apply below_alloc | apply pw_below_drewN | apply below_drew1) | exact HB.out)⟩
  · rw [if_neg c3] at H
    have c3b0 : (a1 == 0) = false := beq_eq_false_iff_ne.mpr c3
    have c3b1 : (a1 != 0) = true := bne_iff_ne.mpr c3
    by_cases c6 : a1 = 1
    · rw [if_pos c6] at H
      have c6b0 : (a1 == 1) = true := beq_iff_eq.mpr c6
      have c6b1 : (a1 != 1) = false := bne_eq_false_iff_eq.mpr c6
      clear c6
      replace H := Option.bind_eq_some_iff.mp H
      obtain ⟨t134, A70, H⟩ := H
      replace H : (some (wrap64 (t134))) = some r := H
      have A7 := Aside0.mk A70
      clear A70
      obtain rfl := Option.some.inj H
      go_enter Try.func40, Try.ntmps40
      go_wp2_with (first | ((with_reducible refine gate_callee (f := 50) rfl ?_); refine goesL_ (some 14) rfl rfl Try.func50 (by kernel_rfl) rfl #[.int .u32 a0, .int .i64 9, .int .i64 6] rfl (by (try simp only [List.map_toArray, List.map_cons, List.map_nil]); first | done | rfl | (simp only [List.length_drop, List.length_take]; rfl)) ?_; (with_reducible refine (bits_Field.calls a0 9 6 t134 _ A7.out).mono ?_); rintro e w8 ⟨rfl, hb⟩; refine ⟨_, rfl, ?_⟩; have n0_ := Aside0.mk (below_step (by repeat (first | (with_reducible first | exact HB.out | apply below_alloc | apply pw_below_drewN | apply below_drew1) | exact HB.out)) hb); clear HB; have HB := n0_; clear n0_; (try clear hb); (try clear hb2); (try clear hk); (try clear hi)))
      go_ret
      exact ⟨by first | rfl | (simp [errW_none, errW_some] <;> rfl) | (simp [*, errW_none, errW_some] <;> rfl), by repeat (first | (with_reducible first | exact HB.out | apply below_alloc | apply pw_below_drewN | apply below_drew1) | exact HB.out)⟩
    · rw [if_neg c6] at H
      have c6b0 : (a1 == 1) = false := beq_eq_false_iff_ne.mpr c6
      have c6b1 : (a1 != 1) = true := bne_iff_ne.mpr c6
      obtain rfl := Option.some.inj H
      go_enter Try.func40, Try.ntmps40
      go_wp2
      go_ret
      exact ⟨by first | rfl | (simp [errW_none, errW_some] <;> rfl) | (simp [*, errW_none, errW_some] <;> rfl), by repeat (first | (with_reducible first | exact HB.out | apply below_alloc | apply pw_below_drewN | apply below_drew1) | exact HB.out)⟩

/-! ### walk_Walk: function 25 -/
set_option maxHeartbeats 8000000 in
set_option maxRecDepth 100000 in
theorem walk_Walk.entry (k b g1 g2 g3 : Nat) (cs1 cs2 cs3 : Array Value) (A0 : Option Addr) (c0 : Nat) (l0 : List Int) (at_ t1 t2 r1 r2 : Int) (rv : Value) (reads : List Int) (w w0 : World)
    (hr0 : Kd.C (Kd.int .u8) w A0 l0.length l0) (hc0 : l0.length ≤ c0) (hB0 : Below w0.heap.size w0 w) (hb : w.heap[b]? = some (.cells #[.slice A0 l0.length c0, rv] 67 (0, 0))) (hbb : w0.heap.size ≤ b)
    (hg1 : w.heap[g1]? = some (.cells cs1 27 (0, 0))) (hg2 : w.heap[g2]? = some (.cells cs2 27 (0, 0))) (hg3 : w.heap[g3]? = some (.cells cs3 27 (0, 0)))
    (hR : Kd.R (Kd.int .u32) 23 w w0.heap.size (fun _ => True) rv reads) (hrl : reads.length < 100)
    (hread : mem_Read.f k l0 at_ 4 = some (t1, t2)) (hof : t2 = 0 → pte_Of.f t1 = some (r1, r2)) :
    Calls Try.prog 39 #[.pointer (some ⟨b, 0, none⟩), .int .u32 at_] w fun e w' => e = .returned (.tuple #[.agg #[.int .u32 (if t2 = 0 then r1 else 0), .int .i64 (if t2 = 0 then r2 else 0)], .bool (decide (t2 = 0))]) ∧
      Below w0.heap.size w0 w' ∧ ∃ rv', w'.heap[b]? = some (.cells #[.slice A0 l0.length c0, rv'] 67 (0, 0)) ∧ w'.heap[g1]? = some (.cells cs1 27 (0, 0)) ∧ w'.heap[g2]? = some (.cells cs2 27 (0, 0)) ∧ w'.heap[g3]? = some (.cells cs3 27 (0, 0)) ∧
      Kd.R (Kd.int .u32) 23 w' w0.heap.size (fun _ => True) rv' (if t2 = 0 then reads ++ [at_] else reads) := by
  have huP := Try.underlying27
  have huW := Try.underlying67
  have HR0 := Aside0.mk hr0
  have HC0 := Aside0.mk hc0
  have HB := Aside0.mk hB0
  have BKb := Aside0.mk hb
  have BK1 := Aside0.mk hg1
  have BK2 := Aside0.mk hg2
  have BK3 := Aside0.mk hg3
  have HO := Aside0.mk hR
  have GB := Aside0.mk hbb
  have RD := Aside0.mk hread
  clear hr0 hc0 hB0 hb hg1 hg2 hg3 hR hbb hread
  by_cases ht : t2 = 0
  · have OF := Aside0.mk (hof ht)
    clear hof
    subst ht
    have HL := Aside0.mk hrl
    clear hrl
    go_enter Try.func39, Try.ntmps39
    go_wp2_with (first | ((with_reducible refine gate_dst (N := 4) rfl ?_); refine box_event ?hg (N := 4) ?hd (cs := #[.int .u32 0, .int .i64 0]) (t := 27) ?hr ?_; (case hd => rfl); (case hg => rfl); (case hr => first | (go_simp; done) | (go_simp; rfl)); intro gE hg w1 hbox hb; have n0_ := Aside0.mk (below_step HB.out hb); have n1_ := Aside0.mk (hbox); have n2_ := Aside0.mk ((by rw [hg]; exact (below_size HB.out)) : w0.heap.size ≤ gE); have n3_ := Aside0.mk (blk_below BKb.out hb); have n4_ := Aside0.mk (blk_below BK1.out hb); have n5_ := Aside0.mk (blk_below BK2.out hb); have n55_ := Aside0.mk (blk_below BK3.out hb); have n6_ := Aside0.mk (Kd.R_below HO.out hb); have n7_ := Aside0.mk (Kd.C_below HR0.out hb); have n8_ := Aside0.mk ((by rw [hg]; have := blk_lt BK1.out; omega) : g1 ≠ gE); have n9_ := Aside0.mk ((by rw [hg]; have := blk_lt BK2.out; omega) : g2 ≠ gE); have n99_ := Aside0.mk ((by rw [hg]; have := blk_lt BK3.out; omega) : g3 ≠ gE); have n10_ := Aside0.mk ((by rw [hg]; have := blk_lt BKb.out; omega) : b ≠ gE); clear HB BKb BK1 BK2 BK3 HO HR0; have HB := n0_; have BKE := n1_; have GE := n2_; have BKb := n3_; have BK1 := n4_; have BK2 := n5_; have BK3 := n55_; have HO := n6_; have HR0 := n7_; have N1 := n8_; have N2 := n9_; have N3 := n99_; have Nb := n10_; clear n0_ n1_ n2_ n3_ n4_ n5_ n55_ n6_ n7_ n8_ n9_ n99_ n10_; clear hb hbox hg; have hcz0 : w1.cell? ⟨b, 0, none⟩ = some (.slice A0 l0.length c0) := (blk_cell BKb.out 0).trans rfl) | (go_at_call 48; (with_reducible refine (mem_Read.calls k _ _ l0 at_ 4 t1 0 _ ?side1 ?side2 RD.out).mono ?_); (case side1 => repeat (first | exact HR0.out | (with_reducible refine Kd.C_alloc ?_ _) | (with_reducible refine Kd.C_drewN ?_ _) | (with_reducible refine Kd.C_drew ?_))); (case side2 => exact HC0.out); rintro e w2 ⟨rfl, hb⟩; have n0_ := Aside0.mk (below_step (by repeat (first | (with_reducible first | exact HB.out | apply below_alloc | apply pw_below_drewN | apply below_drew1) | exact HB.out)) hb); have n1_ := Aside0.mk (blk_below (o := .cells #[.int .u32 0, .int .i64 0] 27 (0, 0)) (by (with_reducible repeat (first | refine blk_drewN ?_ _ | refine blk_drew ?_ | refine blk_alloc ?_ _)); exact BKE.out) hb); have n3_ := Aside0.mk (blk_below (by (with_reducible repeat (first | refine blk_drewN ?_ _ | refine blk_drew ?_ | refine blk_alloc ?_ _)); exact BKb.out) hb); have n4_ := Aside0.mk (blk_below (o := .cells cs1 27 (0, 0)) (by (with_reducible repeat (first | refine blk_drewN ?_ _ | refine blk_drew ?_ | refine blk_alloc ?_ _)); exact BK1.out) hb); have n5_ := Aside0.mk (blk_below (o := .cells cs2 27 (0, 0)) (by (with_reducible repeat (first | refine blk_drewN ?_ _ | refine blk_drew ?_ | refine blk_alloc ?_ _)); exact BK2.out) hb); have n55_ := Aside0.mk (blk_below (o := .cells cs3 27 (0, 0)) (by (with_reducible repeat (first | refine blk_drewN ?_ _ | refine blk_drew ?_ | refine blk_alloc ?_ _)); exact BK3.out) hb); have n6_ := Aside0.mk (Kd.R_below (by (with_reducible repeat (first | apply Kd.R_alloc | apply Kd.R_drewN | apply Kd.R_drew)); exact HO.out) hb); clear HB BKb BK1 BK2 BK3 HO BKE; have HB := n0_; have BKE := n1_; have BKb := n3_; have BK1 := n4_; have BK2 := n5_; have BK3 := n55_; have HO := n6_; clear n0_ n1_ n3_ n4_ n5_ n55_ n6_; clear hb hcz0; have hcz1 : w2.cell? ⟨b, 1, none⟩ = some rv := (blk_cell BKb.out 1).trans rfl) | ((with_reducible refine gate_builtin (b := .append) (xs := #[.tmp 24, .tmp 26]) rfl ?_); at_builtin; refine Kd.R_append (Kd.int .u32) (w0 := w0) w0.heap.size rfl (.tmp 24) (.tmp 26) 38 23 (.int .u32 0) 4 rfl Try.underlying38 info23 rfl (by decide) (by omega) rv reads at_ [.int .u32 at_] (fun _ => True) (fun _ => False) rfl rfl ?aP (fun _ hk => hk.elim) ?aF ?aO ?aB ?aS ?aL ?_; (case aP => exact rfl); (case aB => exact (by repeat (first | (with_reducible first | exact HB.out | apply below_alloc | apply pw_below_drewN | apply below_drew1) | exact HB.out))); (case aF => exact (fun _ _ => trivial)); (case aO => exact (by (with_reducible repeat (first | apply Kd.R_alloc | apply Kd.R_drewN | apply Kd.R_drew)); exact HO.out)); (case aS => exact (below_size (by repeat (first | (with_reducible first | exact HB.out | apply below_alloc | apply pw_below_drewN | apply below_drew1) | exact HB.out)))); (case aL => have := HL.out; omega); intro rv' w3 ho hb hg hat; obtain ⟨Ar, cr, er, _, _⟩ := Kd.R_reads ho; generalize (reads ++ [at_]).length = nr at er; subst er; have n1_ := Aside0.mk (blk_grown (g := gE) (by (with_reducible repeat (first | refine blk_drewN ?_ _ | refine blk_drew ?_ | refine blk_alloc ?_ _)); exact BKE.out) hg (Kd.R_ne HO.out BKE.out (by decide))); have n3_ := Aside0.mk (blk_grown (g := b) (by (with_reducible repeat (first | refine blk_drewN ?_ _ | refine blk_drew ?_ | refine blk_alloc ?_ _)); exact BKb.out) hg (Kd.R_ne HO.out BKb.out (by decide))); have n4_ := Aside0.mk (blk_grown (g := g1) (by (with_reducible repeat (first | refine blk_drewN ?_ _ | refine blk_drew ?_ | refine blk_alloc ?_ _)); exact BK1.out) hg (Kd.R_ne HO.out BK1.out (by decide))); have n5_ := Aside0.mk (blk_grown (g := g2) (by (with_reducible repeat (first | refine blk_drewN ?_ _ | refine blk_drew ?_ | refine blk_alloc ?_ _)); exact BK2.out) hg (Kd.R_ne HO.out BK2.out (by decide))); have n55_ := Aside0.mk (blk_grown (g := g3) (by (with_reducible repeat (first | refine blk_drewN ?_ _ | refine blk_drew ?_ | refine blk_alloc ?_ _)); exact BK3.out) hg (Kd.R_ne HO.out BK3.out (by decide))); have n0_ := Aside0.mk hb; have n6_ := Aside0.mk ho; clear HB BKb BK1 BK2 BK3 HO BKE hcz1; have HB := n0_; have BKE := n1_; have BKb := n3_; have BK1 := n4_; have BK2 := n5_; have BK3 := n55_; have HO := n6_; clear n0_ n1_ n3_ n4_ n5_ n55_ n6_; clear ho hb hg hat; have hcz2 : w3.cell? ⟨b, 1, none⟩ = some rv := (blk_cell BKb.out 1).trans rfl; have hfz2 := blk_frozen BKb.out 1) | (go_at_call 49; (with_reducible refine (pte_Of.calls t1 r1 r2 _ OF.out).mono ?_); rintro e w4 ⟨rfl, hb⟩; have n0_ := Aside0.mk (below_step (by repeat (first | (with_reducible first | exact HB.out | apply below_alloc | apply pw_below_drewN | apply below_drew1 | refine below_set ?_ GB.out) | exact HB.out)) hb); have n1_ := Aside0.mk (blk_below (o := .cells #[.int .u32 0, .int .i64 0] 27 (0, 0)) (by (with_reducible repeat (first | refine blk_drewN ?_ _ | refine blk_drew ?_ | refine blk_alloc ?_ _)); refine blk_far ?_ (Ne.symm Nb.out) _; exact BKE.out) hb); have n3_ := Aside0.mk (blk_below (o := .cells #[.slice A0 l0.length c0, .slice Ar nr cr] 67 (0, 0)) (by (with_reducible repeat (first | refine blk_drewN ?_ _ | refine blk_drew ?_ | refine blk_alloc ?_ _)); refine blk_put (cs := #[.slice A0 l0.length c0, rv]) BKb.out 1 _ rfl) hb); have n4_ := Aside0.mk (blk_below (o := .cells cs1 27 (0, 0)) (by (with_reducible repeat (first | refine blk_drewN ?_ _ | refine blk_drew ?_ | refine blk_alloc ?_ _)); refine blk_far ?_ (blk_ne BK1.out BKb.out (by decide)) _; exact BK1.out) hb); have n5_ := Aside0.mk (blk_below (o := .cells cs2 27 (0, 0)) (by (with_reducible repeat (first | refine blk_drewN ?_ _ | refine blk_drew ?_ | refine blk_alloc ?_ _)); refine blk_far ?_ (blk_ne BK2.out BKb.out (by decide)) _; exact BK2.out) hb); have n55_ := Aside0.mk (blk_below (o := .cells cs3 27 (0, 0)) (by (with_reducible repeat (first | refine blk_drewN ?_ _ | refine blk_drew ?_ | refine blk_alloc ?_ _)); refine blk_far ?_ (blk_ne BK3.out BKb.out (by decide)) _; exact BK3.out) hb); have n6_ := Aside0.mk (Kd.R_below (by (with_reducible repeat (first | apply Kd.R_alloc | apply Kd.R_drewN | apply Kd.R_drew)); exact Kd.R_set HO.out BKb.out (by decide) 1 _) hb); clear HB BKb BK1 BK2 BK3 HO BKE hcz2 hfz2; have HB := n0_; have BKE := n1_; have BKb := n3_; have BK1 := n4_; have BK2 := n5_; have BK3 := n55_; have HO := n6_; clear n0_ n1_ n3_ n4_ n5_ n55_ n6_; clear hb; have hcz3 : w4.cell? ⟨gE, 0, none⟩ = some (.int .u32 0) := (blk_cell BKE.out 0).trans rfl; have hcz4 : w4.cell? ⟨gE, 1, none⟩ = some (.int .i64 0) := (blk_cell BKE.out 1).trans rfl; have hfz3 := blk_frozen BKE.out 0; have hfz4 := blk_frozen BKE.out 1))
    refine bodyPost_ret (results_ct rfl _ _ gE 27 #[.int .u32 r1, .int .i64 r2] (0, 0) _ rfl (by (with_reducible repeat (first | refine blk_drewN ?_ _ | refine blk_drew ?_ | refine blk_alloc ?_ _)); refine blk_put (cs := #[.int .u32 r1, .int .i64 0]) ?_ 1 _ (by first | rfl | (simp [Int.emod_emod_of_dvd]; done)); (with_reducible repeat (first | refine blk_drewN ?_ _ | refine blk_drew ?_ | refine blk_alloc ?_ _)); refine blk_put (cs := #[.int .u32 0, .int .i64 0]) ?_ 0 _ (by first | rfl | (simp [Int.emod_emod_of_dvd]; done)); (with_reducible repeat (first | refine blk_drewN ?_ _ | refine blk_drew ?_ | refine blk_alloc ?_ _)); exact BKE.out) Try.underlying27 rfl (by kernel_rfl)) rfl ?_
    refine ⟨by first | rfl | simp, ?_, .slice Ar nr cr, ?_, ?_, ?_, ?_, ?_⟩
    · exact below_set (below_set HB.out GE.out) GE.out
    · refine blk_far ?_ Nb.out _; refine blk_far ?_ Nb.out _; exact BKb.out
    · refine blk_far ?_ N1.out _; refine blk_far ?_ N1.out _; exact BK1.out
    · refine blk_far ?_ N2.out _; refine blk_far ?_ N2.out _; exact BK2.out
    · refine blk_far ?_ N3.out _; refine blk_far ?_ N3.out _; exact BK3.out
    · exact Kd.R_mono (Kd.R_far (p := ⟨gE, 1, none⟩) (Kd.R_far (p := ⟨gE, 0, none⟩) (Kd.R_types HO.out BKE.out (by decide)) (fun _ hk => hk.2) _) (fun _ hk => hk.2) _) (fun _ hk => trivial)
  · clear hof
    have c1 : (t2 != 0) = true := bne_iff_ne.mpr ht
    have c2 : (t2 == 0) = false := beq_eq_false_iff_ne.mpr ht
    go_enter Try.func39, Try.ntmps39
    go_wp2_with (first | ((with_reducible refine gate_dst (N := 4) rfl ?_); refine box_event ?hg (N := 4) ?hd (cs := #[.int .u32 0, .int .i64 0]) (t := 27) ?hr ?_; (case hd => rfl); (case hg => rfl); (case hr => first | (go_simp; done) | (go_simp; rfl)); intro gE hg w1 hbox hb; have n0_ := Aside0.mk (below_step HB.out hb); have n1_ := Aside0.mk (hbox); have n2_ := Aside0.mk ((by rw [hg]; exact (below_size HB.out)) : w0.heap.size ≤ gE); have n3_ := Aside0.mk (blk_below BKb.out hb); have n4_ := Aside0.mk (blk_below BK1.out hb); have n5_ := Aside0.mk (blk_below BK2.out hb); have n55_ := Aside0.mk (blk_below BK3.out hb); have n6_ := Aside0.mk (Kd.R_below HO.out hb); have n7_ := Aside0.mk (Kd.C_below HR0.out hb); have n8_ := Aside0.mk ((by rw [hg]; have := blk_lt BK1.out; omega) : g1 ≠ gE); have n9_ := Aside0.mk ((by rw [hg]; have := blk_lt BK2.out; omega) : g2 ≠ gE); have n99_ := Aside0.mk ((by rw [hg]; have := blk_lt BK3.out; omega) : g3 ≠ gE); have n10_ := Aside0.mk ((by rw [hg]; have := blk_lt BKb.out; omega) : b ≠ gE); clear HB BKb BK1 BK2 BK3 HO HR0; have HB := n0_; have BKE := n1_; have GE := n2_; have BKb := n3_; have BK1 := n4_; have BK2 := n5_; have BK3 := n55_; have HO := n6_; have HR0 := n7_; have N1 := n8_; have N2 := n9_; have N3 := n99_; have Nb := n10_; clear n0_ n1_ n2_ n3_ n4_ n5_ n55_ n6_ n7_ n8_ n9_ n99_ n10_; clear hb hbox hg; have hcz0 : w1.cell? ⟨b, 0, none⟩ = some (.slice A0 l0.length c0) := (blk_cell BKb.out 0).trans rfl) | (go_at_call 48; (with_reducible refine (mem_Read.calls k _ _ l0 at_ 4 t1 t2 _ ?side1 ?side2 RD.out).mono ?_); (case side1 => repeat (first | exact HR0.out | (with_reducible refine Kd.C_alloc ?_ _) | (with_reducible refine Kd.C_drewN ?_ _) | (with_reducible refine Kd.C_drew ?_))); (case side2 => exact HC0.out); rintro e w2 ⟨rfl, hb⟩; have n0_ := Aside0.mk (below_step (by repeat (first | (with_reducible first | exact HB.out | apply below_alloc | apply pw_below_drewN | apply below_drew1) | exact HB.out)) hb); have n1_ := Aside0.mk (blk_below (o := .cells #[.int .u32 0, .int .i64 0] 27 (0, 0)) (by (with_reducible repeat (first | refine blk_drewN ?_ _ | refine blk_drew ?_ | refine blk_alloc ?_ _)); exact BKE.out) hb); have n3_ := Aside0.mk (blk_below (by (with_reducible repeat (first | refine blk_drewN ?_ _ | refine blk_drew ?_ | refine blk_alloc ?_ _)); exact BKb.out) hb); have n4_ := Aside0.mk (blk_below (o := .cells cs1 27 (0, 0)) (by (with_reducible repeat (first | refine blk_drewN ?_ _ | refine blk_drew ?_ | refine blk_alloc ?_ _)); exact BK1.out) hb); have n5_ := Aside0.mk (blk_below (o := .cells cs2 27 (0, 0)) (by (with_reducible repeat (first | refine blk_drewN ?_ _ | refine blk_drew ?_ | refine blk_alloc ?_ _)); exact BK2.out) hb); have n55_ := Aside0.mk (blk_below (o := .cells cs3 27 (0, 0)) (by (with_reducible repeat (first | refine blk_drewN ?_ _ | refine blk_drew ?_ | refine blk_alloc ?_ _)); exact BK3.out) hb); have n6_ := Aside0.mk (Kd.R_below (by (with_reducible repeat (first | apply Kd.R_alloc | apply Kd.R_drewN | apply Kd.R_drew)); exact HO.out) hb); clear HB BKb BK1 BK2 BK3 HO BKE; have HB := n0_; have BKE := n1_; have BKb := n3_; have BK1 := n4_; have BK2 := n5_; have BK3 := n55_; have HO := n6_; clear n0_ n1_ n3_ n4_ n5_ n55_ n6_; clear hb hcz0; have hcz3 : w2.cell? ⟨gE, 0, none⟩ = some (.int .u32 0) := (blk_cell BKE.out 0).trans rfl; have hcz4 : w2.cell? ⟨gE, 1, none⟩ = some (.int .i64 0) := (blk_cell BKE.out 1).trans rfl; have hfz3 := blk_frozen BKE.out 0; have hfz4 := blk_frozen BKE.out 1))
    refine bodyPost_ret (results_ct rfl _ _ gE 27 #[.int .u32 0, .int .i64 0] (0, 0) _ rfl (by (with_reducible repeat (first | refine blk_drewN ?_ _ | refine blk_drew ?_ | refine blk_alloc ?_ _)); refine blk_put (cs := #[.int .u32 0, .int .i64 0]) ?_ 1 _ (by first | rfl | (simp [Int.emod_emod_of_dvd]; done)); (with_reducible repeat (first | refine blk_drewN ?_ _ | refine blk_drew ?_ | refine blk_alloc ?_ _)); refine blk_put (cs := #[.int .u32 0, .int .i64 0]) ?_ 0 _ (by first | rfl | (simp [Int.emod_emod_of_dvd]; done)); (with_reducible repeat (first | refine blk_drewN ?_ _ | refine blk_drew ?_ | refine blk_alloc ?_ _)); exact BKE.out) Try.underlying27 rfl (by kernel_rfl)) rfl ?_
    refine ⟨by first | rfl | simp, ?_, rv, ?_, ?_, ?_, ?_, ?_⟩
    · exact below_set (below_set HB.out GE.out) GE.out
    · refine blk_far ?_ Nb.out _; refine blk_far ?_ Nb.out _; exact BKb.out
    · refine blk_far ?_ N1.out _; refine blk_far ?_ N1.out _; exact BK1.out
    · refine blk_far ?_ N2.out _; refine blk_far ?_ N2.out _; exact BK2.out
    · refine blk_far ?_ N3.out _; refine blk_far ?_ N3.out _; exact BK3.out
    · exact Kd.R_mono (Kd.R_far (p := ⟨gE, 1, none⟩) (Kd.R_far (p := ⟨gE, 0, none⟩) (Kd.R_types HO.out BKE.out (by decide)) (fun _ hk => hk.2) _) (fun _ hk => hk.2) _) (fun _ hk => trivial)
def walk_Walk.f (k : Nat) (l0 : List Int) (a1 : Int) (a2 : Int) : Option (Int × Int × List Int × Bool) := if a2 ≥ 16384 then some (0, 0, ([] : List Int), false) else (pte_Index.f a2 0).bind fun i0 => (mem_Read.f k l0 ((a1 + 4 * (i0 % 4294967296)) % 4294967296) 4).bind fun q => if q.2 = 0 then (pte_Of.f q.1).bind fun p => (if (Go.bits .and .u32 p.1 1) = 0 then some (0, 0, [(a1 + 4 * (i0 % 4294967296)) % 4294967296], false) else (if (Go.bits .and .u32 p.1 14) = 0 then (pte_Index.f a2 1).bind fun i1 => (mem_Read.f k l0 ((wrap64 (64 * p.2) + 4 * (i1 % 4294967296)) % 4294967296) 4).bind fun s => if s.2 = 0 then (pte_Of.f s.1).bind fun o => (if (Go.bits .and .u32 o.1 1) = 0 then some (0, 0, [(a1 + 4 * (i0 % 4294967296)) % 4294967296, (wrap64 (64 * p.2) + 4 * (i1 % 4294967296)) % 4294967296], false) else (if (Go.bits .and .u32 o.1 14) = 0 then some (0, 0, [(a1 + 4 * (i0 % 4294967296)) % 4294967296, (wrap64 (64 * p.2) + 4 * (i1 % 4294967296)) % 4294967296], false) else some (o.1, o.2, [(a1 + 4 * (i0 % 4294967296)) % 4294967296, (wrap64 (64 * p.2) + 4 * (i1 % 4294967296)) % 4294967296], true))) else some (0, 0, [(a1 + 4 * (i0 % 4294967296)) % 4294967296], false) else some (0, 0, [(a1 + 4 * (i0 % 4294967296)) % 4294967296], false))) else some (0, 0, ([] : List Int), false)
theorem walk_Walk.mono : ∀ a0 a1 a2 k, LeO (walk_Walk.f k a0 a1 a2) (walk_Walk.f (k + 1) a0 a1 a2) := by
  intro a0 a1 a2 k
  unfold walk_Walk.f
  repeat' first
      | (with_reducible exact mem_Read.mono _ _ _ _)
      | (with_reducible exact LeO.refl _)
      | (with_reducible exact LeO.none _)
      | (with_reducible refine LeO.ite ?_ ?_)
      | (with_reducible refine LeO.bind ?_ (fun _ => ?_))
      | exact mem_Read.mono _ _ _ _
      | exact LeO.none _
      | refine LeO.ite ?_ ?_
      | refine LeO.bind ?_ (fun _ => ?_)
set_option maxHeartbeats 8000000 in
set_option maxRecDepth 100000 in
theorem walk_Walk.calls (k : Nat) (A0 : Option Addr) (c0 : Nat) (l0 : List Int) (a1 : Int) (a2 : Int) (r1 : Int) (r2 : Int) (r3 : List Int) (r4 : Bool) (w : World) (hr0 : Kd.C (Kd.int .u8) w A0 l0.length l0) (hc0 : l0.length ≤ c0) (h : walk_Walk.f k l0 a1 a2 = some (r1, r2, r3, r4)) :
    Calls Try.prog 25 #[.slice A0 l0.length c0, .int .u32 a1, .int .u32 a2] w fun e w' => ∃ v2_ : Value, e = .returned (.tuple #[.agg #[.int .u32 r1, .int .i64 r2], v2_, .bool r4]) ∧ Kd.R (Kd.int .u32) 23 w' w.heap.size (fun _ => True) v2_ r3 ∧ Below w.heap.size w w' := by
  have huP := Try.underlying27
  have huW := Try.underlying67
  have HR0 := Aside0.mk hr0
  have HC0 := Aside0.mk hc0
  have HB := Aside0.mk (Below.refl w.heap.size w)
  clear hr0 hc0
  unfold walk_Walk.f at h
  by_cases c1 : a2 ≥ 16384
  · rw [if_pos c1] at h
    have c1b : decide (16384 ≤ a2) = true := decide_eq_true c1
    clear c1
    simp only [Option.some.injEq, Prod.mk.injEq] at h
    obtain ⟨rfl, rfl, rfl, rfl⟩ := h
    go_enter Try.func25, Try.ntmps25
    go_wp2_with (first | ((with_reducible refine gate_dst (N := 6) rfl ?_); refine box_event ?hg (N := 6) ?hd (cs := #[.int .u32 0, .int .i64 0]) (t := 27) ?hr ?_; (case hd => rfl); (case hg => rfl); (case hr => first | (go_simp; done) | (go_simp; rfl)); intro gR hg w1 hbox hb; have n0_ := Aside0.mk (below_step HB.out hb); have n1_ := Aside0.mk (hbox); have n2_ := Aside0.mk ((by rw [hg]; exact below_size HB.out : w.heap.size ≤ gR)); clear HB; have HB := n0_; have BKR := n1_; have GR := n2_; clear n0_ n1_ n2_; clear hb hbox hg) | ((with_reducible refine gate_dst (N := 15) rfl ?_); refine box_event ?hg (N := 15) ?hd (cs := #[.slice A0 l0.length c0, .slice none 0 0]) (t := 67) ?hr ?_; (case hd => rfl); (case hg => rfl); (case hr => first | (go_simp; done) | (go_simp; rfl)); intro gW hg w2 hbox hb; have n0_ := Aside0.mk (below_step (by repeat (first | (with_reducible first | exact HB.out | apply below_alloc | apply pw_below_drewN | apply below_drew1) | exact HB.out)) hb); have n1_ := Aside0.mk (blk_below (g := gR) (o := .cells #[.int .u32 0, .int .i64 0] 27 (0, 0)) (by (with_reducible repeat (first | refine blk_drewN ?_ _ | refine blk_drew ?_ | refine blk_alloc ?_ _)); exact BKR.out) hb); have n2_ := Aside0.mk (hbox); have n3_ := Aside0.mk ((by rw [hg]; exact below_size (by repeat (first | (with_reducible first | exact HB.out | apply below_alloc | apply pw_below_drewN | apply below_drew1) | exact HB.out)) : w.heap.size ≤ gW)); clear HB BKR; have HB := n0_; have BKR := n1_; have BKW := n2_; have GW := n3_; clear n0_ n1_ n2_ n3_; clear hb hbox hg; have hr0 : w2.cell? ⟨gR, 0, none⟩ = _ := (blk_cell BKR.out 0).trans rfl; have fhr0 := blk_frozen BKR.out 0; have hr1 : w2.cell? ⟨gR, 1, none⟩ = _ := (blk_cell BKR.out 1).trans rfl; have fhr1 := blk_frozen BKR.out 1))
    refine bodyPost_ret (results_ctt rfl _ _ gR 27 #[.int .u32 0, .int .i64 0] (0, 0) _ rfl (by refine blk_put (cs := #[.int .u32 0, .int .i64 0]) ?_ 1 _ (by first | rfl | (simp [Int.emod_emod_of_dvd]; done)); refine blk_put (cs := #[.int .u32 0, .int .i64 0]) BKR.out 0 _ rfl) Try.underlying27 rfl (by kernel_rfl)) rfl ?_
    exact ⟨_, rfl, Kd.R_nil _ _ _ _ _, below_set (below_set HB.out GR.out) GR.out⟩
  · rw [if_neg c1] at h
    have c1b : decide (16384 ≤ a2) = false := decide_eq_false c1
    clear c1
    replace h := Option.bind_eq_some_iff.mp h
    obtain ⟨i0, h0, h⟩ := h
    have I0 := Aside0.mk h0
    clear h0
    replace h := Option.bind_eq_some_iff.mp h
    obtain ⟨⟨q1, q2⟩, h0, h⟩ := h
    have RD := Aside0.mk h0
    clear h0
    dsimp only at h
    by_cases c2 : q2 = 0
    · rw [if_pos c2] at h
      subst c2
      replace h := Option.bind_eq_some_iff.mp h
      obtain ⟨⟨p1, p2⟩, h0, h⟩ := h
      have PO := Aside0.mk h0
      clear h0
      dsimp only at h
      by_cases c3 : Go.bits .and .u32 p1 1 = 0
      · rw [if_pos c3] at h
        have c3b : (Go.bits .and .u32 p1 1 == 0) = true := beq_iff_eq.mpr c3
        simp only [Option.some.injEq, Prod.mk.injEq] at h
        obtain ⟨rfl, rfl, rfl, rfl⟩ := h
        go_enter Try.func25, Try.ntmps25
        go_wp2_with (first | ((with_reducible refine gate_dst (N := 6) rfl ?_); refine box_event ?hg (N := 6) ?hd (cs := #[.int .u32 0, .int .i64 0]) (t := 27) ?hr ?_; (case hd => rfl); (case hg => rfl); (case hr => first | (go_simp; done) | (go_simp; rfl)); intro gR hg w1 hbox hb; have n0_ := Aside0.mk (below_step HB.out hb); have n1_ := Aside0.mk (hbox); have n2_ := Aside0.mk ((by rw [hg]; exact below_size HB.out : w.heap.size ≤ gR)); clear HB; have HB := n0_; have BKR := n1_; have GR := n2_; clear n0_ n1_ n2_; clear hb hbox hg) | ((with_reducible refine gate_dst (N := 15) rfl ?_); refine box_event ?hg (N := 15) ?hd (cs := #[.slice A0 l0.length c0, .slice none 0 0]) (t := 67) ?hr ?_; (case hd => rfl); (case hg => rfl); (case hr => first | (go_simp; done) | (go_simp; rfl)); intro gW hg w2 hbox hb; have n0_ := Aside0.mk (below_step (by repeat (first | (with_reducible first | exact HB.out | apply below_alloc | apply pw_below_drewN | apply below_drew1) | exact HB.out)) hb); have n1_ := Aside0.mk (blk_below (g := gR) (o := .cells #[.int .u32 0, .int .i64 0] 27 (0, 0)) (by (with_reducible repeat (first | refine blk_drewN ?_ _ | refine blk_drew ?_ | refine blk_alloc ?_ _)); exact BKR.out) hb); have n2_ := Aside0.mk (hbox); have n3_ := Aside0.mk ((by rw [hg]; exact below_size (by repeat (first | (with_reducible first | exact HB.out | apply below_alloc | apply pw_below_drewN | apply below_drew1) | exact HB.out)) : w.heap.size ≤ gW)); clear HB BKR; have HB := n0_; have BKR := n1_; have BKW := n2_; have GW := n3_; clear n0_ n1_ n2_ n3_; clear hb hbox hg) | (go_at_call 40; (with_reducible refine (pte_Index.calls a2 0 i0 _ I0.out).mono ?_); rintro e w3 ⟨rfl, hb⟩; have n0_ := Aside0.mk (below_step (by repeat (first | (with_reducible first | exact HB.out | apply below_alloc | apply pw_below_drewN | apply below_drew1) | exact HB.out)) hb); have n1_ := Aside0.mk (blk_below (g := gR) (o := .cells #[.int .u32 0, .int .i64 0] 27 (0, 0)) (by (with_reducible repeat (first | refine blk_drewN ?_ _ | refine blk_drew ?_ | refine blk_alloc ?_ _)); exact BKR.out) hb); have n2_ := Aside0.mk (blk_below (g := gW) (o := .cells #[.slice A0 l0.length c0, .slice none 0 0] 67 (0, 0)) (by (with_reducible repeat (first | refine blk_drewN ?_ _ | refine blk_drew ?_ | refine blk_alloc ?_ _)); exact BKW.out) hb); clear HB BKR BKW; have HB := n0_; have BKR := n1_; have BKW := n2_; clear n0_ n1_ n2_; clear hb) | (go_at_call 39; (with_reducible refine (walk_Walk.entry k gW gR gR gR #[.int .u32 0, .int .i64 0] #[.int .u32 0, .int .i64 0] #[.int .u32 0, .int .i64 0] A0 c0 l0 _ q1 0 p1 p2 (.slice none 0 0) [] _ w ?s1 HC0.out ?s2 ?s3 GW.out ?s4 ?s5 ?s8 ?s6 (by simp) (by have h_ := RD.out; first | exact h_ | (simp only [Int.add_emod_emod, Int.emod_add_emod] at h_ ⊢; exact h_)) ?s7).mono ?_); (case s1 => exact (Kd.C_below HR0.out (by repeat (first | (with_reducible first | exact HB.out | apply below_alloc | apply pw_below_drewN | apply below_drew1) | exact HB.out)))); (case s2 => exact (by repeat (first | (with_reducible first | exact HB.out | apply below_alloc | apply pw_below_drewN | apply below_drew1) | exact HB.out))); (case s3 => ((with_reducible repeat (first | refine blk_drewN ?_ _ | refine blk_drew ?_ | refine blk_alloc ?_ _)); exact BKW.out)); (case s4 => ((with_reducible repeat (first | refine blk_drewN ?_ _ | refine blk_drew ?_ | refine blk_alloc ?_ _)); exact BKR.out)); (case s5 => ((with_reducible repeat (first | refine blk_drewN ?_ _ | refine blk_drew ?_ | refine blk_alloc ?_ _)); exact BKR.out)); (case s8 => ((with_reducible repeat (first | refine blk_drewN ?_ _ | refine blk_drew ?_ | refine blk_alloc ?_ _)); exact BKR.out)); (case s6 => exact Kd.R_nil _ _ _ _ _); (case s7 => exact fun _ => PO.out); rintro e w4 ⟨rfl, hb, rv, hbW, hbR, _, _, hR⟩; have n0_ := Aside0.mk (hb); have n1_ := Aside0.mk (hbR); have n2_ := Aside0.mk (hbW); have n3_ := Aside0.mk (hR); clear HB BKR BKW; have HB := n0_; have BKR := n1_; have BKW := n2_; have HO := n3_; clear n0_ n1_ n2_ n3_; clear hb hbW hbR hR; (rw [if_pos rfl] at HO); (simp only [List.nil_append] at HO)) | ((with_reducible refine gate_dst (N := 10) rfl ?_); refine box_event ?hg (N := 10) ?hd (cs := #[.int .u32 0, .int .i64 0]) (t := 27) ?hr ?_; (case hd => rfl); (case hg => rfl); (case hr => first | (go_simp; done) | (go_simp; rfl)); intro gF hg w5 hbox hb; have n6_0 := Aside0.mk ((by rw [hg]; have := blk_lt BKR.out; omega : gR ≠ gF)); have n0_ := Aside0.mk (below_step (by repeat (first | (with_reducible first | exact HB.out | apply below_alloc | apply pw_below_drewN | apply below_drew1) | exact HB.out)) hb); have n1_ := Aside0.mk (blk_below (g := gR) (o := .cells #[.int .u32 0, .int .i64 0] 27 (0, 0)) (by (with_reducible repeat (first | refine blk_drewN ?_ _ | refine blk_drew ?_ | refine blk_alloc ?_ _)); exact BKR.out) hb); have n2_ := Aside0.mk (blk_below (g := gW) (o := .cells #[.slice A0 l0.length c0, rv] 67 (0, 0)) (by (with_reducible repeat (first | refine blk_drewN ?_ _ | refine blk_drew ?_ | refine blk_alloc ?_ _)); exact BKW.out) hb); have n3_ := Aside0.mk (Kd.R_below (by (with_reducible repeat (first | apply Kd.R_alloc | apply Kd.R_drewN | apply Kd.R_drew)); exact HO.out) hb); have n4_ := Aside0.mk (hbox); have n5_ := Aside0.mk ((by rw [hg]; exact below_size (by repeat (first | (with_reducible first | exact HB.out | apply below_alloc | apply pw_below_drewN | apply below_drew1) | exact HB.out)) : w.heap.size ≤ gF)); clear HB BKR BKW HO; have HB := n0_; have BKR := n1_; have BKW := n2_; have HO := n3_; have BKF := n4_; have GF := n5_; have NRF := n6_0; clear n6_0; clear n0_ n1_ n2_ n3_ n4_ n5_; clear hb hbox hg; have hf0 : w5.cell? ⟨gF, 0, none⟩ = _ := (blk_cell BKF.out 0).trans rfl; have fhf0 := blk_frozen BKF.out 0; have hf1 : w5.cell? ⟨gF, 1, none⟩ = _ := (blk_cell BKF.out 1).trans rfl; have fhf1 := blk_frozen BKF.out 1))
        have NWF : gW ≠ gF := blk_ne BKW.out BKF.out (by decide)
        have NWR : gW ≠ gR := blk_ne BKW.out BKR.out (by decide)
        have NRF_ := NRF.out
        obtain ⟨w6, hw6⟩ : ∃ W_, W_ = ((w5.setCell ⟨gF, 0, none⟩ (Value.int IntKind.u32 p1)).setCell ⟨gF, 1, none⟩ (Value.int IntKind.i64 p2)) := ⟨_, rfl⟩
        rw [← hw6]
        have n1_ := Aside0.mk (show w6.heap[gR]? = some (.cells #[.int .u32 0, .int .i64 0] 27 (0, 0)) from hw6 ▸ blk_far (blk_far BKR.out NRF_ _) NRF_ _)
        have n2_ := Aside0.mk (show w6.heap[gW]? = some (.cells #[.slice A0 l0.length c0, rv] 67 (0, 0)) from hw6 ▸ blk_far (blk_far BKW.out NWF _) NWF _)
        have n3_ := Aside0.mk (show Below w.heap.size w w6 from hw6 ▸ below_set (below_set HB.out GF.out) GF.out)
        have n4_ := Aside0.mk (show Kd.R (Kd.int .u32) 23 w6 w.heap.size (fun _ => True) rv [(a1 + 4 * (i0 % 4294967296)) % 4294967296] from hw6 ▸ Kd.R_mono (Kd.R_far (p := ⟨gF, 1, none⟩) (Kd.R_far (p := ⟨gF, 0, none⟩) (Kd.R_types HO.out BKF.out (by decide)) (fun _ hk => hk.2) _) (fun _ hk => hk.2) _) (fun _ hk => trivial))
        clear hw6 BKR BKW HB HO hf0 hf1 fhf0 fhf1 BKF
        have BKR := n1_
        have BKW := n2_
        have HB := n3_
        have HO := n4_
        clear n1_ n2_ n3_ n4_
        have hr0 : w6.cell? ⟨gR, 0, none⟩ = _ := (blk_cell BKR.out 0).trans rfl
        have hr1 : w6.cell? ⟨gR, 1, none⟩ = _ := (blk_cell BKR.out 1).trans rfl
        have fr0 := blk_frozen BKR.out 0
        have fr1 := blk_frozen BKR.out 1
        have hW : w6.cell? ⟨gW, 1, none⟩ = some rv := (blk_cell BKW.out 1).trans rfl
        go_region_held3 (fun w' => w'.cell? ⟨gW, 1, none⟩ = some rv) (first | exact (blk_cell BKW.out 1).trans rfl | exact (blk_cell (blk_far (blk_far BKW.out NWR _) NWR _) 1).trans rfl) (fail)
        go_wp2
        refine bodyPost_ret (results_ctt rfl _ _ gR 27 #[.int .u32 0, .int .i64 0] (0, 0) _ rfl (by refine blk_drew ?_; refine blk_put (cs := #[.int .u32 0, .int .i64 0]) ?_ 1 _ (by first | rfl | (simp [Int.emod_emod_of_dvd]; done)); refine blk_put (cs := #[.int .u32 0, .int .i64 0]) BKR.out 0 _ rfl) Try.underlying27 rfl (by kernel_rfl)) rfl ?_
        exact ⟨rv, rfl, Kd.R_drew (Kd.R_mono (Kd.R_far (p := ⟨gR, 1, none⟩) (Kd.R_far (p := ⟨gR, 0, none⟩) (Kd.R_types HO.out BKR.out (by decide)) (fun _ hk => hk.2) _) (fun _ hk => hk.2) _) (fun _ hk => trivial)), below_drew1 (below_set (below_set HB.out GR.out) GR.out)⟩
      · rw [if_neg c3] at h
        have c3b : (Go.bits .and .u32 p1 1 == 0) = false := beq_eq_false_iff_ne.mpr c3
        clear c3
        by_cases c4 : Go.bits .and .u32 p1 14 = 0
        · rw [if_pos c4] at h
          have c4b : (Go.bits .and .u32 p1 14 != 0) = false := bne_eq_false_iff_eq.mpr c4
          clear c4
          replace h := Option.bind_eq_some_iff.mp h
          obtain ⟨i1, h0, h⟩ := h
          have I1 := Aside0.mk h0
          clear h0
          replace h := Option.bind_eq_some_iff.mp h
          obtain ⟨⟨s1, s2⟩, h0, h⟩ := h
          have RE := Aside0.mk h0
          clear h0
          dsimp only at h
          by_cases c5 : s2 = 0
          · rw [if_pos c5] at h
            subst c5
            replace h := Option.bind_eq_some_iff.mp h
            obtain ⟨⟨o1, o2⟩, h0, h⟩ := h
            have PS := Aside0.mk h0
            clear h0
            dsimp only at h
            by_cases c6 : Go.bits .and .u32 o1 1 = 0
            · rw [if_pos c6] at h
              have c6b : (Go.bits .and .u32 o1 1 == 0) = true := beq_iff_eq.mpr c6
              simp only [Option.some.injEq, Prod.mk.injEq] at h
              obtain ⟨rfl, rfl, rfl, rfl⟩ := h
              go_enter Try.func25, Try.ntmps25
              go_wp2_with (first | ((with_reducible refine gate_dst (N := 6) rfl ?_); refine box_event ?hg (N := 6) ?hd (cs := #[.int .u32 0, .int .i64 0]) (t := 27) ?hr ?_; (case hd => rfl); (case hg => rfl); (case hr => first | (go_simp; done) | (go_simp; rfl)); intro gR hg w1 hbox hb; have n0_ := Aside0.mk (below_step HB.out hb); have n1_ := Aside0.mk (hbox); have n2_ := Aside0.mk ((by rw [hg]; exact below_size HB.out : w.heap.size ≤ gR)); clear HB; have HB := n0_; have BKR := n1_; have GR := n2_; clear n0_ n1_ n2_; clear hb hbox hg) | ((with_reducible refine gate_dst (N := 15) rfl ?_); refine box_event ?hg (N := 15) ?hd (cs := #[.slice A0 l0.length c0, .slice none 0 0]) (t := 67) ?hr ?_; (case hd => rfl); (case hg => rfl); (case hr => first | (go_simp; done) | (go_simp; rfl)); intro gW hg w2 hbox hb; have n0_ := Aside0.mk (below_step (by repeat (first | (with_reducible first | exact HB.out | apply below_alloc | apply pw_below_drewN | apply below_drew1) | exact HB.out)) hb); have n1_ := Aside0.mk (blk_below (g := gR) (o := .cells #[.int .u32 0, .int .i64 0] 27 (0, 0)) (by (with_reducible repeat (first | refine blk_drewN ?_ _ | refine blk_drew ?_ | refine blk_alloc ?_ _)); exact BKR.out) hb); have n2_ := Aside0.mk (hbox); have n3_ := Aside0.mk ((by rw [hg]; exact below_size (by repeat (first | (with_reducible first | exact HB.out | apply below_alloc | apply pw_below_drewN | apply below_drew1) | exact HB.out)) : w.heap.size ≤ gW)); clear HB BKR; have HB := n0_; have BKR := n1_; have BKW := n2_; have GW := n3_; clear n0_ n1_ n2_ n3_; clear hb hbox hg) | (go_at_call 40; (with_reducible refine (pte_Index.calls a2 0 i0 _ I0.out).mono ?_); rintro e w3 ⟨rfl, hb⟩; have n0_ := Aside0.mk (below_step (by repeat (first | (with_reducible first | exact HB.out | apply below_alloc | apply pw_below_drewN | apply below_drew1) | exact HB.out)) hb); have n1_ := Aside0.mk (blk_below (g := gR) (o := .cells #[.int .u32 0, .int .i64 0] 27 (0, 0)) (by (with_reducible repeat (first | refine blk_drewN ?_ _ | refine blk_drew ?_ | refine blk_alloc ?_ _)); exact BKR.out) hb); have n2_ := Aside0.mk (blk_below (g := gW) (o := .cells #[.slice A0 l0.length c0, .slice none 0 0] 67 (0, 0)) (by (with_reducible repeat (first | refine blk_drewN ?_ _ | refine blk_drew ?_ | refine blk_alloc ?_ _)); exact BKW.out) hb); clear HB BKR BKW; have HB := n0_; have BKR := n1_; have BKW := n2_; clear n0_ n1_ n2_; clear hb) | (go_at_call 39; (with_reducible refine (walk_Walk.entry k gW gR gR gR #[.int .u32 0, .int .i64 0] #[.int .u32 0, .int .i64 0] #[.int .u32 0, .int .i64 0] A0 c0 l0 _ q1 0 p1 p2 (.slice none 0 0) [] _ w ?s1 HC0.out ?s2 ?s3 GW.out ?s4 ?s5 ?s8 ?s6 (by simp) (by have h_ := RD.out; first | exact h_ | (simp only [Int.add_emod_emod, Int.emod_add_emod] at h_ ⊢; exact h_)) ?s7).mono ?_); (case s1 => exact (Kd.C_below HR0.out (by repeat (first | (with_reducible first | exact HB.out | apply below_alloc | apply pw_below_drewN | apply below_drew1) | exact HB.out)))); (case s2 => exact (by repeat (first | (with_reducible first | exact HB.out | apply below_alloc | apply pw_below_drewN | apply below_drew1) | exact HB.out))); (case s3 => ((with_reducible repeat (first | refine blk_drewN ?_ _ | refine blk_drew ?_ | refine blk_alloc ?_ _)); exact BKW.out)); (case s4 => ((with_reducible repeat (first | refine blk_drewN ?_ _ | refine blk_drew ?_ | refine blk_alloc ?_ _)); exact BKR.out)); (case s5 => ((with_reducible repeat (first | refine blk_drewN ?_ _ | refine blk_drew ?_ | refine blk_alloc ?_ _)); exact BKR.out)); (case s8 => ((with_reducible repeat (first | refine blk_drewN ?_ _ | refine blk_drew ?_ | refine blk_alloc ?_ _)); exact BKR.out)); (case s6 => exact Kd.R_nil _ _ _ _ _); (case s7 => exact fun _ => PO.out); rintro e w4 ⟨rfl, hb, rv, hbW, hbR, _, _, hR⟩; have n0_ := Aside0.mk (hb); have n1_ := Aside0.mk (hbR); have n2_ := Aside0.mk (hbW); have n3_ := Aside0.mk (hR); clear HB BKR BKW; have HB := n0_; have BKR := n1_; have BKW := n2_; have HO := n3_; clear n0_ n1_ n2_ n3_; clear hb hbW hbR hR; (rw [if_pos rfl] at HO); (simp only [List.nil_append] at HO)) | ((with_reducible refine gate_dst (N := 10) rfl ?_); refine box_event ?hg (N := 10) ?hd (cs := #[.int .u32 0, .int .i64 0]) (t := 27) ?hr ?_; (case hd => rfl); (case hg => rfl); (case hr => first | (go_simp; done) | (go_simp; rfl)); intro gF hg w5 hbox hb; have n6_0 := Aside0.mk ((by rw [hg]; have := blk_lt BKR.out; omega : gR ≠ gF)); have n0_ := Aside0.mk (below_step (by repeat (first | (with_reducible first | exact HB.out | apply below_alloc | apply pw_below_drewN | apply below_drew1) | exact HB.out)) hb); have n1_ := Aside0.mk (blk_below (g := gR) (o := .cells #[.int .u32 0, .int .i64 0] 27 (0, 0)) (by (with_reducible repeat (first | refine blk_drewN ?_ _ | refine blk_drew ?_ | refine blk_alloc ?_ _)); exact BKR.out) hb); have n2_ := Aside0.mk (blk_below (g := gW) (o := .cells #[.slice A0 l0.length c0, rv] 67 (0, 0)) (by (with_reducible repeat (first | refine blk_drewN ?_ _ | refine blk_drew ?_ | refine blk_alloc ?_ _)); exact BKW.out) hb); have n3_ := Aside0.mk (Kd.R_below (by (with_reducible repeat (first | apply Kd.R_alloc | apply Kd.R_drewN | apply Kd.R_drew)); exact HO.out) hb); have n4_ := Aside0.mk (hbox); have n5_ := Aside0.mk ((by rw [hg]; exact below_size (by repeat (first | (with_reducible first | exact HB.out | apply below_alloc | apply pw_below_drewN | apply below_drew1) | exact HB.out)) : w.heap.size ≤ gF)); clear HB BKR BKW HO; have HB := n0_; have BKR := n1_; have BKW := n2_; have HO := n3_; have BKF := n4_; have GF := n5_; have NRF := n6_0; clear n6_0; clear n0_ n1_ n2_ n3_ n4_ n5_; clear hb hbox hg; have hf0 : w5.cell? ⟨gF, 0, none⟩ = _ := (blk_cell BKF.out 0).trans rfl; have fhf0 := blk_frozen BKF.out 0; have hf1 : w5.cell? ⟨gF, 1, none⟩ = _ := (blk_cell BKF.out 1).trans rfl; have fhf1 := blk_frozen BKF.out 1) | (go_at_call 27; (with_reducible refine (pte_Leaf.calls p1 p2 ((Go.bits .and .u32 p1 14) != 0) _ rfl).mono ?_); rintro e w6 ⟨rfl, hb⟩; have NWF : gW ≠ gF := blk_ne BKW.out BKF.out (by decide); have NWR : gW ≠ gR := blk_ne BKW.out BKR.out (by decide); have NRF_ := NRF.out; have n0_ := Aside0.mk (below_step (below_set (below_set HB.out GF.out) GF.out) hb); have n1_ := Aside0.mk (blk_below (g := gR) (o := .cells #[.int .u32 0, .int .i64 0] 27 (0, 0)) (blk_far (blk_far BKR.out NRF_ _) NRF_ _) hb); have n2_ := Aside0.mk (blk_below (g := gW) (o := .cells #[.slice A0 l0.length c0, rv] 67 (0, 0)) (blk_far (blk_far BKW.out NWF _) NWF _) hb); have n3_ := Aside0.mk (Kd.R_below (Kd.R_mono (ok' := fun _ => True) (Kd.R_far (p := ⟨gF, 1, none⟩) (Kd.R_far (p := ⟨gF, 0, none⟩) (Kd.R_types HO.out BKF.out (by decide)) (fun _ hk => hk.2) _) (fun _ hk => hk.2) _) (fun _ hk => trivial)) hb); have n4_ := Aside0.mk (blk_below (g := gF) (o := .cells #[.int .u32 p1, .int .i64 p2] 27 (0, 0)) (blk_put (cs := #[.int .u32 p1, .int .i64 0]) (blk_put (cs := #[.int .u32 0, .int .i64 0]) BKF.out 0 _ rfl) 1 _ rfl) hb); clear HB BKR BKW HO BKF; have HB := n0_; have BKR := n1_; have BKW := n2_; have HO := n3_; have BKF := n4_; clear n0_ n1_ n2_ n3_ n4_; clear hb hf0 hf1 fhf0 fhf1))
              have hf0 : w6.cell? ⟨gF, 0, none⟩ = some (.int .u32 p1) := (blk_cell BKF.out 0).trans rfl
              have hf1 : w6.cell? ⟨gF, 1, none⟩ = some (.int .i64 p2) := (blk_cell BKF.out 1).trans rfl
              have NRF_ := NRF.out
              have AT1E : IntKind.u32.wrap (IntKind.u32.wrap (IntKind.i64.wrap (64 * p2)) + IntKind.u32.wrap (4 * IntKind.u32.wrap i1)) = (wrap64 (64 * p2) + 4 * (i1 % 4294967296)) % 4294967296 := by simp only [IntKind.wrap_u32, i64_w]; omega
              go_region_held3 (fun w' => w'.cell? ⟨gF, 1, none⟩ = some (.int .i64 p2)) (first | exact (blk_cell BKF.out 1).trans rfl | exact (blk_cell (blk_alloc BKF.out _) 1).trans rfl | exact (blk_cell (blk_far (blk_far BKF.out NF2 _) NF2 _) 1).trans rfl | exact (blk_cell (blk_far (blk_far BKF.out NF3 _) NF3 _) 1).trans rfl | exact (blk_cell (blk_far (blk_far (blk_alloc BKF.out _) (Nat.ne_of_lt (blk_lt BKF.out)) _) (Nat.ne_of_lt (blk_lt BKF.out)) _) 1).trans rfl) (first | (go_at_call 40; with_reducible refine (pte_Index.calls a2 1 i1 _ I1.out).mono ?_; rintro e w7 ⟨rfl, hb⟩; (first | (have BK2 : Aside0 (w7.heap[w6.heap.size]? = some (.cells #[.int .u32 0, .int .i64 0] 27 (0, 0))) := Aside0.mk (blk_below (blk_new w6.drew _) hb); have NF2 : gF ≠ w6.heap.size := Nat.ne_of_lt (blk_lt BKF.out)) | skip); have NR2 : gR ≠ w6.heap.size := Nat.ne_of_lt (blk_lt BKR.out); have GS2 : w.heap.size ≤ w6.heap.size := below_size HB.out; have n0_ := Aside0.mk (below_step (by repeat (first | (with_reducible first | exact HB.out | apply below_alloc | apply pw_below_drewN | apply below_drew1) | exact HB.out)) hb); have n1_ := Aside0.mk (blk_below (g := gR) (o := .cells #[.int .u32 0, .int .i64 0] 27 (0, 0)) (by (with_reducible repeat (first | refine blk_drewN ?_ _ | refine blk_drew ?_ | refine blk_alloc ?_ _)); exact BKR.out) hb); have n2_ := Aside0.mk (blk_below (g := gW) (o := .cells #[.slice A0 l0.length c0, rv] 67 (0, 0)) (by (with_reducible repeat (first | refine blk_drewN ?_ _ | refine blk_drew ?_ | refine blk_alloc ?_ _)); exact BKW.out) hb); have n3_ := Aside0.mk (blk_below (g := gF) (o := .cells #[.int .u32 p1, .int .i64 p2] 27 (0, 0)) (by (with_reducible repeat (first | refine blk_drewN ?_ _ | refine blk_drew ?_ | refine blk_alloc ?_ _)); exact BKF.out) hb); have n4_ := Aside0.mk (Kd.R_below (by (with_reducible repeat (first | apply Kd.R_alloc | apply Kd.R_drewN | apply Kd.R_drew)); exact HO.out) hb); clear HB BKR BKW BKF HO; have HB := n0_; have BKR := n1_; have BKW := n2_; have BKF := n3_; have HO := n4_; clear n0_ n1_ n2_ n3_ n4_; clear hb) | (go_at_call 39; have NF3 := Nat.ne_of_lt (blk_lt BKF.out); have NR3 : gR ≠ w7.heap.size := Nat.ne_of_lt (blk_lt BKR.out); have GS3 : w.heap.size ≤ w7.heap.size := below_size HB.out; (try rw [AT1E]); (first | (with_reducible refine (walk_Walk.entry k gW gR _ gF #[.int .u32 0, .int .i64 0] _ #[.int .u32 p1, .int .i64 p2] A0 c0 l0 _ s1 0 o1 o2 rv [(a1 + 4 * (i0 % 4294967296)) % 4294967296] _ w ?s1 HC0.out ?s2 ?s3 GW.out ?s4 BK2.out ?s8 ?s6 (by simp) RE.out ?s7).mono ?_) | (with_reducible refine (walk_Walk.entry k gW gR _ gF #[.int .u32 0, .int .i64 0] _ #[.int .u32 p1, .int .i64 p2] A0 c0 l0 _ s1 0 o1 o2 rv [(a1 + 4 * (i0 % 4294967296)) % 4294967296] _ w ?s1 HC0.out ?s2 ?s3 GW.out ?s4 (blk_new _ _) ?s8 ?s6 (by simp) RE.out ?s7).mono ?_) | (with_reducible refine (walk_Walk.entry k gW gR gR gF #[.int .u32 0, .int .i64 0] _ #[.int .u32 p1, .int .i64 p2] A0 c0 l0 _ s1 0 o1 o2 rv [(a1 + 4 * (i0 % 4294967296)) % 4294967296] _ w ?s1 HC0.out ?s2 ?s3 GW.out ?s4 (by (with_reducible repeat (first | refine blk_drewN ?_ _ | refine blk_drew ?_ | refine blk_alloc ?_ _)); exact BKR.out) ?s8 ?s6 (by simp) RE.out ?s7).mono ?_)); (case s1 => exact (Kd.C_below HR0.out (by repeat (first | (with_reducible first | exact HB.out | apply below_alloc | apply pw_below_drewN | apply below_drew1) | exact HB.out)))); (case s2 => exact (by repeat (first | (with_reducible first | exact HB.out | apply below_alloc | apply pw_below_drewN | apply below_drew1) | exact HB.out))); (case s3 => ((with_reducible repeat (first | refine blk_drewN ?_ _ | refine blk_drew ?_ | refine blk_alloc ?_ _)); exact BKW.out)); (case s4 => ((with_reducible repeat (first | refine blk_drewN ?_ _ | refine blk_drew ?_ | refine blk_alloc ?_ _)); exact BKR.out)); (case s8 => ((with_reducible repeat (first | refine blk_drewN ?_ _ | refine blk_drew ?_ | refine blk_alloc ?_ _)); exact BKF.out)); (case s6 => ((with_reducible repeat (first | apply Kd.R_alloc | apply Kd.R_drewN | apply Kd.R_drew)); exact HO.out)); (case s7 => exact fun _ => PS.out); rintro e w8 ⟨rfl, hb, rv2, hbW, hbR, hb2, hbF, hR⟩; have n0_ := Aside0.mk (hb); have n1_ := Aside0.mk (hbR); have n2_ := Aside0.mk (hbW); have n3_ := Aside0.mk (hR); have n4_ := Aside0.mk (hb2); have n5_ := Aside0.mk (hbF); clear HB BKR BKW HO BKF; have HB := n0_; have BKR := n1_; have BKW := n2_; have HO := n3_; have BK3 := n4_; have BKF := n5_; clear n0_ n1_ n2_ n3_ n4_ n5_; clear hb hbW hbR hR hb2 hbF; have hz0 : w8.cell? ⟨_, 0, none⟩ = some (.int .u32 0) := (blk_cell BK3.out 0).trans rfl; have hz1 : w8.cell? ⟨_, 1, none⟩ = some (.int .i64 0) := (blk_cell BK3.out 1).trans rfl; have fz0 := blk_frozen BK3.out 0; have fz1 := blk_frozen BK3.out 1; (rw [if_pos rfl] at HO); (simp only [List.cons_append, List.nil_append] at HO)))
              · have NSR : w8.heap.size ≠ gR := Ne.symm (Nat.ne_of_lt (blk_lt BKR.out))
                obtain ⟨w9, hw9⟩ : ∃ W_, W_ = (w8.alloc (.cells #[.int .u32 o1, .int .i64 o2] 27 (0, 0))) := ⟨_, rfl⟩
                rw [← hw9]
                have n1_ := Aside0.mk (show w9.heap[gR]? = some (.cells #[.int .u32 0, .int .i64 0] 27 (0, 0)) from hw9 ▸ blk_alloc BKR.out _)
                have n2_ := Aside0.mk (show w9.heap[gW]? = some (.cells #[.slice A0 l0.length c0, rv2] 67 (0, 0)) from hw9 ▸ blk_alloc BKW.out _)
                have n3_ := Aside0.mk (show Below w.heap.size w w9 from hw9 ▸ below_alloc HB.out _)
                have n4_ := Aside0.mk (show Kd.R (Kd.int .u32) 23 w9 w.heap.size (fun _ => True) rv2 [(a1 + 4 * (i0 % 4294967296)) % 4294967296, (wrap64 (64 * p2) + 4 * (i1 % 4294967296)) % 4294967296] from hw9 ▸ Kd.R_alloc HO.out _)
                have n5_ := Aside0.mk (show w9.heap[w8.heap.size]? = some (.cells #[.int .u32 o1, .int .i64 o2] 27 (0, 0)) from hw9 ▸ blk_new w8 _)
                have NWR : gW ≠ gR := blk_ne BKW.out BKR.out (by decide)
                clear hw9 BKR BKW HB HO hz0 hz1 fz0 fz1 BKF
                have BKR := n1_
                have BKW := n2_
                have HB := n3_
                have HO := n4_
                have BKS := n5_
                clear n1_ n2_ n3_ n4_ n5_
                have hs0 : w9.cell? ⟨w8.heap.size, 0, none⟩ = some (.int .u32 o1) := (blk_cell BKS.out 0).trans rfl
                have hs1 : w9.cell? ⟨w8.heap.size, 1, none⟩ = some (.int .i64 o2) := (blk_cell BKS.out 1).trans rfl
                go_wp2
                have hr0 : w9.cell? ⟨gR, 0, none⟩ = _ := (blk_cell BKR.out 0).trans rfl
                have hr1 : w9.cell? ⟨gR, 1, none⟩ = _ := (blk_cell BKR.out 1).trans rfl
                have fr0 := blk_frozen BKR.out 0
                have fr1 := blk_frozen BKR.out 1
                have hW : w9.cell? ⟨gW, 1, none⟩ = some rv2 := (blk_cell BKW.out 1).trans rfl
                go_region_held3 (fun w' => w'.cell? ⟨gW, 1, none⟩ = some rv2) (first | exact (blk_cell BKW.out 1).trans rfl | exact (blk_cell (blk_far (blk_far BKW.out NWR _) NWR _) 1).trans rfl) (fail)
                go_wp2
                refine bodyPost_ret (results_ctt rfl _ _ gR 27 #[.int .u32 0, .int .i64 0] (0, 0) _ rfl (by refine blk_drew ?_; refine blk_put (cs := #[.int .u32 0, .int .i64 0]) ?_ 1 _ (by first | rfl | (simp [Int.emod_emod_of_dvd]; done)); refine blk_put (cs := #[.int .u32 0, .int .i64 0]) BKR.out 0 _ rfl) Try.underlying27 rfl (by kernel_rfl)) rfl ?_
                exact ⟨rv2, rfl, Kd.R_drew (Kd.R_mono (Kd.R_far (p := ⟨gR, 1, none⟩) (Kd.R_far (p := ⟨gR, 0, none⟩) (Kd.R_types HO.out BKR.out (by decide)) (fun _ hk => hk.2) _) (fun _ hk => hk.2) _) (fun _ hk => trivial)), below_drew1 (below_set (below_set HB.out GR.out) GR.out)⟩
              · have NSR : w7.heap.size ≠ gR := Ne.symm NR3
                have NWS : gW ≠ w7.heap.size := blk_ne BKW.out BK3.out (by decide)
                obtain ⟨w9, hw9⟩ : ∃ W_, W_ = ((w8.setCell ⟨w7.heap.size, 0, none⟩ (Value.int IntKind.u32 o1)).setCell ⟨w7.heap.size, 1, none⟩ (Value.int IntKind.i64 o2)) := ⟨_, rfl⟩
                rw [← hw9]
                have n1_ := Aside0.mk (show w9.heap[gR]? = some (.cells #[.int .u32 0, .int .i64 0] 27 (0, 0)) from hw9 ▸ blk_far (blk_far BKR.out (Ne.symm NSR) _) (Ne.symm NSR) _)
                have n2_ := Aside0.mk (show w9.heap[gW]? = some (.cells #[.slice A0 l0.length c0, rv2] 67 (0, 0)) from hw9 ▸ blk_far (blk_far BKW.out NWS _) NWS _)
                have n3_ := Aside0.mk (show Below w.heap.size w w9 from hw9 ▸ below_set (below_set HB.out GS3) GS3)
                have n4_ := Aside0.mk (show Kd.R (Kd.int .u32) 23 w9 w.heap.size (fun _ => True) rv2 [(a1 + 4 * (i0 % 4294967296)) % 4294967296, (wrap64 (64 * p2) + 4 * (i1 % 4294967296)) % 4294967296] from hw9 ▸ Kd.R_mono (Kd.R_far (p := ⟨w7.heap.size, 1, none⟩) (Kd.R_far (p := ⟨w7.heap.size, 0, none⟩) (Kd.R_types HO.out BK3.out (by decide)) (fun _ hk => hk.2) _) (fun _ hk => hk.2) _) (fun _ hk => trivial))
                have n5_ := Aside0.mk (show w9.heap[w7.heap.size]? = some (.cells #[.int .u32 o1, .int .i64 o2] 27 (0, 0)) from hw9 ▸ blk_put (cs := #[.int .u32 o1, .int .i64 0]) (blk_put (cs := #[.int .u32 0, .int .i64 0]) BK3.out 0 _ rfl) 1 _ rfl)
                have NWR : gW ≠ gR := blk_ne BKW.out BKR.out (by decide)
                clear hw9 BKR BKW HB HO hz0 hz1 fz0 fz1 BKF
                have BKR := n1_
                have BKW := n2_
                have HB := n3_
                have HO := n4_
                have BKS := n5_
                clear n1_ n2_ n3_ n4_ n5_
                have hs0 : w9.cell? ⟨w7.heap.size, 0, none⟩ = some (.int .u32 o1) := (blk_cell BKS.out 0).trans rfl
                have hs1 : w9.cell? ⟨w7.heap.size, 1, none⟩ = some (.int .i64 o2) := (blk_cell BKS.out 1).trans rfl
                go_wp2
                have hr0 : w9.cell? ⟨gR, 0, none⟩ = _ := (blk_cell BKR.out 0).trans rfl
                have hr1 : w9.cell? ⟨gR, 1, none⟩ = _ := (blk_cell BKR.out 1).trans rfl
                have fr0 := blk_frozen BKR.out 0
                have fr1 := blk_frozen BKR.out 1
                have hW : w9.cell? ⟨gW, 1, none⟩ = some rv2 := (blk_cell BKW.out 1).trans rfl
                go_region_held3 (fun w' => w'.cell? ⟨gW, 1, none⟩ = some rv2) (first | exact (blk_cell BKW.out 1).trans rfl | exact (blk_cell (blk_far (blk_far BKW.out NWR _) NWR _) 1).trans rfl) (fail)
                go_wp2
                refine bodyPost_ret (results_ctt rfl _ _ gR 27 #[.int .u32 0, .int .i64 0] (0, 0) _ rfl (by refine blk_drew ?_; refine blk_put (cs := #[.int .u32 0, .int .i64 0]) ?_ 1 _ (by first | rfl | (simp [Int.emod_emod_of_dvd]; done)); refine blk_put (cs := #[.int .u32 0, .int .i64 0]) BKR.out 0 _ rfl) Try.underlying27 rfl (by kernel_rfl)) rfl ?_
                exact ⟨rv2, rfl, Kd.R_drew (Kd.R_mono (Kd.R_far (p := ⟨gR, 1, none⟩) (Kd.R_far (p := ⟨gR, 0, none⟩) (Kd.R_types HO.out BKR.out (by decide)) (fun _ hk => hk.2) _) (fun _ hk => hk.2) _) (fun _ hk => trivial)), below_drew1 (below_set (below_set HB.out GR.out) GR.out)⟩
              · have NSR : w6.heap.size ≠ gR := Ne.symm NR2
                have NWS : gW ≠ w6.heap.size := blk_ne BKW.out BK3.out (by decide)
                obtain ⟨w9, hw9⟩ : ∃ W_, W_ = ((w8.setCell ⟨w6.heap.size, 0, none⟩ (Value.int IntKind.u32 o1)).setCell ⟨w6.heap.size, 1, none⟩ (Value.int IntKind.i64 o2)) := ⟨_, rfl⟩
                rw [← hw9]
                have n1_ := Aside0.mk (show w9.heap[gR]? = some (.cells #[.int .u32 0, .int .i64 0] 27 (0, 0)) from hw9 ▸ blk_far (blk_far BKR.out (Ne.symm NSR) _) (Ne.symm NSR) _)
                have n2_ := Aside0.mk (show w9.heap[gW]? = some (.cells #[.slice A0 l0.length c0, rv2] 67 (0, 0)) from hw9 ▸ blk_far (blk_far BKW.out NWS _) NWS _)
                have n3_ := Aside0.mk (show Below w.heap.size w w9 from hw9 ▸ below_set (below_set HB.out GS2) GS2)
                have n4_ := Aside0.mk (show Kd.R (Kd.int .u32) 23 w9 w.heap.size (fun _ => True) rv2 [(a1 + 4 * (i0 % 4294967296)) % 4294967296, (wrap64 (64 * p2) + 4 * (i1 % 4294967296)) % 4294967296] from hw9 ▸ Kd.R_mono (Kd.R_far (p := ⟨w6.heap.size, 1, none⟩) (Kd.R_far (p := ⟨w6.heap.size, 0, none⟩) (Kd.R_types HO.out BK3.out (by decide)) (fun _ hk => hk.2) _) (fun _ hk => hk.2) _) (fun _ hk => trivial))
                have n5_ := Aside0.mk (show w9.heap[w6.heap.size]? = some (.cells #[.int .u32 o1, .int .i64 o2] 27 (0, 0)) from hw9 ▸ blk_put (cs := #[.int .u32 o1, .int .i64 0]) (blk_put (cs := #[.int .u32 0, .int .i64 0]) BK3.out 0 _ rfl) 1 _ rfl)
                have NWR : gW ≠ gR := blk_ne BKW.out BKR.out (by decide)
                clear hw9 BKR BKW HB HO hz0 hz1 fz0 fz1 BKF
                have BKR := n1_
                have BKW := n2_
                have HB := n3_
                have HO := n4_
                have BKS := n5_
                clear n1_ n2_ n3_ n4_ n5_
                have hs0 : w9.cell? ⟨w6.heap.size, 0, none⟩ = some (.int .u32 o1) := (blk_cell BKS.out 0).trans rfl
                have hs1 : w9.cell? ⟨w6.heap.size, 1, none⟩ = some (.int .i64 o2) := (blk_cell BKS.out 1).trans rfl
                go_wp2
                have hr0 : w9.cell? ⟨gR, 0, none⟩ = _ := (blk_cell BKR.out 0).trans rfl
                have hr1 : w9.cell? ⟨gR, 1, none⟩ = _ := (blk_cell BKR.out 1).trans rfl
                have fr0 := blk_frozen BKR.out 0
                have fr1 := blk_frozen BKR.out 1
                have hW : w9.cell? ⟨gW, 1, none⟩ = some rv2 := (blk_cell BKW.out 1).trans rfl
                go_region_held3 (fun w' => w'.cell? ⟨gW, 1, none⟩ = some rv2) (first | exact (blk_cell BKW.out 1).trans rfl | exact (blk_cell (blk_far (blk_far BKW.out NWR _) NWR _) 1).trans rfl) (fail)
                go_wp2
                refine bodyPost_ret (results_ctt rfl _ _ gR 27 #[.int .u32 0, .int .i64 0] (0, 0) _ rfl (by refine blk_drew ?_; refine blk_put (cs := #[.int .u32 0, .int .i64 0]) ?_ 1 _ (by first | rfl | (simp [Int.emod_emod_of_dvd]; done)); refine blk_put (cs := #[.int .u32 0, .int .i64 0]) BKR.out 0 _ rfl) Try.underlying27 rfl (by kernel_rfl)) rfl ?_
                exact ⟨rv2, rfl, Kd.R_drew (Kd.R_mono (Kd.R_far (p := ⟨gR, 1, none⟩) (Kd.R_far (p := ⟨gR, 0, none⟩) (Kd.R_types HO.out BKR.out (by decide)) (fun _ hk => hk.2) _) (fun _ hk => hk.2) _) (fun _ hk => trivial)), below_drew1 (below_set (below_set HB.out GR.out) GR.out)⟩
            · rw [if_neg c6] at h
              have c6b : (Go.bits .and .u32 o1 1 == 0) = false := beq_eq_false_iff_ne.mpr c6
              clear c6
              by_cases c7 : Go.bits .and .u32 o1 14 = 0
              · rw [if_pos c7] at h
                have c7b : (Go.bits .and .u32 o1 14 != 0) = false := bne_eq_false_iff_eq.mpr c7
                clear c7
                simp only [Option.some.injEq, Prod.mk.injEq] at h
                obtain ⟨rfl, rfl, rfl, rfl⟩ := h
                go_enter Try.func25, Try.ntmps25
                go_wp2_with (first | ((with_reducible refine gate_dst (N := 6) rfl ?_); refine box_event ?hg (N := 6) ?hd (cs := #[.int .u32 0, .int .i64 0]) (t := 27) ?hr ?_; (case hd => rfl); (case hg => rfl); (case hr => first | (go_simp; done) | (go_simp; rfl)); intro gR hg w1 hbox hb; have n0_ := Aside0.mk (below_step HB.out hb); have n1_ := Aside0.mk (hbox); have n2_ := Aside0.mk ((by rw [hg]; exact below_size HB.out : w.heap.size ≤ gR)); clear HB; have HB := n0_; have BKR := n1_; have GR := n2_; clear n0_ n1_ n2_; clear hb hbox hg) | ((with_reducible refine gate_dst (N := 15) rfl ?_); refine box_event ?hg (N := 15) ?hd (cs := #[.slice A0 l0.length c0, .slice none 0 0]) (t := 67) ?hr ?_; (case hd => rfl); (case hg => rfl); (case hr => first | (go_simp; done) | (go_simp; rfl)); intro gW hg w2 hbox hb; have n0_ := Aside0.mk (below_step (by repeat (first | (with_reducible first | exact HB.out | apply below_alloc | apply pw_below_drewN | apply below_drew1) | exact HB.out)) hb); have n1_ := Aside0.mk (blk_below (g := gR) (o := .cells #[.int .u32 0, .int .i64 0] 27 (0, 0)) (by (with_reducible repeat (first | refine blk_drewN ?_ _ | refine blk_drew ?_ | refine blk_alloc ?_ _)); exact BKR.out) hb); have n2_ := Aside0.mk (hbox); have n3_ := Aside0.mk ((by rw [hg]; exact below_size (by repeat (first | (with_reducible first | exact HB.out | apply below_alloc | apply pw_below_drewN | apply below_drew1) | exact HB.out)) : w.heap.size ≤ gW)); clear HB BKR; have HB := n0_; have BKR := n1_; have BKW := n2_; have GW := n3_; clear n0_ n1_ n2_ n3_; clear hb hbox hg) | (go_at_call 40; (with_reducible refine (pte_Index.calls a2 0 i0 _ I0.out).mono ?_); rintro e w3 ⟨rfl, hb⟩; have n0_ := Aside0.mk (below_step (by repeat (first | (with_reducible first | exact HB.out | apply below_alloc | apply pw_below_drewN | apply below_drew1) | exact HB.out)) hb); have n1_ := Aside0.mk (blk_below (g := gR) (o := .cells #[.int .u32 0, .int .i64 0] 27 (0, 0)) (by (with_reducible repeat (first | refine blk_drewN ?_ _ | refine blk_drew ?_ | refine blk_alloc ?_ _)); exact BKR.out) hb); have n2_ := Aside0.mk (blk_below (g := gW) (o := .cells #[.slice A0 l0.length c0, .slice none 0 0] 67 (0, 0)) (by (with_reducible repeat (first | refine blk_drewN ?_ _ | refine blk_drew ?_ | refine blk_alloc ?_ _)); exact BKW.out) hb); clear HB BKR BKW; have HB := n0_; have BKR := n1_; have BKW := n2_; clear n0_ n1_ n2_; clear hb) | (go_at_call 39; (with_reducible refine (walk_Walk.entry k gW gR gR gR #[.int .u32 0, .int .i64 0] #[.int .u32 0, .int .i64 0] #[.int .u32 0, .int .i64 0] A0 c0 l0 _ q1 0 p1 p2 (.slice none 0 0) [] _ w ?s1 HC0.out ?s2 ?s3 GW.out ?s4 ?s5 ?s8 ?s6 (by simp) (by have h_ := RD.out; first | exact h_ | (simp only [Int.add_emod_emod, Int.emod_add_emod] at h_ ⊢; exact h_)) ?s7).mono ?_); (case s1 => exact (Kd.C_below HR0.out (by repeat (first | (with_reducible first | exact HB.out | apply below_alloc | apply pw_below_drewN | apply below_drew1) | exact HB.out)))); (case s2 => exact (by repeat (first | (with_reducible first | exact HB.out | apply below_alloc | apply pw_below_drewN | apply below_drew1) | exact HB.out))); (case s3 => ((with_reducible repeat (first | refine blk_drewN ?_ _ | refine blk_drew ?_ | refine blk_alloc ?_ _)); exact BKW.out)); (case s4 => ((with_reducible repeat (first | refine blk_drewN ?_ _ | refine blk_drew ?_ | refine blk_alloc ?_ _)); exact BKR.out)); (case s5 => ((with_reducible repeat (first | refine blk_drewN ?_ _ | refine blk_drew ?_ | refine blk_alloc ?_ _)); exact BKR.out)); (case s8 => ((with_reducible repeat (first | refine blk_drewN ?_ _ | refine blk_drew ?_ | refine blk_alloc ?_ _)); exact BKR.out)); (case s6 => exact Kd.R_nil _ _ _ _ _); (case s7 => exact fun _ => PO.out); rintro e w4 ⟨rfl, hb, rv, hbW, hbR, _, _, hR⟩; have n0_ := Aside0.mk (hb); have n1_ := Aside0.mk (hbR); have n2_ := Aside0.mk (hbW); have n3_ := Aside0.mk (hR); clear HB BKR BKW; have HB := n0_; have BKR := n1_; have BKW := n2_; have HO := n3_; clear n0_ n1_ n2_ n3_; clear hb hbW hbR hR; (rw [if_pos rfl] at HO); (simp only [List.nil_append] at HO)) | ((with_reducible refine gate_dst (N := 10) rfl ?_); refine box_event ?hg (N := 10) ?hd (cs := #[.int .u32 0, .int .i64 0]) (t := 27) ?hr ?_; (case hd => rfl); (case hg => rfl); (case hr => first | (go_simp; done) | (go_simp; rfl)); intro gF hg w5 hbox hb; have n6_0 := Aside0.mk ((by rw [hg]; have := blk_lt BKR.out; omega : gR ≠ gF)); have n0_ := Aside0.mk (below_step (by repeat (first | (with_reducible first | exact HB.out | apply below_alloc | apply pw_below_drewN | apply below_drew1) | exact HB.out)) hb); have n1_ := Aside0.mk (blk_below (g := gR) (o := .cells #[.int .u32 0, .int .i64 0] 27 (0, 0)) (by (with_reducible repeat (first | refine blk_drewN ?_ _ | refine blk_drew ?_ | refine blk_alloc ?_ _)); exact BKR.out) hb); have n2_ := Aside0.mk (blk_below (g := gW) (o := .cells #[.slice A0 l0.length c0, rv] 67 (0, 0)) (by (with_reducible repeat (first | refine blk_drewN ?_ _ | refine blk_drew ?_ | refine blk_alloc ?_ _)); exact BKW.out) hb); have n3_ := Aside0.mk (Kd.R_below (by (with_reducible repeat (first | apply Kd.R_alloc | apply Kd.R_drewN | apply Kd.R_drew)); exact HO.out) hb); have n4_ := Aside0.mk (hbox); have n5_ := Aside0.mk ((by rw [hg]; exact below_size (by repeat (first | (with_reducible first | exact HB.out | apply below_alloc | apply pw_below_drewN | apply below_drew1) | exact HB.out)) : w.heap.size ≤ gF)); clear HB BKR BKW HO; have HB := n0_; have BKR := n1_; have BKW := n2_; have HO := n3_; have BKF := n4_; have GF := n5_; have NRF := n6_0; clear n6_0; clear n0_ n1_ n2_ n3_ n4_ n5_; clear hb hbox hg; have hf0 : w5.cell? ⟨gF, 0, none⟩ = _ := (blk_cell BKF.out 0).trans rfl; have fhf0 := blk_frozen BKF.out 0; have hf1 : w5.cell? ⟨gF, 1, none⟩ = _ := (blk_cell BKF.out 1).trans rfl; have fhf1 := blk_frozen BKF.out 1) | (go_at_call 27; (with_reducible refine (pte_Leaf.calls p1 p2 ((Go.bits .and .u32 p1 14) != 0) _ rfl).mono ?_); rintro e w6 ⟨rfl, hb⟩; have NWF : gW ≠ gF := blk_ne BKW.out BKF.out (by decide); have NWR : gW ≠ gR := blk_ne BKW.out BKR.out (by decide); have NRF_ := NRF.out; have n0_ := Aside0.mk (below_step (below_set (below_set HB.out GF.out) GF.out) hb); have n1_ := Aside0.mk (blk_below (g := gR) (o := .cells #[.int .u32 0, .int .i64 0] 27 (0, 0)) (blk_far (blk_far BKR.out NRF_ _) NRF_ _) hb); have n2_ := Aside0.mk (blk_below (g := gW) (o := .cells #[.slice A0 l0.length c0, rv] 67 (0, 0)) (blk_far (blk_far BKW.out NWF _) NWF _) hb); have n3_ := Aside0.mk (Kd.R_below (Kd.R_mono (ok' := fun _ => True) (Kd.R_far (p := ⟨gF, 1, none⟩) (Kd.R_far (p := ⟨gF, 0, none⟩) (Kd.R_types HO.out BKF.out (by decide)) (fun _ hk => hk.2) _) (fun _ hk => hk.2) _) (fun _ hk => trivial)) hb); have n4_ := Aside0.mk (blk_below (g := gF) (o := .cells #[.int .u32 p1, .int .i64 p2] 27 (0, 0)) (blk_put (cs := #[.int .u32 p1, .int .i64 0]) (blk_put (cs := #[.int .u32 0, .int .i64 0]) BKF.out 0 _ rfl) 1 _ rfl) hb); clear HB BKR BKW HO BKF; have HB := n0_; have BKR := n1_; have BKW := n2_; have HO := n3_; have BKF := n4_; clear n0_ n1_ n2_ n3_ n4_; clear hb hf0 hf1 fhf0 fhf1))
                have hf0 : w6.cell? ⟨gF, 0, none⟩ = some (.int .u32 p1) := (blk_cell BKF.out 0).trans rfl
                have hf1 : w6.cell? ⟨gF, 1, none⟩ = some (.int .i64 p2) := (blk_cell BKF.out 1).trans rfl
                have NRF_ := NRF.out
                have AT1E : IntKind.u32.wrap (IntKind.u32.wrap (IntKind.i64.wrap (64 * p2)) + IntKind.u32.wrap (4 * IntKind.u32.wrap i1)) = (wrap64 (64 * p2) + 4 * (i1 % 4294967296)) % 4294967296 := by simp only [IntKind.wrap_u32, i64_w]; omega
                go_region_held3 (fun w' => w'.cell? ⟨gF, 1, none⟩ = some (.int .i64 p2)) (first | exact (blk_cell BKF.out 1).trans rfl | exact (blk_cell (blk_alloc BKF.out _) 1).trans rfl | exact (blk_cell (blk_far (blk_far BKF.out NF2 _) NF2 _) 1).trans rfl | exact (blk_cell (blk_far (blk_far BKF.out NF3 _) NF3 _) 1).trans rfl | exact (blk_cell (blk_far (blk_far (blk_alloc BKF.out _) (Nat.ne_of_lt (blk_lt BKF.out)) _) (Nat.ne_of_lt (blk_lt BKF.out)) _) 1).trans rfl) (first | (go_at_call 40; with_reducible refine (pte_Index.calls a2 1 i1 _ I1.out).mono ?_; rintro e w7 ⟨rfl, hb⟩; (first | (have BK2 : Aside0 (w7.heap[w6.heap.size]? = some (.cells #[.int .u32 0, .int .i64 0] 27 (0, 0))) := Aside0.mk (blk_below (blk_new w6.drew _) hb); have NF2 : gF ≠ w6.heap.size := Nat.ne_of_lt (blk_lt BKF.out)) | skip); have NR2 : gR ≠ w6.heap.size := Nat.ne_of_lt (blk_lt BKR.out); have GS2 : w.heap.size ≤ w6.heap.size := below_size HB.out; have n0_ := Aside0.mk (below_step (by repeat (first | (with_reducible first | exact HB.out | apply below_alloc | apply pw_below_drewN | apply below_drew1) | exact HB.out)) hb); have n1_ := Aside0.mk (blk_below (g := gR) (o := .cells #[.int .u32 0, .int .i64 0] 27 (0, 0)) (by (with_reducible repeat (first | refine blk_drewN ?_ _ | refine blk_drew ?_ | refine blk_alloc ?_ _)); exact BKR.out) hb); have n2_ := Aside0.mk (blk_below (g := gW) (o := .cells #[.slice A0 l0.length c0, rv] 67 (0, 0)) (by (with_reducible repeat (first | refine blk_drewN ?_ _ | refine blk_drew ?_ | refine blk_alloc ?_ _)); exact BKW.out) hb); have n3_ := Aside0.mk (blk_below (g := gF) (o := .cells #[.int .u32 p1, .int .i64 p2] 27 (0, 0)) (by (with_reducible repeat (first | refine blk_drewN ?_ _ | refine blk_drew ?_ | refine blk_alloc ?_ _)); exact BKF.out) hb); have n4_ := Aside0.mk (Kd.R_below (by (with_reducible repeat (first | apply Kd.R_alloc | apply Kd.R_drewN | apply Kd.R_drew)); exact HO.out) hb); clear HB BKR BKW BKF HO; have HB := n0_; have BKR := n1_; have BKW := n2_; have BKF := n3_; have HO := n4_; clear n0_ n1_ n2_ n3_ n4_; clear hb) | (go_at_call 39; have NF3 := Nat.ne_of_lt (blk_lt BKF.out); have NR3 : gR ≠ w7.heap.size := Nat.ne_of_lt (blk_lt BKR.out); have GS3 : w.heap.size ≤ w7.heap.size := below_size HB.out; (try rw [AT1E]); (first | (with_reducible refine (walk_Walk.entry k gW gR _ gF #[.int .u32 0, .int .i64 0] _ #[.int .u32 p1, .int .i64 p2] A0 c0 l0 _ s1 0 o1 o2 rv [(a1 + 4 * (i0 % 4294967296)) % 4294967296] _ w ?s1 HC0.out ?s2 ?s3 GW.out ?s4 BK2.out ?s8 ?s6 (by simp) RE.out ?s7).mono ?_) | (with_reducible refine (walk_Walk.entry k gW gR _ gF #[.int .u32 0, .int .i64 0] _ #[.int .u32 p1, .int .i64 p2] A0 c0 l0 _ s1 0 o1 o2 rv [(a1 + 4 * (i0 % 4294967296)) % 4294967296] _ w ?s1 HC0.out ?s2 ?s3 GW.out ?s4 (blk_new _ _) ?s8 ?s6 (by simp) RE.out ?s7).mono ?_) | (with_reducible refine (walk_Walk.entry k gW gR gR gF #[.int .u32 0, .int .i64 0] _ #[.int .u32 p1, .int .i64 p2] A0 c0 l0 _ s1 0 o1 o2 rv [(a1 + 4 * (i0 % 4294967296)) % 4294967296] _ w ?s1 HC0.out ?s2 ?s3 GW.out ?s4 (by (with_reducible repeat (first | refine blk_drewN ?_ _ | refine blk_drew ?_ | refine blk_alloc ?_ _)); exact BKR.out) ?s8 ?s6 (by simp) RE.out ?s7).mono ?_)); (case s1 => exact (Kd.C_below HR0.out (by repeat (first | (with_reducible first | exact HB.out | apply below_alloc | apply pw_below_drewN | apply below_drew1) | exact HB.out)))); (case s2 => exact (by repeat (first | (with_reducible first | exact HB.out | apply below_alloc | apply pw_below_drewN | apply below_drew1) | exact HB.out))); (case s3 => ((with_reducible repeat (first | refine blk_drewN ?_ _ | refine blk_drew ?_ | refine blk_alloc ?_ _)); exact BKW.out)); (case s4 => ((with_reducible repeat (first | refine blk_drewN ?_ _ | refine blk_drew ?_ | refine blk_alloc ?_ _)); exact BKR.out)); (case s8 => ((with_reducible repeat (first | refine blk_drewN ?_ _ | refine blk_drew ?_ | refine blk_alloc ?_ _)); exact BKF.out)); (case s6 => ((with_reducible repeat (first | apply Kd.R_alloc | apply Kd.R_drewN | apply Kd.R_drew)); exact HO.out)); (case s7 => exact fun _ => PS.out); rintro e w8 ⟨rfl, hb, rv2, hbW, hbR, hb2, hbF, hR⟩; have n0_ := Aside0.mk (hb); have n1_ := Aside0.mk (hbR); have n2_ := Aside0.mk (hbW); have n3_ := Aside0.mk (hR); have n4_ := Aside0.mk (hb2); have n5_ := Aside0.mk (hbF); clear HB BKR BKW HO BKF; have HB := n0_; have BKR := n1_; have BKW := n2_; have HO := n3_; have BK3 := n4_; have BKF := n5_; clear n0_ n1_ n2_ n3_ n4_ n5_; clear hb hbW hbR hR hb2 hbF; have hz0 : w8.cell? ⟨_, 0, none⟩ = some (.int .u32 0) := (blk_cell BK3.out 0).trans rfl; have hz1 : w8.cell? ⟨_, 1, none⟩ = some (.int .i64 0) := (blk_cell BK3.out 1).trans rfl; have fz0 := blk_frozen BK3.out 0; have fz1 := blk_frozen BK3.out 1; (rw [if_pos rfl] at HO); (simp only [List.cons_append, List.nil_append] at HO)))
                · have NSR : w8.heap.size ≠ gR := Ne.symm (Nat.ne_of_lt (blk_lt BKR.out))
                  obtain ⟨w9, hw9⟩ : ∃ W_, W_ = (w8.alloc (.cells #[.int .u32 o1, .int .i64 o2] 27 (0, 0))) := ⟨_, rfl⟩
                  rw [← hw9]
                  have n1_ := Aside0.mk (show w9.heap[gR]? = some (.cells #[.int .u32 0, .int .i64 0] 27 (0, 0)) from hw9 ▸ blk_alloc BKR.out _)
                  have n2_ := Aside0.mk (show w9.heap[gW]? = some (.cells #[.slice A0 l0.length c0, rv2] 67 (0, 0)) from hw9 ▸ blk_alloc BKW.out _)
                  have n3_ := Aside0.mk (show Below w.heap.size w w9 from hw9 ▸ below_alloc HB.out _)
                  have n4_ := Aside0.mk (show Kd.R (Kd.int .u32) 23 w9 w.heap.size (fun _ => True) rv2 [(a1 + 4 * (i0 % 4294967296)) % 4294967296, (wrap64 (64 * p2) + 4 * (i1 % 4294967296)) % 4294967296] from hw9 ▸ Kd.R_alloc HO.out _)
                  have n5_ := Aside0.mk (show w9.heap[w8.heap.size]? = some (.cells #[.int .u32 o1, .int .i64 o2] 27 (0, 0)) from hw9 ▸ blk_new w8 _)
                  have NWR : gW ≠ gR := blk_ne BKW.out BKR.out (by decide)
                  clear hw9 BKR BKW HB HO hz0 hz1 fz0 fz1 BKF
                  have BKR := n1_
                  have BKW := n2_
                  have HB := n3_
                  have HO := n4_
                  have BKS := n5_
                  clear n1_ n2_ n3_ n4_ n5_
                  have hs0 : w9.cell? ⟨w8.heap.size, 0, none⟩ = some (.int .u32 o1) := (blk_cell BKS.out 0).trans rfl
                  have hs1 : w9.cell? ⟨w8.heap.size, 1, none⟩ = some (.int .i64 o2) := (blk_cell BKS.out 1).trans rfl
                  go_wp2_with (first | (go_at_call 27; (with_reducible refine (pte_Leaf.calls o1 o2 ((Go.bits .and .u32 o1 14) != 0) _ rfl).mono ?_); rintro e w10 ⟨rfl, hb⟩; have n0_ := Aside0.mk (below_step HB.out hb); have n1_ := Aside0.mk (blk_below (g := gR) (o := .cells #[.int .u32 0, .int .i64 0] 27 (0, 0)) (by (with_reducible repeat (first | refine blk_drewN ?_ _ | refine blk_drew ?_ | refine blk_alloc ?_ _)); exact BKR.out) hb); have n2_ := Aside0.mk (blk_below (g := gW) (o := .cells #[.slice A0 l0.length c0, rv2] 67 (0, 0)) (by (with_reducible repeat (first | refine blk_drewN ?_ _ | refine blk_drew ?_ | refine blk_alloc ?_ _)); exact BKW.out) hb); have n3_ := Aside0.mk (Kd.R_below HO.out hb); have n4_ := Aside0.mk (blk_below (g := w8.heap.size) (o := .cells #[.int .u32 o1, .int .i64 o2] 27 (0, 0)) (by (with_reducible repeat (first | refine blk_drewN ?_ _ | refine blk_drew ?_ | refine blk_alloc ?_ _)); exact BKS.out) hb); clear HB BKR BKW HO BKS; have HB := n0_; have BKR := n1_; have BKW := n2_; have HO := n3_; have BKS := n4_; clear n0_ n1_ n2_ n3_ n4_; clear hb hs0 hs1))
                  have hr0 : w10.cell? ⟨gR, 0, none⟩ = _ := (blk_cell BKR.out 0).trans rfl
                  have hr1 : w10.cell? ⟨gR, 1, none⟩ = _ := (blk_cell BKR.out 1).trans rfl
                  have fr0 := blk_frozen BKR.out 0
                  have fr1 := blk_frozen BKR.out 1
                  have hW : w10.cell? ⟨gW, 1, none⟩ = some rv2 := (blk_cell BKW.out 1).trans rfl
                  go_region_held3 (fun w' => w'.cell? ⟨gW, 1, none⟩ = some rv2) (first | exact (blk_cell BKW.out 1).trans rfl | exact (blk_cell (blk_far (blk_far BKW.out NWR _) NWR _) 1).trans rfl) (fail)
                  go_wp2
                  refine bodyPost_ret (results_ctt rfl _ _ gR 27 #[.int .u32 0, .int .i64 0] (0, 0) _ rfl (by refine blk_drew ?_; refine blk_put (cs := #[.int .u32 0, .int .i64 0]) ?_ 1 _ (by first | rfl | (simp [Int.emod_emod_of_dvd]; done)); refine blk_put (cs := #[.int .u32 0, .int .i64 0]) BKR.out 0 _ rfl) Try.underlying27 rfl (by kernel_rfl)) rfl ?_
                  exact ⟨rv2, rfl, Kd.R_drew (Kd.R_mono (Kd.R_far (p := ⟨gR, 1, none⟩) (Kd.R_far (p := ⟨gR, 0, none⟩) (Kd.R_types HO.out BKR.out (by decide)) (fun _ hk => hk.2) _) (fun _ hk => hk.2) _) (fun _ hk => trivial)), below_drew1 (below_set (below_set HB.out GR.out) GR.out)⟩
                · have NSR : w7.heap.size ≠ gR := Ne.symm NR3
                  have NWS : gW ≠ w7.heap.size := blk_ne BKW.out BK3.out (by decide)
                  obtain ⟨w9, hw9⟩ : ∃ W_, W_ = ((w8.setCell ⟨w7.heap.size, 0, none⟩ (Value.int IntKind.u32 o1)).setCell ⟨w7.heap.size, 1, none⟩ (Value.int IntKind.i64 o2)) := ⟨_, rfl⟩
                  rw [← hw9]
                  have n1_ := Aside0.mk (show w9.heap[gR]? = some (.cells #[.int .u32 0, .int .i64 0] 27 (0, 0)) from hw9 ▸ blk_far (blk_far BKR.out (Ne.symm NSR) _) (Ne.symm NSR) _)
                  have n2_ := Aside0.mk (show w9.heap[gW]? = some (.cells #[.slice A0 l0.length c0, rv2] 67 (0, 0)) from hw9 ▸ blk_far (blk_far BKW.out NWS _) NWS _)
                  have n3_ := Aside0.mk (show Below w.heap.size w w9 from hw9 ▸ below_set (below_set HB.out GS3) GS3)
                  have n4_ := Aside0.mk (show Kd.R (Kd.int .u32) 23 w9 w.heap.size (fun _ => True) rv2 [(a1 + 4 * (i0 % 4294967296)) % 4294967296, (wrap64 (64 * p2) + 4 * (i1 % 4294967296)) % 4294967296] from hw9 ▸ Kd.R_mono (Kd.R_far (p := ⟨w7.heap.size, 1, none⟩) (Kd.R_far (p := ⟨w7.heap.size, 0, none⟩) (Kd.R_types HO.out BK3.out (by decide)) (fun _ hk => hk.2) _) (fun _ hk => hk.2) _) (fun _ hk => trivial))
                  have n5_ := Aside0.mk (show w9.heap[w7.heap.size]? = some (.cells #[.int .u32 o1, .int .i64 o2] 27 (0, 0)) from hw9 ▸ blk_put (cs := #[.int .u32 o1, .int .i64 0]) (blk_put (cs := #[.int .u32 0, .int .i64 0]) BK3.out 0 _ rfl) 1 _ rfl)
                  have NWR : gW ≠ gR := blk_ne BKW.out BKR.out (by decide)
                  clear hw9 BKR BKW HB HO hz0 hz1 fz0 fz1 BKF
                  have BKR := n1_
                  have BKW := n2_
                  have HB := n3_
                  have HO := n4_
                  have BKS := n5_
                  clear n1_ n2_ n3_ n4_ n5_
                  have hs0 : w9.cell? ⟨w7.heap.size, 0, none⟩ = some (.int .u32 o1) := (blk_cell BKS.out 0).trans rfl
                  have hs1 : w9.cell? ⟨w7.heap.size, 1, none⟩ = some (.int .i64 o2) := (blk_cell BKS.out 1).trans rfl
                  go_wp2_with (first | (go_at_call 27; (with_reducible refine (pte_Leaf.calls o1 o2 ((Go.bits .and .u32 o1 14) != 0) _ rfl).mono ?_); rintro e w10 ⟨rfl, hb⟩; have n0_ := Aside0.mk (below_step HB.out hb); have n1_ := Aside0.mk (blk_below (g := gR) (o := .cells #[.int .u32 0, .int .i64 0] 27 (0, 0)) (by (with_reducible repeat (first | refine blk_drewN ?_ _ | refine blk_drew ?_ | refine blk_alloc ?_ _)); exact BKR.out) hb); have n2_ := Aside0.mk (blk_below (g := gW) (o := .cells #[.slice A0 l0.length c0, rv2] 67 (0, 0)) (by (with_reducible repeat (first | refine blk_drewN ?_ _ | refine blk_drew ?_ | refine blk_alloc ?_ _)); exact BKW.out) hb); have n3_ := Aside0.mk (Kd.R_below HO.out hb); have n4_ := Aside0.mk (blk_below (g := w7.heap.size) (o := .cells #[.int .u32 o1, .int .i64 o2] 27 (0, 0)) (by (with_reducible repeat (first | refine blk_drewN ?_ _ | refine blk_drew ?_ | refine blk_alloc ?_ _)); exact BKS.out) hb); clear HB BKR BKW HO BKS; have HB := n0_; have BKR := n1_; have BKW := n2_; have HO := n3_; have BKS := n4_; clear n0_ n1_ n2_ n3_ n4_; clear hb hs0 hs1))
                  have hr0 : w10.cell? ⟨gR, 0, none⟩ = _ := (blk_cell BKR.out 0).trans rfl
                  have hr1 : w10.cell? ⟨gR, 1, none⟩ = _ := (blk_cell BKR.out 1).trans rfl
                  have fr0 := blk_frozen BKR.out 0
                  have fr1 := blk_frozen BKR.out 1
                  have hW : w10.cell? ⟨gW, 1, none⟩ = some rv2 := (blk_cell BKW.out 1).trans rfl
                  go_region_held3 (fun w' => w'.cell? ⟨gW, 1, none⟩ = some rv2) (first | exact (blk_cell BKW.out 1).trans rfl | exact (blk_cell (blk_far (blk_far BKW.out NWR _) NWR _) 1).trans rfl) (fail)
                  go_wp2
                  refine bodyPost_ret (results_ctt rfl _ _ gR 27 #[.int .u32 0, .int .i64 0] (0, 0) _ rfl (by refine blk_drew ?_; refine blk_put (cs := #[.int .u32 0, .int .i64 0]) ?_ 1 _ (by first | rfl | (simp [Int.emod_emod_of_dvd]; done)); refine blk_put (cs := #[.int .u32 0, .int .i64 0]) BKR.out 0 _ rfl) Try.underlying27 rfl (by kernel_rfl)) rfl ?_
                  exact ⟨rv2, rfl, Kd.R_drew (Kd.R_mono (Kd.R_far (p := ⟨gR, 1, none⟩) (Kd.R_far (p := ⟨gR, 0, none⟩) (Kd.R_types HO.out BKR.out (by decide)) (fun _ hk => hk.2) _) (fun _ hk => hk.2) _) (fun _ hk => trivial)), below_drew1 (below_set (below_set HB.out GR.out) GR.out)⟩
                · have NSR : w6.heap.size ≠ gR := Ne.symm NR2
                  have NWS : gW ≠ w6.heap.size := blk_ne BKW.out BK3.out (by decide)
                  obtain ⟨w9, hw9⟩ : ∃ W_, W_ = ((w8.setCell ⟨w6.heap.size, 0, none⟩ (Value.int IntKind.u32 o1)).setCell ⟨w6.heap.size, 1, none⟩ (Value.int IntKind.i64 o2)) := ⟨_, rfl⟩
                  rw [← hw9]
                  have n1_ := Aside0.mk (show w9.heap[gR]? = some (.cells #[.int .u32 0, .int .i64 0] 27 (0, 0)) from hw9 ▸ blk_far (blk_far BKR.out (Ne.symm NSR) _) (Ne.symm NSR) _)
                  have n2_ := Aside0.mk (show w9.heap[gW]? = some (.cells #[.slice A0 l0.length c0, rv2] 67 (0, 0)) from hw9 ▸ blk_far (blk_far BKW.out NWS _) NWS _)
                  have n3_ := Aside0.mk (show Below w.heap.size w w9 from hw9 ▸ below_set (below_set HB.out GS2) GS2)
                  have n4_ := Aside0.mk (show Kd.R (Kd.int .u32) 23 w9 w.heap.size (fun _ => True) rv2 [(a1 + 4 * (i0 % 4294967296)) % 4294967296, (wrap64 (64 * p2) + 4 * (i1 % 4294967296)) % 4294967296] from hw9 ▸ Kd.R_mono (Kd.R_far (p := ⟨w6.heap.size, 1, none⟩) (Kd.R_far (p := ⟨w6.heap.size, 0, none⟩) (Kd.R_types HO.out BK3.out (by decide)) (fun _ hk => hk.2) _) (fun _ hk => hk.2) _) (fun _ hk => trivial))
                  have n5_ := Aside0.mk (show w9.heap[w6.heap.size]? = some (.cells #[.int .u32 o1, .int .i64 o2] 27 (0, 0)) from hw9 ▸ blk_put (cs := #[.int .u32 o1, .int .i64 0]) (blk_put (cs := #[.int .u32 0, .int .i64 0]) BK3.out 0 _ rfl) 1 _ rfl)
                  have NWR : gW ≠ gR := blk_ne BKW.out BKR.out (by decide)
                  clear hw9 BKR BKW HB HO hz0 hz1 fz0 fz1 BKF
                  have BKR := n1_
                  have BKW := n2_
                  have HB := n3_
                  have HO := n4_
                  have BKS := n5_
                  clear n1_ n2_ n3_ n4_ n5_
                  have hs0 : w9.cell? ⟨w6.heap.size, 0, none⟩ = some (.int .u32 o1) := (blk_cell BKS.out 0).trans rfl
                  have hs1 : w9.cell? ⟨w6.heap.size, 1, none⟩ = some (.int .i64 o2) := (blk_cell BKS.out 1).trans rfl
                  go_wp2_with (first | (go_at_call 27; (with_reducible refine (pte_Leaf.calls o1 o2 ((Go.bits .and .u32 o1 14) != 0) _ rfl).mono ?_); rintro e w10 ⟨rfl, hb⟩; have n0_ := Aside0.mk (below_step HB.out hb); have n1_ := Aside0.mk (blk_below (g := gR) (o := .cells #[.int .u32 0, .int .i64 0] 27 (0, 0)) (by (with_reducible repeat (first | refine blk_drewN ?_ _ | refine blk_drew ?_ | refine blk_alloc ?_ _)); exact BKR.out) hb); have n2_ := Aside0.mk (blk_below (g := gW) (o := .cells #[.slice A0 l0.length c0, rv2] 67 (0, 0)) (by (with_reducible repeat (first | refine blk_drewN ?_ _ | refine blk_drew ?_ | refine blk_alloc ?_ _)); exact BKW.out) hb); have n3_ := Aside0.mk (Kd.R_below HO.out hb); have n4_ := Aside0.mk (blk_below (g := w6.heap.size) (o := .cells #[.int .u32 o1, .int .i64 o2] 27 (0, 0)) (by (with_reducible repeat (first | refine blk_drewN ?_ _ | refine blk_drew ?_ | refine blk_alloc ?_ _)); exact BKS.out) hb); clear HB BKR BKW HO BKS; have HB := n0_; have BKR := n1_; have BKW := n2_; have HO := n3_; have BKS := n4_; clear n0_ n1_ n2_ n3_ n4_; clear hb hs0 hs1))
                  have hr0 : w10.cell? ⟨gR, 0, none⟩ = _ := (blk_cell BKR.out 0).trans rfl
                  have hr1 : w10.cell? ⟨gR, 1, none⟩ = _ := (blk_cell BKR.out 1).trans rfl
                  have fr0 := blk_frozen BKR.out 0
                  have fr1 := blk_frozen BKR.out 1
                  have hW : w10.cell? ⟨gW, 1, none⟩ = some rv2 := (blk_cell BKW.out 1).trans rfl
                  go_region_held3 (fun w' => w'.cell? ⟨gW, 1, none⟩ = some rv2) (first | exact (blk_cell BKW.out 1).trans rfl | exact (blk_cell (blk_far (blk_far BKW.out NWR _) NWR _) 1).trans rfl) (fail)
                  go_wp2
                  refine bodyPost_ret (results_ctt rfl _ _ gR 27 #[.int .u32 0, .int .i64 0] (0, 0) _ rfl (by refine blk_drew ?_; refine blk_put (cs := #[.int .u32 0, .int .i64 0]) ?_ 1 _ (by first | rfl | (simp [Int.emod_emod_of_dvd]; done)); refine blk_put (cs := #[.int .u32 0, .int .i64 0]) BKR.out 0 _ rfl) Try.underlying27 rfl (by kernel_rfl)) rfl ?_
                  exact ⟨rv2, rfl, Kd.R_drew (Kd.R_mono (Kd.R_far (p := ⟨gR, 1, none⟩) (Kd.R_far (p := ⟨gR, 0, none⟩) (Kd.R_types HO.out BKR.out (by decide)) (fun _ hk => hk.2) _) (fun _ hk => hk.2) _) (fun _ hk => trivial)), below_drew1 (below_set (below_set HB.out GR.out) GR.out)⟩
              · rw [if_neg c7] at h
                have c7b : (Go.bits .and .u32 o1 14 != 0) = true := bne_iff_ne.mpr c7
                clear c7
                simp only [Option.some.injEq, Prod.mk.injEq] at h
                obtain ⟨rfl, rfl, rfl, rfl⟩ := h
                go_enter Try.func25, Try.ntmps25
                go_wp2_with (first | ((with_reducible refine gate_dst (N := 6) rfl ?_); refine box_event ?hg (N := 6) ?hd (cs := #[.int .u32 0, .int .i64 0]) (t := 27) ?hr ?_; (case hd => rfl); (case hg => rfl); (case hr => first | (go_simp; done) | (go_simp; rfl)); intro gR hg w1 hbox hb; have n0_ := Aside0.mk (below_step HB.out hb); have n1_ := Aside0.mk (hbox); have n2_ := Aside0.mk ((by rw [hg]; exact below_size HB.out : w.heap.size ≤ gR)); clear HB; have HB := n0_; have BKR := n1_; have GR := n2_; clear n0_ n1_ n2_; clear hb hbox hg) | ((with_reducible refine gate_dst (N := 15) rfl ?_); refine box_event ?hg (N := 15) ?hd (cs := #[.slice A0 l0.length c0, .slice none 0 0]) (t := 67) ?hr ?_; (case hd => rfl); (case hg => rfl); (case hr => first | (go_simp; done) | (go_simp; rfl)); intro gW hg w2 hbox hb; have n0_ := Aside0.mk (below_step (by repeat (first | (with_reducible first | exact HB.out | apply below_alloc | apply pw_below_drewN | apply below_drew1) | exact HB.out)) hb); have n1_ := Aside0.mk (blk_below (g := gR) (o := .cells #[.int .u32 0, .int .i64 0] 27 (0, 0)) (by (with_reducible repeat (first | refine blk_drewN ?_ _ | refine blk_drew ?_ | refine blk_alloc ?_ _)); exact BKR.out) hb); have n2_ := Aside0.mk (hbox); have n3_ := Aside0.mk ((by rw [hg]; exact below_size (by repeat (first | (with_reducible first | exact HB.out | apply below_alloc | apply pw_below_drewN | apply below_drew1) | exact HB.out)) : w.heap.size ≤ gW)); clear HB BKR; have HB := n0_; have BKR := n1_; have BKW := n2_; have GW := n3_; clear n0_ n1_ n2_ n3_; clear hb hbox hg) | (go_at_call 40; (with_reducible refine (pte_Index.calls a2 0 i0 _ I0.out).mono ?_); rintro e w3 ⟨rfl, hb⟩; have n0_ := Aside0.mk (below_step (by repeat (first | (with_reducible first | exact HB.out | apply below_alloc | apply pw_below_drewN | apply below_drew1) | exact HB.out)) hb); have n1_ := Aside0.mk (blk_below (g := gR) (o := .cells #[.int .u32 0, .int .i64 0] 27 (0, 0)) (by (with_reducible repeat (first | refine blk_drewN ?_ _ | refine blk_drew ?_ | refine blk_alloc ?_ _)); exact BKR.out) hb); have n2_ := Aside0.mk (blk_below (g := gW) (o := .cells #[.slice A0 l0.length c0, .slice none 0 0] 67 (0, 0)) (by (with_reducible repeat (first | refine blk_drewN ?_ _ | refine blk_drew ?_ | refine blk_alloc ?_ _)); exact BKW.out) hb); clear HB BKR BKW; have HB := n0_; have BKR := n1_; have BKW := n2_; clear n0_ n1_ n2_; clear hb) | (go_at_call 39; (with_reducible refine (walk_Walk.entry k gW gR gR gR #[.int .u32 0, .int .i64 0] #[.int .u32 0, .int .i64 0] #[.int .u32 0, .int .i64 0] A0 c0 l0 _ q1 0 p1 p2 (.slice none 0 0) [] _ w ?s1 HC0.out ?s2 ?s3 GW.out ?s4 ?s5 ?s8 ?s6 (by simp) (by have h_ := RD.out; first | exact h_ | (simp only [Int.add_emod_emod, Int.emod_add_emod] at h_ ⊢; exact h_)) ?s7).mono ?_); (case s1 => exact (Kd.C_below HR0.out (by repeat (first | (with_reducible first | exact HB.out | apply below_alloc | apply pw_below_drewN | apply below_drew1) | exact HB.out)))); (case s2 => exact (by repeat (first | (with_reducible first | exact HB.out | apply below_alloc | apply pw_below_drewN | apply below_drew1) | exact HB.out))); (case s3 => ((with_reducible repeat (first | refine blk_drewN ?_ _ | refine blk_drew ?_ | refine blk_alloc ?_ _)); exact BKW.out)); (case s4 => ((with_reducible repeat (first | refine blk_drewN ?_ _ | refine blk_drew ?_ | refine blk_alloc ?_ _)); exact BKR.out)); (case s5 => ((with_reducible repeat (first | refine blk_drewN ?_ _ | refine blk_drew ?_ | refine blk_alloc ?_ _)); exact BKR.out)); (case s8 => ((with_reducible repeat (first | refine blk_drewN ?_ _ | refine blk_drew ?_ | refine blk_alloc ?_ _)); exact BKR.out)); (case s6 => exact Kd.R_nil _ _ _ _ _); (case s7 => exact fun _ => PO.out); rintro e w4 ⟨rfl, hb, rv, hbW, hbR, _, _, hR⟩; have n0_ := Aside0.mk (hb); have n1_ := Aside0.mk (hbR); have n2_ := Aside0.mk (hbW); have n3_ := Aside0.mk (hR); clear HB BKR BKW; have HB := n0_; have BKR := n1_; have BKW := n2_; have HO := n3_; clear n0_ n1_ n2_ n3_; clear hb hbW hbR hR; (rw [if_pos rfl] at HO); (simp only [List.nil_append] at HO)) | ((with_reducible refine gate_dst (N := 10) rfl ?_); refine box_event ?hg (N := 10) ?hd (cs := #[.int .u32 0, .int .i64 0]) (t := 27) ?hr ?_; (case hd => rfl); (case hg => rfl); (case hr => first | (go_simp; done) | (go_simp; rfl)); intro gF hg w5 hbox hb; have n6_0 := Aside0.mk ((by rw [hg]; have := blk_lt BKR.out; omega : gR ≠ gF)); have n0_ := Aside0.mk (below_step (by repeat (first | (with_reducible first | exact HB.out | apply below_alloc | apply pw_below_drewN | apply below_drew1) | exact HB.out)) hb); have n1_ := Aside0.mk (blk_below (g := gR) (o := .cells #[.int .u32 0, .int .i64 0] 27 (0, 0)) (by (with_reducible repeat (first | refine blk_drewN ?_ _ | refine blk_drew ?_ | refine blk_alloc ?_ _)); exact BKR.out) hb); have n2_ := Aside0.mk (blk_below (g := gW) (o := .cells #[.slice A0 l0.length c0, rv] 67 (0, 0)) (by (with_reducible repeat (first | refine blk_drewN ?_ _ | refine blk_drew ?_ | refine blk_alloc ?_ _)); exact BKW.out) hb); have n3_ := Aside0.mk (Kd.R_below (by (with_reducible repeat (first | apply Kd.R_alloc | apply Kd.R_drewN | apply Kd.R_drew)); exact HO.out) hb); have n4_ := Aside0.mk (hbox); have n5_ := Aside0.mk ((by rw [hg]; exact below_size (by repeat (first | (with_reducible first | exact HB.out | apply below_alloc | apply pw_below_drewN | apply below_drew1) | exact HB.out)) : w.heap.size ≤ gF)); clear HB BKR BKW HO; have HB := n0_; have BKR := n1_; have BKW := n2_; have HO := n3_; have BKF := n4_; have GF := n5_; have NRF := n6_0; clear n6_0; clear n0_ n1_ n2_ n3_ n4_ n5_; clear hb hbox hg; have hf0 : w5.cell? ⟨gF, 0, none⟩ = _ := (blk_cell BKF.out 0).trans rfl; have fhf0 := blk_frozen BKF.out 0; have hf1 : w5.cell? ⟨gF, 1, none⟩ = _ := (blk_cell BKF.out 1).trans rfl; have fhf1 := blk_frozen BKF.out 1) | (go_at_call 27; (with_reducible refine (pte_Leaf.calls p1 p2 ((Go.bits .and .u32 p1 14) != 0) _ rfl).mono ?_); rintro e w6 ⟨rfl, hb⟩; have NWF : gW ≠ gF := blk_ne BKW.out BKF.out (by decide); have NWR : gW ≠ gR := blk_ne BKW.out BKR.out (by decide); have NRF_ := NRF.out; have n0_ := Aside0.mk (below_step (below_set (below_set HB.out GF.out) GF.out) hb); have n1_ := Aside0.mk (blk_below (g := gR) (o := .cells #[.int .u32 0, .int .i64 0] 27 (0, 0)) (blk_far (blk_far BKR.out NRF_ _) NRF_ _) hb); have n2_ := Aside0.mk (blk_below (g := gW) (o := .cells #[.slice A0 l0.length c0, rv] 67 (0, 0)) (blk_far (blk_far BKW.out NWF _) NWF _) hb); have n3_ := Aside0.mk (Kd.R_below (Kd.R_mono (ok' := fun _ => True) (Kd.R_far (p := ⟨gF, 1, none⟩) (Kd.R_far (p := ⟨gF, 0, none⟩) (Kd.R_types HO.out BKF.out (by decide)) (fun _ hk => hk.2) _) (fun _ hk => hk.2) _) (fun _ hk => trivial)) hb); have n4_ := Aside0.mk (blk_below (g := gF) (o := .cells #[.int .u32 p1, .int .i64 p2] 27 (0, 0)) (blk_put (cs := #[.int .u32 p1, .int .i64 0]) (blk_put (cs := #[.int .u32 0, .int .i64 0]) BKF.out 0 _ rfl) 1 _ rfl) hb); clear HB BKR BKW HO BKF; have HB := n0_; have BKR := n1_; have BKW := n2_; have HO := n3_; have BKF := n4_; clear n0_ n1_ n2_ n3_ n4_; clear hb hf0 hf1 fhf0 fhf1))
                have hf0 : w6.cell? ⟨gF, 0, none⟩ = some (.int .u32 p1) := (blk_cell BKF.out 0).trans rfl
                have hf1 : w6.cell? ⟨gF, 1, none⟩ = some (.int .i64 p2) := (blk_cell BKF.out 1).trans rfl
                have NRF_ := NRF.out
                have AT1E : IntKind.u32.wrap (IntKind.u32.wrap (IntKind.i64.wrap (64 * p2)) + IntKind.u32.wrap (4 * IntKind.u32.wrap i1)) = (wrap64 (64 * p2) + 4 * (i1 % 4294967296)) % 4294967296 := by simp only [IntKind.wrap_u32, i64_w]; omega
                go_region_held3 (fun w' => w'.cell? ⟨gF, 1, none⟩ = some (.int .i64 p2)) (first | exact (blk_cell BKF.out 1).trans rfl | exact (blk_cell (blk_alloc BKF.out _) 1).trans rfl | exact (blk_cell (blk_far (blk_far BKF.out NF2 _) NF2 _) 1).trans rfl | exact (blk_cell (blk_far (blk_far BKF.out NF3 _) NF3 _) 1).trans rfl | exact (blk_cell (blk_far (blk_far (blk_alloc BKF.out _) (Nat.ne_of_lt (blk_lt BKF.out)) _) (Nat.ne_of_lt (blk_lt BKF.out)) _) 1).trans rfl) (first | (go_at_call 40; with_reducible refine (pte_Index.calls a2 1 i1 _ I1.out).mono ?_; rintro e w7 ⟨rfl, hb⟩; (first | (have BK2 : Aside0 (w7.heap[w6.heap.size]? = some (.cells #[.int .u32 0, .int .i64 0] 27 (0, 0))) := Aside0.mk (blk_below (blk_new w6.drew _) hb); have NF2 : gF ≠ w6.heap.size := Nat.ne_of_lt (blk_lt BKF.out)) | skip); have NR2 : gR ≠ w6.heap.size := Nat.ne_of_lt (blk_lt BKR.out); have GS2 : w.heap.size ≤ w6.heap.size := below_size HB.out; have n0_ := Aside0.mk (below_step (by repeat (first | (with_reducible first | exact HB.out | apply below_alloc | apply pw_below_drewN | apply below_drew1) | exact HB.out)) hb); have n1_ := Aside0.mk (blk_below (g := gR) (o := .cells #[.int .u32 0, .int .i64 0] 27 (0, 0)) (by (with_reducible repeat (first | refine blk_drewN ?_ _ | refine blk_drew ?_ | refine blk_alloc ?_ _)); exact BKR.out) hb); have n2_ := Aside0.mk (blk_below (g := gW) (o := .cells #[.slice A0 l0.length c0, rv] 67 (0, 0)) (by (with_reducible repeat (first | refine blk_drewN ?_ _ | refine blk_drew ?_ | refine blk_alloc ?_ _)); exact BKW.out) hb); have n3_ := Aside0.mk (blk_below (g := gF) (o := .cells #[.int .u32 p1, .int .i64 p2] 27 (0, 0)) (by (with_reducible repeat (first | refine blk_drewN ?_ _ | refine blk_drew ?_ | refine blk_alloc ?_ _)); exact BKF.out) hb); have n4_ := Aside0.mk (Kd.R_below (by (with_reducible repeat (first | apply Kd.R_alloc | apply Kd.R_drewN | apply Kd.R_drew)); exact HO.out) hb); clear HB BKR BKW BKF HO; have HB := n0_; have BKR := n1_; have BKW := n2_; have BKF := n3_; have HO := n4_; clear n0_ n1_ n2_ n3_ n4_; clear hb) | (go_at_call 39; have NF3 := Nat.ne_of_lt (blk_lt BKF.out); have NR3 : gR ≠ w7.heap.size := Nat.ne_of_lt (blk_lt BKR.out); have GS3 : w.heap.size ≤ w7.heap.size := below_size HB.out; (try rw [AT1E]); (first | (with_reducible refine (walk_Walk.entry k gW gR _ gF #[.int .u32 0, .int .i64 0] _ #[.int .u32 p1, .int .i64 p2] A0 c0 l0 _ s1 0 o1 o2 rv [(a1 + 4 * (i0 % 4294967296)) % 4294967296] _ w ?s1 HC0.out ?s2 ?s3 GW.out ?s4 BK2.out ?s8 ?s6 (by simp) RE.out ?s7).mono ?_) | (with_reducible refine (walk_Walk.entry k gW gR _ gF #[.int .u32 0, .int .i64 0] _ #[.int .u32 p1, .int .i64 p2] A0 c0 l0 _ s1 0 o1 o2 rv [(a1 + 4 * (i0 % 4294967296)) % 4294967296] _ w ?s1 HC0.out ?s2 ?s3 GW.out ?s4 (blk_new _ _) ?s8 ?s6 (by simp) RE.out ?s7).mono ?_) | (with_reducible refine (walk_Walk.entry k gW gR gR gF #[.int .u32 0, .int .i64 0] _ #[.int .u32 p1, .int .i64 p2] A0 c0 l0 _ s1 0 o1 o2 rv [(a1 + 4 * (i0 % 4294967296)) % 4294967296] _ w ?s1 HC0.out ?s2 ?s3 GW.out ?s4 (by (with_reducible repeat (first | refine blk_drewN ?_ _ | refine blk_drew ?_ | refine blk_alloc ?_ _)); exact BKR.out) ?s8 ?s6 (by simp) RE.out ?s7).mono ?_)); (case s1 => exact (Kd.C_below HR0.out (by repeat (first | (with_reducible first | exact HB.out | apply below_alloc | apply pw_below_drewN | apply below_drew1) | exact HB.out)))); (case s2 => exact (by repeat (first | (with_reducible first | exact HB.out | apply below_alloc | apply pw_below_drewN | apply below_drew1) | exact HB.out))); (case s3 => ((with_reducible repeat (first | refine blk_drewN ?_ _ | refine blk_drew ?_ | refine blk_alloc ?_ _)); exact BKW.out)); (case s4 => ((with_reducible repeat (first | refine blk_drewN ?_ _ | refine blk_drew ?_ | refine blk_alloc ?_ _)); exact BKR.out)); (case s8 => ((with_reducible repeat (first | refine blk_drewN ?_ _ | refine blk_drew ?_ | refine blk_alloc ?_ _)); exact BKF.out)); (case s6 => ((with_reducible repeat (first | apply Kd.R_alloc | apply Kd.R_drewN | apply Kd.R_drew)); exact HO.out)); (case s7 => exact fun _ => PS.out); rintro e w8 ⟨rfl, hb, rv2, hbW, hbR, hb2, hbF, hR⟩; have n0_ := Aside0.mk (hb); have n1_ := Aside0.mk (hbR); have n2_ := Aside0.mk (hbW); have n3_ := Aside0.mk (hR); have n4_ := Aside0.mk (hb2); have n5_ := Aside0.mk (hbF); clear HB BKR BKW HO BKF; have HB := n0_; have BKR := n1_; have BKW := n2_; have HO := n3_; have BK3 := n4_; have BKF := n5_; clear n0_ n1_ n2_ n3_ n4_ n5_; clear hb hbW hbR hR hb2 hbF; have hz0 : w8.cell? ⟨_, 0, none⟩ = some (.int .u32 0) := (blk_cell BK3.out 0).trans rfl; have hz1 : w8.cell? ⟨_, 1, none⟩ = some (.int .i64 0) := (blk_cell BK3.out 1).trans rfl; have fz0 := blk_frozen BK3.out 0; have fz1 := blk_frozen BK3.out 1; (rw [if_pos rfl] at HO); (simp only [List.cons_append, List.nil_append] at HO)))
                · have NSR : w8.heap.size ≠ gR := Ne.symm (Nat.ne_of_lt (blk_lt BKR.out))
                  obtain ⟨w9, hw9⟩ : ∃ W_, W_ = (w8.alloc (.cells #[.int .u32 o1, .int .i64 o2] 27 (0, 0))) := ⟨_, rfl⟩
                  rw [← hw9]
                  have n1_ := Aside0.mk (show w9.heap[gR]? = some (.cells #[.int .u32 0, .int .i64 0] 27 (0, 0)) from hw9 ▸ blk_alloc BKR.out _)
                  have n2_ := Aside0.mk (show w9.heap[gW]? = some (.cells #[.slice A0 l0.length c0, rv2] 67 (0, 0)) from hw9 ▸ blk_alloc BKW.out _)
                  have n3_ := Aside0.mk (show Below w.heap.size w w9 from hw9 ▸ below_alloc HB.out _)
                  have n4_ := Aside0.mk (show Kd.R (Kd.int .u32) 23 w9 w.heap.size (fun _ => True) rv2 [(a1 + 4 * (i0 % 4294967296)) % 4294967296, (wrap64 (64 * p2) + 4 * (i1 % 4294967296)) % 4294967296] from hw9 ▸ Kd.R_alloc HO.out _)
                  have n5_ := Aside0.mk (show w9.heap[w8.heap.size]? = some (.cells #[.int .u32 o1, .int .i64 o2] 27 (0, 0)) from hw9 ▸ blk_new w8 _)
                  have NWR : gW ≠ gR := blk_ne BKW.out BKR.out (by decide)
                  clear hw9 BKR BKW HB HO hz0 hz1 fz0 fz1 BKF
                  have BKR := n1_
                  have BKW := n2_
                  have HB := n3_
                  have HO := n4_
                  have BKS := n5_
                  clear n1_ n2_ n3_ n4_ n5_
                  have hs0 : w9.cell? ⟨w8.heap.size, 0, none⟩ = some (.int .u32 o1) := (blk_cell BKS.out 0).trans rfl
                  have hs1 : w9.cell? ⟨w8.heap.size, 1, none⟩ = some (.int .i64 o2) := (blk_cell BKS.out 1).trans rfl
                  go_wp2_with (first | (go_at_call 27; (with_reducible refine (pte_Leaf.calls o1 o2 ((Go.bits .and .u32 o1 14) != 0) _ rfl).mono ?_); rintro e w10 ⟨rfl, hb⟩; have n0_ := Aside0.mk (below_step HB.out hb); have n1_ := Aside0.mk (blk_below (g := gR) (o := .cells #[.int .u32 0, .int .i64 0] 27 (0, 0)) (by (with_reducible repeat (first | refine blk_drewN ?_ _ | refine blk_drew ?_ | refine blk_alloc ?_ _)); exact BKR.out) hb); have n2_ := Aside0.mk (blk_below (g := gW) (o := .cells #[.slice A0 l0.length c0, rv2] 67 (0, 0)) (by (with_reducible repeat (first | refine blk_drewN ?_ _ | refine blk_drew ?_ | refine blk_alloc ?_ _)); exact BKW.out) hb); have n3_ := Aside0.mk (Kd.R_below HO.out hb); have n4_ := Aside0.mk (blk_below (g := w8.heap.size) (o := .cells #[.int .u32 o1, .int .i64 o2] 27 (0, 0)) (by (with_reducible repeat (first | refine blk_drewN ?_ _ | refine blk_drew ?_ | refine blk_alloc ?_ _)); exact BKS.out) hb); clear HB BKR BKW HO BKS; have HB := n0_; have BKR := n1_; have BKW := n2_; have HO := n3_; have BKS := n4_; clear n0_ n1_ n2_ n3_ n4_; clear hb hs0 hs1))
                  have hr0 : w10.cell? ⟨gR, 0, none⟩ = _ := (blk_cell BKR.out 0).trans rfl
                  have hr1 : w10.cell? ⟨gR, 1, none⟩ = _ := (blk_cell BKR.out 1).trans rfl
                  have fr0 := blk_frozen BKR.out 0
                  have fr1 := blk_frozen BKR.out 1
                  have hW : w10.cell? ⟨gW, 1, none⟩ = some rv2 := (blk_cell BKW.out 1).trans rfl
                  have hS0 : w10.cell? ⟨w8.heap.size, 0, none⟩ = some (.int .u32 o1) := (blk_cell BKS.out 0).trans rfl
                  have hS1 : w10.cell? ⟨w8.heap.size, 1, none⟩ = some (.int .i64 o2) := (blk_cell BKS.out 1).trans rfl
                  go_region_held3 (fun w' => w'.cell? ⟨gW, 1, none⟩ = some rv2 ∧ w'.cell? ⟨w8.heap.size, 0, none⟩ = some (.int .u32 o1) ∧ w'.cell? ⟨w8.heap.size, 1, none⟩ = some (.int .i64 o2)) (first | exact ⟨(blk_cell BKW.out 1).trans rfl, (blk_cell BKS.out 0).trans rfl, (blk_cell BKS.out 1).trans rfl⟩ | exact ⟨(blk_cell (blk_far (blk_far BKW.out NWR _) NWR _) 1).trans rfl, (blk_cell (blk_far (blk_far BKS.out NSR _) NSR _) 0).trans rfl, (blk_cell (blk_far (blk_far BKS.out NSR _) NSR _) 1).trans rfl⟩) (fail)
                  go_wp2
                  refine bodyPost_ret (results_ctt rfl _ _ gR 27 #[.int .u32 o1, .int .i64 o2] (0, 0) _ rfl (by refine blk_drew ?_; refine blk_put (cs := #[.int .u32 o1, .int .i64 0]) ?_ 1 _ (by first | rfl | (simp [Int.emod_emod_of_dvd]; done)); refine blk_put (cs := #[.int .u32 0, .int .i64 0]) BKR.out 0 _ rfl) Try.underlying27 rfl (by kernel_rfl)) rfl ?_
                  exact ⟨rv2, rfl, Kd.R_drew (Kd.R_mono (Kd.R_far (p := ⟨gR, 1, none⟩) (Kd.R_far (p := ⟨gR, 0, none⟩) (Kd.R_types HO.out BKR.out (by decide)) (fun _ hk => hk.2) _) (fun _ hk => hk.2) _) (fun _ hk => trivial)), below_drew1 (below_set (below_set HB.out GR.out) GR.out)⟩
                · have NSR : w7.heap.size ≠ gR := Ne.symm NR3
                  have NWS : gW ≠ w7.heap.size := blk_ne BKW.out BK3.out (by decide)
                  obtain ⟨w9, hw9⟩ : ∃ W_, W_ = ((w8.setCell ⟨w7.heap.size, 0, none⟩ (Value.int IntKind.u32 o1)).setCell ⟨w7.heap.size, 1, none⟩ (Value.int IntKind.i64 o2)) := ⟨_, rfl⟩
                  rw [← hw9]
                  have n1_ := Aside0.mk (show w9.heap[gR]? = some (.cells #[.int .u32 0, .int .i64 0] 27 (0, 0)) from hw9 ▸ blk_far (blk_far BKR.out (Ne.symm NSR) _) (Ne.symm NSR) _)
                  have n2_ := Aside0.mk (show w9.heap[gW]? = some (.cells #[.slice A0 l0.length c0, rv2] 67 (0, 0)) from hw9 ▸ blk_far (blk_far BKW.out NWS _) NWS _)
                  have n3_ := Aside0.mk (show Below w.heap.size w w9 from hw9 ▸ below_set (below_set HB.out GS3) GS3)
                  have n4_ := Aside0.mk (show Kd.R (Kd.int .u32) 23 w9 w.heap.size (fun _ => True) rv2 [(a1 + 4 * (i0 % 4294967296)) % 4294967296, (wrap64 (64 * p2) + 4 * (i1 % 4294967296)) % 4294967296] from hw9 ▸ Kd.R_mono (Kd.R_far (p := ⟨w7.heap.size, 1, none⟩) (Kd.R_far (p := ⟨w7.heap.size, 0, none⟩) (Kd.R_types HO.out BK3.out (by decide)) (fun _ hk => hk.2) _) (fun _ hk => hk.2) _) (fun _ hk => trivial))
                  have n5_ := Aside0.mk (show w9.heap[w7.heap.size]? = some (.cells #[.int .u32 o1, .int .i64 o2] 27 (0, 0)) from hw9 ▸ blk_put (cs := #[.int .u32 o1, .int .i64 0]) (blk_put (cs := #[.int .u32 0, .int .i64 0]) BK3.out 0 _ rfl) 1 _ rfl)
                  have NWR : gW ≠ gR := blk_ne BKW.out BKR.out (by decide)
                  clear hw9 BKR BKW HB HO hz0 hz1 fz0 fz1 BKF
                  have BKR := n1_
                  have BKW := n2_
                  have HB := n3_
                  have HO := n4_
                  have BKS := n5_
                  clear n1_ n2_ n3_ n4_ n5_
                  have hs0 : w9.cell? ⟨w7.heap.size, 0, none⟩ = some (.int .u32 o1) := (blk_cell BKS.out 0).trans rfl
                  have hs1 : w9.cell? ⟨w7.heap.size, 1, none⟩ = some (.int .i64 o2) := (blk_cell BKS.out 1).trans rfl
                  go_wp2_with (first | (go_at_call 27; (with_reducible refine (pte_Leaf.calls o1 o2 ((Go.bits .and .u32 o1 14) != 0) _ rfl).mono ?_); rintro e w10 ⟨rfl, hb⟩; have n0_ := Aside0.mk (below_step HB.out hb); have n1_ := Aside0.mk (blk_below (g := gR) (o := .cells #[.int .u32 0, .int .i64 0] 27 (0, 0)) (by (with_reducible repeat (first | refine blk_drewN ?_ _ | refine blk_drew ?_ | refine blk_alloc ?_ _)); exact BKR.out) hb); have n2_ := Aside0.mk (blk_below (g := gW) (o := .cells #[.slice A0 l0.length c0, rv2] 67 (0, 0)) (by (with_reducible repeat (first | refine blk_drewN ?_ _ | refine blk_drew ?_ | refine blk_alloc ?_ _)); exact BKW.out) hb); have n3_ := Aside0.mk (Kd.R_below HO.out hb); have n4_ := Aside0.mk (blk_below (g := w7.heap.size) (o := .cells #[.int .u32 o1, .int .i64 o2] 27 (0, 0)) (by (with_reducible repeat (first | refine blk_drewN ?_ _ | refine blk_drew ?_ | refine blk_alloc ?_ _)); exact BKS.out) hb); clear HB BKR BKW HO BKS; have HB := n0_; have BKR := n1_; have BKW := n2_; have HO := n3_; have BKS := n4_; clear n0_ n1_ n2_ n3_ n4_; clear hb hs0 hs1))
                  have hr0 : w10.cell? ⟨gR, 0, none⟩ = _ := (blk_cell BKR.out 0).trans rfl
                  have hr1 : w10.cell? ⟨gR, 1, none⟩ = _ := (blk_cell BKR.out 1).trans rfl
                  have fr0 := blk_frozen BKR.out 0
                  have fr1 := blk_frozen BKR.out 1
                  have hW : w10.cell? ⟨gW, 1, none⟩ = some rv2 := (blk_cell BKW.out 1).trans rfl
                  have hS0 : w10.cell? ⟨w7.heap.size, 0, none⟩ = some (.int .u32 o1) := (blk_cell BKS.out 0).trans rfl
                  have hS1 : w10.cell? ⟨w7.heap.size, 1, none⟩ = some (.int .i64 o2) := (blk_cell BKS.out 1).trans rfl
                  go_region_held3 (fun w' => w'.cell? ⟨gW, 1, none⟩ = some rv2 ∧ w'.cell? ⟨w7.heap.size, 0, none⟩ = some (.int .u32 o1) ∧ w'.cell? ⟨w7.heap.size, 1, none⟩ = some (.int .i64 o2)) (first | exact ⟨(blk_cell BKW.out 1).trans rfl, (blk_cell BKS.out 0).trans rfl, (blk_cell BKS.out 1).trans rfl⟩ | exact ⟨(blk_cell (blk_far (blk_far BKW.out NWR _) NWR _) 1).trans rfl, (blk_cell (blk_far (blk_far BKS.out NSR _) NSR _) 0).trans rfl, (blk_cell (blk_far (blk_far BKS.out NSR _) NSR _) 1).trans rfl⟩) (fail)
                  go_wp2
                  refine bodyPost_ret (results_ctt rfl _ _ gR 27 #[.int .u32 o1, .int .i64 o2] (0, 0) _ rfl (by refine blk_drew ?_; refine blk_put (cs := #[.int .u32 o1, .int .i64 0]) ?_ 1 _ (by first | rfl | (simp [Int.emod_emod_of_dvd]; done)); refine blk_put (cs := #[.int .u32 0, .int .i64 0]) BKR.out 0 _ rfl) Try.underlying27 rfl (by kernel_rfl)) rfl ?_
                  exact ⟨rv2, rfl, Kd.R_drew (Kd.R_mono (Kd.R_far (p := ⟨gR, 1, none⟩) (Kd.R_far (p := ⟨gR, 0, none⟩) (Kd.R_types HO.out BKR.out (by decide)) (fun _ hk => hk.2) _) (fun _ hk => hk.2) _) (fun _ hk => trivial)), below_drew1 (below_set (below_set HB.out GR.out) GR.out)⟩
                · have NSR : w6.heap.size ≠ gR := Ne.symm NR2
                  have NWS : gW ≠ w6.heap.size := blk_ne BKW.out BK3.out (by decide)
                  obtain ⟨w9, hw9⟩ : ∃ W_, W_ = ((w8.setCell ⟨w6.heap.size, 0, none⟩ (Value.int IntKind.u32 o1)).setCell ⟨w6.heap.size, 1, none⟩ (Value.int IntKind.i64 o2)) := ⟨_, rfl⟩
                  rw [← hw9]
                  have n1_ := Aside0.mk (show w9.heap[gR]? = some (.cells #[.int .u32 0, .int .i64 0] 27 (0, 0)) from hw9 ▸ blk_far (blk_far BKR.out (Ne.symm NSR) _) (Ne.symm NSR) _)
                  have n2_ := Aside0.mk (show w9.heap[gW]? = some (.cells #[.slice A0 l0.length c0, rv2] 67 (0, 0)) from hw9 ▸ blk_far (blk_far BKW.out NWS _) NWS _)
                  have n3_ := Aside0.mk (show Below w.heap.size w w9 from hw9 ▸ below_set (below_set HB.out GS2) GS2)
                  have n4_ := Aside0.mk (show Kd.R (Kd.int .u32) 23 w9 w.heap.size (fun _ => True) rv2 [(a1 + 4 * (i0 % 4294967296)) % 4294967296, (wrap64 (64 * p2) + 4 * (i1 % 4294967296)) % 4294967296] from hw9 ▸ Kd.R_mono (Kd.R_far (p := ⟨w6.heap.size, 1, none⟩) (Kd.R_far (p := ⟨w6.heap.size, 0, none⟩) (Kd.R_types HO.out BK3.out (by decide)) (fun _ hk => hk.2) _) (fun _ hk => hk.2) _) (fun _ hk => trivial))
                  have n5_ := Aside0.mk (show w9.heap[w6.heap.size]? = some (.cells #[.int .u32 o1, .int .i64 o2] 27 (0, 0)) from hw9 ▸ blk_put (cs := #[.int .u32 o1, .int .i64 0]) (blk_put (cs := #[.int .u32 0, .int .i64 0]) BK3.out 0 _ rfl) 1 _ rfl)
                  have NWR : gW ≠ gR := blk_ne BKW.out BKR.out (by decide)
                  clear hw9 BKR BKW HB HO hz0 hz1 fz0 fz1 BKF
                  have BKR := n1_
                  have BKW := n2_
                  have HB := n3_
                  have HO := n4_
                  have BKS := n5_
                  clear n1_ n2_ n3_ n4_ n5_
                  have hs0 : w9.cell? ⟨w6.heap.size, 0, none⟩ = some (.int .u32 o1) := (blk_cell BKS.out 0).trans rfl
                  have hs1 : w9.cell? ⟨w6.heap.size, 1, none⟩ = some (.int .i64 o2) := (blk_cell BKS.out 1).trans rfl
                  go_wp2_with (first | (go_at_call 27; (with_reducible refine (pte_Leaf.calls o1 o2 ((Go.bits .and .u32 o1 14) != 0) _ rfl).mono ?_); rintro e w10 ⟨rfl, hb⟩; have n0_ := Aside0.mk (below_step HB.out hb); have n1_ := Aside0.mk (blk_below (g := gR) (o := .cells #[.int .u32 0, .int .i64 0] 27 (0, 0)) (by (with_reducible repeat (first | refine blk_drewN ?_ _ | refine blk_drew ?_ | refine blk_alloc ?_ _)); exact BKR.out) hb); have n2_ := Aside0.mk (blk_below (g := gW) (o := .cells #[.slice A0 l0.length c0, rv2] 67 (0, 0)) (by (with_reducible repeat (first | refine blk_drewN ?_ _ | refine blk_drew ?_ | refine blk_alloc ?_ _)); exact BKW.out) hb); have n3_ := Aside0.mk (Kd.R_below HO.out hb); have n4_ := Aside0.mk (blk_below (g := w6.heap.size) (o := .cells #[.int .u32 o1, .int .i64 o2] 27 (0, 0)) (by (with_reducible repeat (first | refine blk_drewN ?_ _ | refine blk_drew ?_ | refine blk_alloc ?_ _)); exact BKS.out) hb); clear HB BKR BKW HO BKS; have HB := n0_; have BKR := n1_; have BKW := n2_; have HO := n3_; have BKS := n4_; clear n0_ n1_ n2_ n3_ n4_; clear hb hs0 hs1))
                  have hr0 : w10.cell? ⟨gR, 0, none⟩ = _ := (blk_cell BKR.out 0).trans rfl
                  have hr1 : w10.cell? ⟨gR, 1, none⟩ = _ := (blk_cell BKR.out 1).trans rfl
                  have fr0 := blk_frozen BKR.out 0
                  have fr1 := blk_frozen BKR.out 1
                  have hW : w10.cell? ⟨gW, 1, none⟩ = some rv2 := (blk_cell BKW.out 1).trans rfl
                  have hS0 : w10.cell? ⟨w6.heap.size, 0, none⟩ = some (.int .u32 o1) := (blk_cell BKS.out 0).trans rfl
                  have hS1 : w10.cell? ⟨w6.heap.size, 1, none⟩ = some (.int .i64 o2) := (blk_cell BKS.out 1).trans rfl
                  go_region_held3 (fun w' => w'.cell? ⟨gW, 1, none⟩ = some rv2 ∧ w'.cell? ⟨w6.heap.size, 0, none⟩ = some (.int .u32 o1) ∧ w'.cell? ⟨w6.heap.size, 1, none⟩ = some (.int .i64 o2)) (first | exact ⟨(blk_cell BKW.out 1).trans rfl, (blk_cell BKS.out 0).trans rfl, (blk_cell BKS.out 1).trans rfl⟩ | exact ⟨(blk_cell (blk_far (blk_far BKW.out NWR _) NWR _) 1).trans rfl, (blk_cell (blk_far (blk_far BKS.out NSR _) NSR _) 0).trans rfl, (blk_cell (blk_far (blk_far BKS.out NSR _) NSR _) 1).trans rfl⟩) (fail)
                  go_wp2
                  refine bodyPost_ret (results_ctt rfl _ _ gR 27 #[.int .u32 o1, .int .i64 o2] (0, 0) _ rfl (by refine blk_drew ?_; refine blk_put (cs := #[.int .u32 o1, .int .i64 0]) ?_ 1 _ (by first | rfl | (simp [Int.emod_emod_of_dvd]; done)); refine blk_put (cs := #[.int .u32 0, .int .i64 0]) BKR.out 0 _ rfl) Try.underlying27 rfl (by kernel_rfl)) rfl ?_
                  exact ⟨rv2, rfl, Kd.R_drew (Kd.R_mono (Kd.R_far (p := ⟨gR, 1, none⟩) (Kd.R_far (p := ⟨gR, 0, none⟩) (Kd.R_types HO.out BKR.out (by decide)) (fun _ hk => hk.2) _) (fun _ hk => hk.2) _) (fun _ hk => trivial)), below_drew1 (below_set (below_set HB.out GR.out) GR.out)⟩
          · rw [if_neg c5] at h
            simp only [Option.some.injEq, Prod.mk.injEq] at h
            obtain ⟨rfl, rfl, rfl, rfl⟩ := h
            obtain ⟨o1, o2, hp⟩ : ∃ o1 o2 : Int, s2 = 0 → pte_Of.f s1 = some (o1, o2) := ⟨0, 0, fun h => absurd h c5⟩
            have c5b := decide_eq_false c5
            go_enter Try.func25, Try.ntmps25
            go_wp2_with (first | ((with_reducible refine gate_dst (N := 6) rfl ?_); refine box_event ?hg (N := 6) ?hd (cs := #[.int .u32 0, .int .i64 0]) (t := 27) ?hr ?_; (case hd => rfl); (case hg => rfl); (case hr => first | (go_simp; done) | (go_simp; rfl)); intro gR hg w1 hbox hb; have n0_ := Aside0.mk (below_step HB.out hb); have n1_ := Aside0.mk (hbox); have n2_ := Aside0.mk ((by rw [hg]; exact below_size HB.out : w.heap.size ≤ gR)); clear HB; have HB := n0_; have BKR := n1_; have GR := n2_; clear n0_ n1_ n2_; clear hb hbox hg) | ((with_reducible refine gate_dst (N := 15) rfl ?_); refine box_event ?hg (N := 15) ?hd (cs := #[.slice A0 l0.length c0, .slice none 0 0]) (t := 67) ?hr ?_; (case hd => rfl); (case hg => rfl); (case hr => first | (go_simp; done) | (go_simp; rfl)); intro gW hg w2 hbox hb; have n0_ := Aside0.mk (below_step (by repeat (first | (with_reducible first | exact HB.out | apply below_alloc | apply pw_below_drewN | apply below_drew1) | exact HB.out)) hb); have n1_ := Aside0.mk (blk_below (g := gR) (o := .cells #[.int .u32 0, .int .i64 0] 27 (0, 0)) (by (with_reducible repeat (first | refine blk_drewN ?_ _ | refine blk_drew ?_ | refine blk_alloc ?_ _)); exact BKR.out) hb); have n2_ := Aside0.mk (hbox); have n3_ := Aside0.mk ((by rw [hg]; exact below_size (by repeat (first | (with_reducible first | exact HB.out | apply below_alloc | apply pw_below_drewN | apply below_drew1) | exact HB.out)) : w.heap.size ≤ gW)); clear HB BKR; have HB := n0_; have BKR := n1_; have BKW := n2_; have GW := n3_; clear n0_ n1_ n2_ n3_; clear hb hbox hg) | (go_at_call 40; (with_reducible refine (pte_Index.calls a2 0 i0 _ I0.out).mono ?_); rintro e w3 ⟨rfl, hb⟩; have n0_ := Aside0.mk (below_step (by repeat (first | (with_reducible first | exact HB.out | apply below_alloc | apply pw_below_drewN | apply below_drew1) | exact HB.out)) hb); have n1_ := Aside0.mk (blk_below (g := gR) (o := .cells #[.int .u32 0, .int .i64 0] 27 (0, 0)) (by (with_reducible repeat (first | refine blk_drewN ?_ _ | refine blk_drew ?_ | refine blk_alloc ?_ _)); exact BKR.out) hb); have n2_ := Aside0.mk (blk_below (g := gW) (o := .cells #[.slice A0 l0.length c0, .slice none 0 0] 67 (0, 0)) (by (with_reducible repeat (first | refine blk_drewN ?_ _ | refine blk_drew ?_ | refine blk_alloc ?_ _)); exact BKW.out) hb); clear HB BKR BKW; have HB := n0_; have BKR := n1_; have BKW := n2_; clear n0_ n1_ n2_; clear hb) | (go_at_call 39; (with_reducible refine (walk_Walk.entry k gW gR gR gR #[.int .u32 0, .int .i64 0] #[.int .u32 0, .int .i64 0] #[.int .u32 0, .int .i64 0] A0 c0 l0 _ q1 0 p1 p2 (.slice none 0 0) [] _ w ?s1 HC0.out ?s2 ?s3 GW.out ?s4 ?s5 ?s8 ?s6 (by simp) (by have h_ := RD.out; first | exact h_ | (simp only [Int.add_emod_emod, Int.emod_add_emod] at h_ ⊢; exact h_)) ?s7).mono ?_); (case s1 => exact (Kd.C_below HR0.out (by repeat (first | (with_reducible first | exact HB.out | apply below_alloc | apply pw_below_drewN | apply below_drew1) | exact HB.out)))); (case s2 => exact (by repeat (first | (with_reducible first | exact HB.out | apply below_alloc | apply pw_below_drewN | apply below_drew1) | exact HB.out))); (case s3 => ((with_reducible repeat (first | refine blk_drewN ?_ _ | refine blk_drew ?_ | refine blk_alloc ?_ _)); exact BKW.out)); (case s4 => ((with_reducible repeat (first | refine blk_drewN ?_ _ | refine blk_drew ?_ | refine blk_alloc ?_ _)); exact BKR.out)); (case s5 => ((with_reducible repeat (first | refine blk_drewN ?_ _ | refine blk_drew ?_ | refine blk_alloc ?_ _)); exact BKR.out)); (case s8 => ((with_reducible repeat (first | refine blk_drewN ?_ _ | refine blk_drew ?_ | refine blk_alloc ?_ _)); exact BKR.out)); (case s6 => exact Kd.R_nil _ _ _ _ _); (case s7 => exact fun _ => PO.out); rintro e w4 ⟨rfl, hb, rv, hbW, hbR, _, _, hR⟩; have n0_ := Aside0.mk (hb); have n1_ := Aside0.mk (hbR); have n2_ := Aside0.mk (hbW); have n3_ := Aside0.mk (hR); clear HB BKR BKW; have HB := n0_; have BKR := n1_; have BKW := n2_; have HO := n3_; clear n0_ n1_ n2_ n3_; clear hb hbW hbR hR; (rw [if_pos rfl] at HO); (simp only [List.nil_append] at HO)) | ((with_reducible refine gate_dst (N := 10) rfl ?_); refine box_event ?hg (N := 10) ?hd (cs := #[.int .u32 0, .int .i64 0]) (t := 27) ?hr ?_; (case hd => rfl); (case hg => rfl); (case hr => first | (go_simp; done) | (go_simp; rfl)); intro gF hg w5 hbox hb; have n6_0 := Aside0.mk ((by rw [hg]; have := blk_lt BKR.out; omega : gR ≠ gF)); have n0_ := Aside0.mk (below_step (by repeat (first | (with_reducible first | exact HB.out | apply below_alloc | apply pw_below_drewN | apply below_drew1) | exact HB.out)) hb); have n1_ := Aside0.mk (blk_below (g := gR) (o := .cells #[.int .u32 0, .int .i64 0] 27 (0, 0)) (by (with_reducible repeat (first | refine blk_drewN ?_ _ | refine blk_drew ?_ | refine blk_alloc ?_ _)); exact BKR.out) hb); have n2_ := Aside0.mk (blk_below (g := gW) (o := .cells #[.slice A0 l0.length c0, rv] 67 (0, 0)) (by (with_reducible repeat (first | refine blk_drewN ?_ _ | refine blk_drew ?_ | refine blk_alloc ?_ _)); exact BKW.out) hb); have n3_ := Aside0.mk (Kd.R_below (by (with_reducible repeat (first | apply Kd.R_alloc | apply Kd.R_drewN | apply Kd.R_drew)); exact HO.out) hb); have n4_ := Aside0.mk (hbox); have n5_ := Aside0.mk ((by rw [hg]; exact below_size (by repeat (first | (with_reducible first | exact HB.out | apply below_alloc | apply pw_below_drewN | apply below_drew1) | exact HB.out)) : w.heap.size ≤ gF)); clear HB BKR BKW HO; have HB := n0_; have BKR := n1_; have BKW := n2_; have HO := n3_; have BKF := n4_; have GF := n5_; have NRF := n6_0; clear n6_0; clear n0_ n1_ n2_ n3_ n4_ n5_; clear hb hbox hg; have hf0 : w5.cell? ⟨gF, 0, none⟩ = _ := (blk_cell BKF.out 0).trans rfl; have fhf0 := blk_frozen BKF.out 0; have hf1 : w5.cell? ⟨gF, 1, none⟩ = _ := (blk_cell BKF.out 1).trans rfl; have fhf1 := blk_frozen BKF.out 1) | (go_at_call 27; (with_reducible refine (pte_Leaf.calls p1 p2 ((Go.bits .and .u32 p1 14) != 0) _ rfl).mono ?_); rintro e w6 ⟨rfl, hb⟩; have NWF : gW ≠ gF := blk_ne BKW.out BKF.out (by decide); have NWR : gW ≠ gR := blk_ne BKW.out BKR.out (by decide); have NRF_ := NRF.out; have n0_ := Aside0.mk (below_step (below_set (below_set HB.out GF.out) GF.out) hb); have n1_ := Aside0.mk (blk_below (g := gR) (o := .cells #[.int .u32 0, .int .i64 0] 27 (0, 0)) (blk_far (blk_far BKR.out NRF_ _) NRF_ _) hb); have n2_ := Aside0.mk (blk_below (g := gW) (o := .cells #[.slice A0 l0.length c0, rv] 67 (0, 0)) (blk_far (blk_far BKW.out NWF _) NWF _) hb); have n3_ := Aside0.mk (Kd.R_below (Kd.R_mono (ok' := fun _ => True) (Kd.R_far (p := ⟨gF, 1, none⟩) (Kd.R_far (p := ⟨gF, 0, none⟩) (Kd.R_types HO.out BKF.out (by decide)) (fun _ hk => hk.2) _) (fun _ hk => hk.2) _) (fun _ hk => trivial)) hb); have n4_ := Aside0.mk (blk_below (g := gF) (o := .cells #[.int .u32 p1, .int .i64 p2] 27 (0, 0)) (blk_put (cs := #[.int .u32 p1, .int .i64 0]) (blk_put (cs := #[.int .u32 0, .int .i64 0]) BKF.out 0 _ rfl) 1 _ rfl) hb); clear HB BKR BKW HO BKF; have HB := n0_; have BKR := n1_; have BKW := n2_; have HO := n3_; have BKF := n4_; clear n0_ n1_ n2_ n3_ n4_; clear hb hf0 hf1 fhf0 fhf1))
            have hf0 : w6.cell? ⟨gF, 0, none⟩ = some (.int .u32 p1) := (blk_cell BKF.out 0).trans rfl
            have hf1 : w6.cell? ⟨gF, 1, none⟩ = some (.int .i64 p2) := (blk_cell BKF.out 1).trans rfl
            have NRF_ := NRF.out
            have AT1E : IntKind.u32.wrap (IntKind.u32.wrap (IntKind.i64.wrap (64 * p2)) + IntKind.u32.wrap (4 * IntKind.u32.wrap i1)) = (wrap64 (64 * p2) + 4 * (i1 % 4294967296)) % 4294967296 := by simp only [IntKind.wrap_u32, i64_w]; omega
            go_region_held3 (fun w' => w'.cell? ⟨gF, 1, none⟩ = some (.int .i64 p2)) (first | exact (blk_cell BKF.out 1).trans rfl | exact (blk_cell (blk_alloc BKF.out _) 1).trans rfl | exact (blk_cell (blk_far (blk_far BKF.out NF2 _) NF2 _) 1).trans rfl | exact (blk_cell (blk_far (blk_far BKF.out NF3 _) NF3 _) 1).trans rfl | exact (blk_cell (blk_far (blk_far (blk_alloc BKF.out _) (Nat.ne_of_lt (blk_lt BKF.out)) _) (Nat.ne_of_lt (blk_lt BKF.out)) _) 1).trans rfl) (first | (go_at_call 40; with_reducible refine (pte_Index.calls a2 1 i1 _ I1.out).mono ?_; rintro e w7 ⟨rfl, hb⟩; (first | (have BK2 : Aside0 (w7.heap[w6.heap.size]? = some (.cells #[.int .u32 0, .int .i64 0] 27 (0, 0))) := Aside0.mk (blk_below (blk_new w6.drew _) hb); have NF2 : gF ≠ w6.heap.size := Nat.ne_of_lt (blk_lt BKF.out)) | skip); have NR2 : gR ≠ w6.heap.size := Nat.ne_of_lt (blk_lt BKR.out); have GS2 : w.heap.size ≤ w6.heap.size := below_size HB.out; have n0_ := Aside0.mk (below_step (by repeat (first | (with_reducible first | exact HB.out | apply below_alloc | apply pw_below_drewN | apply below_drew1) | exact HB.out)) hb); have n1_ := Aside0.mk (blk_below (g := gR) (o := .cells #[.int .u32 0, .int .i64 0] 27 (0, 0)) (by (with_reducible repeat (first | refine blk_drewN ?_ _ | refine blk_drew ?_ | refine blk_alloc ?_ _)); exact BKR.out) hb); have n2_ := Aside0.mk (blk_below (g := gW) (o := .cells #[.slice A0 l0.length c0, rv] 67 (0, 0)) (by (with_reducible repeat (first | refine blk_drewN ?_ _ | refine blk_drew ?_ | refine blk_alloc ?_ _)); exact BKW.out) hb); have n3_ := Aside0.mk (blk_below (g := gF) (o := .cells #[.int .u32 p1, .int .i64 p2] 27 (0, 0)) (by (with_reducible repeat (first | refine blk_drewN ?_ _ | refine blk_drew ?_ | refine blk_alloc ?_ _)); exact BKF.out) hb); have n4_ := Aside0.mk (Kd.R_below (by (with_reducible repeat (first | apply Kd.R_alloc | apply Kd.R_drewN | apply Kd.R_drew)); exact HO.out) hb); clear HB BKR BKW BKF HO; have HB := n0_; have BKR := n1_; have BKW := n2_; have BKF := n3_; have HO := n4_; clear n0_ n1_ n2_ n3_ n4_; clear hb) | (go_at_call 39; have NF3 := Nat.ne_of_lt (blk_lt BKF.out); have NR3 : gR ≠ w7.heap.size := Nat.ne_of_lt (blk_lt BKR.out); have GS3 : w.heap.size ≤ w7.heap.size := below_size HB.out; (try rw [AT1E]); (first | (with_reducible refine (walk_Walk.entry k gW gR _ gF #[.int .u32 0, .int .i64 0] _ #[.int .u32 p1, .int .i64 p2] A0 c0 l0 _ s1 s2 o1 o2 rv [(a1 + 4 * (i0 % 4294967296)) % 4294967296] _ w ?s1 HC0.out ?s2 ?s3 GW.out ?s4 BK2.out ?s8 ?s6 (by simp) RE.out ?s7).mono ?_) | (with_reducible refine (walk_Walk.entry k gW gR _ gF #[.int .u32 0, .int .i64 0] _ #[.int .u32 p1, .int .i64 p2] A0 c0 l0 _ s1 s2 o1 o2 rv [(a1 + 4 * (i0 % 4294967296)) % 4294967296] _ w ?s1 HC0.out ?s2 ?s3 GW.out ?s4 (blk_new _ _) ?s8 ?s6 (by simp) RE.out ?s7).mono ?_) | (with_reducible refine (walk_Walk.entry k gW gR gR gF #[.int .u32 0, .int .i64 0] _ #[.int .u32 p1, .int .i64 p2] A0 c0 l0 _ s1 s2 o1 o2 rv [(a1 + 4 * (i0 % 4294967296)) % 4294967296] _ w ?s1 HC0.out ?s2 ?s3 GW.out ?s4 (by (with_reducible repeat (first | refine blk_drewN ?_ _ | refine blk_drew ?_ | refine blk_alloc ?_ _)); exact BKR.out) ?s8 ?s6 (by simp) RE.out ?s7).mono ?_)); (case s1 => exact (Kd.C_below HR0.out (by repeat (first | (with_reducible first | exact HB.out | apply below_alloc | apply pw_below_drewN | apply below_drew1) | exact HB.out)))); (case s2 => exact (by repeat (first | (with_reducible first | exact HB.out | apply below_alloc | apply pw_below_drewN | apply below_drew1) | exact HB.out))); (case s3 => ((with_reducible repeat (first | refine blk_drewN ?_ _ | refine blk_drew ?_ | refine blk_alloc ?_ _)); exact BKW.out)); (case s4 => ((with_reducible repeat (first | refine blk_drewN ?_ _ | refine blk_drew ?_ | refine blk_alloc ?_ _)); exact BKR.out)); (case s8 => ((with_reducible repeat (first | refine blk_drewN ?_ _ | refine blk_drew ?_ | refine blk_alloc ?_ _)); exact BKF.out)); (case s6 => ((with_reducible repeat (first | apply Kd.R_alloc | apply Kd.R_drewN | apply Kd.R_drew)); exact HO.out)); (case s7 => exact hp); rintro e w8 ⟨rfl, hb, rv2, hbW, hbR, hb2, hbF, hR⟩; have n0_ := Aside0.mk (hb); have n1_ := Aside0.mk (hbR); have n2_ := Aside0.mk (hbW); have n3_ := Aside0.mk (hR); have n4_ := Aside0.mk (hb2); have n5_ := Aside0.mk (hbF); clear HB BKR BKW HO BKF; have HB := n0_; have BKR := n1_; have BKW := n2_; have HO := n3_; have BK3 := n4_; have BKF := n5_; clear n0_ n1_ n2_ n3_ n4_ n5_; clear hb hbW hbR hR hb2 hbF; have hz0 : w8.cell? ⟨_, 0, none⟩ = some (.int .u32 0) := (blk_cell BK3.out 0).trans rfl; have hz1 : w8.cell? ⟨_, 1, none⟩ = some (.int .i64 0) := (blk_cell BK3.out 1).trans rfl; have fz0 := blk_frozen BK3.out 0; have fz1 := blk_frozen BK3.out 1; (try rw [if_neg c5] at HO)))
            · have NSR : w8.heap.size ≠ gR := Ne.symm (Nat.ne_of_lt (blk_lt BKR.out))
              obtain ⟨w9, hw9⟩ : ∃ W_, W_ = (w8.alloc (.cells #[.int .u32 0, .int .i64 0] 27 (0, 0))) := ⟨_, rfl⟩
              rw [← hw9]
              have n1_ := Aside0.mk (show w9.heap[gR]? = some (.cells #[.int .u32 0, .int .i64 0] 27 (0, 0)) from hw9 ▸ blk_alloc BKR.out _)
              have n2_ := Aside0.mk (show w9.heap[gW]? = some (.cells #[.slice A0 l0.length c0, rv2] 67 (0, 0)) from hw9 ▸ blk_alloc BKW.out _)
              have n3_ := Aside0.mk (show Below w.heap.size w w9 from hw9 ▸ below_alloc HB.out _)
              have n4_ := Aside0.mk (show Kd.R (Kd.int .u32) 23 w9 w.heap.size (fun _ => True) rv2 [(a1 + 4 * (i0 % 4294967296)) % 4294967296] from hw9 ▸ Kd.R_alloc HO.out _)
              have n5_ := Aside0.mk (show w9.heap[w8.heap.size]? = some (.cells #[.int .u32 0, .int .i64 0] 27 (0, 0)) from hw9 ▸ blk_new w8 _)
              have NWR : gW ≠ gR := blk_ne BKW.out BKR.out (by decide)
              clear hw9 BKR BKW HB HO hz0 hz1 fz0 fz1 BKF
              have BKR := n1_
              have BKW := n2_
              have HB := n3_
              have HO := n4_
              have BKS := n5_
              clear n1_ n2_ n3_ n4_ n5_
              have hs0 : w9.cell? ⟨w8.heap.size, 0, none⟩ = some (.int .u32 0) := (blk_cell BKS.out 0).trans rfl
              have hs1 : w9.cell? ⟨w8.heap.size, 1, none⟩ = some (.int .i64 0) := (blk_cell BKS.out 1).trans rfl
              go_wp2
              have hr0 : w9.cell? ⟨gR, 0, none⟩ = _ := (blk_cell BKR.out 0).trans rfl
              have hr1 : w9.cell? ⟨gR, 1, none⟩ = _ := (blk_cell BKR.out 1).trans rfl
              have fr0 := blk_frozen BKR.out 0
              have fr1 := blk_frozen BKR.out 1
              have hW : w9.cell? ⟨gW, 1, none⟩ = some rv2 := (blk_cell BKW.out 1).trans rfl
              go_region_held3 (fun w' => w'.cell? ⟨gW, 1, none⟩ = some rv2) (first | exact (blk_cell BKW.out 1).trans rfl | exact (blk_cell (blk_far (blk_far BKW.out NWR _) NWR _) 1).trans rfl) (fail)
              go_wp2
              refine bodyPost_ret (results_ctt rfl _ _ gR 27 #[.int .u32 0, .int .i64 0] (0, 0) _ rfl (by refine blk_drew ?_; refine blk_put (cs := #[.int .u32 0, .int .i64 0]) ?_ 1 _ (by first | rfl | (simp [Int.emod_emod_of_dvd]; done)); refine blk_put (cs := #[.int .u32 0, .int .i64 0]) BKR.out 0 _ rfl) Try.underlying27 rfl (by kernel_rfl)) rfl ?_
              exact ⟨rv2, rfl, Kd.R_drew (Kd.R_mono (Kd.R_far (p := ⟨gR, 1, none⟩) (Kd.R_far (p := ⟨gR, 0, none⟩) (Kd.R_types HO.out BKR.out (by decide)) (fun _ hk => hk.2) _) (fun _ hk => hk.2) _) (fun _ hk => trivial)), below_drew1 (below_set (below_set HB.out GR.out) GR.out)⟩
            · have NSR : w7.heap.size ≠ gR := Ne.symm NR3
              have NWS : gW ≠ w7.heap.size := blk_ne BKW.out BK3.out (by decide)
              obtain ⟨w9, hw9⟩ : ∃ W_, W_ = ((w8.setCell ⟨w7.heap.size, 0, none⟩ (Value.int IntKind.u32 0)).setCell ⟨w7.heap.size, 1, none⟩ (Value.int IntKind.i64 0)) := ⟨_, rfl⟩
              rw [← hw9]
              have n1_ := Aside0.mk (show w9.heap[gR]? = some (.cells #[.int .u32 0, .int .i64 0] 27 (0, 0)) from hw9 ▸ blk_far (blk_far BKR.out (Ne.symm NSR) _) (Ne.symm NSR) _)
              have n2_ := Aside0.mk (show w9.heap[gW]? = some (.cells #[.slice A0 l0.length c0, rv2] 67 (0, 0)) from hw9 ▸ blk_far (blk_far BKW.out NWS _) NWS _)
              have n3_ := Aside0.mk (show Below w.heap.size w w9 from hw9 ▸ below_set (below_set HB.out GS3) GS3)
              have n4_ := Aside0.mk (show Kd.R (Kd.int .u32) 23 w9 w.heap.size (fun _ => True) rv2 [(a1 + 4 * (i0 % 4294967296)) % 4294967296] from hw9 ▸ Kd.R_mono (Kd.R_far (p := ⟨w7.heap.size, 1, none⟩) (Kd.R_far (p := ⟨w7.heap.size, 0, none⟩) (Kd.R_types HO.out BK3.out (by decide)) (fun _ hk => hk.2) _) (fun _ hk => hk.2) _) (fun _ hk => trivial))
              have n5_ := Aside0.mk (show w9.heap[w7.heap.size]? = some (.cells #[.int .u32 0, .int .i64 0] 27 (0, 0)) from hw9 ▸ blk_put (cs := #[.int .u32 0, .int .i64 0]) (blk_put (cs := #[.int .u32 0, .int .i64 0]) BK3.out 0 _ rfl) 1 _ rfl)
              have NWR : gW ≠ gR := blk_ne BKW.out BKR.out (by decide)
              clear hw9 BKR BKW HB HO hz0 hz1 fz0 fz1 BKF
              have BKR := n1_
              have BKW := n2_
              have HB := n3_
              have HO := n4_
              have BKS := n5_
              clear n1_ n2_ n3_ n4_ n5_
              have hs0 : w9.cell? ⟨w7.heap.size, 0, none⟩ = some (.int .u32 0) := (blk_cell BKS.out 0).trans rfl
              have hs1 : w9.cell? ⟨w7.heap.size, 1, none⟩ = some (.int .i64 0) := (blk_cell BKS.out 1).trans rfl
              go_wp2
              have hr0 : w9.cell? ⟨gR, 0, none⟩ = _ := (blk_cell BKR.out 0).trans rfl
              have hr1 : w9.cell? ⟨gR, 1, none⟩ = _ := (blk_cell BKR.out 1).trans rfl
              have fr0 := blk_frozen BKR.out 0
              have fr1 := blk_frozen BKR.out 1
              have hW : w9.cell? ⟨gW, 1, none⟩ = some rv2 := (blk_cell BKW.out 1).trans rfl
              go_region_held3 (fun w' => w'.cell? ⟨gW, 1, none⟩ = some rv2) (first | exact (blk_cell BKW.out 1).trans rfl | exact (blk_cell (blk_far (blk_far BKW.out NWR _) NWR _) 1).trans rfl) (fail)
              go_wp2
              refine bodyPost_ret (results_ctt rfl _ _ gR 27 #[.int .u32 0, .int .i64 0] (0, 0) _ rfl (by refine blk_drew ?_; refine blk_put (cs := #[.int .u32 0, .int .i64 0]) ?_ 1 _ (by first | rfl | (simp [Int.emod_emod_of_dvd]; done)); refine blk_put (cs := #[.int .u32 0, .int .i64 0]) BKR.out 0 _ rfl) Try.underlying27 rfl (by kernel_rfl)) rfl ?_
              exact ⟨rv2, rfl, Kd.R_drew (Kd.R_mono (Kd.R_far (p := ⟨gR, 1, none⟩) (Kd.R_far (p := ⟨gR, 0, none⟩) (Kd.R_types HO.out BKR.out (by decide)) (fun _ hk => hk.2) _) (fun _ hk => hk.2) _) (fun _ hk => trivial)), below_drew1 (below_set (below_set HB.out GR.out) GR.out)⟩
            · have NSR : w6.heap.size ≠ gR := Ne.symm NR2
              have NWS : gW ≠ w6.heap.size := blk_ne BKW.out BK3.out (by decide)
              obtain ⟨w9, hw9⟩ : ∃ W_, W_ = ((w8.setCell ⟨w6.heap.size, 0, none⟩ (Value.int IntKind.u32 0)).setCell ⟨w6.heap.size, 1, none⟩ (Value.int IntKind.i64 0)) := ⟨_, rfl⟩
              rw [← hw9]
              have n1_ := Aside0.mk (show w9.heap[gR]? = some (.cells #[.int .u32 0, .int .i64 0] 27 (0, 0)) from hw9 ▸ blk_far (blk_far BKR.out (Ne.symm NSR) _) (Ne.symm NSR) _)
              have n2_ := Aside0.mk (show w9.heap[gW]? = some (.cells #[.slice A0 l0.length c0, rv2] 67 (0, 0)) from hw9 ▸ blk_far (blk_far BKW.out NWS _) NWS _)
              have n3_ := Aside0.mk (show Below w.heap.size w w9 from hw9 ▸ below_set (below_set HB.out GS2) GS2)
              have n4_ := Aside0.mk (show Kd.R (Kd.int .u32) 23 w9 w.heap.size (fun _ => True) rv2 [(a1 + 4 * (i0 % 4294967296)) % 4294967296] from hw9 ▸ Kd.R_mono (Kd.R_far (p := ⟨w6.heap.size, 1, none⟩) (Kd.R_far (p := ⟨w6.heap.size, 0, none⟩) (Kd.R_types HO.out BK3.out (by decide)) (fun _ hk => hk.2) _) (fun _ hk => hk.2) _) (fun _ hk => trivial))
              have n5_ := Aside0.mk (show w9.heap[w6.heap.size]? = some (.cells #[.int .u32 0, .int .i64 0] 27 (0, 0)) from hw9 ▸ blk_put (cs := #[.int .u32 0, .int .i64 0]) (blk_put (cs := #[.int .u32 0, .int .i64 0]) BK3.out 0 _ rfl) 1 _ rfl)
              have NWR : gW ≠ gR := blk_ne BKW.out BKR.out (by decide)
              clear hw9 BKR BKW HB HO hz0 hz1 fz0 fz1 BKF
              have BKR := n1_
              have BKW := n2_
              have HB := n3_
              have HO := n4_
              have BKS := n5_
              clear n1_ n2_ n3_ n4_ n5_
              have hs0 : w9.cell? ⟨w6.heap.size, 0, none⟩ = some (.int .u32 0) := (blk_cell BKS.out 0).trans rfl
              have hs1 : w9.cell? ⟨w6.heap.size, 1, none⟩ = some (.int .i64 0) := (blk_cell BKS.out 1).trans rfl
              go_wp2
              have hr0 : w9.cell? ⟨gR, 0, none⟩ = _ := (blk_cell BKR.out 0).trans rfl
              have hr1 : w9.cell? ⟨gR, 1, none⟩ = _ := (blk_cell BKR.out 1).trans rfl
              have fr0 := blk_frozen BKR.out 0
              have fr1 := blk_frozen BKR.out 1
              have hW : w9.cell? ⟨gW, 1, none⟩ = some rv2 := (blk_cell BKW.out 1).trans rfl
              go_region_held3 (fun w' => w'.cell? ⟨gW, 1, none⟩ = some rv2) (first | exact (blk_cell BKW.out 1).trans rfl | exact (blk_cell (blk_far (blk_far BKW.out NWR _) NWR _) 1).trans rfl) (fail)
              go_wp2
              refine bodyPost_ret (results_ctt rfl _ _ gR 27 #[.int .u32 0, .int .i64 0] (0, 0) _ rfl (by refine blk_drew ?_; refine blk_put (cs := #[.int .u32 0, .int .i64 0]) ?_ 1 _ (by first | rfl | (simp [Int.emod_emod_of_dvd]; done)); refine blk_put (cs := #[.int .u32 0, .int .i64 0]) BKR.out 0 _ rfl) Try.underlying27 rfl (by kernel_rfl)) rfl ?_
              exact ⟨rv2, rfl, Kd.R_drew (Kd.R_mono (Kd.R_far (p := ⟨gR, 1, none⟩) (Kd.R_far (p := ⟨gR, 0, none⟩) (Kd.R_types HO.out BKR.out (by decide)) (fun _ hk => hk.2) _) (fun _ hk => hk.2) _) (fun _ hk => trivial)), below_drew1 (below_set (below_set HB.out GR.out) GR.out)⟩
        · rw [if_neg c4] at h
          have c4b : (Go.bits .and .u32 p1 14 != 0) = true := bne_iff_ne.mpr c4
          clear c4
          simp only [Option.some.injEq, Prod.mk.injEq] at h
          obtain ⟨rfl, rfl, rfl, rfl⟩ := h
          go_enter Try.func25, Try.ntmps25
          go_wp2_with (first | ((with_reducible refine gate_dst (N := 6) rfl ?_); refine box_event ?hg (N := 6) ?hd (cs := #[.int .u32 0, .int .i64 0]) (t := 27) ?hr ?_; (case hd => rfl); (case hg => rfl); (case hr => first | (go_simp; done) | (go_simp; rfl)); intro gR hg w1 hbox hb; have n0_ := Aside0.mk (below_step HB.out hb); have n1_ := Aside0.mk (hbox); have n2_ := Aside0.mk ((by rw [hg]; exact below_size HB.out : w.heap.size ≤ gR)); clear HB; have HB := n0_; have BKR := n1_; have GR := n2_; clear n0_ n1_ n2_; clear hb hbox hg) | ((with_reducible refine gate_dst (N := 15) rfl ?_); refine box_event ?hg (N := 15) ?hd (cs := #[.slice A0 l0.length c0, .slice none 0 0]) (t := 67) ?hr ?_; (case hd => rfl); (case hg => rfl); (case hr => first | (go_simp; done) | (go_simp; rfl)); intro gW hg w2 hbox hb; have n0_ := Aside0.mk (below_step (by repeat (first | (with_reducible first | exact HB.out | apply below_alloc | apply pw_below_drewN | apply below_drew1) | exact HB.out)) hb); have n1_ := Aside0.mk (blk_below (g := gR) (o := .cells #[.int .u32 0, .int .i64 0] 27 (0, 0)) (by (with_reducible repeat (first | refine blk_drewN ?_ _ | refine blk_drew ?_ | refine blk_alloc ?_ _)); exact BKR.out) hb); have n2_ := Aside0.mk (hbox); have n3_ := Aside0.mk ((by rw [hg]; exact below_size (by repeat (first | (with_reducible first | exact HB.out | apply below_alloc | apply pw_below_drewN | apply below_drew1) | exact HB.out)) : w.heap.size ≤ gW)); clear HB BKR; have HB := n0_; have BKR := n1_; have BKW := n2_; have GW := n3_; clear n0_ n1_ n2_ n3_; clear hb hbox hg) | (go_at_call 40; (with_reducible refine (pte_Index.calls a2 0 i0 _ I0.out).mono ?_); rintro e w3 ⟨rfl, hb⟩; have n0_ := Aside0.mk (below_step (by repeat (first | (with_reducible first | exact HB.out | apply below_alloc | apply pw_below_drewN | apply below_drew1) | exact HB.out)) hb); have n1_ := Aside0.mk (blk_below (g := gR) (o := .cells #[.int .u32 0, .int .i64 0] 27 (0, 0)) (by (with_reducible repeat (first | refine blk_drewN ?_ _ | refine blk_drew ?_ | refine blk_alloc ?_ _)); exact BKR.out) hb); have n2_ := Aside0.mk (blk_below (g := gW) (o := .cells #[.slice A0 l0.length c0, .slice none 0 0] 67 (0, 0)) (by (with_reducible repeat (first | refine blk_drewN ?_ _ | refine blk_drew ?_ | refine blk_alloc ?_ _)); exact BKW.out) hb); clear HB BKR BKW; have HB := n0_; have BKR := n1_; have BKW := n2_; clear n0_ n1_ n2_; clear hb) | (go_at_call 39; (with_reducible refine (walk_Walk.entry k gW gR gR gR #[.int .u32 0, .int .i64 0] #[.int .u32 0, .int .i64 0] #[.int .u32 0, .int .i64 0] A0 c0 l0 _ q1 0 p1 p2 (.slice none 0 0) [] _ w ?s1 HC0.out ?s2 ?s3 GW.out ?s4 ?s5 ?s8 ?s6 (by simp) (by have h_ := RD.out; first | exact h_ | (simp only [Int.add_emod_emod, Int.emod_add_emod] at h_ ⊢; exact h_)) ?s7).mono ?_); (case s1 => exact (Kd.C_below HR0.out (by repeat (first | (with_reducible first | exact HB.out | apply below_alloc | apply pw_below_drewN | apply below_drew1) | exact HB.out)))); (case s2 => exact (by repeat (first | (with_reducible first | exact HB.out | apply below_alloc | apply pw_below_drewN | apply below_drew1) | exact HB.out))); (case s3 => ((with_reducible repeat (first | refine blk_drewN ?_ _ | refine blk_drew ?_ | refine blk_alloc ?_ _)); exact BKW.out)); (case s4 => ((with_reducible repeat (first | refine blk_drewN ?_ _ | refine blk_drew ?_ | refine blk_alloc ?_ _)); exact BKR.out)); (case s5 => ((with_reducible repeat (first | refine blk_drewN ?_ _ | refine blk_drew ?_ | refine blk_alloc ?_ _)); exact BKR.out)); (case s8 => ((with_reducible repeat (first | refine blk_drewN ?_ _ | refine blk_drew ?_ | refine blk_alloc ?_ _)); exact BKR.out)); (case s6 => exact Kd.R_nil _ _ _ _ _); (case s7 => exact fun _ => PO.out); rintro e w4 ⟨rfl, hb, rv, hbW, hbR, _, _, hR⟩; have n0_ := Aside0.mk (hb); have n1_ := Aside0.mk (hbR); have n2_ := Aside0.mk (hbW); have n3_ := Aside0.mk (hR); clear HB BKR BKW; have HB := n0_; have BKR := n1_; have BKW := n2_; have HO := n3_; clear n0_ n1_ n2_ n3_; clear hb hbW hbR hR; (rw [if_pos rfl] at HO); (simp only [List.nil_append] at HO)) | ((with_reducible refine gate_dst (N := 10) rfl ?_); refine box_event ?hg (N := 10) ?hd (cs := #[.int .u32 0, .int .i64 0]) (t := 27) ?hr ?_; (case hd => rfl); (case hg => rfl); (case hr => first | (go_simp; done) | (go_simp; rfl)); intro gF hg w5 hbox hb; have n6_0 := Aside0.mk ((by rw [hg]; have := blk_lt BKR.out; omega : gR ≠ gF)); have n0_ := Aside0.mk (below_step (by repeat (first | (with_reducible first | exact HB.out | apply below_alloc | apply pw_below_drewN | apply below_drew1) | exact HB.out)) hb); have n1_ := Aside0.mk (blk_below (g := gR) (o := .cells #[.int .u32 0, .int .i64 0] 27 (0, 0)) (by (with_reducible repeat (first | refine blk_drewN ?_ _ | refine blk_drew ?_ | refine blk_alloc ?_ _)); exact BKR.out) hb); have n2_ := Aside0.mk (blk_below (g := gW) (o := .cells #[.slice A0 l0.length c0, rv] 67 (0, 0)) (by (with_reducible repeat (first | refine blk_drewN ?_ _ | refine blk_drew ?_ | refine blk_alloc ?_ _)); exact BKW.out) hb); have n3_ := Aside0.mk (Kd.R_below (by (with_reducible repeat (first | apply Kd.R_alloc | apply Kd.R_drewN | apply Kd.R_drew)); exact HO.out) hb); have n4_ := Aside0.mk (hbox); have n5_ := Aside0.mk ((by rw [hg]; exact below_size (by repeat (first | (with_reducible first | exact HB.out | apply below_alloc | apply pw_below_drewN | apply below_drew1) | exact HB.out)) : w.heap.size ≤ gF)); clear HB BKR BKW HO; have HB := n0_; have BKR := n1_; have BKW := n2_; have HO := n3_; have BKF := n4_; have GF := n5_; have NRF := n6_0; clear n6_0; clear n0_ n1_ n2_ n3_ n4_ n5_; clear hb hbox hg; have hf0 : w5.cell? ⟨gF, 0, none⟩ = _ := (blk_cell BKF.out 0).trans rfl; have fhf0 := blk_frozen BKF.out 0; have hf1 : w5.cell? ⟨gF, 1, none⟩ = _ := (blk_cell BKF.out 1).trans rfl; have fhf1 := blk_frozen BKF.out 1) | (go_at_call 27; (with_reducible refine (pte_Leaf.calls p1 p2 ((Go.bits .and .u32 p1 14) != 0) _ rfl).mono ?_); rintro e w6 ⟨rfl, hb⟩; have NWF : gW ≠ gF := blk_ne BKW.out BKF.out (by decide); have NWR : gW ≠ gR := blk_ne BKW.out BKR.out (by decide); have NRF_ := NRF.out; have n0_ := Aside0.mk (below_step (below_set (below_set HB.out GF.out) GF.out) hb); have n1_ := Aside0.mk (blk_below (g := gR) (o := .cells #[.int .u32 0, .int .i64 0] 27 (0, 0)) (blk_far (blk_far BKR.out NRF_ _) NRF_ _) hb); have n2_ := Aside0.mk (blk_below (g := gW) (o := .cells #[.slice A0 l0.length c0, rv] 67 (0, 0)) (blk_far (blk_far BKW.out NWF _) NWF _) hb); have n3_ := Aside0.mk (Kd.R_below (Kd.R_mono (ok' := fun _ => True) (Kd.R_far (p := ⟨gF, 1, none⟩) (Kd.R_far (p := ⟨gF, 0, none⟩) (Kd.R_types HO.out BKF.out (by decide)) (fun _ hk => hk.2) _) (fun _ hk => hk.2) _) (fun _ hk => trivial)) hb); have n4_ := Aside0.mk (blk_below (g := gF) (o := .cells #[.int .u32 p1, .int .i64 p2] 27 (0, 0)) (blk_put (cs := #[.int .u32 p1, .int .i64 0]) (blk_put (cs := #[.int .u32 0, .int .i64 0]) BKF.out 0 _ rfl) 1 _ rfl) hb); clear HB BKR BKW HO BKF; have HB := n0_; have BKR := n1_; have BKW := n2_; have HO := n3_; have BKF := n4_; clear n0_ n1_ n2_ n3_ n4_; clear hb hf0 hf1 fhf0 fhf1))
          have hr0 : w6.cell? ⟨gR, 0, none⟩ = _ := (blk_cell BKR.out 0).trans rfl
          have hr1 : w6.cell? ⟨gR, 1, none⟩ = _ := (blk_cell BKR.out 1).trans rfl
          have fr0 := blk_frozen BKR.out 0
          have fr1 := blk_frozen BKR.out 1
          have hW : w6.cell? ⟨gW, 1, none⟩ = some rv := (blk_cell BKW.out 1).trans rfl
          go_region_held3 (fun w' => w'.cell? ⟨gW, 1, none⟩ = some rv) (first | exact (blk_cell BKW.out 1).trans rfl | exact (blk_cell (blk_far (blk_far BKW.out NWR _) NWR _) 1).trans rfl) (fail)
          go_wp2
          refine bodyPost_ret (results_ctt rfl _ _ gR 27 #[.int .u32 0, .int .i64 0] (0, 0) _ rfl (by refine blk_drew ?_; refine blk_put (cs := #[.int .u32 0, .int .i64 0]) ?_ 1 _ (by first | rfl | (simp [Int.emod_emod_of_dvd]; done)); refine blk_put (cs := #[.int .u32 0, .int .i64 0]) BKR.out 0 _ rfl) Try.underlying27 rfl (by kernel_rfl)) rfl ?_
          exact ⟨rv, rfl, Kd.R_drew (Kd.R_mono (Kd.R_far (p := ⟨gR, 1, none⟩) (Kd.R_far (p := ⟨gR, 0, none⟩) (Kd.R_types HO.out BKR.out (by decide)) (fun _ hk => hk.2) _) (fun _ hk => hk.2) _) (fun _ hk => trivial)), below_drew1 (below_set (below_set HB.out GR.out) GR.out)⟩
    · rw [if_neg c2] at h
      simp only [Option.some.injEq, Prod.mk.injEq] at h
      obtain ⟨rfl, rfl, rfl, rfl⟩ := h
      obtain ⟨p1, p2, hp⟩ : ∃ p1 p2 : Int, q2 = 0 → pte_Of.f q1 = some (p1, p2) := ⟨0, 0, fun h => absurd h c2⟩
      have c2b := decide_eq_false c2
      go_enter Try.func25, Try.ntmps25
      go_wp2_with (first | ((with_reducible refine gate_dst (N := 6) rfl ?_); refine box_event ?hg (N := 6) ?hd (cs := #[.int .u32 0, .int .i64 0]) (t := 27) ?hr ?_; (case hd => rfl); (case hg => rfl); (case hr => first | (go_simp; done) | (go_simp; rfl)); intro gR hg w1 hbox hb; have n0_ := Aside0.mk (below_step HB.out hb); have n1_ := Aside0.mk (hbox); have n2_ := Aside0.mk ((by rw [hg]; exact below_size HB.out : w.heap.size ≤ gR)); clear HB; have HB := n0_; have BKR := n1_; have GR := n2_; clear n0_ n1_ n2_; clear hb hbox hg) | ((with_reducible refine gate_dst (N := 15) rfl ?_); refine box_event ?hg (N := 15) ?hd (cs := #[.slice A0 l0.length c0, .slice none 0 0]) (t := 67) ?hr ?_; (case hd => rfl); (case hg => rfl); (case hr => first | (go_simp; done) | (go_simp; rfl)); intro gW hg w2 hbox hb; have n0_ := Aside0.mk (below_step (by repeat (first | (with_reducible first | exact HB.out | apply below_alloc | apply pw_below_drewN | apply below_drew1) | exact HB.out)) hb); have n1_ := Aside0.mk (blk_below (g := gR) (o := .cells #[.int .u32 0, .int .i64 0] 27 (0, 0)) (by (with_reducible repeat (first | refine blk_drewN ?_ _ | refine blk_drew ?_ | refine blk_alloc ?_ _)); exact BKR.out) hb); have n2_ := Aside0.mk (hbox); have n3_ := Aside0.mk ((by rw [hg]; exact below_size (by repeat (first | (with_reducible first | exact HB.out | apply below_alloc | apply pw_below_drewN | apply below_drew1) | exact HB.out)) : w.heap.size ≤ gW)); clear HB BKR; have HB := n0_; have BKR := n1_; have BKW := n2_; have GW := n3_; clear n0_ n1_ n2_ n3_; clear hb hbox hg) | (go_at_call 40; (with_reducible refine (pte_Index.calls a2 0 i0 _ I0.out).mono ?_); rintro e w3 ⟨rfl, hb⟩; have n0_ := Aside0.mk (below_step (by repeat (first | (with_reducible first | exact HB.out | apply below_alloc | apply pw_below_drewN | apply below_drew1) | exact HB.out)) hb); have n1_ := Aside0.mk (blk_below (g := gR) (o := .cells #[.int .u32 0, .int .i64 0] 27 (0, 0)) (by (with_reducible repeat (first | refine blk_drewN ?_ _ | refine blk_drew ?_ | refine blk_alloc ?_ _)); exact BKR.out) hb); have n2_ := Aside0.mk (blk_below (g := gW) (o := .cells #[.slice A0 l0.length c0, .slice none 0 0] 67 (0, 0)) (by (with_reducible repeat (first | refine blk_drewN ?_ _ | refine blk_drew ?_ | refine blk_alloc ?_ _)); exact BKW.out) hb); clear HB BKR BKW; have HB := n0_; have BKR := n1_; have BKW := n2_; clear n0_ n1_ n2_; clear hb) | (go_at_call 39; (with_reducible refine (walk_Walk.entry k gW gR gR gR #[.int .u32 0, .int .i64 0] #[.int .u32 0, .int .i64 0] #[.int .u32 0, .int .i64 0] A0 c0 l0 _ q1 q2 p1 p2 (.slice none 0 0) [] _ w ?s1 HC0.out ?s2 ?s3 GW.out ?s4 ?s5 ?s8 ?s6 (by simp) (by have h_ := RD.out; first | exact h_ | (simp only [Int.add_emod_emod, Int.emod_add_emod] at h_ ⊢; exact h_)) ?s7).mono ?_); (case s1 => exact (Kd.C_below HR0.out (by repeat (first | (with_reducible first | exact HB.out | apply below_alloc | apply pw_below_drewN | apply below_drew1) | exact HB.out)))); (case s2 => exact (by repeat (first | (with_reducible first | exact HB.out | apply below_alloc | apply pw_below_drewN | apply below_drew1) | exact HB.out))); (case s3 => ((with_reducible repeat (first | refine blk_drewN ?_ _ | refine blk_drew ?_ | refine blk_alloc ?_ _)); exact BKW.out)); (case s4 => ((with_reducible repeat (first | refine blk_drewN ?_ _ | refine blk_drew ?_ | refine blk_alloc ?_ _)); exact BKR.out)); (case s5 => ((with_reducible repeat (first | refine blk_drewN ?_ _ | refine blk_drew ?_ | refine blk_alloc ?_ _)); exact BKR.out)); (case s8 => ((with_reducible repeat (first | refine blk_drewN ?_ _ | refine blk_drew ?_ | refine blk_alloc ?_ _)); exact BKR.out)); (case s6 => exact Kd.R_nil _ _ _ _ _); (case s7 => exact hp); rintro e w4 ⟨rfl, hb, rv, hbW, hbR, _, _, hR⟩; have n0_ := Aside0.mk (hb); have n1_ := Aside0.mk (hbR); have n2_ := Aside0.mk (hbW); have n3_ := Aside0.mk (hR); clear HB BKR BKW; have HB := n0_; have BKR := n1_; have BKW := n2_; have HO := n3_; clear n0_ n1_ n2_ n3_; clear hb hbW hbR hR; (try rw [if_neg c2] at HO); (try simp only [if_neg c2, c2b])) | ((with_reducible refine gate_dst (N := 10) rfl ?_); refine box_event ?hg (N := 10) ?hd (cs := #[.int .u32 0, .int .i64 0]) (t := 27) ?hr ?_; (case hd => rfl); (case hg => rfl); (case hr => first | (go_simp; done) | (go_simp; rfl)); intro gF hg w5 hbox hb; have n6_0 := Aside0.mk ((by rw [hg]; have := blk_lt BKR.out; omega : gR ≠ gF)); have n0_ := Aside0.mk (below_step (by repeat (first | (with_reducible first | exact HB.out | apply below_alloc | apply pw_below_drewN | apply below_drew1) | exact HB.out)) hb); have n1_ := Aside0.mk (blk_below (g := gR) (o := .cells #[.int .u32 0, .int .i64 0] 27 (0, 0)) (by (with_reducible repeat (first | refine blk_drewN ?_ _ | refine blk_drew ?_ | refine blk_alloc ?_ _)); exact BKR.out) hb); have n2_ := Aside0.mk (blk_below (g := gW) (o := .cells #[.slice A0 l0.length c0, rv] 67 (0, 0)) (by (with_reducible repeat (first | refine blk_drewN ?_ _ | refine blk_drew ?_ | refine blk_alloc ?_ _)); exact BKW.out) hb); have n3_ := Aside0.mk (Kd.R_below (by (with_reducible repeat (first | apply Kd.R_alloc | apply Kd.R_drewN | apply Kd.R_drew)); exact HO.out) hb); have n4_ := Aside0.mk (hbox); have n5_ := Aside0.mk ((by rw [hg]; exact below_size (by repeat (first | (with_reducible first | exact HB.out | apply below_alloc | apply pw_below_drewN | apply below_drew1) | exact HB.out)) : w.heap.size ≤ gF)); clear HB BKR BKW HO; have HB := n0_; have BKR := n1_; have BKW := n2_; have HO := n3_; have BKF := n4_; have GF := n5_; have NRF := n6_0; clear n6_0; clear n0_ n1_ n2_ n3_ n4_ n5_; clear hb hbox hg; have hf0 : w5.cell? ⟨gF, 0, none⟩ = _ := (blk_cell BKF.out 0).trans rfl; have fhf0 := blk_frozen BKF.out 0; have hf1 : w5.cell? ⟨gF, 1, none⟩ = _ := (blk_cell BKF.out 1).trans rfl; have fhf1 := blk_frozen BKF.out 1))
      have NWF : gW ≠ gF := blk_ne BKW.out BKF.out (by decide)
      have NWR : gW ≠ gR := blk_ne BKW.out BKR.out (by decide)
      have NRF_ := NRF.out
      obtain ⟨w6, hw6⟩ : ∃ W_, W_ = ((w5.setCell ⟨gF, 0, none⟩ (Value.int IntKind.u32 0)).setCell ⟨gF, 1, none⟩ (Value.int IntKind.i64 0)) := ⟨_, rfl⟩
      rw [← hw6]
      have n1_ := Aside0.mk (show w6.heap[gR]? = some (.cells #[.int .u32 0, .int .i64 0] 27 (0, 0)) from hw6 ▸ blk_far (blk_far BKR.out NRF_ _) NRF_ _)
      have n2_ := Aside0.mk (show w6.heap[gW]? = some (.cells #[.slice A0 l0.length c0, rv] 67 (0, 0)) from hw6 ▸ blk_far (blk_far BKW.out NWF _) NWF _)
      have n3_ := Aside0.mk (show Below w.heap.size w w6 from hw6 ▸ below_set (below_set HB.out GF.out) GF.out)
      have n4_ := Aside0.mk (show Kd.R (Kd.int .u32) 23 w6 w.heap.size (fun _ => True) rv [] from hw6 ▸ Kd.R_mono (Kd.R_far (p := ⟨gF, 1, none⟩) (Kd.R_far (p := ⟨gF, 0, none⟩) (Kd.R_types HO.out BKF.out (by decide)) (fun _ hk => hk.2) _) (fun _ hk => hk.2) _) (fun _ hk => trivial))
      clear hw6 BKR BKW HB HO hf0 hf1 fhf0 fhf1 BKF
      have BKR := n1_
      have BKW := n2_
      have HB := n3_
      have HO := n4_
      clear n1_ n2_ n3_ n4_
      have hr0 : w6.cell? ⟨gR, 0, none⟩ = _ := (blk_cell BKR.out 0).trans rfl
      have hr1 : w6.cell? ⟨gR, 1, none⟩ = _ := (blk_cell BKR.out 1).trans rfl
      have fr0 := blk_frozen BKR.out 0
      have fr1 := blk_frozen BKR.out 1
      have hW : w6.cell? ⟨gW, 1, none⟩ = some rv := (blk_cell BKW.out 1).trans rfl
      go_region_held3 (fun w' => w'.cell? ⟨gW, 1, none⟩ = some rv) (first | exact (blk_cell BKW.out 1).trans rfl | exact (blk_cell (blk_far (blk_far BKW.out NWR _) NWR _) 1).trans rfl) (fail)
      go_wp2
      refine bodyPost_ret (results_ctt rfl _ _ gR 27 #[.int .u32 0, .int .i64 0] (0, 0) _ rfl (by refine blk_drew ?_; refine blk_put (cs := #[.int .u32 0, .int .i64 0]) ?_ 1 _ (by first | rfl | (simp [Int.emod_emod_of_dvd]; done)); refine blk_put (cs := #[.int .u32 0, .int .i64 0]) BKR.out 0 _ rfl) Try.underlying27 rfl (by kernel_rfl)) rfl ?_
      exact ⟨rv, rfl, Kd.R_drew (Kd.R_mono (Kd.R_far (p := ⟨gR, 1, none⟩) (Kd.R_far (p := ⟨gR, 0, none⟩) (Kd.R_types HO.out BKR.out (by decide)) (fun _ hk => hk.2) _) (fun _ hk => hk.2) _) (fun _ hk => trivial)), below_drew1 (below_set (below_set HB.out GR.out) GR.out)⟩

/-! ### walk_Fault: function 26 -/
def walk_Fault.f (a0 : Int) : Option (Int) := if a0 = 1 then (some 1) else (if a0 = 2 then (some 4) else (if a0 = 3 then (some 6) else (some 9)))
set_option maxHeartbeats 8000000 in
set_option maxRecDepth 100000 in
theorem walk_Fault.calls (a0 : Int) (r : Int) (w : World) (h : walk_Fault.f a0 = some r) :
    Calls Try.prog 26 #[.int .i64 a0] w fun e w' => e = .returned (.int .i64 r) ∧ Drawn0 w w' := by
  have H : (if a0 = 1 then (some 1) else (if a0 = 2 then (some 4) else (if a0 = 3 then (some 6) else (some 9)))) = some r := h
  clear h
  by_cases c2 : a0 = 1
  · rw [if_pos c2] at H
    have c2b0 : (a0 == 1) = true := beq_iff_eq.mpr c2
    have c2b1 : (a0 != 1) = false := bne_eq_false_iff_eq.mpr c2
    clear c2
    obtain rfl := Option.some.inj H
    go_enter Try.func26, Try.ntmps26
    go_wp2
    go_ret
    exact ⟨by first | rfl | (simp; done) | (simp [*]; done), by repeat (first | exact Drawn0.refl _ | apply Drawn0.step)⟩
  · rw [if_neg c2] at H
    have c2b0 : (a0 == 1) = false := beq_eq_false_iff_ne.mpr c2
    have c2b1 : (a0 != 1) = true := bne_iff_ne.mpr c2
    by_cases c3 : a0 = 2
    · rw [if_pos c3] at H
      have c3b0 : (a0 == 2) = true := beq_iff_eq.mpr c3
      have c3b1 : (a0 != 2) = false := bne_eq_false_iff_eq.mpr c3
      clear c3
      obtain rfl := Option.some.inj H
      go_enter Try.func26, Try.ntmps26
      go_wp2
      go_ret
      exact ⟨by first | rfl | (simp; done) | (simp [*]; done), by repeat (first | exact Drawn0.refl _ | apply Drawn0.step)⟩
    · rw [if_neg c3] at H
      have c3b0 : (a0 == 2) = false := beq_eq_false_iff_ne.mpr c3
      have c3b1 : (a0 != 2) = true := bne_iff_ne.mpr c3
      by_cases c4 : a0 = 3
      · rw [if_pos c4] at H
        have c4b0 : (a0 == 3) = true := beq_iff_eq.mpr c4
        have c4b1 : (a0 != 3) = false := bne_eq_false_iff_eq.mpr c4
        clear c4
        obtain rfl := Option.some.inj H
        go_enter Try.func26, Try.ntmps26
        go_wp2
        go_ret
        exact ⟨by first | rfl | (simp; done) | (simp [*]; done), by repeat (first | exact Drawn0.refl _ | apply Drawn0.step)⟩
      · rw [if_neg c4] at H
        have c4b0 : (a0 == 3) = false := beq_eq_false_iff_ne.mpr c4
        have c4b1 : (a0 != 3) = true := bne_iff_ne.mpr c4
        obtain rfl := Option.some.inj H
        go_enter Try.func26, Try.ntmps26
        go_wp2
        go_ret
        exact ⟨by first | rfl | (simp; done) | (simp [*]; done), by repeat (first | exact Drawn0.refl _ | apply Drawn0.step)⟩

/-! ### pte_Allows: function 28 -/
def pte_Allows.j0 : Nat → Int → Int → Int → Int → Option (Bool)
  | 0, _, _, _, _ => none
  | k + 1, x1, x7, x136000, x136001 => if x1 = 1 then (some ((Go.bits .and .u32 x136000 (Go.bits .or .u32 x7 8)) == (Go.bits .or .u32 x7 8))) else (if x1 = 2 then (some ((Go.bits .and .u32 x136000 (Go.bits .or .u32 x7 2)) == (Go.bits .or .u32 x7 2))) else (if x1 = 3 then (some ((Go.bits .and .u32 x136000 (Go.bits .or .u32 x7 68)) == (Go.bits .or .u32 x7 68))) else (some false)))
def pte_Allows.f (k : Nat) (a0_0 : Int) (a0_1 : Int) (a1 : Int) (a2 : Bool) : Option (Bool) := if a2 = true then (pte_Allows.j0 k a1 33 a0_0 a0_1) else (pte_Allows.j0 k a1 (Go.bits .or .u32 33 16) a0_0 a0_1)
theorem pte_Allows.mono_l : ∀ k, (∀ y0 y1 y2 y3, LeO (pte_Allows.j0 k y0 y1 y2 y3) (pte_Allows.j0 (k + 1) y0 y1 y2 y3))
  | 0 => fun _ _ _ _ r h => by simp [pte_Allows.j0] at h
  | k + 1 => by
    have ih0 := pte_Allows.mono_l k
    · intro y0 y1 y2 y3
      unfold pte_Allows.j0
      repeat' first
      | (with_reducible exact ih0 _ _ _ _)
      | (with_reducible exact LeO.refl _)
      | (with_reducible exact LeO.none _)
      | (with_reducible refine LeO.ite ?_ ?_)
      | (with_reducible refine LeO.bind ?_ (fun _ => ?_))
      | exact ih0 _ _ _ _
      | exact LeO.none _
      | refine LeO.ite ?_ ?_
      | refine LeO.bind ?_ (fun _ => ?_)
theorem pte_Allows.mono : ∀ a0 a1 a2 a3 k, LeO (pte_Allows.f k a0 a1 a2 a3) (pte_Allows.f (k + 1) a0 a1 a2 a3) := by
  intro a0 a1 a2 a3 k
  have ih0 := pte_Allows.mono_l k
  unfold pte_Allows.f
  repeat' first
      | (with_reducible exact ih0 _ _ _ _)
      | (with_reducible exact LeO.refl _)
      | (with_reducible exact LeO.none _)
      | (with_reducible refine LeO.ite ?_ ?_)
      | (with_reducible refine LeO.bind ?_ (fun _ => ?_))
      | exact ih0 _ _ _ _
      | exact LeO.none _
      | refine LeO.ite ?_ ?_
      | refine LeO.bind ?_ (fun _ => ?_)
set_option maxHeartbeats 8000000 in
set_option maxRecDepth 100000 in
theorem pte_Allows.calls (k : Nat) (a0_0 : Int) (a0_1 : Int) (a1 : Int) (a2 : Bool) (r : Bool) (w : World) (h : pte_Allows.f k a0_0 a0_1 a1 a2 = some r) :
    Calls Try.prog 28 #[.agg #[.int .u32 a0_0, .int .i64 a0_1], .int .i64 a1, .bool a2] w fun e w' => e = .returned (.bool r) ∧ Below w.heap.size w w' := by
  have hu27 := Try.underlying27
  have HB := Aside0.mk (Below.refl w.heap.size w)
  have H : (if a2 = true then (pte_Allows.j0 k a1 33 a0_0 a0_1) else (pte_Allows.j0 k a1 (Go.bits .or .u32 33 16) a0_0 a0_1)) = some r := h
  clear h
  have HC4 := Aside0.mk H
  clear H
  go_enter Try.func28, Try.ntmps28
  go_upto_if 9 with (first | ((with_reducible refine gate_dst (N := 3) rfl ?_); refine box_event ?hg (N := 3) ?hd (cs := #[.int .u32 a0_0, .int .i64 a0_1]) (t := 27) ?hr ?_; (case hd => rfl); (case hg => rfl); (case hr => first | (go_simp; done) | (go_simp; rfl)); intro gb135 hg w5 hbox hb; have n0_ := Aside0.mk (below_step (by repeat (first | (with_reducible first | exact HB.out | apply below_alloc | apply pw_below_drewN | apply below_drew1) | exact HB.out)) hb); have n1_ := Aside0.mk (hbox); have n2_ := Aside0.mk ((by rw [hg]; exact (below_size (by repeat (first | (with_reducible first | exact HB.out | apply below_alloc | apply pw_below_drewN | apply below_drew1) | exact HB.out))) : w.heap.size ≤ gb135)); have n3_ := Aside0.mk ((by rw [hg]; exact (below_size (by repeat (first | (with_reducible first | exact HB.out | apply below_alloc | apply pw_below_drewN | apply below_drew1) | exact HB.out))) : w.heap.size ≤ gb135)); clear HB; have HB := n0_; have BK135 := n1_; have GW135 := n2_; have GE135 := n3_; clear n0_ n1_ n2_ n3_; clear hb hbox hg))
  (try simp only [Act.put, List.setIfInBounds_toArray, List.set_cons_zero, List.set_cons_succ])
  go_cut [7] (fun v7 wc => ∃ (kq : Nat) (x7_3 : Int), v7 = .int .u32 x7_3 ∧ Aside0 (pte_Allows.j0 kq a1 x7_3 a0_0 a0_1 = some r) ∧ Aside0 (kq ≤ k) ∧ Aside0 (wc.heap[gb135]? = some (.cells #[.int .u32 a0_0, .int .i64 a0_1] 27 (0, 0))) ∧ Aside0 (Below w.heap.size w wc))
  case first =>
    have H := HC4.out
    clear HC4
    by_cases c6 : a2 = true
    · subst c6
      have H1 : (pte_Allows.j0 k a1 33 a0_0 a0_1) = some r := by rw [if_pos rfl] at H; exact H
      clear H
      have H := H1
      clear H1
      have H' := Aside0.mk H
      clear H
      go_wp2
      go_meet
      case rel => exact ⟨_, (33), (by first | rfl | (simp; done) | (simp [*]; done)), H', ⟨by first | omega | exact Nat.le_refl _⟩, ⟨by (with_reducible repeat (first | refine blk_drewN ?_ _ | refine blk_drew ?_ | refine blk_alloc ?_ _)); exact BK135.out⟩, ⟨by repeat (first | (with_reducible first | exact HB.out | apply below_alloc | apply pw_below_drewN | apply below_drew1 | refine below_set ?_ GE135.out) | exact HB.out)⟩⟩
    · replace c6 := Bool.eq_false_iff.mpr c6
      subst c6
      have H1 : (pte_Allows.j0 k a1 (Go.bits .or .u32 33 16) a0_0 a0_1) = some r := by rw [if_neg (show ¬ (false = true) by decide)] at H; exact H
      clear H
      have H := H1
      clear H1
      have H' := Aside0.mk H
      clear H
      go_wp2
      go_meet
      case rel => exact ⟨_, (Go.bits .or .u32 33 16), (by first | rfl | (simp; done) | (simp [*]; done)), H', ⟨by first | omega | exact Nat.le_refl _⟩, ⟨by (with_reducible repeat (first | refine blk_drewN ?_ _ | refine blk_drew ?_ | refine blk_alloc ?_ _)); exact BK135.out⟩, ⟨by repeat (first | (with_reducible first | exact HB.out | apply below_alloc | apply pw_below_drewN | apply below_drew1 | refine below_set ?_ GE135.out) | exact HB.out)⟩⟩
  case rest =>
    clear HC4
    try clear c2
    try clear p2
    try clear c6
    obtain ⟨kq, x7_3, rfl, HA, HJ3, BK135, HB⟩ := hcut
    cases kq with
    | zero => exact absurd HA.out (by simp [pte_Allows.j0])
    | succ kj3 =>
      have H := HA.out
      clear HA
      simp only [pte_Allows.j0] at H
      by_cases c7 : a1 = 1
      · rw [if_pos c7] at H
        have c7b0 : (a1 == 1) = true := beq_iff_eq.mpr c7
        have c7b1 : (a1 != 1) = false := bne_eq_false_iff_eq.mpr c7
        clear c7
        obtain rfl := Option.some.inj H
        have hcz8_0 : wc.cell? ⟨gb135, 0, none⟩ = some (.int .u32 a0_0) := (blk_cell BK135.out 0).trans rfl
        have hcz8_1 : wc.cell? ⟨gb135, 1, none⟩ = some (.int .i64 a0_1) := (blk_cell BK135.out 1).trans rfl
        have hfz8_0 := blk_frozen BK135.out 0
        have hfz8_1 := blk_frozen BK135.out 1
        go_wp2
        go_ret
        exact ⟨by first | rfl | (simp [errW_none, errW_some] <;> rfl) | (simp [*, errW_none, errW_some] <;> rfl), by repeat (first | (with_reducible first | exact HB.out | apply below_alloc | apply pw_below_drewN | apply below_drew1 | refine below_set ?_ GE135.out) | exact HB.out)⟩
      · rw [if_neg c7] at H
        have c7b0 : (a1 == 1) = false := beq_eq_false_iff_ne.mpr c7
        have c7b1 : (a1 != 1) = true := bne_iff_ne.mpr c7
        by_cases c9 : a1 = 2
        · rw [if_pos c9] at H
          have c9b0 : (a1 == 2) = true := beq_iff_eq.mpr c9
          have c9b1 : (a1 != 2) = false := bne_eq_false_iff_eq.mpr c9
          clear c9
          obtain rfl := Option.some.inj H
          have hcz10_0 : wc.cell? ⟨gb135, 0, none⟩ = some (.int .u32 a0_0) := (blk_cell BK135.out 0).trans rfl
          have hcz10_1 : wc.cell? ⟨gb135, 1, none⟩ = some (.int .i64 a0_1) := (blk_cell BK135.out 1).trans rfl
          have hfz10_0 := blk_frozen BK135.out 0
          have hfz10_1 := blk_frozen BK135.out 1
          go_wp2
          go_ret
          exact ⟨by first | rfl | (simp [errW_none, errW_some] <;> rfl) | (simp [*, errW_none, errW_some] <;> rfl), by repeat (first | (with_reducible first | exact HB.out | apply below_alloc | apply pw_below_drewN | apply below_drew1 | refine below_set ?_ GE135.out) | exact HB.out)⟩
        · rw [if_neg c9] at H
          have c9b0 : (a1 == 2) = false := beq_eq_false_iff_ne.mpr c9
          have c9b1 : (a1 != 2) = true := bne_iff_ne.mpr c9
          by_cases c11 : a1 = 3
          · rw [if_pos c11] at H
            have c11b0 : (a1 == 3) = true := beq_iff_eq.mpr c11
            have c11b1 : (a1 != 3) = false := bne_eq_false_iff_eq.mpr c11
            clear c11
            obtain rfl := Option.some.inj H
            have hcz12_0 : wc.cell? ⟨gb135, 0, none⟩ = some (.int .u32 a0_0) := (blk_cell BK135.out 0).trans rfl
            have hcz12_1 : wc.cell? ⟨gb135, 1, none⟩ = some (.int .i64 a0_1) := (blk_cell BK135.out 1).trans rfl
            have hfz12_0 := blk_frozen BK135.out 0
            have hfz12_1 := blk_frozen BK135.out 1
            go_wp2
            go_ret
            exact ⟨by first | rfl | (simp [errW_none, errW_some] <;> rfl) | (simp [*, errW_none, errW_some] <;> rfl), by repeat (first | (with_reducible first | exact HB.out | apply below_alloc | apply pw_below_drewN | apply below_drew1 | refine below_set ?_ GE135.out) | exact HB.out)⟩
          · rw [if_neg c11] at H
            have c11b0 : (a1 == 3) = false := beq_eq_false_iff_ne.mpr c11
            have c11b1 : (a1 != 3) = true := bne_iff_ne.mpr c11
            obtain rfl := Option.some.inj H
            go_wp2
            go_ret
            exact ⟨by first | rfl | (simp [errW_none, errW_some] <;> rfl) | (simp [*, errW_none, errW_some] <;> rfl), by repeat (first | (with_reducible first | exact HB.out | apply below_alloc | apply pw_below_drewN | apply below_drew1 | refine below_set ?_ GE135.out) | exact HB.out)⟩

/-! ### pte_page: function 41 -/
def pte_page.f (a0_0 : Int) (a0_1 : Int) : Option (Int) := some (Go.bits .and .u32 ((a0_1) % 4294967296) 255)
set_option maxHeartbeats 8000000 in
set_option maxRecDepth 100000 in
theorem pte_page.calls (a0_0 : Int) (a0_1 : Int) (r : Int) (w : World) (h : pte_page.f a0_0 a0_1 = some r) :
    Calls Try.prog 41 #[.agg #[.int .u32 a0_0, .int .i64 a0_1]] w fun e w' => e = .returned (.int .u32 r) ∧ Below w.heap.size w w' := by
  have hu27 := Try.underlying27
  have HB := Aside0.mk (Below.refl w.heap.size w)
  have H : (some (Go.bits .and .u32 ((a0_1) % 4294967296) 255)) = some r := h
  clear h
  obtain rfl := Option.some.inj H
  go_enter Try.func41, Try.ntmps41
  go_wp2_with (first | ((with_reducible refine gate_dst (N := 1) rfl ?_); refine box_event ?hg (N := 1) ?hd (cs := #[.int .u32 a0_0, .int .i64 a0_1]) (t := 27) ?hr ?_; (case hd => rfl); (case hg => rfl); (case hr => first | (go_simp; done) | (go_simp; rfl)); intro gb136 hg w2 hbox hb; have n0_ := Aside0.mk (below_step (by repeat (first | (with_reducible first | exact HB.out | apply below_alloc | apply pw_below_drewN | apply below_drew1) | exact HB.out)) hb); have n1_ := Aside0.mk (hbox); have n2_ := Aside0.mk ((by rw [hg]; exact (below_size (by repeat (first | (with_reducible first | exact HB.out | apply below_alloc | apply pw_below_drewN | apply below_drew1) | exact HB.out))) : w.heap.size ≤ gb136)); have n3_ := Aside0.mk ((by rw [hg]; exact (below_size (by repeat (first | (with_reducible first | exact HB.out | apply below_alloc | apply pw_below_drewN | apply below_drew1) | exact HB.out))) : w.heap.size ≤ gb136)); clear HB; have HB := n0_; have BK136 := n1_; have GW136 := n2_; have GE136 := n3_; clear n0_ n1_ n2_ n3_; clear hb hbox hg; have hcz3_0 : w2.cell? ⟨gb136, 0, none⟩ = some (.int .u32 a0_0) := (blk_cell BK136.out 0).trans rfl; have hcz3_1 : w2.cell? ⟨gb136, 1, none⟩ = some (.int .i64 a0_1) := (blk_cell BK136.out 1).trans rfl; have hfz3_0 := blk_frozen BK136.out 0; have hfz3_1 := blk_frozen BK136.out 1))
  go_ret
  exact ⟨by first | rfl | (simp [errW_none, errW_some] <;> rfl) | (simp [*, errW_none, errW_some] <;> rfl), by repeat (first | (with_reducible first | exact HB.out | apply below_alloc | apply pw_below_drewN | apply below_drew1 | refine below_set ?_ GE136.out) | exact HB.out)⟩

/-! ### pte_Addr: function 29 -/
def pte_Addr.f (a0_0 : Int) (a0_1 : Int) (a1 : Int) : Option (Int) := (pte_page.f a0_0 a0_1).bind fun t138 => (some (((t138 * 64) + (Int.tmod a1 64)) % 4294967296))
set_option maxHeartbeats 8000000 in
set_option maxRecDepth 100000 in
theorem pte_Addr.calls (a0_0 : Int) (a0_1 : Int) (a1 : Int) (r : Int) (w : World) (h : pte_Addr.f a0_0 a0_1 a1 = some r) :
    Calls Try.prog 29 #[.agg #[.int .u32 a0_0, .int .i64 a0_1], .int .u32 a1] w fun e w' => e = .returned (.int .u32 r) ∧ Below w.heap.size w w' := by
  have hu27 := Try.underlying27
  have HB := Aside0.mk (Below.refl w.heap.size w)
  have H : ((pte_page.f a0_0 a0_1).bind fun t138 => (some (((t138 * 64) + (Int.tmod a1 64)) % 4294967296))) = some r := h
  clear h
  replace H := Option.bind_eq_some_iff.mp H
  obtain ⟨t138, A30, H⟩ := H
  replace H : (some (((t138 * 64) + (Int.tmod a1 64)) % 4294967296)) = some r := H
  have A3 := Aside0.mk A30
  clear A30
  obtain rfl := Option.some.inj H
  go_enter Try.func29, Try.ntmps29
  go_wp2_with (first | ((with_reducible refine gate_dst (N := 2) rfl ?_); refine box_event ?hg (N := 2) ?hd (cs := #[.int .u32 a0_0, .int .i64 a0_1]) (t := 27) ?hr ?_; (case hd => rfl); (case hg => rfl); (case hr => first | (go_simp; done) | (go_simp; rfl)); intro gb137 hg w4 hbox hb; have n0_ := Aside0.mk (below_step (by repeat (first | (with_reducible first | exact HB.out | apply below_alloc | apply pw_below_drewN | apply below_drew1) | exact HB.out)) hb); have n1_ := Aside0.mk (hbox); have n2_ := Aside0.mk ((by rw [hg]; exact (below_size (by repeat (first | (with_reducible first | exact HB.out | apply below_alloc | apply pw_below_drewN | apply below_drew1) | exact HB.out))) : w.heap.size ≤ gb137)); have n3_ := Aside0.mk ((by rw [hg]; exact (below_size (by repeat (first | (with_reducible first | exact HB.out | apply below_alloc | apply pw_below_drewN | apply below_drew1) | exact HB.out))) : w.heap.size ≤ gb137)); clear HB; have HB := n0_; have BK137 := n1_; have GW137 := n2_; have GE137 := n3_; clear n0_ n1_ n2_ n3_; clear hb hbox hg; have hcz5_0 : w4.cell? ⟨gb137, 0, none⟩ = some (.int .u32 a0_0) := (blk_cell BK137.out 0).trans rfl; have hcz5_1 : w4.cell? ⟨gb137, 1, none⟩ = some (.int .i64 a0_1) := (blk_cell BK137.out 1).trans rfl; have hfz5_0 := blk_frozen BK137.out 0; have hfz5_1 := blk_frozen BK137.out 1) | ((with_reducible refine gate_callee (f := 41) rfl ?_); refine goesL_ (some 6) rfl rfl Try.func41 (by kernel_rfl) rfl #[.agg #[.int .u32 a0_0, .int .i64 a0_1]] rfl (by (try simp only [List.map_toArray, List.map_cons, List.map_nil]); first | done | rfl | (simp only [List.length_drop, List.length_take]; rfl)) ?_; (with_reducible refine (pte_page.calls a0_0 a0_1 t138 _ A3.out).mono ?_); rintro e w6 ⟨rfl, hb⟩; refine ⟨_, rfl, ?_⟩; have n0_ := Aside0.mk (blk_below (g := gb137) (o := .cells #[.int .u32 a0_0, .int .i64 a0_1] 27 (0, 0)) (by (with_reducible repeat (first | refine blk_drewN ?_ _ | refine blk_drew ?_ | refine blk_alloc ?_ _)); exact BK137.out) hb); have n1_ := Aside0.mk (below_step (by repeat (first | (with_reducible first | exact HB.out | apply below_alloc | apply pw_below_drewN | apply below_drew1 | refine below_set ?_ GE137.out) | exact HB.out)) hb); clear BK137; clear HB; have BK137 := n0_; have HB := n1_; clear n0_ n1_; (try clear hb); (try clear hb2); (try clear hk); (try clear hi)))
  go_ret
  exact ⟨by first | rfl | (simp [errW_none, errW_some] <;> rfl) | (simp [*, errW_none, errW_some] <;> rfl), by repeat (first | (with_reducible first | exact HB.out | apply below_alloc | apply pw_below_drewN | apply below_drew1 | refine below_set ?_ GE137.out) | exact HB.out)⟩

end Go.Proofs.Ytkcncghdpjoodaa.PTlbTrans
