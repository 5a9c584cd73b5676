/- Whole cores held against one another: the walk. -/
import Derived.Test.YtabfinhkoihhfaaGreatCmp4
namespace Go.Proofs.YtabfinhkoihhfaaGreat.Abs
open Go Go.RowKit Fn
set_option linter.unusedVariables false
set_option linter.unusedSimpArgs false
set_option linter.unnecessarySimpa false
set_option maxRecDepth 100000
set_option maxHeartbeats 4000000

theorem aC21 : ap 21 = some f21 := rfl
theorem pC21 : f21.pure = true := rfl
theorem nC21 : f21.nat = none := rfl
theorem aC22 : ap 22 = some f22 := rfl
theorem pC22 : f22.pure = true := rfl
theorem nC22 : f22.nat = none := rfl
theorem aC23 : ap 23 = some f23 := rfl
theorem pC23 : f23.pure = true := rfl
theorem nC23 : f23.nat = none := rfl
theorem aC24 : ap 24 = some f24 := rfl
theorem pC24 : f24.pure = true := rfl
theorem nC24 : f24.nat = none := rfl
theorem aC25 : ap 25 = some f25 := rfl
theorem pC25 : f25.pure = true := rfl
theorem nC25 : f25.nat = none := rfl
theorem aC26 : ap 26 = some f26 := rfl
theorem pC26 : f26.pure = true := rfl
theorem nC26 : f26.nat = none := rfl
theorem aC27 : ap 27 = some f27 := rfl
theorem pC27 : f27.pure = true := rfl
theorem nC27 : f27.nat = none := rfl
theorem aC28 : ap 28 = some f28 := rfl
theorem pC28 : f28.pure = true := rfl
theorem nC28 : f28.nat = none := rfl
theorem aC29 : ap 29 = some f29 := rfl
theorem pC29 : f29.pure = true := rfl
theorem nC29 : f29.nat = none := rfl
theorem aC30 : ap 30 = some f30 := rfl
theorem pC30 : f30.pure = true := rfl
theorem nC30 : f30.nat = none := rfl
theorem aC31 : ap 31 = some f31 := rfl
theorem pC31 : f31.pure = true := rfl
theorem nC31 : f31.nat = none := rfl
theorem core_at (c : Core) (h : c.wf) (f : Bool) (l : List Sb) (w : Int) : cut (coreF c f l w) 0 22 = c.conf.enc ∧ cut (coreF c f l w) 22 30 = c.a.enc ∧ cut (coreF c f l w) 56 6 = c.pred.enc ∧ cut (coreF c f l w) 65 36 = c.names.enc ∧ cut (coreF c f l w) 101 2 = c.phys.enc ∧ (coreF c f l w)[52]? = some (T.imm false c.shadow.length (c.shadow.flatMap (fun n => [T.int .u8 n]))) ∧ (coreF c f l w)[53]? = some (T.imm false c.out.length (c.out.flatMap (fun n => [T.int .u32 n]))) ∧ (coreF c f l w)[54]? = some (T.int .u32 c.pC) ∧ (coreF c f l w)[55]? = some (T.bool c.hold) ∧ (coreF c f l w)[62]? = some (T.imm false c.tlb.length (c.tlb.flatMap Tlb.enc)) ∧ (coreF c f l w)[63]? = some (T.int .i64 c.tlbNext) ∧ (coreF c f l w)[64]? = some (T.imm false c.queue.length (c.queue.flatMap Slot.enc)) ∧ (coreF c f l w)[103]? = some (T.imm false c.rob.length (c.rob.flatMap Rob.enc)) ∧ (coreF c f l w)[104]? = some (T.imm false c.iq.length (c.iq.flatMap Iq.enc)) ∧ (coreF c f l w)[105]? = some (T.imm false c.lq.length (c.lq.flatMap Lq.enc)) ∧ (coreF c f l w)[106]? = some (T.imm false c.sq.length (c.sq.flatMap Sq.enc)) ∧ (coreF c f l w)[107]? = some (T.imm f l.length (l.flatMap Sb.enc)) ∧ (coreF c f l w)[108]? = some (T.imm false c.units.length (c.units.flatMap Flight.enc)) ∧ (coreF c f l w)[109]? = some (T.imm false c.dep.length (c.dep.flatMap (fun n => [T.int .u8 n]))) ∧ (coreF c f l w)[110]? = some (T.int .i64 w) ∧ (coreF c f l w)[111]? = some (T.int .i64 c.cycle) := by
  have la := arch_len30 c h
  have ln := names_len36 c h
  have l0 := conf_len22 c
  have l1 : (cS1 c).length = 4 := rfl
  have l2 : c.pred.enc.length = 6 := rfl
  have l3 : (cS2 c).length = 3 := rfl
  have l4 : c.phys.enc.length = 2 := rfl
  have lf := core_len c h f l w
  have g : ∀ (X Y Z : List T) (i k : Nat) (v : T), coreF c f l w = X ++ (Y ++ Z) → X.length = i → Y[k]? = some v → (coreF c f l w)[i + k]? = some v := by
    intro X Y Z i k v e hX hY
    have hk := (List.getElem?_eq_some_iff.1 hY).1
    rw [e, List.getElem?_append_right (by omega), List.getElem?_append_left (by omega), hX, Nat.add_sub_cancel_left]; exact hY
  have e1 : coreF c f l w = [] ++ (c.conf.enc ++ (c.a.enc ++ (cS1 c ++ (c.pred.enc ++ (cS2 c ++ (c.names.enc ++ (c.phys.enc ++ cS3 c f l w))))))) := rfl
  have e2 : coreF c f l w = c.conf.enc ++ (c.a.enc ++ (cS1 c ++ (c.pred.enc ++ (cS2 c ++ (c.names.enc ++ (c.phys.enc ++ cS3 c f l w)))))) := rfl
  have e3 := e2.trans (List.append_assoc ..).symm
  have e4 := e3.trans (List.append_assoc ..).symm
  have e5 := e4.trans (List.append_assoc ..).symm
  have e6 := e5.trans (List.append_assoc ..).symm
  have e7 := e6.trans (List.append_assoc ..).symm
  have e8 := e7.trans (List.append_assoc ..).symm
  rw [← List.append_nil (cS3 c f l w)] at e8
  have k3 : (c.conf.enc ++ c.a.enc).length = 52 := by simp only [List.length_append, la, l0, l1, l2, l3, ln, l4]
  have k4 : (c.conf.enc ++ c.a.enc ++ cS1 c).length = 56 := by simp only [List.length_append, la, l0, l1, l2, l3, ln, l4]
  have k5 : (c.conf.enc ++ c.a.enc ++ cS1 c ++ c.pred.enc).length = 62 := by simp only [List.length_append, la, l0, l1, l2, l3, ln, l4]
  have k6 : (c.conf.enc ++ c.a.enc ++ cS1 c ++ c.pred.enc ++ cS2 c).length = 65 := by simp only [List.length_append, la, l0, l1, l2, l3, ln, l4]
  have k7 : (c.conf.enc ++ c.a.enc ++ cS1 c ++ c.pred.enc ++ cS2 c ++ c.names.enc).length = 101 := by simp only [List.length_append, la, l0, l1, l2, l3, ln, l4]
  have k8 : (c.conf.enc ++ c.a.enc ++ cS1 c ++ c.pred.enc ++ cS2 c ++ c.names.enc ++ c.phys.enc).length = 103 := by simp only [List.length_append, la, l0, l1, l2, l3, ln, l4]
  exact ⟨by rw [e1]; exact cut_app rfl l0, by rw [e2]; exact cut_app l0 la, by rw [e4]; exact cut_app k4 l2, by rw [e6]; exact cut_app k6 ln, by rw [e7]; exact cut_app k7 l4, g _ _ _ 52 0 _ e3 k3 rfl, g _ _ _ 52 1 _ e3 k3 rfl, g _ _ _ 52 2 _ e3 k3 rfl, g _ _ _ 52 3 _ e3 k3 rfl, g _ _ _ 62 0 _ e5 k5 rfl, g _ _ _ 62 1 _ e5 k5 rfl, g _ _ _ 62 2 _ e5 k5 rfl, g _ _ _ 103 0 _ e8 k8 rfl, g _ _ _ 103 1 _ e8 k8 rfl, g _ _ _ 103 2 _ e8 k8 rfl, g _ _ _ 103 3 _ e8 k8 rfl, g _ _ _ 103 4 _ e8 k8 rfl, g _ _ _ 103 5 _ e8 k8 rfl, g _ _ _ 103 6 _ e8 k8 rfl, g _ _ _ 103 7 _ e8 k8 rfl, g _ _ _ 103 8 _ e8 k8 rfl⟩
theorem core_leaf (c : Core) (h : c.wf) (f : Bool) (l : List Sb) (w : Int) : allLeaf (coreF c f l w) = true := by
  rw [← core_put c h]
  unfold putC
  exact leaf_set (leaf_set (still_leaf (core_still c h)) _ rfl) _ rfl
theorem same_core (c : Core) (h : c.wf) (f1 f2 : Bool) (l : List Sb) (w : Int) (hl : l.length ≤ maxLen ∧ ∀ s ∈ l, s.wf) : E ap 9 [.agg (coreF c f1 l w), .agg (coreF c f2 l w)] (.bool true) := by
  have hw : c.wf := h
  obtain ⟨w0, w1, w2, w3, w4, w5, w6, w7, w8, w9, w10, w11, w12, w13, w14, w15, w16, w17, w18, w19, w20⟩ := h
  have hns : c.names.enc.all still1 = true := by
    unfold Names.enc
    rw [List.all_append, List.all_append, List.all_append, ints_still, ints_still]; rfl
  obtain ⟨n0, z0⟩ := (cmp_bytes w2.1 false false).call aC19 (fun g => rfl)
  obtain ⟨n1, z1⟩ := (cmp_words w3.1 false false).call aC20 (fun g => rfl)
  obtain ⟨n2, z2⟩ := (same_pred c.pred w6).call aC21 (fun g => rfl)
  obtain ⟨n3, z3⟩ := (cmp_tlbs w7 false false).call aC22 (fun g => rfl)
  obtain ⟨n4, z4⟩ := (cmp_slots w9 false false).call aC23 (fun g => rfl)
  obtain ⟨n5, z5⟩ := (same_names c.names w10).call aC24 (fun g => by unfold frzL; rw [show frzDepth = 12 from rfl]; simp only [frzAll, frzA12 hns, List.append_nil])
  obtain ⟨n6, z6⟩ := (same_phys c.phys w11).call aC25 (fun g => rfl)
  obtain ⟨n7, z7⟩ := (cmp_robs w12 false false).call aC26 (fun g => rfl)
  obtain ⟨n8, z8⟩ := (cmp_iqs w13 false false).call aC27 (fun g => rfl)
  obtain ⟨n9, z9⟩ := (cmp_lqs w14 false false).call aC28 (fun g => rfl)
  obtain ⟨n10, z10⟩ := (cmp_sqs w15 false false).call aC29 (fun g => rfl)
  obtain ⟨n11, z11⟩ := (cmp_sbs hl f1 f2).call aC30 (fun g => rfl)
  obtain ⟨n12, z12⟩ := (cmp_flights w17 false false).call aC31 (fun g => rfl)
  obtain ⟨n13, z13⟩ := (cmp_bytes w18.1 false false).call aC19 (fun g => rfl)
  have z0 := z0 (n0 + n1 + n2 + n3 + n4 + n5 + n6 + n7 + n8 + n9 + n10 + n11 + n12 + n13) (by omega)
  have z1 := z1 (n0 + n1 + n2 + n3 + n4 + n5 + n6 + n7 + n8 + n9 + n10 + n11 + n12 + n13) (by omega)
  have z2 := z2 (n0 + n1 + n2 + n3 + n4 + n5 + n6 + n7 + n8 + n9 + n10 + n11 + n12 + n13) (by omega)
  have z3 := z3 (n0 + n1 + n2 + n3 + n4 + n5 + n6 + n7 + n8 + n9 + n10 + n11 + n12 + n13) (by omega)
  have z4 := z4 (n0 + n1 + n2 + n3 + n4 + n5 + n6 + n7 + n8 + n9 + n10 + n11 + n12 + n13) (by omega)
  have z5 := z5 (n0 + n1 + n2 + n3 + n4 + n5 + n6 + n7 + n8 + n9 + n10 + n11 + n12 + n13) (by omega)
  have z6 := z6 (n0 + n1 + n2 + n3 + n4 + n5 + n6 + n7 + n8 + n9 + n10 + n11 + n12 + n13) (by omega)
  have z7 := z7 (n0 + n1 + n2 + n3 + n4 + n5 + n6 + n7 + n8 + n9 + n10 + n11 + n12 + n13) (by omega)
  have z8 := z8 (n0 + n1 + n2 + n3 + n4 + n5 + n6 + n7 + n8 + n9 + n10 + n11 + n12 + n13) (by omega)
  have z9 := z9 (n0 + n1 + n2 + n3 + n4 + n5 + n6 + n7 + n8 + n9 + n10 + n11 + n12 + n13) (by omega)
  have z10 := z10 (n0 + n1 + n2 + n3 + n4 + n5 + n6 + n7 + n8 + n9 + n10 + n11 + n12 + n13) (by omega)
  have z11 := z11 (n0 + n1 + n2 + n3 + n4 + n5 + n6 + n7 + n8 + n9 + n10 + n11 + n12 + n13) (by omega)
  have z12 := z12 (n0 + n1 + n2 + n3 + n4 + n5 + n6 + n7 + n8 + n9 + n10 + n11 + n12 + n13) (by omega)
  have z13 := z13 (n0 + n1 + n2 + n3 + n4 + n5 + n6 + n7 + n8 + n9 + n10 + n11 + n12 + n13) (by omega)
  have kc : conf [some .i64, some .i64, some .i64, some .i64, some .i64, some .i64, some .i64, some .i64, some .i64, some .i64, some .i64, some .i64, some .i64, some .i64, some .i64, some .i64, some .i64, some .i64, some .i64, some .i64, some .i64, none] c.conf.enc = true := Conf_conf _ w0
  have ka : conf [some .u32, some .u32, some .u32, some .u32, some .u32, some .u32, some .u32, some .u32, some .u32, some .u32, some .u32, some .u32, some .u32, some .u32, some .u32, some .u32, some .u32, some .u32, some .u32, some .u32, some .u32, some .u32, some .u32, some .u32, some .u32, some .u32, some .u32, some .u32, some .u32, none] c.a.enc = true := Arch_conf _ w1
  have ec := conf_eq kc
  have ea := conf_eq ka
  obtain ⟨u10, u11, u12, u13, u14, a10, a11, a12, a13, a14, a15, a16, a17, a18, a19, a110, a111, a112, a113, a114, a115⟩ := core_at c hw f1 l w
  have hL1 := core_len c hw f1 l w
  have hF1 := core_leaf c hw f1 l w
  obtain ⟨u20, u21, u22, u23, u24, a20, a21, a22, a23, a24, a25, a26, a27, a28, a29, a210, a211, a212, a213, a214, a215⟩ := core_at c hw f2 l w
  have hL2 := core_len c hw f2 l w
  have hF2 := core_leaf c hw f2 l w
  generalize coreF c f1 l w = cs1 at *
  generalize coreF c f2 l w = cs2 at *
  generalize c.conf.enc = v0 at *
  generalize c.a.enc = v1 at *
  generalize c.pred.enc = v2 at *
  generalize c.names.enc = v3 at *
  generalize c.phys.enc = v4 at *
  generalize c.shadow.flatMap (fun n => [T.int .u8 n]) = v5 at *
  generalize c.out.flatMap (fun n => [T.int .u32 n]) = v6 at *
  generalize c.tlb.flatMap Tlb.enc = v7 at *
  generalize c.queue.flatMap Slot.enc = v8 at *
  generalize c.rob.flatMap Rob.enc = v9 at *
  generalize c.iq.flatMap Iq.enc = v10 at *
  generalize c.lq.flatMap Lq.enc = v11 at *
  generalize c.sq.flatMap Sq.enc = v12 at *
  generalize l.flatMap Sb.enc = v13 at *
  generalize c.units.flatMap Flight.enc = v14 at *
  generalize c.dep.flatMap (fun n => [T.int .u8 n]) = v15 at *
  have b1 : (c.pC != c.pC) = false := by simp
  have b2 : (c.tlbNext != c.tlbNext) = false := by simp
  have b3 : (w != w) = false := by simp
  have b4 : (c.cycle != c.cycle) = false := by simp
  refine E_body (F := f9) rfl rfl rfl ?_
  generalize hs0 : (_ : List T) ++ List.replicate _ T.undef = s0
  have e0 : s0.length = 153 ∧ rho s0 (.tmp 0) = .agg cs1 ∧ rho s0 (.tmp 1) = .agg cs2 := by subst hs0; exact ⟨rfl, rfl, rfl⟩
  clear hs0
  obtain ⟨hl, h0, h1⟩ := e0
  refine W_cutC (fun t => t.s.length = 153 ∧ rho t.s (.tmp 2) = .ptr 0 0 ∧ rho t.s (.tmp 3) = .ptr 1 0 ∧ t.g 0 = some cs1 ∧ t.g 1 = some cs2) (W_region (fun k => by simp +decide (disch := first | omega | simp +decide [hl]) only [s9, simprocAttr, h0, h1, hF1, hF2]; rfl) ⟨rfl, ?_⟩) ?_
  · refine ⟨?_, ?_, ?_, ?_, ?_⟩ <;> simp +decide (disch := first | omega | simp +decide [hl]) only [s9, simprocAttr, hl]
  clear hl h0 h1
  rintro st ⟨hl, h2, h3, g0, g1⟩
  refine W_cutC (fun t => t.s.length = 153 ∧ rho t.s (.tmp 2) = .ptr 0 0 ∧ rho t.s (.tmp 3) = .ptr 1 0 ∧ t.g 0 = some cs1 ∧ t.g 1 = some cs2) ?_ ?_
  · cases hh : c.hold
    all_goals
      rw [hh] at a13 a23
      refine W_seqn (W_region (fun k => by simp +decide (disch := first | omega | simp +decide [hl]) only [s9, simprocAttr, h2, h3, g0, g1, hL1, hL2, u10, u11, u20, u21, a12, a13, a15, a114, a115, a22, a23, a25, a214, a215, kc, ka, ec, ea, b1, b2, b3, b4]; rfl) ⟨rfl, W_fls (W_skip ⟨rfl, ?_⟩)⟩)
      refine ⟨?_, ?_, ?_, ?_, ?_⟩ <;> simp +decide (disch := first | omega | simp +decide [hl]) only [s9, simprocAttr, hl, h2, h3, g0, g1]
  clear hl h2 h3 g0 g1
  rintro st ⟨hl, h2, h3, g0, g1⟩
  refine W_cutC (fun t => t.s.length = 153 ∧ rho t.s (.tmp 2) = .ptr 0 0 ∧ rho t.s (.tmp 3) = .ptr 1 0 ∧ t.g 0 = some cs1 ∧ t.g 1 = some cs2) (W_seqn (W_regionN ⟨n0 + n1 + n2 + n3 + n4 + n5 + n6 + n7 + n8 + n9 + n10 + n11 + n12 + n13, by simp +decide (disch := first | omega | simp +decide [hl]) only [s9, simprocAttr, h2, h3, g0, g1, hL1, hL2, u12, u13, u14, u22, u23, u24, a10, a11, a14, a16, a20, a21, a24, a26, aC19, pC19, nC19, aC20, pC20, nC20, aC21, pC21, nC21, aC22, pC22, nC22, aC23, pC23, nC23, aC24, pC24, nC24, aC25, pC25, nC25, z0, z1, z2, z3, z4, z5, z6]; rfl⟩ ⟨rfl, W_fls (W_skip ⟨rfl, ?_⟩)⟩)) ?_
  · refine ⟨?_, ?_, ?_, ?_, ?_⟩ <;> simp +decide (disch := first | omega | simp +decide [hl]) only [s9, simprocAttr, hl, h2, h3, g0, g1]
  clear hl h2 h3 g0 g1
  rintro st ⟨hl, h2, h3, g0, g1⟩
  refine W_seqn (W_regionN ⟨n0 + n1 + n2 + n3 + n4 + n5 + n6 + n7 + n8 + n9 + n10 + n11 + n12 + n13, by simp +decide (disch := first | omega | simp +decide [hl]) only [s9, simprocAttr, h2, h3, g0, g1, hL1, hL2, a17, a18, a19, a110, a111, a112, a113, a27, a28, a29, a210, a211, a212, a213, aC19, pC19, nC19, aC26, pC26, nC26, aC27, pC27, nC27, aC28, pC28, nC28, aC29, pC29, nC29, aC30, pC30, nC30, aC31, pC31, nC31, z7, z8, z9, z10, z11, z12, z13]; rfl⟩ ⟨rfl, W_ret ?_⟩)
  refine fin_of (F := f9) rfl (fun _ => rfl) ?_
  simp +decide (disch := first | omega | simp +decide [hl]) only [s9, simprocAttr]
end Go.Proofs.YtabfinhkoihhfaaGreat.Abs
