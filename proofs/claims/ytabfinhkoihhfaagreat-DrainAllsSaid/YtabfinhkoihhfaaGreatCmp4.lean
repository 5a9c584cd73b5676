/- Whole cores held against one another. -/
import Derived.Test.YtabfinhkoihhfaaGreatCmp3
import Derived.Test.YtabfinhkoihhfaaGreatRfs
namespace Go.Proofs.YtabfinhkoihhfaaGreat.Abs
open Go Go.RowKit Fn
set_option linter.unusedVariables false
set_option linter.unusedSimpArgs false
set_option linter.unnecessarySimpa false
set_option maxRecDepth 100000
set_option maxHeartbeats 4000000

theorem ints_len (k : IntKind) (l : List Int) : (l.flatMap (fun n => [T.int k n])).length = l.length := by
  induction l with
  | nil => rfl
  | cons s l ih => rw [List.flatMap_cons, List.length_append, ih]; simp; omega
theorem ints_still (k : IntKind) (l : List Int) : (l.flatMap (fun n => [T.int k n])).all still1 = true := by
  induction l with
  | nil => rfl
  | cons s l ih => rw [List.flatMap_cons, List.all_append, ih]; rfl
theorem cut_app {X Y Z : List T} {a n : Nat} (hX : X.length = a) (hY : Y.length = n) : cut (X ++ (Y ++ Z)) a n = Y := by
  unfold cut
  rw [List.drop_left' hX, List.take_left' hY]
def cS1 (c : Core) : List T := [.imm false c.shadow.length (c.shadow.flatMap (fun n => [T.int .u8 n])), .imm false c.out.length (c.out.flatMap (fun n => [T.int .u32 n])), .int .u32 c.pC, .bool c.hold]
def cS2 (c : Core) : List T := [.imm false c.tlb.length (c.tlb.flatMap Tlb.enc), .int .i64 c.tlbNext, .imm false c.queue.length (c.queue.flatMap Slot.enc)]
def cS3 (c : Core) (f : Bool) (l : List Sb) (w : Int) : List T := [.imm false c.rob.length (c.rob.flatMap Rob.enc), .imm false c.iq.length (c.iq.flatMap Iq.enc), .imm false c.lq.length (c.lq.flatMap Lq.enc), .imm false c.sq.length (c.sq.flatMap Sq.enc), .imm f l.length (l.flatMap Sb.enc), .imm false c.units.length (c.units.flatMap Flight.enc), .imm false c.dep.length (c.dep.flatMap (fun n => [T.int .u8 n])), .int .i64 w, .int .i64 c.cycle]
def coreF (c : Core) (f : Bool) (l : List Sb) (w : Int) : List T := c.conf.enc ++ (c.a.enc ++ (cS1 c ++ (c.pred.enc ++ (cS2 c ++ (c.names.enc ++ (c.phys.enc ++ cS3 c f l w))))))
theorem core_parts (c : Core) : c.enc = coreF c false c.sb c.wait := rfl
theorem conf_len22 (c : Core) : c.conf.enc.length = 22 := rfl
theorem arch_len30 (c : Core) (h : c.wf) : c.a.enc.length = 30 := by
  have ha := h.2.1
  unfold Arch.enc
  rw [List.length_append, List.length_append, List.length_append, ints_len, ints_len, ha.2.1.1, ha.2.2.1.1]; rfl
theorem names_len36 (c : Core) (h : c.wf) : c.names.enc.length = 36 := by
  have hn := h.2.2.2.2.2.2.2.2.2.2.1
  unfold Names.enc
  rw [List.length_append, List.length_append, List.length_append, ints_len, ints_len, hn.1.1, hn.2.1.1]; rfl
theorem core_len (c : Core) (h : c.wf) (f : Bool) (l : List Sb) (w : Int) : (coreF c f l w).length = 112 := by
  unfold coreF
  simp only [List.length_append, conf_len22, arch_len30 c h, names_len36 c h, show (cS1 c).length = 4 from rfl, show c.pred.enc.length = 6 from rfl, show (cS2 c).length = 3 from rfl, show c.phys.enc.length = 2 from rfl, show (cS3 c f l w).length = 9 from rfl]
theorem core_pre (c : Core) (h : c.wf) (f : Bool) (l : List Sb) (w : Int) : ∃ X : List T, X.length = 103 ∧ ∀ f l w, coreF c f l w = X ++ cS3 c f l w := by
  refine ⟨c.conf.enc ++ (c.a.enc ++ (cS1 c ++ (c.pred.enc ++ (cS2 c ++ (c.names.enc ++ c.phys.enc))))), ?_, fun f l w => ?_⟩
  · simp only [List.length_append, conf_len22, arch_len30 c h, names_len36 c h, show (cS1 c).length = 4 from rfl, show c.pred.enc.length = 6 from rfl, show (cS2 c).length = 3 from rfl, show c.phys.enc.length = 2 from rfl]
  · unfold coreF; simp only [List.append_assoc]
theorem core_put (c : Core) (h : c.wf) (f : Bool) (l : List Sb) (w : Int) : putC c.enc f l w = coreF c f l w := by
  obtain ⟨X, hX, hF⟩ := core_pre c h f l w
  rw [core_parts]
  unfold putC
  rw [hF, hF, List.set_append_right _ _ (by omega), List.set_append_right _ _ (by omega), hX]
  rfl
theorem core_still (c : Core) (h : c.wf) : c.enc.all still1 = true := by
  rw [core_parts]
  unfold coreF
  have e1 : c.a.enc.all still1 = true := by
    unfold Arch.enc
    rw [List.all_append, List.all_append, List.all_append, ints_still, ints_still]; rfl
  have e2 : c.names.enc.all still1 = true := by
    unfold Names.enc
    rw [List.all_append, List.all_append, List.all_append, ints_still, ints_still]; rfl
  simp only [List.all_append, e1, e2, show c.conf.enc.all still1 = true from rfl, show (cS1 c).all still1 = true from rfl, show c.pred.enc.all still1 = true from rfl, show (cS2 c).all still1 = true from rfl, show c.phys.enc.all still1 = true from rfl, show (cS3 c false c.sb c.wait).all still1 = true from rfl, Bool.and_self]
theorem core_x (c : Core) (h : c.wf) : CorX c.enc false c.sb c.wait c.conf.memLat := by
  obtain ⟨X, hX, hF⟩ := core_pre c h false c.sb c.wait
  have hl := core_len c h false c.sb c.wait
  rw [← core_parts] at hl
  have hw := wf_i64 h.2.2.2.2.2.2.2.2.2.2.2.2.2.2.2.2.2.2.2.1
  have hm := wf_i64 h.1.2.2.2.2.2.2.2.2.2.2.2.2.2.2.2.2.2.2.1
  refine ⟨hl, core_still c h, ?_, ?_, hw, ?_, hm⟩
  · rw [core_parts, hF, List.getElem?_append_right (by omega), hX]; rfl
  · rw [core_parts, hF, List.getElem?_append_right (by omega), hX]; rfl
  · rw [core_parts]; rfl
theorem same_names (p : Names) (h : p.wf) : E ap 24 [.agg p.enc, .agg p.enc] (.bool true) := by
  obtain ⟨h1, h2, h3, _⟩ := h
  obtain ⟨N, q⟩ := (same_free p.free h3).call aC47 (fun g => rfl)
  have q := q N (Nat.le_refl _)
  refine E_body (F := f24) rfl rfl rfl ?_
  have k1 : conf [some .i64, some .i64, some .i64, some .i64, some .i64, some .i64, some .i64, some .i64, some .i64, some .i64, some .i64, some .i64, some .i64, some .i64, some .i64, some .i64] (p.map.flatMap (fun n => [T.int .i64 n])) = true := conf_is h1
  have k2 : conf [some .i64, some .i64, some .i64, some .i64, some .i64, some .i64, some .i64, some .i64, some .i64, some .i64, some .i64, some .i64, some .i64, some .i64, some .i64, some .i64] (p.done.flatMap (fun n => [T.int .i64 n])) = true := conf_is h2
  have e1 := conf_eq k1
  have e2 := conf_eq k2
  have l1 := (ints_len .i64 p.map).trans h1.1
  have l2 := (ints_len .i64 p.done).trans h2.1
  have s1 := ints_still .i64 p.map
  have s2 := ints_still .i64 p.done
  have hfl : p.free.enc.length = 3 := rfl
  have hfs : p.free.enc.all still1 = true := rfl
  generalize hx : p.enc = xs
  have hxs : xs = p.map.flatMap (fun n => [T.int .i64 n]) ++ (p.done.flatMap (fun n => [T.int .i64 n]) ++ (p.free.enc ++ ([T.int .u64 p.seq]))) := hx.symm
  clear hx
  generalize p.map.flatMap (fun n => [T.int .i64 n]) = m1 at *
  generalize p.done.flatMap (fun n => [T.int .i64 n]) = m2 at *
  generalize p.free.enc = m3 at *
  have c1 : cut xs 0 16 = m1 := by rw [hxs]; exact cut_app (X := []) rfl l1
  have c2 : cut xs 16 16 = m2 := by rw [hxs]; exact cut_app l1 l2
  have c3 : cut xs 32 3 = m3 := by rw [hxs, ← List.append_assoc]; exact cut_app (by rw [List.length_append, l1, l2]) hfl
  have c4 : xs[35]? = some (.int .u64 p.seq) := by
    rw [hxs, ← List.append_assoc, ← List.append_assoc, List.getElem?_append_right (by simp only [List.length_append, l1, l2, hfl]; omega)]
    simp only [List.length_append, l1, l2, hfl]; rfl
  have hxl : xs.length = 36 := by rw [hxs]; simp only [List.length_append, l1, l2, hfl]; rfl
  have hleaf : allLeaf xs = true := by
    refine still_leaf ?_
    rw [hxs]; simp only [List.all_append, s1, s2, hfs]; rfl
  clear hxs
  generalize hs0 : (_ : List T) ++ List.replicate _ T.undef = s0
  have e0 : s0.length = 31 ∧ rho s0 (.tmp 0) = .agg xs ∧ rho s0 (.tmp 1) = .agg xs := by subst hs0; exact ⟨rfl, rfl, rfl⟩
  clear hs0
  obtain ⟨hl, h0, h1⟩ := e0
  have e3 : (p.seq == p.seq) = true := by simp
  refine W_cutC (fun t => t.s.length = 31 ∧ rho t.s (.tmp 2) = .ptr 0 0 ∧ rho t.s (.tmp 3) = .ptr 1 0 ∧ t.g 0 = some xs ∧ t.g 1 = some xs) (W_region (fun k => by simp +decide (disch := first | omega | simp +decide [hl]) only [s9, simprocAttr, h0, h1, hleaf]; rfl) ⟨rfl, ?_⟩) ?_
  · refine ⟨?_, ?_, ?_, ?_, ?_⟩ <;> simp +decide (disch := first | omega | simp +decide [hl]) only [s9, simprocAttr, hl]
  rintro st ⟨hl, h2, h3, g0, g1⟩
  refine W_seqn (W_regionN ⟨N, by simp +decide (disch := first | omega | simp +decide [hl]) only [s9, simprocAttr, h2, h3, g0, g1, hxl, c1, c2, c3, c4, k1, k2, e1, e2, e3, aC47, pC47, nC47, q]; rfl⟩ ⟨rfl, W_ret ?_⟩)
  refine fin_of (F := f24) rfl (fun _ => rfl) ?_
  simp +decide (disch := first | omega | simp +decide [hl]) only [s9, simprocAttr]
end Go.Proofs.YtabfinhkoihhfaaGreat.Abs
