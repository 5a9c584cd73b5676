/- The cells of a core. -/
import Derived.Test.YtabfinhkoihhfaaLight2
namespace Go.Proofs.Ytabfinhkoihhfaa.Abs
open Go Go.RowKit Fn
set_option linter.unusedVariables false
set_option linter.unusedSimpArgs false
set_option linter.unnecessarySimpa false
set_option maxRecDepth 100000
set_option maxHeartbeats 4000000

theorem ints_still (k : IntKind) (l : List Int) : (l.flatMap (fun n => [T.int k n])).all still1 = true := by
  induction l with
  | nil => rfl
  | cons s l ih => rw [List.flatMap_cons, List.all_append, ih]; rfl
theorem ints_len (k : IntKind) (l : List Int) : (l.flatMap (fun n => [T.int k n])).length = l.length := by
  induction l with
  | nil => rfl
  | cons s l ih => rw [List.flatMap_cons, List.length_append, ih]; simp; omega
theorem core_shape (c : Core) (h : c.wf) : ∃ P A M D : List T, ∃ s1 : List T, c.enc = P ++ (A ++ (.imm false c.shadow.length (c.shadow.flatMap (fun n => [T.int .u8 n])) :: .imm false c.out.length (c.out.flatMap (fun n => [T.int .u32 n])) :: .int .u32 c.pC :: .bool c.hold :: .int .u32 c.pred.hist :: .imm false c.pred.table.length (c.pred.table.flatMap (fun n => [T.int .u8 n])) :: .imm false c.pred.btb.length (c.pred.btb.flatMap Btb.enc) :: .int .i64 c.pred.next :: .imm false c.pred.ras.length (c.pred.ras.flatMap (fun n => [T.int .u32 n])) :: .int .i64 c.pred.top :: .imm false c.tlb.length (c.tlb.flatMap Tlb.enc) :: .int .i64 c.tlbNext :: .imm false c.queue.length (c.queue.flatMap Slot.enc) :: (M ++ (D ++ (.imm false c.names.free.ring.length (c.names.free.ring.flatMap (fun n => [T.int .i64 n])) :: .int .i64 c.names.free.head :: .int .i64 c.names.free.n :: .int .u64 c.names.seq :: .imm false c.phys.val.length (c.phys.val.flatMap (fun n => [T.int .u32 n])) :: .imm false c.phys.ready.length (c.phys.ready.flatMap (fun b => [T.bool b])) :: .imm false c.rob.length (c.rob.flatMap Rob.enc) :: .imm false c.iq.length (c.iq.flatMap Iq.enc) :: .imm false c.lq.length (c.lq.flatMap Lq.enc) :: .imm false c.sq.length (c.sq.flatMap Sq.enc) :: .imm false c.sb.length (c.sb.flatMap Sb.enc) :: .imm false c.units.length (c.units.flatMap Flight.enc) :: .imm false c.dep.length (c.dep.flatMap (fun n => [T.int .u8 n])) :: .int .i64 c.wait :: .int .i64 c.cycle :: [])))))
    ∧ P = c.conf.enc ∧ A = c.a.enc ∧ M.length = 16 ∧ D.length = 16 ∧ P.length = 22 ∧ A.length = 30 ∧ P.all still1 = true ∧ A.all still1 = true ∧ M.all still1 = true ∧ D.all still1 = true := by
  obtain ⟨hconf, ha, _, _, _, _, _, _, _, _, hn, _⟩ := h
  refine ⟨c.conf.enc, c.a.enc, c.names.map.flatMap (fun n => [T.int .i64 n]), c.names.done.flatMap (fun n => [T.int .i64 n]), [], ?_, rfl, rfl, ?_, ?_, rfl, ?_, rfl, ?_, ints_still _ _, ints_still _ _⟩
  · unfold Core.enc Pred.enc Names.enc Free.enc Phys.enc
    simp only [List.append_assoc, List.cons_append, List.nil_append]
  · rw [ints_len]; exact hn.1.1
  · rw [ints_len]; exact hn.2.1.1
  · unfold Arch.enc
    rw [List.length_append, List.length_append, List.length_append, ints_len, ints_len, ha.2.1.1, ha.2.2.1.1]; rfl
  · unfold Arch.enc
    rw [List.all_append, List.all_append, List.all_append, ints_still, ints_still]; rfl
def immB : Option T → Bool
  | some (.imm _ _ _) => true
  | _ => false
theorem immAt_of {cs : List T} {i : Nat} (h : immB cs[i]? = true) : ImmAt cs i := by
  unfold ImmAt
  generalize cs[i]? = o at *
  cases o with
  | none => cases h
  | some x =>
    cases x <;> first | exact ⟨_, _, _, rfl⟩ | (exact absurd h (by simp [immB]))
theorem core_c (c : Core) (h : c.wf) : CoreC c.enc := by
  obtain ⟨P, A, M, D, _, e, _, _, hM, hD, hP, hA, sP, sA, sM, sD⟩ := core_shape c h
  rw [e]
  refine ⟨?_, ?_, immAt_of ?_, immAt_of ?_, immAt_of ?_, immAt_of ?_, immAt_of ?_, immAt_of ?_, immAt_of ?_, immAt_of ?_, immAt_of ?_, immAt_of ?_, immAt_of ?_, immAt_of ?_, immAt_of ?_, immAt_of ?_, immAt_of ?_⟩
  · simp only [List.length_append, List.length_cons, List.length_nil, hM, hD, hP, hA]
  · simp only [List.all_append, List.all_cons, List.all_nil, sP, sA, sM, sD, still1, Bool.and_self, Bool.and_true, Bool.true_and]
  all_goals (simp +decide only [List.getElem?_append, List.getElem?_cons_succ, List.getElem?_cons_zero, hM, hD, hP, hA, if_true, if_false, simprocAttr]; try rfl)
theorem core_d (c : Core) (h : c.wf) : CorD c.enc c.sb := by
  have hc := core_c c h
  obtain ⟨P, A, M, D, _, e, eP, _, hM, hD, hP, hA, sP, sA, sM, sD⟩ := core_shape c h
  have hw := wf_i64 h.2.2.2.2.2.2.2.2.2.2.2.2.2.2.2.2.2.2.2.1
  have hm := wf_i64 h.1.2.2.2.2.2.2.2.2.2.2.2.2.2.2.2.2.2.2.1
  have e18 : P[18]? = some (.int .i64 c.conf.memLat) := by rw [eP]; rfl
  refine ⟨hc.1, hc.2.1, ⟨false, ?_⟩, ⟨c.wait, ?_, hw⟩, c.conf.memLat, ?_, hm⟩ <;> rw [e]
  · simp +decide only [List.getElem?_append, List.getElem?_cons_succ, List.getElem?_cons_zero, hM, hD, hP, hA, if_true, if_false, simprocAttr]; try rfl
  · simp +decide only [List.getElem?_append, List.getElem?_cons_succ, List.getElem?_cons_zero, hM, hD, hP, hA, if_true, if_false, simprocAttr]; try rfl
  · simp +decide only [List.getElem?_append, hP, if_true, simprocAttr]; exact e18
theorem core_a (c : Core) (h : c.wf) : cut c.enc 22 30 = c.a.enc := by
  obtain ⟨P, A, M, D, _, e, _, eA, hM, hD, hP, hA, _⟩ := core_shape c h
  rw [e, ← eA]
  unfold cut
  rw [List.drop_left' hP, List.take_left' hA]
theorem conf_u32s : ∀ (d : List Int) (ks : List (Option IntKind)) (xs : List T), (∀ y ∈ d, (Lit.int .u32 y).wf = true) → conf (List.replicate d.length (some .u32) ++ ks) (d.flatMap (fun n => [T.int .u32 n]) ++ xs) = conf ks xs
  | [], ks, xs, _ => by simp
  | y :: d, ks, xs, h => by
    rw [List.length_cons, List.replicate_succ, List.flatMap_cons, List.cons_append, List.append_assoc, List.singleton_append, conf, conf_u32s d ks xs (fun z hz => h z (List.mem_cons_of_mem _ hz)), conf1_u32 (h y (List.mem_cons_self ..)), Bool.true_and]
theorem arch_conf (a : Arch) (h : a.wf) : conf [some .u32, some .u32, some .u32, some .u32, some .u32, some .u32, some .u32, some .u32, some .u32, some .u32, some .u32, some .u32, some .u32, some .u32, some .u32, some .u32, some .u32, some .u32, some .u32, some .u32, some .u32, some .u32, some .u32, some .u32, some .u32, some .u32, some .u32, some .u32, some .u32, none] a.enc = true := by
  have e : ([some .u32, some .u32, some .u32, some .u32, some .u32, some .u32, some .u32, some .u32, some .u32, some .u32, some .u32, some .u32, some .u32, some .u32, some .u32, some .u32, some .u32, some .u32, some .u32, some .u32, some .u32, some .u32, some .u32, some .u32, some .u32, some .u32, some .u32, some .u32, some .u32, none] : List (Option IntKind)) = some .u32 :: (List.replicate a.r.length (some .u32) ++ (List.replicate a.c.length (some .u32) ++ [none])) := by rw [h.2.1.1, h.2.2.1.1]; rfl
  rw [e]
  show (conf1 (some .u32) (.int .u32 a.pC) && conf _ (a.r.flatMap (fun n => [T.int .u32 n]) ++ (a.c.flatMap (fun n => [T.int .u32 n]) ++ [T.bool a.halt]))) = true
  rw [conf1_u32 h.1, conf_u32s _ _ _ h.2.1.2, conf_u32s _ _ _ h.2.2.1.2]; rfl
theorem eqL_flat : ∀ {l : List T}, (∀ x ∈ l, (∃ k n, x = .int k n) ∨ ∃ b, x = .bool b) → eqL l l = true
  | [], _ => rfl
  | x :: l, h => by
    have e : eq1 x x = true := by
      rcases h x (List.mem_cons_self ..) with ⟨k, n, rfl⟩ | ⟨b, rfl⟩ <;> simp [eq1]
    rw [eqL, e, eqL_flat (fun y hy => h y (List.mem_cons_of_mem _ hy))]; rfl
theorem arch_eq (a : Arch) : eqL a.enc a.enc = true := by
  refine eqL_flat fun x hx => ?_
  unfold Arch.enc at hx
  simp only [List.mem_append, List.mem_cons, List.not_mem_nil, or_false, List.mem_flatMap] at hx
  rcases hx with rfl | ⟨n, _, rfl⟩ | ⟨n, _, rfl⟩ | rfl
  · exact .inl ⟨_, _, rfl⟩
  · exact .inl ⟨_, _, rfl⟩
  · exact .inl ⟨_, _, rfl⟩
  · exact .inr ⟨_, rfl⟩
end Go.Proofs.Ytabfinhkoihhfaa.Abs
