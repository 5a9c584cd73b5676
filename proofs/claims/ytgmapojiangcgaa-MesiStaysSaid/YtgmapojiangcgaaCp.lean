/- copy onto a row of one's own from some place on: what the row holds then. -/
import Derived.Test.YtgmapojiangcgaaWWords
import Derived.Laws.CopyOwn
import Derived.Lib.SliceRun
namespace Go.Proofs.Ytgmapojiangcgaa.Cp
open Go.RowKit Go.Proofs.YtgmapojiangcgaaW.PrintWords Go.Proofs.YtgmapojiangcgaaW.PrintWords.Kd
set_option linter.unusedVariables false
/-- A row of bools, by a number's bits. -/
def bf (n m : Nat) : Array Bool := ((List.range n).map m.testBit).toArray
section
variable {P : Program} {ops : Array Oper} {rest : List Oper} {o : Oper} {a : Act} {Q : Exit → Act → World → Prop} {W : World} {α : Type}
theorem run_copy_at {enc : α → Value} {h1 : ∀ x, (enc x).oneCell' = true} (d : α) (base : Nat) (t t' ty e : TypeId) (ht : P.underlying t = some (.slice e)) (hinfo : (P.info? e).map (·.size) = some 1)
    (xs ys : List α) (g cap off c m : Nat) (A : Option Addr) (ok : Nat → Prop) (hoff : off ≤ xs.length)
    (HO : (scalar enc h1).R e W base ok (.slice (some ⟨g, 0, none⟩) xs.length cap) xs) (HR : (scalar enc h1).C W A m ys) :
    ∃ w1, (Builtin.copy_ #[t, t'] ty #[.slice (some ⟨g, off, none⟩) (xs.length - off) (cap - off), .slice A m c]).run P W = .ok (goInt ((min m (xs.length - off) : Nat) : Int)) w1 ∧
      (scalar enc h1).R e w1 base ok (.slice (some ⟨g, 0, none⟩) xs.length cap) (xs.take off ++ ys.take (min m (xs.length - off)) ++ xs.drop (off + min m (xs.length - off))) ∧ W.grownBy w1 (some g) := by
  have hR := reads_of_C (enc := enc) (d := d) (h1 := h1) HR
  have hm : ys.length = m := hR.1
  have hown := own_of_R HO
  rcases Nat.eq_zero_or_pos (min m (xs.length - off)) with h0 | hp
  · refine ⟨W, ?_, by rw [h0, List.take_zero, List.append_nil, Nat.add_zero, List.take_append_drop]; exact HO, World.grownBy.refl W _⟩
    rw [h0]
    exact run_copy_none W t t' ty e _ A (xs.length - off) _ m c ht hinfo h0
  · obtain ⟨ad, hA, hc⟩ := hR.2.2 (by omega)
    rcases hown.2 with ⟨_, hx0⟩ | ⟨g', cap', cur, hv, hb, hh, hnc, hcm, hcs, htake⟩
    · omega
    injection hv with hv1 hv2 hv3
    injection hv1 with hv1
    injection hv1 with hv1
    subst hv1 hv3
    have hcs1 : cur.size = cap := by omega
    have hsrc : ∀ j u, (encs enc (ys.take (min m (xs.length - off))))[j]? = some u → W.cell? (ad.add j) = some u := by
      intro j u hu
      have hj : j < (ys.take (min m (xs.length - off))).length := by
        rcases Nat.lt_or_ge j (ys.take (min m (xs.length - off))).length with h | h
        · exact h
        · rw [List.getElem?_eq_none (by rw [encs_length]; exact h)] at hu
          cases hu
      have hjm : j < min m (xs.length - off) := by rw [List.length_take] at hj; omega
      rw [encs_get (d := d) _ j hj] at hu
      rw [hc j (by omega), ← hu]
      simp [List.getD_eq_getElem?_getD, hjm]
    have hkl : (encs enc (ys.take (min m (xs.length - off)))).length = min m (xs.length - off) := by rw [encs_length, List.length_take]; omega
    have hr := run_copy_cells (P := P) W t t' ty e g off (xs.length - off) (cap - off) ad m c (encs enc (ys.take (min m (xs.length - off)))) ht hinfo (by rw [hkl]) hsrc
      (fun j hj => by rw [cell_of_row W g _ cur e (0, 0) hh]; simp; omega) (fun j _ => blk_frozen hh _) (by intro u hu; simp only [encs, List.mem_map] at hu; obtain ⟨q, _, rfl⟩ := hu; exact h1 q)
    obtain ⟨cur', h3, h4, h5⟩ := setCells_row (encs enc (ys.take (min m (xs.length - off)))) off W cur hh (by rw [hkl]; omega)
    obtain ⟨s1, s2, s3, s4⟩ := setCells_same g (encs enc (ys.take (min m (xs.length - off)))) off W
    refine ⟨_, by rw [hA, hr, hkl], R_of_own ?_ HO.1, ⟨s1, s2, s3, by rw [s4]; exact Nat.le_refl _, fun k _ hk => setCells_far _ _ k (fun he => hk (by rw [he]))⟩⟩
    have hln : (xs.take off ++ ys.take (min m (xs.length - off)) ++ xs.drop (off + min m (xs.length - off))).length = xs.length := by
      rw [List.length_append, List.length_append, List.length_take, List.length_take, List.length_drop]
      omega
    rw [hln]
    refine ⟨by rw [encs_length, hln, Nat.mul_one], .inr ⟨g, cap, cur', rfl, hb, h3, hnc, hcm, by rw [h4, hcs], ?_⟩⟩
    have htk : cur.toList.take xs.length = encs enc xs := by rw [← htake, Nat.mul_one]
    have e1 : encs enc (xs.take off) = (encs enc xs).take off := by simp [encs, List.map_take]
    have e2 : encs enc (xs.drop (off + min m (xs.length - off))) = (encs enc xs).drop (off + min m (xs.length - off)) := by simp [encs, List.map_drop]
    rw [h5, hkl, Nat.mul_one, encs_append, encs_append, e1, e2, ← htk, List.take_take, Nat.min_eq_left hoff]
    have hl1 : (cur.toList.take off).length = off := by rw [List.length_take, Array.length_toList]; omega
    rw [List.take_append, List.take_of_length_le (by rw [List.length_append, hl1, hkl]; omega), List.length_append, hl1, hkl]
    congr 1
    rw [List.drop_take]
theorem copy_at {enc : α → Value} {h1 : ∀ x, (enc x).oneCell' = true} (d : α) {w0 : World} (base : Nat) (hgd : o.guard = none) (s x : Operand) (t t' e : TypeId)
    (ho : o.op = .call { callee := .builtin .copy, args := #[s, x], argTypes := #[t, t'] }) (ht : P.underlying t = some (.slice e)) (hinfo : (P.info? e).map (·.size) = some 1)
    (xs ys : List α) (g cap off m c : Nat) (A : Option Addr) (ok : Nat → Prop) (hoff : off ≤ xs.length) (hs : a.eval s = .slice (some ⟨g, off, none⟩) (xs.length - off) (cap - off)) (hx : a.eval x = .slice A m c)
    (HO : (scalar enc h1).R e W base ok (.slice (some ⟨g, 0, none⟩) xs.length cap) xs) (HR : (scalar enc h1).C W A m ys) (HB : Below base w0 W) (hbase : base ≤ W.heap.size)
    (h : ∀ w1, (scalar enc h1).R e w1 base ok (.slice (some ⟨g, 0, none⟩) xs.length cap) (xs.take off ++ ys.take (min m (xs.length - off)) ++ xs.drop (off + min m (xs.length - off))) → Below base w0 w1 → W.grownBy w1 (some g) → wpList P ops Q rest (a.put o.dst (.int .i64 ((min m (xs.length - off) : Nat) : Int))) w1) :
    wpList P ops Q (o :: rest) a W := by
  obtain ⟨w1, hr, hrow, hg⟩ := run_copy_at (P := P) d base t t' o.type e ht hinfo xs ys g cap off c m A ok hoff HO HR
  refine wpList_plain hgd fun K hK => ?_
  unfold Oper.wp execOp
  simp only [ho, resolve, invoke, builtin, Sem.run_bind, Sem.run_pure, Result.andThen_ok, List.map_toArray, List.map_cons, List.map_nil, hs, hx, hr]
  exact hK _ _ (h w1 hrow (HB.grown hg hbase (fun k hk => own_base (own_of_R HO) k (by rw [← hk]; rfl))) hg)
/-- The same as one step of a region that draws its order. -/
theorem step_copy_at {enc : α → Value} {h1 : ∀ x, (enc x).oneCell' = true} {K : Act → World → Prop} {E : Prop} (d : α) {w0 : World} (base : Nat) (hgd : o.guard = none) (s x : Operand) (t t' e : TypeId)
    (ho : o.op = .call { callee := .builtin .copy, args := #[s, x], argTypes := #[t, t'] }) (ht : P.underlying t = some (.slice e)) (hinfo : (P.info? e).map (·.size) = some 1)
    (xs ys : List α) (g cap off m c : Nat) (A : Option Addr) (ok : Nat → Prop) (hoff : off ≤ xs.length) (hs : a.eval s = .slice (some ⟨g, off, none⟩) (xs.length - off) (cap - off)) (hx : a.eval x = .slice A m c)
    (HO : (scalar enc h1).R e W base ok (.slice (some ⟨g, 0, none⟩) xs.length cap) xs) (HR : (scalar enc h1).C W A m ys) (HB : Below base w0 W) (hbase : base ≤ W.heap.size)
    (h : ∀ w1, (scalar enc h1).R e w1 base ok (.slice (some ⟨g, 0, none⟩) xs.length cap) (xs.take off ++ ys.take (min m (xs.length - off)) ++ xs.drop (off + min m (xs.length - off))) → Below base w0 w1 → W.grownBy w1 (some g) → K (a.put o.dst (.int .i64 ((min m (xs.length - off) : Nat) : Int))) w1) :
    if Region.wanted o (yielded ops a.tmps) = true then Oper.wp P o a W K Q else E := by
  have hw : Region.wanted o (yielded ops a.tmps) = true := by simp [Region.wanted, hgd]
  rw [if_pos hw]
  obtain ⟨w1, hr, hrow, hg⟩ := run_copy_at (P := P) d base t t' o.type e ht hinfo xs ys g cap off c m A ok hoff HO HR
  unfold Oper.wp
  simp only [execOp, ho, resolve, invoke, builtin, Sem.run_bind, Sem.run_pure, Result.andThen_ok, List.map_toArray, List.map_cons, List.map_nil, hs, hx, hr]
  exact h w1 hrow (HB.grown hg hbase (fun k hk => own_base (own_of_R HO) k (by rw [← hk]; rfl))) hg
/-- The operation calls a function value. -/
theorem gate_dyn {d : Nat} {as : Array Operand} {ts : Array TypeId} (_ho : o.op = .call { callee := .value (.tmp d), args := as, argTypes := ts }) (h : wpList P ops Q (o :: rest) a W) : wpList P ops Q (o :: rest) a W := h
theorem enters_ {f : FuncId} {fn : Func} (hf : P.funcs[f]? = some fn) (hname : (fn.name == "runtime.NumGoroutine") = false) (hb : fn.body.isSome = true) (args : Array Value) (w : World) : (callFunc f args).run P w = .ok (.enter f args) w := by
  have h1 : fn.name ≠ "runtime.NumGoroutine" := by simpa using hname
  obtain ⟨c, hc⟩ := Option.isSome_iff_exists.1 hb
  simp [callFunc, hf, h1, hc]
/-- A call of a function value that holds no captured values. -/
theorem goesD_ {rest : List Oper} {oi : Oper} {a : Act} {w : World} {d : Nat} {f : FuncId} (N : Option Tmp) (hd : oi.dst = N) (hg : oi.guard = none) {fn : Func} {as : Array Operand} {ts : Array TypeId} (hf : P.funcs[f]? = some fn) (hname : (fn.name == "runtime.NumGoroutine") = false) (hb : fn.body.isSome = true) (args : Array Value)
    (hop : oi.op = .call { callee := .value (.tmp d), args := as, argTypes := ts }) (hv : a.eval (.tmp d) = .func (.func f) #[] #[]) (hargs : as.map a.eval = args)
    (h : Calls P f args w fun e w' => ∃ v, e = .returned v ∧ wpList P ops Q rest (a.put N v) w') : wpList P ops Q (oi :: rest) a w := by
  refine wpList_plain hg fun K hK => ?_
  have he := enters_ hf hname hb args w
  have hrun : (execOp a.eval oi).run P w = .ok (.enter f args) w := by
    unfold execOp
    simp [hop, resolve, Deferred.ofValue, invoke, hv, hargs, he]
  unfold Oper.wp
  rw [hrun, Oper.upon_enter]
  refine h.mono fun e w'' hh => ?_
  obtain ⟨v, rfl, hk⟩ := hh
  subst hd
  exact hK _ _ hk
end
end Go.Proofs.Ytgmapojiangcgaa.Cp

