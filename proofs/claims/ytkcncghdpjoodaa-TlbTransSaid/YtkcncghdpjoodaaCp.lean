/- copy onto a row of one's own from some place on: what the row holds then. -/
import Derived.Test.YtkcncghdpjoodaaWWords
import Derived.Test.YtkcncghdpjoodaaWMore
import Derived.Laws.CopyOwn
import Derived.BigFrame
import Derived.Lib.SlBytesConst
import Derived.Deep.RegionHeld3
import Derived.Laws.Rows
import Derived.Lib.SliceRun
namespace Go.Proofs.Ytkcncghdpjoodaa.Cp
open Go.RowKit Go.Proofs.YtkcncghdpjoodaaW.PrintWords Go.Proofs.YtkcncghdpjoodaaW.PrintWords.Kd
set_option linter.unusedVariables false
section
variable {P : Program} {ops : Array Oper} {rest : List Oper} {o : Oper} {a : Act} {Q : Exit → Act → World → Prop} {W : World} {α : Type}
/-! Cuts that tell the new room: l[:n:n], l[1:n:n]. -/
/-- copy of a whole row onto a row of one's own that is as long. -/
theorem R_copy_all (d : Kd α) {Rr : α → List Value → Prop} {w0 : World} (base : Nat) (hgd : o.guard = none) (s x : Operand) (t e : TypeId)
    (ho : o.op = .call { callee := .builtin .copy, args := #[s, x], argTypes := #[t, t] }) (ht : P.underlying t = some (.slice e)) (hinfo : (P.info? e).map (·.size) = some d.sz) (hs0 : 0 < d.sz)
    (v : Value) (ys xs : List α) (A : Option Addr) (m c : Nat) (ok okp : Nat → Prop) (hs : a.eval s = v) (hx : a.eval x = .slice A m c) (hlen : ys.length = xs.length)
    (HO : d.R e W base ok v ys) (HR : ReadsRow Rr d.sz W A m xs) (hKM : ∀ x cs, Rr x cs → d.M W base okp x cs) (hokp : ∀ k, okp k → ok k ∧ some k ≠ v.ownBlock) (HB : Below base w0 W) (hbase : base ≤ W.heap.size)
    (h : ∀ w1, d.R e w1 base ok v xs → Below base w0 w1 → W.grownBy w1 v.ownBlock → wpList P ops Q rest (a.put o.dst (.int .i64 (xs.length : Int))) w1) : wpList P ops Q (o :: rest) a W := by
  obtain ⟨i0, hi, hz1⟩ := Option.map_eq_some_iff.1 hinfo
  have hm : xs.length = m := HR.1
  obtain ⟨hok, inner, hown, hr⟩ := HO
  have hrun : ∃ w1, (Builtin.copy_ #[t, t] o.type #[v, .slice A m c]).run P W = .ok (goInt ((xs.length : Nat) : Int)) w1 ∧ d.R e w1 base ok v xs ∧ W.grownBy w1 v.ownBlock := by
    rcases hown.2 with ⟨rfl, hy0⟩ | ⟨g, cap, cur, rfl, hb, hh, hnc, hcm, hcs, htake⟩
    · have h0 : xs.length = 0 := by omega
      obtain rfl := List.eq_nil_of_length_eq_zero h0
      have hm0 : m = 0 := by simpa using hm.symm
      subst hm0
      obtain rfl : ys = [] := List.eq_nil_of_length_eq_zero (by simpa using hlen)
      refine ⟨W, ?_, ⟨hok, inner, hown, hr⟩, World.grownBy.refl W _⟩
      cases A with
      | none => simp [Builtin.copy_, run_underlying ht, Builtin.lenOf, Builtin.firstCells, sizeOf, typeInfo, hi]
      | some ad =>
        have hl0 : (loadCells ad 0).run P W = .ok #[] W := run_loadCells_list W ad [] (fun j v h => by simp at h)
        simp [Builtin.copy_, run_underlying ht, Builtin.lenOf, Builtin.firstCells, sizeOf, typeInfo, hi, hl0]
    · rcases A with _ | ad
      · have h0 : m = 0 := by
          rcases Nat.eq_zero_or_pos m with h0 | h0
          · exact h0
          · obtain ⟨ad, h, _⟩ := HR.2.2 h0
            cases h
        subst h0
        obtain rfl := List.eq_nil_of_length_eq_zero hm
        obtain rfl : ys = [] := List.eq_nil_of_length_eq_zero (by simpa using hlen)
        refine ⟨W, ?_, ⟨hok, inner, hown, hr⟩, World.grownBy.refl W _⟩
        simp [Builtin.copy_, run_underlying ht, Builtin.lenOf, Builtin.firstCells, sizeOf, typeInfo, hi, storeCells]
      · obtain ⟨news, hnr, hnc1⟩ := ReadsRow.inner_ HR
        have hnM : Reps (d.M W base okp) d.sz xs news := hnr.imp_ (fun p c hp => hKM p c hp)
        have hone : ∀ u ∈ news, u.oneCell' = true := by
          intro u hu
          obtain ⟨q, hq, rfl⟩ := List.mem_iff_getElem.1 hu
          have hql : q / d.sz < xs.length := by
            rw [Nat.div_lt_iff_lt_mul hs0]
            rw [← hnM.1]
            exact hq
          have hc := hnM.2 (q / d.sz) _ (List.getElem?_eq_getElem hql)
          refine d.K_one (d.K_of_M hc) _ ?_
          rw [List.mem_iff_getElem?]
          refine ⟨q % d.sz, ?_⟩
          rw [List.getElem?_take, if_pos (Nat.mod_lt _ hs0), List.getElem?_drop, Nat.mul_comm, Nat.div_add_mod, List.getElem?_eq_getElem hq]
        have hnl : news.length = xs.length * d.sz := hnM.1
        have hfit : 0 + 0 + news.length ≤ cur.size := by
          rw [hcs, hnl, ← hlen]
          have := Nat.mul_le_mul_right d.sz hnc
          omega
        have hld := run_loadCells_list (P := P) W ad news hnc1
        have hst := run_storeCells_at P g 0 e news 0 cur W hh hfit hone
        have hg : W.grownBy (W.setRow g (cur.toList.take (0 + 0) ++ news ++ cur.toList.drop (0 + 0 + news.length)).toArray) (some g) :=
          ⟨rfl, rfl, rfl, by simp [World.setRow], fun k _ hk => setRow_other W g k _ (fun e => hk (by rw [e]))⟩
        refine ⟨W.setRow g (cur.toList.take (0 + 0) ++ news ++ cur.toList.drop (0 + 0 + news.length)).toArray, ?_, ⟨hok, news, ⟨hnl, .inr ⟨g, cap, _, by rw [hlen], hb, setRow_heap W g cur _ e (0, 0) hh, by rw [← hlen]; exact hnc, hcm, ?_, ?_⟩⟩, ?_⟩, hg⟩
        · have hmin : Nat.min m ys.length = xs.length := by rw [hlen, hm]; exact Nat.min_self _
          rw [hnl] at hld
          simp [Builtin.copy_, run_underlying ht, Builtin.lenOf, Builtin.firstCells, sizeOf, typeInfo, hi, hz1, hmin, hld, hst]
        · rw [← hcs]
          simp
          simp at hfit
          omega
        · simp [← hnl]
        · refine hnM.imp_ (fun p cs hp => ?_)
          exact d.M_mono (fun k hk => hokp k hk) (M_grown hp hg (fun k hk => (hokp k hk).2))
  obtain ⟨w1, hr1, hR1, hg1⟩ := hrun
  refine wpList_plain hgd fun K hK => ?_
  unfold Oper.wp execOp
  simp only [ho, resolve, invoke, builtin, Sem.run_bind, Sem.run_pure, Result.andThen_ok, List.map_toArray, List.map_cons, List.map_nil, hs, hx, hr1]
  exact hK _ _ (h w1 hR1 (HB.grown hg1 hbase (fun k hk => own_base hown k hk)) hg1)
/-- A whole struct or array is loaded from its block. -/
theorem load_whole {d : TypeDesc} {t : TypeId} {cs : Array Value} {fr : Nat × Nat} (ty : TypeId) (x : Operand) (g : Nat) (hw : Region.wanted o (yielded ops a.tmps) = true) (ho : o.op = .load ty x) (hx : a.eval x = .pointer (some ⟨g, 0, none⟩))
    (hg : W.heap[g]? = some (.cells cs t fr)) (hu : P.underlying ty = some d) (hd : (match d with | .struct _ | .array _ _ => true | _ => false) = true) (hi : (P.info? ty).map (·.size) = some cs.size)
    (h : wpList P ops Q rest (a.put o.dst (.agg cs)) W) : wpList P ops Q (o :: rest) a W :=
  BigFrame.wpList_want hw fun _ hK => wp_load_row ty x ho g hx t cs fr d hg hu hd hi (hK _ _ h)
/-- A part of a block is loaded as a whole. -/
theorem load_part {d : TypeDesc} {t : TypeId} {cs : Array Value} {fr : Nat × Nat} (ty : TypeId) (x : Operand) (g off : Nat) (vs : Array Value) (hw : Region.wanted o (yielded ops a.tmps) = true) (ho : o.op = .load ty x) (hx : a.eval x = .pointer (some ⟨g, off, none⟩))
    (hg : W.heap[g]? = some (.cells cs t fr)) (hu : P.underlying ty = some d) (hd : (match d with | .struct _ | .array _ _ => true | _ => false) = true) (hi : (P.info? ty).map (·.size) = some vs.size) (hv : (cs.toList.drop off).take vs.size = vs.toList)
    (h : wpList P ops Q rest (a.put o.dst (.agg vs)) W) : wpList P ops Q (o :: rest) a W := by
  have hl : (loadCells ⟨g, off, none⟩ vs.toList.length).run P W = .ok vs.toList.toArray W :=
    run_loadCells_list (P := P) W ⟨g, off, none⟩ vs.toList (fun j v hj => by
      have hadd : (⟨g, off, none⟩ : Addr).add j = ⟨g, off + j, none⟩ := by unfold Addr.add; split <;> simp_all
      rw [hadd, cell_of_row W g (off + j) cs t fr hg]
      rw [← hv, List.getElem?_take] at hj
      split at hj
      · rw [List.getElem?_drop] at hj
        simpa using hj
      · cases hj)
  have hrun : (loadVar ty ⟨g, off, none⟩).run P W = .ok (.agg vs) W := by
    cases hq : P.info? ty with
    | none => simp [hq] at hi
    | some i =>
      have hs : i.size = vs.size := by simpa [hq] using hi
      have hagg : (isAgg ty).run P W = .ok true W := by
        cases d <;> simp_all [isAgg, run_underlying hu]
      simp only [Array.length_toList, Array.toArray_toList] at hl
      simp [loadVar, Sem.run_bind, hagg, sizeOf, typeInfo, hq, hs, hl]
  refine BigFrame.wpList_want hw fun K hK => ?_
  unfold Oper.wp execOp
  simp only [ho, hx, Instr.loadAt, Instr.sureAddr, Sem.run_bind, Sem.run_pure, Result.andThen_ok, hrun]
  exact hK _ _ h
/-- The operation is this store. -/
theorem gate_store {ty : TypeId} {x y : Operand} (_ho : o.op = .store ty x y) (h : wpList P ops Q (o :: rest) a W) : wpList P ops Q (o :: rest) a W := h
theorem enters_ {f : FuncId} {fn : Func} (hf : P.funcs[f]? = some fn) (hname : (fn.name == "runtime.NumGoroutine") = false) (hb : fn.body.isSome = true) (args : Array Value) (w : World) : (callFunc f args).run P w = .ok (.enter f args) w := by
  have h1 : fn.name ≠ "runtime.NumGoroutine" := by simpa using hname
  obtain ⟨c, hc⟩ := Option.isSome_iff_exists.1 hb
  simp [callFunc, hf, h1, hc]
end
end Go.Proofs.Ytkcncghdpjoodaa.Cp

