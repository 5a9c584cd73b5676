/- copy onto a row of one's own from some place on: what the row holds then. -/
import Derived.Test.YtkcncghdpjoodaaWWords
import Derived.Test.YtkcncghdpjoodaaWMore
import Derived.Laws.CopyOwn
import Derived.BigFrame
import Derived.Lib.SlBytesConst
import Derived.Deep.RegionHeld3
import Derived.Laws.Rows
import Derived.Lib.SliceRun
namespace Go.Proofs.Ytkcncghdpjoodaa.Cp
open Go.RowKit Go.Proofs.YtkcncghdpjoodaaW.PrintWords Go.Proofs.YtkcncghdpjoodaaW.PrintWords.Kd
set_option linter.unusedVariables false
section
variable {P : Program} {ops : Array Oper} {rest : List Oper} {o : Oper} {a : Act} {Q : Exit → Act → World → Prop} {W : World} {α : Type}
/-! Cuts that tell the new room: l[:n:n], l[1:n:n]. -/
/-- A whole struct or array is loaded from its block. -/
theorem load_whole {d : TypeDesc} {t : TypeId} {cs : Array Value} {fr : Nat × Nat} (ty : TypeId) (x : Operand) (g : Nat) (hw : Region.wanted o (yielded ops a.tmps) = true) (ho : o.op = .load ty x) (hx : a.eval x = .pointer (some ⟨g, 0, none⟩))
    (hg : W.heap[g]? = some (.cells cs t fr)) (hu : P.underlying ty = some d) (hd : (match d with | .struct _ | .array _ _ => true | _ => false) = true) (hi : (P.info? ty).map (·.size) = some cs.size)
    (h : wpList P ops Q rest (a.put o.dst (.agg cs)) W) : wpList P ops Q (o :: rest) a W :=
  BigFrame.wpList_want hw fun _ hK => wp_load_row ty x ho g hx t cs fr d hg hu hd hi (hK _ _ h)
/-- A part of a block is loaded as a whole. -/
theorem load_part {d : TypeDesc} {t : TypeId} {cs : Array Value} {fr : Nat × Nat} (ty : TypeId) (x : Operand) (g off : Nat) (vs : Array Value) (hw : Region.wanted o (yielded ops a.tmps) = true) (ho : o.op = .load ty x) (hx : a.eval x = .pointer (some ⟨g, off, none⟩))
    (hg : W.heap[g]? = some (.cells cs t fr)) (hu : P.underlying ty = some d) (hd : (match d with | .struct _ | .array _ _ => true | _ => false) = true) (hi : (P.info? ty).map (·.size) = some vs.size) (hv : (cs.toList.drop off).take vs.size = vs.toList)
    (h : wpList P ops Q rest (a.put o.dst (.agg vs)) W) : wpList P ops Q (o :: rest) a W := by
  have hl : (loadCells ⟨g, off, none⟩ vs.toList.length).run P W = .ok vs.toList.toArray W :=
    run_loadCells_list (P := P) W ⟨g, off, none⟩ vs.toList (fun j v hj => by
      have hadd : (⟨g, off, none⟩ : Addr).add j = ⟨g, off + j, none⟩ := by unfold Addr.add; split <;> simp_all
      rw [hadd, cell_of_row W g (off + j) cs t fr hg]
      rw [← hv, List.getElem?_take] at hj
      split at hj
      · rw [List.getElem?_drop] at hj
        simpa using hj
      · cases hj)
  have hrun : (loadVar ty ⟨g, off, none⟩).run P W = .ok (.agg vs) W := by
    cases hq : P.info? ty with
    | none => simp [hq] at hi
    | some i =>
      have hs : i.size = vs.size := by simpa [hq] using hi
      have hagg : (isAgg ty).run P W = .ok true W := by
        cases d <;> simp_all [isAgg, run_underlying hu]
      simp only [Array.length_toList, Array.toArray_toList] at hl
      simp [loadVar, Sem.run_bind, hagg, sizeOf, typeInfo, hq, hs, hl]
  refine BigFrame.wpList_want hw fun K hK => ?_
  unfold Oper.wp execOp
  simp only [ho, hx, Instr.loadAt, Instr.sureAddr, Sem.run_bind, Sem.run_pure, Result.andThen_ok, hrun]
  exact hK _ _ h
/-- The operation is this store. -/
theorem gate_store {ty : TypeId} {x y : Operand} (_ho : o.op = .store ty x y) (h : wpList P ops Q (o :: rest) a W) : wpList P ops Q (o :: rest) a W := h
theorem enters_ {f : FuncId} {fn : Func} (hf : P.funcs[f]? = some fn) (hname : (fn.name == "runtime.NumGoroutine") = false) (hb : fn.body.isSome = true) (args : Array Value) (w : World) : (callFunc f args).run P w = .ok (.enter f args) w := by
  have h1 : fn.name ≠ "runtime.NumGoroutine" := by simpa using hname
  obtain ⟨c, hc⟩ := Option.isSome_iff_exists.1 hb
  simp [callFunc, hf, h1, hc]
end
end Go.Proofs.Ytkcncghdpjoodaa.Cp

