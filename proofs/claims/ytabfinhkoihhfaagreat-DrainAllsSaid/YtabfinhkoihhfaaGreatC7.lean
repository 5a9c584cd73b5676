/- For regions that work on memory of one's own: what is a cell, what is apart. -/
import Derived.Test.YtabfinhkoihhfaaGreatC6
namespace Go.Proofs.YtabfinhkoihhfaaGreat.Abs
open Go Go.RowKit
set_option linter.unusedVariables false
set_option linter.unusedSimpArgs false
set_option linter.unnecessarySimpa false
theorem leaf_own {t o n e : Nat} : allLeaf [T.own t o n e] = true := rfl
theorem leaf_imm {f : Bool} {n : Nat} {c : List T} : allLeaf [T.imm f n c] = true := rfl
theorem leaf_int {k : IntKind} {n : Int} : allLeaf [T.int k n] = true := rfl
theorem leaf_ptr {t o : Nat} : allLeaf [T.ptr t o] = true := rfl
theorem disj_nil {l : List Nat} : disj [] l = true := rfl
theorem disj_nil2 {l : List Nat} : disj l [] = true := by
  induction l with
  | nil => rfl
  | cons a l ih => exact ih
theorem disj_cons {a : Nat} {l m : List Nat} : disj (a :: l) m = (!m.contains a && disj l m) := rfl
theorem has_nil {a : Nat} : List.contains ([] : List Nat) a = false := rfl
theorem has_ne {a b : Nat} {l : List Nat} (h : a ≠ b) : List.contains (b :: l) a = List.contains l a := by
  show (a == b || _) = _
  rw [beq_eq_false_iff_ne.mpr h, Bool.false_or]
theorem apart_some {r1 w1 r2 w2 : List Nat} : Fp.apart (some (r1, w1)) (some (r2, w2)) = (disj w1 r2 && disj w1 w2 && disj w2 r1) := rfl
theorem room_is : room = 549755813888 := rfl
/-- A state, by what is known of it. -/
theorem W_abs {AP : AProg} {c : ACode} {Q : AExit → St → Prop} {st : St} (P : St → Prop) (hP : P st) (h : ∀ st, P st → W AP c st Q) : W AP c st Q := h st hP
/-- The same of memory of one's own. -/
abbrev hps := And.intro @List.getD_cons_succ.{0} (And.intro @List.getD_cons_zero.{0} (And.intro @apart_some (And.intro @disj_nil (And.intro @disj_nil2 (And.intro @disj_cons (And.intro @has_nil (And.intro @has_ne (And.intro @leaf_own (And.intro @leaf_imm (And.intro @leaf_int (And.intro @leaf_ptr (@room_is))))))))))))
/-- A condition that the state tells by itself. -/
theorem W_tru {AP : AProg} {c : Opd} {a b : ACode} {st : St} {Q : AExit → St → Prop} (h : W AP a st Q) (hc : rho st.s c = .bool true := by simp (decide := true) (disch := first | omega | simp (decide := true) only [List.length_set, hl]) only [sims, simprocAttr] <;> rfl) : W AP (.cond c a b) st Q := W_true hc h
theorem W_fls {AP : AProg} {c : Opd} {a b : ACode} {st : St} {Q : AExit → St → Prop} (h : W AP b st Q) (hc : rho st.s c = .bool false := by simp (decide := true) (disch := first | omega | simp (decide := true) only [List.length_set, hl]) only [sims, simprocAttr] <;> rfl) : W AP (.cond c a b) st Q := W_false hc h
end Go.Proofs.YtabfinhkoihhfaaGreat.Abs
