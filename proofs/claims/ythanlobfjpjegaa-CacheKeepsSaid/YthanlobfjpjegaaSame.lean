/- Ways are one with themselves: what the comparison of caches needs. -/
import Derived.Test.YthanlobfjpjegaaRfind
namespace Go.Proofs.Ythanlobfjpjegaa.Abs
open Go Go.RowKit Fn
set_option linter.unusedVariables false
set_option linter.unusedSimpArgs false
set_option linter.unnecessarySimpa false
set_option maxRecDepth 100000

theorem conf_u8 : ∀ (d : List Int) (ks : List (Option IntKind)) (xs : List T), (∀ y ∈ d, (Lit.int .u8 y).wf = true) → conf (List.replicate d.length (some .u8) ++ ks) (d.flatMap (fun n => [T.int .u8 n]) ++ xs) = conf ks xs
  | [], ks, xs, _ => by simp
  | y :: d, ks, xs, h => by
    have hy := wf_u8 (h y (List.mem_cons_self ..))
    have e : conf1 (some .u8) (.int .u8 y) = (true && (decide ((0 : Int) ≤ y) && decide (y ≤ 2 ^ 8 - 1))) := rfl
    rw [List.length_cons, List.replicate_succ, List.flatMap_cons, List.cons_append, List.append_assoc, List.singleton_append, conf, conf_u8 d ks xs (fun z hz => h z (List.mem_cons_of_mem _ hz)), e, decide_eq_true (by omega), decide_eq_true (by omega)]
    rfl
theorem eqL_ints : ∀ l : List T, (∀ x ∈ l, ∃ k n, x = .int k n) → eqL l l = true
  | [], _ => rfl
  | x :: l, h => by
    obtain ⟨k, n, rfl⟩ := h x (List.mem_cons_self ..)
    have e : eq1 (.int k n) (.int k n) = true := by simp [eq1]
    rw [eqL, e, eqL_ints l (fun y hy => h y (List.mem_cons_of_mem _ hy))]; rfl
theorem eq_way (w : Way) : eqL w.enc w.enc = true := eqL_ints _ (way_ints w)
theorem conf_way (w : Way) (h : w.wf) : conf [some .i64, some .u32, some .u8, some .u8, some .u8, some .u8, some .u8, some .u8, some .u8, some .u8, some .u8, some .u8, some .u8, some .u8, some .u8, some .u8, some .u8, some .u8, some .i64] w.enc = true := by
  have h1 := wf_i64 h.1
  have h2 := wf_u32 h.2.1
  have h3 := wf_i64 h.2.2.2
  have hd := conf_u8 w.data [some .i64] [T.int .i64 w.age] h.2.2.1.2
  rw [h.2.2.1.1] at hd
  have e1 : conf1 (some .i64) (.int .i64 w.state) = (true && (decide (-(2 ^ 63) ≤ w.state) && decide (w.state ≤ 2 ^ 63 - 1))) := rfl
  have e2 : conf1 (some .u32) (.int .u32 w.tag) = (true && (decide ((0 : Int) ≤ w.tag) && decide (w.tag ≤ 2 ^ 32 - 1))) := rfl
  have e3 : conf [some .i64] [T.int .i64 w.age] = ((true && (decide (-(2 ^ 63) ≤ w.age) && decide (w.age ≤ 2 ^ 63 - 1))) && true) := rfl
  have e4 : w.enc = T.int .i64 w.state :: T.int .u32 w.tag :: (w.data.flatMap (fun n => [T.int .u8 n]) ++ [T.int .i64 w.age]) := rfl
  rw [e4, conf, conf]
  have e5 : conf [some .u8, some .u8, some .u8, some .u8, some .u8, some .u8, some .u8, some .u8, some .u8, some .u8, some .u8, some .u8, some .u8, some .u8, some .u8, some .u8, some .i64] (w.data.flatMap (fun n => [T.int .u8 n]) ++ [T.int .i64 w.age]) = conf [some .i64] [T.int .i64 w.age] := hd
  rw [e5, e1, e2, e3, decide_eq_true (by omega), decide_eq_true (by omega), decide_eq_true (by omega), decide_eq_true (by omega), decide_eq_true (by omega), decide_eq_true (by omega)]
  rfl
end Go.Proofs.Ythanlobfjpjegaa.Abs
