/- Slots, by what stands in them. -/
import Derived.Test.YtabfinhkoihhfaaGreatC5
namespace Go.Proofs.YtabfinhkoihhfaaGreat.Abs
open Go Go.RowKit
set_option linter.unusedVariables false
set_option linter.unusedSimpArgs false
set_option linter.unnecessarySimpa false
theorem rho_eq {s : List T} {d : Nat} {v : T} (h : d < s.length) : rho (s.set d v) (.tmp d) = v := by
  simp [rho, List.getD_eq_getElem?_getD, h]
theorem rho_ne {s : List T} {d t : Nat} {v : T} (h : d ≠ t) : rho (s.set d v) (.tmp t) = rho s (.tmp t) := by
  simp [rho, List.getD_eq_getElem?_getD, List.getElem?_set_ne h]
theorem rho_con {s : List T} {v : T} : rho s (.con v) = v := rfl
theorem setDst_some {s : List T} {d : Nat} {v : T} : setDst s (some d) v = s.set d v := rfl
theorem setDst_none {s : List T} {v : T} : setDst s none v = s := rfl
theorem putAll_nil {g : Mem} : putAll g [] = g := rfl
theorem putAll_one {g : Mem} {e : Nat × Option (List T)} : putAll g [e] = put1 g e := rfl
theorem putAll_two {g : Mem} {e e' : Nat × Option (List T)} : putAll g [e, e'] = put1 (put1 g e) e' := rfl
theorem put1_eq {g : Mem} {t : Nat} {c : Option (List T)} : put1 g (t, c) t = c := by simp [put1]
theorem put1_ne {g : Mem} {t u : Nat} {c : Option (List T)} (h : u ≠ t) : put1 g (t, c) u = g u := by simp [put1, h]
theorem natOf_lit {k : IntKind} {n : Nat} : natOf (.int k (no_index (OfNat.ofNat n : Int))) = some n := natOf_nat k n
theorem bnd_none {d : Nat} : bnd none d = some d := rfl
theorem bnd_some {x : T} {d : Nat} : bnd (some x) d = natOf x := rfl
theorem callPure_imm {ih : Run} {F : AFun} {args : List T} {g : Mem} {v : T} (hf : frzL ⟨g, 0⟩ frzDepth args = some (args, [])) (hr : runPure ih F args = some v) : callPure ih F args g = some ⟨v, [], []⟩ := by
  unfold callPure
  rw [hf]
  simp only [hr]
  cases v.flat <;> rfl
/-- What answers can be called. -/
theorem E.call {AP : AProg} {f : Nat} {F : AFun} {args : List T} {v : T} (h : E AP f args v) (hF : AP f = some F) (hf : ∀ g : Mem, frzL ⟨g, 0⟩ frzDepth args = some (args, [])) : ∃ N, ∀ k, N ≤ k → ∀ g, callPure (ev AP k) F args g = some ⟨v, [], []⟩ := by
  obtain ⟨N, hN⟩ := h.run hF
  refine ⟨N, fun k hk g => callPure_imm (hf g) ?_⟩
  have := hN (k - N)
  rwa [Nat.sub_add_cancel hk] at this
theorem vil_nil {w : World} {Z : Nat → Nat → Prop} : VIL w Z [] [] := by simp only [VIL]
theorem vil_cons {w : World} {Z : Nat → Nat → Prop} {t : T} {v : Value} {ts : List T} {vs : List Value} (h : VI w Z t v) (hs : VIL w Z ts vs) : VIL w Z (t :: ts) (v :: vs) := by
  simp only [VIL]; exact ⟨v, vs, rfl, h, hs⟩
/-- What a function gives that ends with its one result in its place. -/
theorem fin_of {F : AFun} {t : Nat} {r : T} (hF : F.res = [.tmp t]) (hv : ∀ h : Hp, frz h frzDepth r = some (r, [])) {s : List T} {g : Mem} {nx : Nat} (h : rho s (.tmp t) = r) : AExit.ret.leaves = true ∧ ∃ u ids, resT s g F.res = some u ∧ frz ⟨g, nx⟩ frzDepth u = some (r, ids) :=
  ⟨rfl, r, [], by rw [hF]; simp only [resT, resL, resOne, h], hv _⟩
/-- An impure function, from its body. -/
theorem EI_body {AP : AProg} {F : AFun} {args : List T} {v : T} {g : Mem} {nx : Nat} {P : Mem → Nat → Prop} (h : W AP F.body ⟨args ++ List.replicate (F.ntmps - args.length) .undef, g, nx⟩ (fun e st => e.leaves = true ∧ resT st.s st.g F.res = some v ∧ P st.g st.nx)) : ∃ N g' nx', (∀ k, N ≤ k → runBody (ev AP k) F args g nx = some (v, g', nx')) ∧ P g' nx' := by
  obtain ⟨N, e, st, h1, h2, h3, h4⟩ := h
  refine ⟨N, st.g, st.nx, fun k hk => ?_, h4⟩
  have := ev_add AP N (k - N) _ _ _ h1
  rw [Nat.add_sub_cancel' hk] at this
  unfold runBody
  rw [this]
  simp only [h2, if_true, h3]
theorem res_one {F : AFun} {t : Nat} {r : T} (hF : F.res = [.tmp t]) {s : List T} {g : Mem} (h : rho s (.tmp t) = r) : resT s g F.res = some r := by rw [hF]; simp only [resT, resL, resOne, h]
theorem label_skip (AP : AProg) (i : Nat) (r : ACode) (st : St) : ∀ k, ev AP k (.seq (.label i) r) st = ev AP k (.seq .skip r) st
  | 0 => rfl
  | 1 => rfl
  | _ + 2 => rfl
/-- Into a labelled tail, as the jump to it goes. -/
theorem W_jump {AP : AProg} {whole r : ACode} {i : Nat} {st : St} {Q : AExit → St → Prop} (h : W AP (.scope whole (.seq .skip r)) st Q) : W AP (.seq (.label i) r) st (fun e s => (∃ l q, e = .goto l ∧ afind whole l = some q ∧ W AP (.scope whole q) s Q) ∨ ((∀ l, e ≠ .goto l) ∧ Q e s)) := by
  obtain ⟨k, e, st', h1, h2⟩ := h
  cases k with
  | zero => cases h1
  | succ k =>
    rw [ev_succ] at h1
    simp only [evStep] at h1
    split at h1
    · rename_i l st1 hb
      split at h1
      · rename_i q hq
        exact ⟨k, .goto l, st1, by rw [label_skip]; exact hb, .inl ⟨l, q, rfl, hq, k, e, st', h1, h2⟩⟩
      · cases h1
    · rename_i hne
      refine ⟨k, e, st', by rw [label_skip]; exact h1, .inr ⟨fun l hl => ?_, h2⟩⟩
      subst hl
      exact hne _ _ h1
/-- What regions are worked out with. -/
abbrev sims0 := And.intro @rho_con (And.intro @rho_eq (And.intro @rho_ne (And.intro @setDst_some (And.intro @setDst_none (And.intro @putAll_nil (And.intro @putAll_one (And.intro @putAll_two (And.intro @put1_eq (And.intro @put1_ne (And.intro @natOf_nat (And.intro @natOf_lit (And.intro @bnd_none (And.intro @bnd_some (And.intro @List.length_set.{0} (And.intro @List.length_cons.{0} (And.intro @List.length_nil.{0} (And.intro @Nat.zero_add (And.intro @Nat.add_zero (And.intro @ne_eq.{1} (And.intro @not_false_eq_true (And.intro @not_true_eq_false (And.intro @List.map_nil.{0, 0} (And.intro @List.map_cons.{0, 0} (And.intro @List.all_nil.{0} (And.intro @List.all_cons.{0} (And.intro @if_true.{1} (And.intro @if_false.{1} (And.intro @and_self (And.intro @and_true (And.intro @true_and (And.intro @Bool.and_self (And.intro @Bool.and_true (And.intro @Bool.true_and (And.intro @Bool.false_eq_true (And.intro @Bool.true_beq (And.intro @Bool.false_beq (And.intro @Bool.not_true (And.intro @Bool.not_false (And.intro @decide_true (And.intro @decide_false (And.intro @List.set_cons_zero.{0} (And.intro @List.set_cons_succ.{0} (And.intro @List.getElem?_cons_zero.{0} (And.intro @List.getElem?_cons_succ.{0} (And.intro @List.cons_append.{0} (And.intro @List.nil_append.{0} (@List.append_nil.{0})))))))))))))))))))))))))))))))))))))))))))))))
theorem cells_agg (l : List T) : T.cells (.agg l) = l := rfl
theorem cells_int (k : IntKind) (n : Int) : T.cells (.int k n) = [(.int k n)] := rfl
theorem cells_bool (b : Bool) : T.cells (.bool b) = [(.bool b)] := rfl
theorem cells_imm (f : Bool) (n : Nat) (c : List T) : T.cells (.imm f n c) = [(.imm f n c)] := rfl
theorem cells_own (a b c d : Nat) : T.cells (.own a b c d) = [(.own a b c d)] := rfl
theorem cells_ptr (a b : Nat) : T.cells (.ptr a b) = [(.ptr a b)] := rfl
theorem cells_iptr (c : List T) (o : Nat) : T.cells (.iptr c o) = [(.iptr c o)] := rfl
theorem cells_fn (f : Nat) (a b : List T) : T.cells (.fn f a b) = [(.fn f a b)] := rfl
theorem cells_tup (l : List T) : T.cells (.tup l) = [(.tup l)] := rfl
theorem cells_undef  : T.cells (.undef) = [(.undef)] := rfl
theorem leafc_agg (l : List T) : T.leaf (.agg l) = false := rfl
theorem leafc_int (k : IntKind) (n : Int) : T.leaf (.int k n) = true := rfl
theorem leafc_bool (b : Bool) : T.leaf (.bool b) = true := rfl
theorem leafc_imm (f : Bool) (n : Nat) (c : List T) : T.leaf (.imm f n c) = true := rfl
theorem leafc_own (a b c d : Nat) : T.leaf (.own a b c d) = true := rfl
theorem leafc_ptr (a b : Nat) : T.leaf (.ptr a b) = true := rfl
theorem leafc_iptr (c : List T) (o : Nat) : T.leaf (.iptr c o) = true := rfl
theorem leafc_fn (f : Nat) (a b : List T) : T.leaf (.fn f a b) = true := rfl
theorem leafc_tup (l : List T) : T.leaf (.tup l) = false := rfl
theorem leafc_undef  : T.leaf (.undef) = false := rfl
/-- How it runs. -/
abbrev eqs := And.intro @evRegion.eq_def (And.intro @evOps.eq_1 (And.intro @evOps.eq_2 (And.intro @evOp.eq_def (And.intro @evG.eq_def (And.intro @evR.eq_def (And.intro @AFun.calm.eq_def (And.intro @Bool.true_or (And.intro @Bool.false_or (And.intro @Bool.false_and (And.intro @guardT.eq_def (And.intro @callee.eq_def (And.intro @opRes.eq_def (And.intro @pureR.eq_def (And.intro @binT.eq_def (And.intro @unT.eq_def (And.intro @fillT.eq_1 (And.intro @fillT.eq_2 (And.intro @splice.eq_1 (@splice.eq_2)))))))))))))))))))
abbrev cels := And.intro @cells_agg (And.intro @cells_int (And.intro @cells_bool (And.intro @cells_imm (And.intro @cells_own (And.intro @cells_ptr (And.intro @cells_iptr (And.intro @cells_fn (And.intro @cells_tup (And.intro @cells_undef (And.intro @leafc_agg (And.intro @leafc_int (And.intro @leafc_bool (And.intro @leafc_imm (And.intro @leafc_own (And.intro @leafc_ptr (And.intro @leafc_iptr (And.intro @leafc_fn (And.intro @leafc_tup (@leafc_undef)))))))))))))))))))
abbrev sims := And.intro sims0 (And.intro eqs cels)
end Go.Proofs.YtabfinhkoihhfaaGreat.Abs
