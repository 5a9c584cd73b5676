/- Structs and arrays, compared cell by cell. -/
import Derived.Test.YthanlobfjpjegaaB3
import Derived.DeepKeys
namespace Go.Proofs.Ythanlobfjpjegaa.Abs
open Go Go.RowKit
set_option linter.unusedVariables false
set_option linter.unusedSimpArgs false

def litOf : T → Lit
  | .int k n => .int k n
  | .bool b => .bool b
  | _ => .bool false
section
variable {P : Program} {w : World} {Z : Nat → Nat → Prop} {μ : Nat → Option Loc}

theorem conf_len : ∀ {ks : List (Option IntKind)} {xs : List T}, conf ks xs = true → xs.length = ks.length
  | [], [], _ => rfl
  | [], _ :: _, h => by simp [conf] at h
  | _ :: _, [], h => by simp [conf] at h
  | k :: ks, x :: xs, h => by simp only [conf, Bool.and_eq_true] at h; simp [conf_len h.2]
theorem conf_append : ∀ {k1 k2 : List (Option IntKind)} {xs : List T}, conf (k1 ++ k2) xs = true → conf k1 (xs.take k1.length) = true ∧ conf k2 (xs.drop k1.length) = true
  | [], k2, xs, h => by simpa [conf] using h
  | k :: k1, k2, [], h => by simp [conf] at h
  | k :: k1, k2, x :: xs, h => by
    simp only [List.cons_append, conf, Bool.and_eq_true] at h
    obtain ⟨h1, h2⟩ := conf_append h.2
    exact ⟨by simp only [List.length_cons, List.take_succ_cons, conf, h.1, h1, Bool.and_self], by simpa using h2⟩
/-- The values of cells that are numbers and bools. -/
def valOf : T → Value
  | .int k n => .int k n
  | .bool b => .bool b
  | _ => Go.undef
theorem conf_val {k : Option IntKind} {x : T} (h : conf1 k x = true) {v : Value} (hv : VR w Z μ x v) : v = valOf x := by
  cases x <;> cases k <;> simp [conf1] at h <;> simp only [VR, VI] at hv <;> exact hv
theorem conf_vals : ∀ {ks : List (Option IntKind)} {xs : List T} {vs : List Value}, conf ks xs = true → VRL w Z μ xs vs → vs = xs.map valOf
  | [], [], vs, _, hv => by simp only [VRL] at hv; subst hv; rfl
  | [], _ :: _, _, h, _ => by simp [conf] at h
  | _ :: _, [], _, h, _ => by simp [conf] at h
  | k :: ks, x :: xs, vs, h, hv => by
    simp only [conf, Bool.and_eq_true] at h
    simp only [VRL] at hv
    obtain ⟨v, vs', rfl, h1, h2⟩ := hv
    rw [conf_val h.1 h1, conf_vals h.2 h2]; rfl

theorem rep_lits {d : Nat} {e : TypeId} {ks : List (Option IntKind)} (ih : ∀ xs : List T, conf ks xs = true → P.keyLits d e (xs.map valOf) = some (xs.map litOf)) (he : P.cellsOf e = ks.length) :
    ∀ (n i0 : Nat) (xs : List T), conf (List.replicate n ks).flatten xs = true → ∀ pre : List T, pre.length = i0 * ks.length →
      ((List.range' i0 n).mapM fun i => P.keyLits d e ((((pre ++ xs).map valOf).drop (i * P.cellsOf e)).take (P.cellsOf e))).map List.flatten = some (xs.map litOf)
  | 0, i0, xs, h, pre, hp => by
    cases xs with
    | nil => simp
    | cons x xs => simp [conf] at h
  | n + 1, i0, xs, h, pre, hp => by
    rw [List.replicate_succ, List.flatten_cons] at h
    obtain ⟨h1, h2⟩ := conf_append h
    have hl := conf_len h
    simp only [List.length_append] at hl
    have hr := rep_lits ih he n (i0 + 1) (xs.drop ks.length) h2 (pre ++ xs.take ks.length) (by simp [hp, Nat.add_mul]; omega)
    rw [List.append_assoc, List.take_append_drop] at hr
    rw [List.range'_succ, List.mapM_cons]
    have hfirst : (((pre ++ xs).map valOf).drop (i0 * P.cellsOf e)).take (P.cellsOf e) = (xs.take ks.length).map valOf := by
      rw [he, List.map_append, List.drop_append_of_le_length (by simp [hp]), List.drop_of_length_le (by simp [hp]), List.nil_append, List.map_take]
    rw [hfirst, ih _ h1]
    simp only [Option.bind_eq_bind, Option.bind_some, Option.pure_def]
    cases hm : ((List.range' (i0 + 1) n).mapM fun i => P.keyLits d e ((((pre ++ xs).map valOf).drop (i * P.cellsOf e)).take (P.cellsOf e))) with
    | none => rw [hm] at hr; simp at hr
    | some q =>
      rw [hm] at hr
      simp only [Option.map_some, Option.some.injEq] at hr
      simp only [Option.bind_some, Option.map_some, List.flatten_cons, hr, Option.some.injEq]
      rw [← List.map_append, List.take_append_drop]
theorem field_lits {d : Nat} (ih : ∀ (t : TypeId) (ks : List (Option IntKind)) (xs : List T), kindsOf P d t = some ks → conf ks xs = true → P.keyLits d t (xs.map valOf) = some (xs.map litOf)) :
    ∀ (fs : List Field) (o : Nat) (ks : List (Option IntKind)) (xs pre : List T), fieldsK P (kindsOf P d) fs o = some ks → conf ks xs = true → pre.length = o →
      (fs.mapM fun f => P.keyLits d f.type ((((pre ++ xs).map valOf).drop f.offset).take (P.cellsOf f.type))).map List.flatten = some (xs.map litOf)
  | [], o, ks, xs, pre, h, hc, hp => by
    simp [fieldsK] at h; subst h
    cases xs with
    | nil => simp
    | cons x xs => simp [conf] at hc
  | f :: fs, o, ks, xs, pre, h, hc, hp => by
    simp only [fieldsK] at h
    split at h
    · rename_i k1 hk
      split at h
      · rename_i ho
        split at h
        · rename_i k2 h2
          obtain rfl := Option.some.inj h
          obtain ⟨c1, c2⟩ := conf_append hc
          have hl := conf_len hc
          simp only [List.length_append] at hl
          have hr := field_lits ih fs (o + k1.length) k2 (xs.drop k1.length) (pre ++ xs.take k1.length) h2 c2 (by simp [hp]; omega)
          rw [List.append_assoc, List.take_append_drop] at hr
          rw [List.mapM_cons]
          have hfirst : (((pre ++ xs).map valOf).drop f.offset).take (P.cellsOf f.type) = (xs.take k1.length).map valOf := by
            rw [ho.1, ho.2, List.map_append, List.drop_append_of_le_length (by simp [hp]), List.drop_of_length_le (by simp [hp]), List.nil_append, List.map_take]
          rw [hfirst, ih _ _ _ hk c1]
          simp only [Option.bind_eq_bind, Option.bind_some, Option.pure_def]
          cases hm : (fs.mapM fun f => P.keyLits d f.type ((((pre ++ xs).map valOf).drop f.offset).take (P.cellsOf f.type))) with
          | none => rw [hm] at hr; simp at hr
          | some q =>
            rw [hm] at hr
            simp only [Option.map_some, Option.some.injEq] at hr
            simp only [Option.bind_some, Option.map_some, List.flatten_cons, hr, Option.some.injEq]
            rw [← List.map_append, List.take_append_drop]
        · cases h
      · cases h
    · cases h
theorem kinds_lits : ∀ (d : Nat) (t : TypeId) (ks : List (Option IntKind)) (xs : List T), kindsOf P d t = some ks → conf ks xs = true → P.keyLits d t (xs.map valOf) = some (xs.map litOf)
  | 0, _, _, _, h, _ => by simp [kindsOf] at h
  | d + 1, t, ks, xs, h, hc => by
    simp only [kindsOf] at h
    split at h
    · rename_i hu
      obtain rfl := Option.some.inj h
      match xs, hc with
      | [x], hc =>
        simp only [conf, Bool.and_true] at hc
        cases x <;> simp [conf1] at hc
        simp [Program.keyLits, hu, valOf, litOf]
      | [], hc => simp [conf] at hc
      | _ :: _ :: _, hc => simp [conf] at hc
    · rename_i k hu
      obtain rfl := Option.some.inj h
      match xs, hc with
      | [x], hc =>
        simp only [conf, Bool.and_true] at hc
        cases x <;> simp only [conf1, Bool.false_eq_true] at hc
        rename_i k' n
        simp only [Bool.and_eq_true, beq_iff_eq] at hc
        obtain ⟨rfl, h2⟩ := hc
        have hwf : (Lit.int k' n).wf = true := by simp only [Lit.wf, Bool.and_eq_true]; exact h2
        simp [Program.keyLits, hu, valOf, litOf, hwf]
      | [], hc => simp [conf] at hc
      | _ :: _ :: _, hc => simp [conf] at hc
    · rename_i n e hu
      split at h
      · rename_i k1 hk
        split at h
        · rename_i hl
          obtain rfl := Option.some.inj h
          have hlen := conf_len hc
          simp at hlen
          have := rep_lits (P := P) (fun xs hx => kinds_lits d e k1 xs hk hx) hl.2 n 0 xs hc [] (by simp)
          simp only [List.nil_append, ← List.range_eq_range'] at this
          simp only [Program.keyLits, hu]
          rw [if_pos (by simp [hlen, hl.1])]
          exact this
        · cases h
      · cases h
    · rename_i fs hu
      split at h
      · rename_i hn
        split at h
        · rename_i k1 hk
          split at h
          · rename_i hl
            obtain rfl := Option.some.inj h
            have hlen := conf_len hc
            have := field_lits (P := P) (d := d) (fun t ks xs h1 h2 => kinds_lits d t ks xs h1 h2) fs.toList 0 k1 xs [] hk hc rfl
            simp only [List.nil_append] at this
            simp only [Program.keyLits, hu]
            rw [if_pos ⟨by simp [hlen, hl], hn⟩]
            exact this
          · cases h
        · cases h
      · cases h
    · cases h
theorem eq1_lit {k : Option IntKind} {x y : T} (h : conf1 k x = true) (h' : conf1 k y = true) : eq1 x y = true ↔ litOf x = litOf y := by
  cases x <;> cases k <;> simp only [conf1, Bool.false_eq_true] at h <;> cases y <;> simp only [conf1, Bool.false_eq_true] at h'
  · simp only [Bool.and_eq_true, beq_iff_eq] at h h'
    obtain ⟨rfl, _⟩ := h
    obtain ⟨rfl, _⟩ := h'
    simp [eq1, litOf]
  · simp [eq1, litOf]
theorem eqL_lit : ∀ {ks : List (Option IntKind)} {xs ys : List T}, conf ks xs = true → conf ks ys = true → (eqL xs ys = true ↔ xs.map litOf = ys.map litOf)
  | [], [], [], _, _ => by simp [eqL]
  | [], _ :: _, _, h, _ => by simp [conf] at h
  | [], [], _ :: _, _, h => by simp [conf] at h
  | _ :: _, [], _, h, _ => by simp [conf] at h
  | _ :: _, _ :: _, [], _, h => by simp [conf] at h
  | k :: ks, x :: xs, y :: ys, h, h' => by
    simp only [conf, Bool.and_eq_true] at h h'
    simp only [eqL, Bool.and_eq_true, List.map_cons, List.cons.injEq, eq1_lit h.1 h'.1, eqL_lit h.2 h'.2]

theorem aeq_ok {o : Oper} {a : Act} {B : Nat} {W0 : World} {Z0 : Nat → Nat → Prop} {g : Mem} {fr : Nat} {r : Res} {s : List T} (hi : Inv B W0 Z0 g w Z μ) (hs : VRL w Z μ s a.tmps.toList) {op : BinOp} {t u : TypeId} {x y : Operand} {x' y' : Opd} {neg : Bool} {ks : List (Option IntKind)} (ho : o.op = .binOp op t x y u) (hop : op = if neg then .neq else .eql)
    (hk : eqKinds P t = some ks) (hx : opd x = some x') (hy : opd y = some y') (hr : opRes (.aeq neg ks x' y') fr s g = some r) : OpOk P o a B W0 Z0 g w Z μ fr r := by
  simp only [opRes] at hr
  split at hr
  · rename_i c1 c2 e1 e2
    split at hr
    · rename_i hc
      simp only [Bool.and_eq_true] at hc
      obtain rfl := Option.some.inj hr
      have hv1 := rho_ok hs hx
      have hv2 := rho_ok hs hy
      rw [e1] at hv1; rw [e2] at hv2
      simp only [VR] at hv1 hv2
      obtain ⟨xs, j1, l1⟩ := hv1
      obtain ⟨ys, j2, l2⟩ := hv2
      have q1 := conf_vals hc.1 l1
      have q2 := conf_vals hc.2 l2
      have hkt : P.keyTypeAt 6 t = true ∧ P.eqGuardType P.depth t = false ∧ kindsOf P 6 t = some ks ∧ ∃ d, P.underlying t = some d ∧ (match d with | .struct _ | .array _ _ => True | _ => False) := by
        unfold eqKinds at hk
        split at hk
        · rename_i fs hu
          split at hk
          · rename_i hg; simp at hg; exact ⟨hg.1, hg.2, hk, _, hu, trivial⟩
          · cases hk
        · rename_i n e hu
          split at hk
          · rename_i hg; simp at hg; exact ⟨hg.1, hg.2, hk, _, hu, trivial⟩
          · cases hk
        · cases hk
      obtain ⟨k1, k2, k3, d, k4, k5⟩ := hkt
      have len := conf_len hc.1
      have len2 := conf_len hc.2
      have m1 := kinds_lits (P := P) 6 t ks c1 k3 hc.1
      have m2 := kinds_lits (P := P) 6 t ks c2 k3 hc.2
      have hsz : P.cellsOf t = ks.length := by
        simp only [kindsOf, k4] at k3
        cases d <;> simp only at k5
        case array n e =>
          simp only at k3
          split at k3
          · split at k3
            · rename_i h; obtain rfl := Option.some.inj k3; simp [h.1]
            · cases k3
          · cases k3
        case struct fs =>
          simp only at k3
          split at k3
          · split at k3
            · split at k3
              · rename_i h; obtain rfl := Option.some.inj k3; exact h
              · cases k3
            · cases k3
          · cases k3
      have hf : ∀ zs : Array Value, zs.size = ks.length → (Value.agg zs).formed P t = true := fun zs hz => by
        cases d <;> simp only at k5 <;> simp [Value.formed, k4, hz, hsz]
      have hxs : xs.size = ks.length := by have := l1.len; simp at this; omega
      have hys : ys.size = ks.length := by have := l2.len; simp at this; omega
      obtain ⟨b, hb, hiff⟩ := run_equalIn_deep (P := P) 9994 6 t k1 w 6 6 (.agg xs) (.agg ys) _ _ (hf xs hxs) (hf ys hys) (by show P.keyLits 6 t xs.toList = _; rw [q1]; exact m1) (by show P.keyLits 6 t ys.toList = _; rw [q2]; exact m2)
      have hbe : b = eqL c1 c2 := by
        have := eqL_lit hc.1 hc.2
        rw [Bool.eq_iff_iff, hiff, this]
      subst hbe
      have hb' : (Op.equalIn 10000 t (.agg xs) (.agg ys)).run P w = .ok (eqL c1 c2) w := hb
      refine opok_quiet hi (v := .bool (if neg then !eqL c1 c2 else eqL c1 c2)) (goes_value ?_) (by simp only [VR, VI])
      have hgd := run_eqGuard_agg (P := P) w op t x y xs ys k2
      unfold execOp; rw [ho]
      simp only [j1, j2]
      cases neg <;> simp only [Bool.false_eq_true, if_false, if_true] at hop <;> subst hop
      · have h4 : (do eqGuard .eql t x y (.agg xs) (.agg ys); binOp .eql t (.agg xs) (.agg ys) : Sem Value).run P w = .ok (.bool (eqL c1 c2)) w := by
          rw [Sem.run_bind, hgd, Result.andThen_ok, run_eql_struct, hb']; rfl
        rw [Sem.run_bind, h4]; rfl
      · have h4 : (do eqGuard .neq t x y (.agg xs) (.agg ys); binOp .neq t (.agg xs) (.agg ys) : Sem Value).run P w = .ok (.bool (!eqL c1 c2)) w := by
          rw [Sem.run_bind, hgd, Result.andThen_ok, run_neq_struct, hb']; rfl
        rw [Sem.run_bind, h4]; rfl
    · cases hr
  · cases hr
end
end Go.Proofs.Ythanlobfjpjegaa.Abs
