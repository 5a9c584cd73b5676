/- Two lists that are one, held against one another: the given functions' walk, once for all of them. -/
import Derived.Test.YtabfinhkoihhfaaGreatG01
namespace Go.Proofs.YtabfinhkoihhfaaGreat.Abs
open Go Go.RowKit Fn
set_option linter.unusedVariables false
set_option linter.unusedSimpArgs false
set_option linter.unnecessarySimpa false
set_option maxRecDepth 100000
set_option maxHeartbeats 4000000

theorem W_cutC {AP : AProg} {a b : ACode} {st : St} {Q : AExit → St → Prop} (P : St → Prop) (ha : W AP a st (fun e s => e = .normal ∧ P s)) (hb : ∀ s, P s → W AP b s Q) : W AP (.seq a b) st Q := W_seqn (ha.mono fun _ s h => ⟨h.1, hb s h.2⟩)
def cmpL (one : Bool) (K : Nat) (op : AOp) : ACode := .seq (.seq (.region [⟨some 11, .mv (.tmp 5), none⟩, ⟨some 12, .mv (.tmp 0), none⟩, ⟨some 13, .len (.tmp 12), none⟩, ⟨some 14, .bin .lss (.tmp 11) (.tmp 13), none⟩, ⟨some 15, .mv (.tmp 14), none⟩, ⟨some 16, .mv (.tmp 5), some (15, true)⟩, ⟨some 17, .mv (.tmp 1), some (15, true)⟩, ⟨some 18, .len (.tmp 17), some (15, true)⟩, ⟨some 19, .bin .lss (.tmp 16) (.tmp 18), some (15, true)⟩, ⟨some 20, .pick (.tmp 15) (.tmp 19) (.con (.bool false)), none⟩] []) (.cond (.tmp 20) .skip (.exit 0)))
  (.seq (.block 1 (.seq (.region [⟨some 23, .mv (.tmp 0), none⟩, ⟨some 24, .mv (.tmp 5), none⟩, ⟨some 25, .isl K (.tmp 23) (.tmp 24), none⟩, ⟨some 26, .load one K (.tmp 25), none⟩, ⟨some 27, .mv (.tmp 1), none⟩, ⟨some 28, .mv (.tmp 5), none⟩, ⟨some 29, .isl K (.tmp 27) (.tmp 28), none⟩, ⟨some 30, .load one K (.tmp 29), none⟩, ⟨some 31, op, none⟩] []) (.cond (.tmp 31) (.seq (.region [⟨some 4, .mv (.con (.bool false)), none⟩] []) .ret) .skip)))
    (.region [⟨some 21, .mv (.tmp 5), none⟩, ⟨some 22, .bin .add (.tmp 21) (.con (.int .i64 1)), none⟩, ⟨some 5, .mv (.tmp 22), none⟩] []))
def cmpF (one : Bool) (K : Nat) (op : AOp) : ACode := .seq (.region [⟨some 4, .mv (.con (.bool false)), none⟩] [])
  (.seq (.seq (.region [⟨some 6, .mv (.tmp 0), none⟩, ⟨some 7, .len (.tmp 6), none⟩, ⟨some 8, .mv (.tmp 1), none⟩, ⟨some 9, .len (.tmp 8), none⟩, ⟨some 10, .bin .neq (.tmp 7) (.tmp 9), none⟩] []) (.cond (.tmp 10) (.seq (.region [⟨some 4, .mv (.con (.bool false)), none⟩] []) .ret) .skip))
  (.seq (.seq (.region [⟨some 5, .mv (.con (.int .i64 0)), none⟩] []) (.block 0 (.loop (cmpL one K op))))
  (.seq (.region [⟨some 4, .mv (.con (.bool true)), none⟩] []) .ret)))
def CmpR (one : Bool) (K : Nat) (op : AOp) (fa fb : Bool) (n : Nat) (cs : List T) : Prop := ∀ (i : Nat) (st : St), i < n → st.s.length = 32 → rho st.s (.tmp 0) = .imm fa n cs → rho st.s (.tmp 1) = .imm fb n cs → rho st.s (.tmp 5) = .int .i64 (i : Int) →
  W ap (.region [⟨some 23, .mv (.tmp 0), none⟩, ⟨some 24, .mv (.tmp 5), none⟩, ⟨some 25, .isl K (.tmp 23) (.tmp 24), none⟩, ⟨some 26, .load one K (.tmp 25), none⟩, ⟨some 27, .mv (.tmp 1), none⟩, ⟨some 28, .mv (.tmp 5), none⟩, ⟨some 29, .isl K (.tmp 27) (.tmp 28), none⟩, ⟨some 30, .load one K (.tmp 29), none⟩, ⟨some 31, op, none⟩] []) st (fun e s => e = .normal ∧ s.s.length = 32 ∧ rho s.s (.tmp 0) = .imm fa n cs ∧ rho s.s (.tmp 1) = .imm fb n cs ∧ rho s.s (.tmp 5) = .int .i64 (i : Int) ∧ rho s.s (.tmp 31) = .bool false)
theorem cmp_loop {one : Bool} {K : Nat} {op : AOp} {fa fb : Bool} {n : Nat} {cs : List T} (hR : CmpR one K op fa fb n cs) (hn : n ≤ 9223372036854775807) (Q : AExit → St → Prop) (hQe : ∀ st : St, st.s.length = 32 → Q (.exit 0) st) :
    ∀ (k : Nat) (st : St), (∃ i : Nat, st.s.length = 32 ∧ rho st.s (.tmp 0) = .imm fa n cs ∧ rho st.s (.tmp 1) = .imm fb n cs ∧ rho st.s (.tmp 5) = .int .i64 (i : Int) ∧ i ≤ n ∧ k = n - i) → W ap (.loop (cmpL one K op)) st Q := by
  refine W_loop _ ?_
  rintro k st ⟨i, hl, h0, h1, h5, hi, hk⟩
  unfold cmpL
  by_cases hend : i = n
  · have hlt : decide ((i : Int) < (n : Int)) = false := decide_eq_false (by omega)
    refine W_seq (W_seqn (W_region (fun k => by simp +decide (disch := first | omega | simp +decide [hl]) only [s9, simprocAttr, h0, h1, h5, hlt]; rfl) ⟨rfl, W_fls (W_exit (.inr ⟨by simp, .inr ⟨by simp, hQe _ ?_⟩⟩))⟩))
    simp +decide (disch := first | omega | simp +decide [hl]) only [s9, simprocAttr, hl]
  have hil : i < n := by omega
  have hlt : decide ((i : Int) < (n : Int)) = true := decide_eq_true (by omega)
  have hw2 : IntKind.i64.wrap ((i : Int) + 1) = ((i + 1 : Nat) : Int) := by rw [wrap_id (by omega)]; omega
  refine W_seqn (W_seqn (W_region (fun k => by simp +decide (disch := first | omega | simp +decide [hl]) only [s9, simprocAttr, h0, h1, h5, hlt]; rfl) ⟨rfl, W_tru (W_skip ⟨rfl, ?_⟩)⟩))
  refine W_seqn (W_block ?_)
  refine W_seqn ((hR i _ hil ?_ ?_ ?_ ?_).mono ?_)
  case refine_5 =>
    rintro e t ⟨rfl, hl, h0, h1, h5, h31⟩
    refine ⟨rfl, W_false h31 (W_skip (.inr (.inl ⟨by simp, rfl, ?_⟩)))⟩
    refine W_region (fun k => by simp +decide (disch := first | omega | simp +decide [hl]) only [s9, simprocAttr, h5, hw2]; rfl) (.inl ⟨rfl, n - (i + 1), by omega, i + 1, ?_, ?_, ?_, ?_, by omega, rfl⟩)
    all_goals simp +decide (disch := first | omega | simp +decide [hl]) only [s9, simprocAttr, hl, h0, h1]
  all_goals simp +decide (disch := first | omega | simp +decide [hl]) only [s9, simprocAttr, hl, h0, h1, h5]
theorem cmp_run {f : Nat} {F : AFun} (hF : ap f = some F) (hp : F.pure = true) (hna : F.nat = none) (hnt : F.ntmps = 32) (hres : F.res = [.tmp 4]) {one : Bool} {K : Nat} {op : AOp} (hb : F.body = cmpF one K op) {fa fb : Bool} {n : Nat} {cs : List T} (hR : CmpR one K op fa fb n cs) (hn : n ≤ 9223372036854775807) : E ap f [.imm fa n cs, .imm fb n cs] (.bool true) := by
  refine E_body hF hp hna ?_
  rw [hb, hnt]
  unfold cmpF
  generalize hs0 : (_ : List T) ++ List.replicate _ T.undef = s0
  have e0 : s0.length = 32 ∧ rho s0 (.tmp 0) = .imm fa n cs ∧ rho s0 (.tmp 1) = .imm fb n cs := by subst hs0; exact ⟨rfl, rfl, rfl⟩
  clear hs0
  obtain ⟨hl, h0, h1⟩ := e0
  have e1 : ((n : Int) != (n : Int)) = false := by simp
  refine W_seqn (W_region (fun k => by simp +decide (disch := first | omega | simp +decide [hl]) only [s9, simprocAttr]; rfl) ⟨rfl, ?_⟩)
  refine W_seqn (W_seqn (W_region (fun k => by simp +decide (disch := first | omega | simp +decide [hl]) only [s9, simprocAttr, h0, h1, e1]; rfl) ⟨rfl, W_fls (W_skip ⟨rfl, ?_⟩)⟩))
  refine W_seq (W_seqn (W_region (fun k => by simp +decide (disch := first | omega | simp +decide [hl]) only [s9, simprocAttr]; rfl) ⟨rfl, W_block ?_⟩))
  refine cmp_loop hR hn _ (fun st hl => ?_) (n - 0) _ ⟨0, ?_, ?_, ?_, ?_, by omega, rfl⟩
  · refine .inl ⟨rfl, .inl ⟨rfl, ?_⟩⟩
    refine W_seqn (W_region (fun k => by simp +decide (disch := first | omega | simp +decide [hl]) only [s9, simprocAttr]; rfl) ⟨rfl, W_ret ?_⟩)
    refine fin_of (F := F) hres (fun _ => rfl) ?_
    simp +decide (disch := first | omega | simp +decide [hl]) only [s8, simprocAttr]
  all_goals first | (simp +decide (disch := first | omega | simp +decide [hl]) only [s9, simprocAttr, hl, h0, h1]; done) | (simp +decide (disch := first | omega | simp +decide [hl]) only [s9, simprocAttr, hl, h0, h1]; rfl)
theorem conf_eq : ∀ {ks : List (Option IntKind)} {xs : List T}, conf ks xs = true → eqL xs xs = true
  | [], [], _ => rfl
  | [], _ :: _, h => by cases h
  | _ :: _, [], h => by cases h
  | k :: ks, x :: xs, h => by
    rw [conf, Bool.and_eq_true] at h
    have e : eq1 x x = true := by
      have h1 := h.1
      cases k with
      | none => cases x <;> first | (simp [eq1]; done) | (exact absurd h1 (by simp [conf1]; done))
      | some k => cases x <;> first | (simp [eq1]; done) | (exact absurd h1 (by simp [conf1]; done))
    rw [eqL, e, conf_eq h.2]; rfl
theorem conf_app : ∀ {k1 k2 : List (Option IntKind)} {x1 x2 : List T}, conf k1 x1 = true → conf k2 x2 = true → conf (k1 ++ k2) (x1 ++ x2) = true
  | [], _, [], _, _, h => h
  | [], _, _ :: _, _, h, _ => by cases h
  | _ :: _, _, [], _, h, _ => by cases h
  | k :: ks, k2, x :: xs, x2, h, h2 => by
    rw [conf, Bool.and_eq_true] at h
    rw [List.cons_append, List.cons_append, conf, h.1, conf_app h.2 h2]; rfl
theorem conf_i {k : IntKind} {n : Int} (h : (Lit.int k n).wf = true) : conf [some k] [.int k n] = true := by
  have h2 : k.min ≤ n ∧ n ≤ k.max := by simpa [Lit.wf] using h
  simp only [conf, conf1, decide_eq_true h2.1, decide_eq_true h2.2, beq_self_eq_true, Bool.and_self]
theorem conf_b {b : Bool} : conf [none] [.bool b] = true := rfl
theorem conf_is {k : IntKind} : ∀ {n : Nat} {l : List Int}, (l.length = n ∧ ∀ y ∈ l, (Lit.int k y).wf = true) → conf (List.replicate n (some k)) (l.flatMap (fun n => [T.int k n])) = true
  | _, [], ⟨rfl, _⟩ => rfl
  | _, y :: l, ⟨rfl, h⟩ => by
    rw [List.length_cons, List.replicate_succ, List.flatMap_cons]
    exact conf_app (k1 := [some k]) (conf_i (h y (List.mem_cons_self ..))) (conf_is ⟨rfl, fun z hz => h z (List.mem_cons_of_mem _ hz)⟩)
theorem conf_bs : ∀ {n : Nat} {l : List Bool}, l.length = n → conf (List.replicate n none) (l.flatMap (fun n => [T.bool n])) = true
  | _, [], rfl => rfl
  | _, y :: l, rfl => by
    rw [List.length_cons, List.replicate_succ, List.flatMap_cons]
    exact conf_app (k1 := [none]) conf_b (conf_bs rfl)
theorem cmp_aeq {α : Type} {f : Nat} {F : AFun} (hF : ap f = some F) (hp : F.pure = true) (hna : F.nat = none) (hnt : F.ntmps = 32) (hres : F.res = [.tmp 4]) {K : Nat} {ks : List (Option IntKind)} (hb : F.body = cmpF false K (.aeq true ks (.tmp 26) (.tmp 30))) (hk : ks.length = K) {enc : α → List T} {l : List α} (hlen : l.length ≤ maxLen) (hc : ∀ a ∈ l, conf ks (enc a) = true) (fa fb : Bool) : E ap f [.imm fa l.length (l.flatMap enc), .imm fb l.length (l.flatMap enc)] (.bool true) := by
  refine cmp_run hF hp hna hnt hres hb ?_ (by have := max_small; omega)
  intro i st hil hl h0 h1 h5
  have hK : ∀ a ∈ l, (enc a).length = K := fun a ha => (conf_len (hc a ha)).trans hk
  have hcl := flat_lenM (f := enc) l hK
  have hcu := flat_cutM l hK i hil
  have hm := List.getElem_mem hil
  have hcf := hc _ hm
  have heq := conf_eq hcf
  have hb3 : i * K + K ≤ l.length * K := by rw [← Nat.succ_mul]; exact Nat.mul_le_mul_right K hil
  generalize enc l[i] = se at *
  generalize l.flatMap enc = cs at *
  refine W_region (fun k => by simp +decide (disch := first | omega | simp +decide [hl]) only [s9, simprocAttr, h0, h1, h5, hil, hb3, hcl, hcu, hcf, heq]; rfl) ⟨rfl, ?_⟩
  refine ⟨?_, ?_, ?_, ?_, ?_⟩ <;> simp +decide (disch := first | omega | simp +decide [hl]) only [s9, simprocAttr, hl, h0, h1, h5]
theorem flat_at1 {α : Type} (f : α → T) : ∀ (l : List α) (i : Nat) (h : i < l.length), (l.flatMap (fun a => [f a]))[i]? = some (f l[i])
  | a :: l, 0, _ => rfl
  | a :: l, i + 1, h => by
    rw [List.flatMap_cons, List.singleton_append, List.getElem?_cons_succ]
    exact flat_at1 f l i (Nat.lt_of_succ_lt_succ h)
theorem cmp_ints {f : Nat} {F : AFun} (hF : ap f = some F) (hp : F.pure = true) (hna : F.nat = none) (hnt : F.ntmps = 32) (hres : F.res = [.tmp 4]) (hb : F.body = cmpF true 1 (.bin .neq (.tmp 26) (.tmp 30))) {k : IntKind} {l : List Int} (hlen : l.length ≤ maxLen) (fa fb : Bool) : E ap f [.imm fa l.length (l.flatMap (fun n => [T.int k n])), .imm fb l.length (l.flatMap (fun n => [T.int k n]))] (.bool true) := by
  refine cmp_run hF hp hna hnt hres hb ?_ (by have := max_small; omega)
  intro i st hil hl h0 h1 h5
  have hcl := flat_lenM (f := fun n => [T.int k n]) (k := 1) l (fun _ _ => rfl)
  have hcu := flat_at1 (fun n => T.int k n) l i hil
  have hb3 : i * 1 + 1 ≤ l.length * 1 := by omega
  have hn : (l[i] != l[i]) = false := by simp
  generalize l[i] = se at *
  generalize l.flatMap (fun n => [T.int k n]) = cs at *
  have hcu1 : cs[i * 1]? = some (.int k se) := by rw [Nat.mul_one]; exact hcu
  refine W_region (fun k => by simp +decide (disch := first | omega | simp +decide [hl]) only [s9, simprocAttr, h0, h1, h5, hil, hb3, hcl, hcu1, hn]; rfl) ⟨rfl, ?_⟩
  refine ⟨?_, ?_, ?_, ?_, ?_⟩ <;> simp +decide (disch := first | omega | simp +decide [hl]) only [s9, simprocAttr, hl, h0, h1, h5]
theorem cmp_bools {f : Nat} {F : AFun} (hF : ap f = some F) (hp : F.pure = true) (hna : F.nat = none) (hnt : F.ntmps = 32) (hres : F.res = [.tmp 4]) (hb : F.body = cmpF true 1 (.beq true (.tmp 26) (.tmp 30))) {l : List Bool} (hlen : l.length ≤ maxLen) (fa fb : Bool) : E ap f [.imm fa l.length (l.flatMap (fun n => [T.bool n])), .imm fb l.length (l.flatMap (fun n => [T.bool n]))] (.bool true) := by
  refine cmp_run hF hp hna hnt hres hb ?_ (by have := max_small; omega)
  intro i st hil hl h0 h1 h5
  have hcl := flat_lenM (f := fun n => [T.bool n]) (k := 1) l (fun _ _ => rfl)
  have hcu := flat_at1 (fun n => T.bool n) l i hil
  have hb3 : i * 1 + 1 ≤ l.length * 1 := by omega
  generalize l[i] = se at *
  generalize l.flatMap (fun n => [T.bool n]) = cs at *
  have hcu1 : cs[i * 1]? = some (.bool se) := by rw [Nat.mul_one]; exact hcu
  clear hcu
  cases se
  all_goals
    refine W_region (fun k => by simp +decide (disch := first | omega | simp +decide [hl]) only [s9, simprocAttr, h0, h1, h5, hil, hb3, hcl, hcu1]; rfl) ⟨rfl, ?_⟩
    refine ⟨?_, ?_, ?_, ?_, ?_⟩ <;> simp +decide (disch := first | omega | simp +decide [hl]) only [s9, simprocAttr, hl, h0, h1, h5]
end Go.Proofs.YtabfinhkoihhfaaGreat.Abs
