/- For proofs about the plain machine: fuel, flat lists, numbers in range. -/
import Derived.Test.YtabfinhkoihhfaaGreatC4
namespace Go.Proofs.YtabfinhkoihhfaaGreat.Abs
open Go Go.RowKit
set_option linter.unusedVariables false
set_option linter.unusedSimpArgs false
set_option linter.unnecessarySimpa false

theorem ev_succ (AP : AProg) (k : Nat) (c : ACode) (st : St) : ev AP (k + 1) c st = evStep AP (ev AP k) c st := rfl
theorem flat_len {α : Type} {f : α → List T} {k : Nat} (hf : ∀ a, (f a).length = k) : ∀ l : List α, (l.flatMap f).length = l.length * k
  | [] => by simp
  | x :: l => by rw [List.flatMap_cons, List.length_append, hf, flat_len hf l, List.length_cons, Nat.add_mul, Nat.one_mul, Nat.add_comm]
theorem flat_get {α : Type} {f : α → List T} {k : Nat} (hf : ∀ a, (f a).length = k) : ∀ (l : List α) (i : Nat) (h : i < l.length) (j : Nat), j < k → (l.flatMap f)[i * k + j]? = (f l[i])[j]?
  | [], i, h, _, _ => by simp at h
  | x :: l, 0, h, j, hj => by
    rw [List.flatMap_cons, Nat.zero_mul, Nat.zero_add, List.getElem?_append_left (by rw [hf]; exact hj)]; rfl
  | x :: l, i + 1, h, j, hj => by
    have e : (i + 1) * k + j = k + (i * k + j) := by rw [Nat.add_mul, Nat.one_mul]; omega
    rw [List.flatMap_cons, List.getElem?_append_right (by rw [hf, e]; omega), hf, e, Nat.add_sub_cancel_left, flat_get hf l i (by simpa using h) j hj]; rfl
theorem flat_get0 {α : Type} {f : α → List T} {k : Nat} (hf : ∀ a, (f a).length = k) (l : List α) (i : Nat) (h : i < l.length) (hk : 0 < k) : (l.flatMap f)[i * k]? = (f l[i])[0]? := by
  have := flat_get hf l i h 0 hk; simpa using this
theorem flat_cut {α : Type} {f : α → List T} {k : Nat} (hf : ∀ a, (f a).length = k) (l : List α) (i : Nat) (h : i < l.length) (j n : Nat) (hj : j + n ≤ k) : cut (l.flatMap f) (i * k + j) n = cut (f l[i]) j n := by
  apply List.ext_getElem?
  intro q
  rw [cut_get, cut_get]
  split
  · rw [Nat.add_assoc, flat_get hf l i h (j + q) (by omega)]
  · rfl
theorem flat_leaf {α : Type} {f : α → List T} (hf : ∀ a, allLeaf (f a) = true) : ∀ l : List α, allLeaf (l.flatMap f) = true
  | [] => rfl
  | x :: l => by rw [List.flatMap_cons]; exact leaf_append (hf x) (flat_leaf hf l)
theorem wrap_id {n : Int} (h : -9223372036854775808 ≤ n ∧ n ≤ 9223372036854775807) : IntKind.i64.wrap n = n := by
  have e : IntKind.i64.wrap n = (let m := n % (2 ^ 64 : Int); if (true && decide (m ≥ (2 ^ 63 : Int))) = true then m - (2 ^ 64 : Int) else m) := rfl
  rw [e]
  simp only [Bool.true_and, decide_eq_true_eq]
  split <;> omega
theorem wrap_u32 (n : Int) : IntKind.u32.wrap n = n % 4294967296 := by
  have e : IntKind.u32.wrap n = (let m := n % (2 ^ 32 : Int); if (false && decide (m ≥ (2 ^ 31 : Int))) = true then m - (2 ^ 32 : Int) else m) := rfl
  rw [e]; simp
theorem wrap_u64 (n : Int) : IntKind.u64.wrap n = n % 18446744073709551616 := by
  have e : IntKind.u64.wrap n = (let m := n % (2 ^ 64 : Int); if (false && decide (m ≥ (2 ^ 63 : Int))) = true then m - (2 ^ 64 : Int) else m) := rfl
  rw [e]; simp
theorem wrap_u8 (n : Int) : IntKind.u8.wrap n = n % 256 := by
  have e : IntKind.u8.wrap n = (let m := n % (2 ^ 8 : Int); if (false && decide (m ≥ (2 ^ 7 : Int))) = true then m - (2 ^ 8 : Int) else m) := rfl
  rw [e]; simp
theorem wf_i64 {n : Int} (h : (Lit.int .i64 n).wf = true) : -9223372036854775808 ≤ n ∧ n ≤ 9223372036854775807 := by
  have e : (Lit.int .i64 n).wf = (decide (-(2 ^ 63) ≤ n) && decide (n ≤ 2 ^ 63 - 1)) := rfl
  rw [e, Bool.and_eq_true, decide_eq_true_eq, decide_eq_true_eq] at h
  omega
theorem wf_u32 {n : Int} (h : (Lit.int .u32 n).wf = true) : 0 ≤ n ∧ n ≤ 4294967295 := by
  have e : (Lit.int .u32 n).wf = (decide ((0 : Int) ≤ n) && decide (n ≤ 2 ^ 32 - 1)) := rfl
  rw [e, Bool.and_eq_true, decide_eq_true_eq, decide_eq_true_eq] at h
  omega
theorem wf_u8 {n : Int} (h : (Lit.int .u8 n).wf = true) : 0 ≤ n ∧ n ≤ 255 := by
  have e : (Lit.int .u8 n).wf = (decide ((0 : Int) ≤ n) && decide (n ≤ 2 ^ 8 - 1)) := rfl
  rw [e, Bool.and_eq_true, decide_eq_true_eq, decide_eq_true_eq] at h
  omega
theorem natOf_nat (k : IntKind) (n : Nat) : natOf (.int k (n : Int)) = some n := by simp [natOf]

/-- A pure function answers, with enough fuel. -/
def E (AP : AProg) (f : Nat) (args : List T) (v : T) : Prop := ∃ N, ∀ k, evF AP (k + N) f args = some v

/-! More fuel, the same answer. -/
def Le (a b : Run) : Prop := ∀ c st r, a c st = some r → b c st = some r
theorem runBody_le {a b : Run} (h : Le a b) {F : AFun} {args : List T} {g : Mem} {nx : Nat} {r : T × Mem × Nat} (hr : runBody a F args g nx = some r) : runBody b F args g nx = some r := by
  unfold runBody at hr ⊢
  split at hr
  · rename_i e st he
    rw [h _ _ _ he]; exact hr
  · cases hr
theorem runPure_le {a b : Run} (h : Le a b) {F : AFun} {args : List T} {r : T} (hr : runPure a F args = some r) : runPure b F args = some r := by
  unfold runPure at hr ⊢
  split at hr
  · rename_i v g nx he
    rw [runBody_le h he]; exact hr
  · cases hr
theorem callPure_le {a b : Run} (h : Le a b) {F : AFun} {args : List T} {g : Mem} {r : Res} (hr : callPure a F args g = some r) : callPure b F args g = some r := by
  unfold callPure at hr ⊢
  split at hr
  · split at hr
    · rename_i v hv
      simp only [runPure_le h hv]; exact hr
    · cases hr
  · cases hr
theorem evR_le {AP : AProg} {a b : Run} (h : Le a b) {fr : Nat} {op : AOp} {s : List T} {g : Mem} {r : Res} (hr : evR AP a fr op s g = some r) : evR AP b fr op s g = some r := by
  unfold evR at hr ⊢
  split at hr
  · split at hr
    · split at hr
      · exact hr
      · split at hr
        · rename_i hp; simp only [hp, if_true]; exact callPure_le h hr
        · cases hr
    · cases hr
  · exact hr
theorem evI_R {AP : AProg} {a b : Run} {fr : Nat} {op : AOp} {s : List T} {g : Mem} {nx : Nat} {r : T × Mem × Nat} (hi : evI AP a op s g nx = some r) (hr : evR AP a fr op s g = none) : evR AP b fr op s g = none := by
  unfold evI at hi
  unfold evR at hr ⊢
  cases hc : callee s op with
  | none => rw [hc] at hi; simp at hi
  | some p =>
    obtain ⟨f, args⟩ := p
    rw [hc] at hi hr
    simp only at hi hr ⊢
    cases hF : AP f with
    | none => rfl
    | some F =>
      rw [hF] at hi hr
      simp only at hi hr ⊢
      split at hi
      · cases hi
      · rename_i hp
        cases hn : F.nat <;> simp_all
theorem evOp_le {AP : AProg} {a b : Run} (h : Le a b) {fr : Nat} {o : AOper} {st : St} {r : St × Fp} (hr : evOp AP a fr o st = some r) : evOp AP b fr o st = some r := by
  unfold evOp at hr ⊢
  split at hr
  · rename_i q hq
    have : evG AP b fr o st.s st.g = some q := by
      unfold evG at hq ⊢
      split at hq
      · exact evR_le h hq
      · exact hq
      · cases hq
    rw [this]; exact hr
  · rename_i hq
    split at hr
    · rename_i hg
      split at hr
      · rename_i v g nx hI
        have h1 : evG AP b fr o st.s st.g = none := by
          unfold evG at hq ⊢
          rw [hg] at hq ⊢
          exact evI_R hI hq
        have h2 : evI AP b o.op st.s st.g st.nx = some (v, g, nx) := by
          unfold evI at hI ⊢
          split at hI
          · split at hI
            · split at hI
              · cases hI
              · rename_i hp; rw [if_neg hp]; exact runBody_le h hI
            · cases hI
          · cases hI
        rw [h1, h2]; simp only [hg]; exact hr
      · cases hr
    · cases hr
theorem evOps_le {AP : AProg} {a b : Run} (h : Le a b) : ∀ (ops : List AOper) (fr : Nat) (st : St) (r : St × List Fp), evOps AP a fr ops st = some r → evOps AP b fr ops st = some r
  | [], _, _, _, hr => hr
  | o :: ops, fr, st, r, hr => by
    simp only [evOps] at hr ⊢
    split at hr
    · rename_i st1 fp h1
      rw [evOp_le h h1]
      simp only
      split at hr
      · rename_i st2 fps h2
        rw [evOps_le h _ _ _ _ h2]; exact hr
      · cases hr
    · cases hr
theorem evStep_le {AP : AProg} {a b : Run} (h : Le a b) : Le (evStep AP a) (evStep AP b) := by
  intro c st r hr
  cases c <;> simp only [evStep] at hr ⊢ <;> try exact hr
  case region ops chk =>
    unfold evRegion at hr ⊢
    split at hr
    · rename_i st' fps he
      rw [evOps_le h _ _ _ _ he]; exact hr
    · cases hr
  case seq x y =>
    split at hr
    · rename_i st' h1
      rw [h _ _ _ h1]; exact h _ _ _ hr
    · rename_i hn
      have := h _ _ _ hr
      rw [this]
      split
      · rename_i st' e; exact absurd (by rw [hr, e]) (hn st')
      · rfl
  case cond x y z =>
    split at hr
    · exact h _ _ _ hr
    · exact h _ _ _ hr
    · cases hr
  case block i x =>
    split at hr
    · rename_i j st' h1
      rw [h _ _ _ h1]; exact hr
    · rename_i hn
      have := h _ _ _ hr
      rw [this]
      split
      · rename_i j st' e; exact absurd (by rw [hr, e]) (hn j st')
      · rfl
  case loop x =>
    split at hr
    · rename_i st' h1
      rw [h _ _ _ h1]; exact h _ _ _ hr
    · rename_i hn
      have := h _ _ _ hr
      rw [this]
      split
      · rename_i st' e; exact absurd (by rw [hr, e]) (hn st')
      · rfl
  case scope x y =>
    split at hr
    · rename_i l st' h1
      rw [h _ _ _ h1]
      split at hr
      · rename_i q hq; simp only [hq]; exact h _ _ _ hr
      · cases hr
    · rename_i hn
      have := h _ _ _ hr
      rw [this]
      split
      · rename_i l st' e; exact absurd (by rw [hr, e]) (hn l st')
      · rfl
  case kill l x => exact h _ _ _ hr
theorem ev_le (AP : AProg) : ∀ k, Le (ev AP k) (ev AP (k + 1))
  | 0 => fun _ _ _ h => by simp [ev] at h
  | k + 1 => evStep_le (ev_le AP k)
theorem ev_add (AP : AProg) (k : Nat) : ∀ n, Le (ev AP k) (ev AP (k + n))
  | 0 => fun _ _ _ h => h
  | n + 1 => fun c st r h => ev_le AP (k + n) c st r (ev_add AP k n c st r h)
theorem E_of {AP : AProg} {k f : Nat} {args : List T} {v : T} (h : evF AP k f args = some v) : E AP f args v := by
  refine ⟨k, fun n => ?_⟩
  unfold evF at h ⊢
  split at h
  · split at h
    · rename_i hp; simp only [hp, if_true]; rw [Nat.add_comm]; exact runPure_le (ev_add AP k n) h
    · cases h
  · cases h
theorem E.get {AP : AProg} {f : Nat} {args : List T} {v : T} (h : E AP f args v) : ∃ k, evF AP k f args = some v := by
  obtain ⟨N, h⟩ := h; exact ⟨0 + N, h 0⟩

/-! ### What code comes to -/
def W (AP : AProg) (c : ACode) (st : St) (Q : AExit → St → Prop) : Prop := ∃ k e st', ev AP k c st = some (e, st') ∧ Q e st'
theorem W.mono {AP : AProg} {c : ACode} {st : St} {Q Q' : AExit → St → Prop} (h : W AP c st Q) (hq : ∀ e s, Q e s → Q' e s) : W AP c st Q' := by
  obtain ⟨k, e, st', h1, h2⟩ := h; exact ⟨k, e, st', h1, hq _ _ h2⟩
theorem W_seq {AP : AProg} {a b : ACode} {st : St} {Q : AExit → St → Prop} (h : W AP a st (fun e s => (e = .normal ∧ W AP b s Q) ∨ (e ≠ .normal ∧ Q e s))) : W AP (.seq a b) st Q := by
  obtain ⟨k, e, st', h1, h2⟩ := h
  rcases h2 with ⟨rfl, k2, e2, st2, h3, h4⟩ | ⟨hne, hq⟩
  · refine ⟨k + k2 + 1, e2, st2, ?_, h4⟩
    rw [ev_succ]
    simp only [evStep, ev_add AP k k2 _ _ _ h1]
    rw [Nat.add_comm]
    exact ev_add AP k2 k _ _ _ h3
  · refine ⟨k + 1, e, st', ?_, hq⟩
    rw [ev_succ]
    simp only [evStep, h1]
    cases e <;> first | (exact absurd rfl hne) | rfl
/-- A piece that ends as pieces do. -/
theorem W_seqn {AP : AProg} {a b : ACode} {st : St} {Q : AExit → St → Prop} (h : W AP a st (fun e s => e = .normal ∧ W AP b s Q)) : W AP (.seq a b) st Q := W_seq (h.mono fun _ _ h => .inl h)
theorem W_true {AP : AProg} {c : Opd} {a b : ACode} {st : St} {Q : AExit → St → Prop} (hc : rho st.s c = .bool true) (h : W AP a st Q) : W AP (.cond c a b) st Q := by
  obtain ⟨k, e, st', h1, h2⟩ := h
  exact ⟨k + 1, e, st', by rw [ev_succ]; simp only [evStep, hc, h1], h2⟩
theorem W_false {AP : AProg} {c : Opd} {a b : ACode} {st : St} {Q : AExit → St → Prop} (hc : rho st.s c = .bool false) (h : W AP b st Q) : W AP (.cond c a b) st Q := by
  obtain ⟨k, e, st', h1, h2⟩ := h
  exact ⟨k + 1, e, st', by rw [ev_succ]; simp only [evStep, hc, h1], h2⟩
theorem W_cond {AP : AProg} {c : Opd} {a b : ACode} {st : St} {Q : AExit → St → Prop} {t : Bool} (hc : rho st.s c = .bool t) (ht : t = true → W AP a st Q) (hf : t = false → W AP b st Q) : W AP (.cond c a b) st Q := by
  cases t
  · exact W_false hc (hf rfl)
  · exact W_true hc (ht rfl)
theorem W_skip {AP : AProg} {st : St} {Q : AExit → St → Prop} (h : Q .normal st) : W AP .skip st Q := ⟨1, _, _, rfl, h⟩
theorem W_ret {AP : AProg} {st : St} {Q : AExit → St → Prop} (h : Q .ret st) : W AP .ret st Q := ⟨1, _, _, rfl, h⟩
theorem W_exit {AP : AProg} {i : Nat} {st : St} {Q : AExit → St → Prop} (h : Q (.exit i) st) : W AP (.exit i) st Q := ⟨1, _, _, rfl, h⟩
theorem W_label {AP : AProg} {i : Nat} {st : St} {Q : AExit → St → Prop} (h : Q .normal st) : W AP (.label i) st Q := ⟨1, _, _, rfl, h⟩
theorem W_goto {AP : AProg} {i : Nat} {st : St} {Q : AExit → St → Prop} (h : Q (.goto i) st) : W AP (.goto i) st Q := ⟨1, _, _, rfl, h⟩
theorem W_kill {AP : AProg} {l : List Nat} {c : ACode} {st : St} {Q : AExit → St → Prop} (h : W AP c { st with s := killAll st.s l } Q) : W AP (.kill l c) st Q := by
  obtain ⟨k, e, st', h1, h2⟩ := h
  exact ⟨k + 1, e, st', by rw [ev_succ]; simp only [evStep, h1], h2⟩
theorem W_block {AP : AProg} {i : Nat} {c : ACode} {st : St} {Q : AExit → St → Prop} (h : W AP c st (fun e s => (e = .exit i ∧ Q .normal s) ∨ ((∀ j, e ≠ .exit j) ∧ Q e s) ∨ (∃ j, e = .exit j ∧ j ≠ i ∧ Q e s))) : W AP (.block i c) st Q := by
  obtain ⟨k, e, st', h1, h2⟩ := h
  rcases h2 with ⟨rfl, hq⟩ | ⟨hne, hq⟩ | ⟨j, rfl, hj, hq⟩
  · exact ⟨k + 1, .normal, st', by rw [ev_succ]; simp only [evStep, h1, if_true], hq⟩
  · refine ⟨k + 1, e, st', ?_, hq⟩
    rw [ev_succ]
    simp only [evStep, h1]
    cases e <;> simp at hne ⊢
  · exact ⟨k + 1, .exit j, st', by rw [ev_succ]; simp only [evStep, h1, if_neg hj], hq⟩
/-- A loop: what holds at its head, and a number that each round lowers. -/
theorem W_loop {AP : AProg} {c : ACode} {Q : AExit → St → Prop} (I : Nat → St → Prop) (h : ∀ n s, I n s → W AP c s (fun e s' => (e = .normal ∧ ∃ m, m < n ∧ I m s') ∨ (e ≠ .normal ∧ Q e s'))) : ∀ n s, I n s → W AP (.loop c) s Q := by
  intro n
  induction n using Nat.strongRecOn with
  | _ n ih =>
    intro s hI
    obtain ⟨k, e, st', h1, h2⟩ := h n s hI
    rcases h2 with ⟨rfl, m, hm, hI'⟩ | ⟨hne, hq⟩
    · obtain ⟨k2, e2, st2, h3, h4⟩ := ih m hm st' hI'
      refine ⟨k + k2 + 1, e2, st2, ?_, h4⟩
      rw [ev_succ]
      simp only [evStep, ev_add AP k k2 _ _ _ h1]
      rw [Nat.add_comm]
      exact ev_add AP k2 k _ _ _ h3
    · refine ⟨k + 1, e, st', ?_, hq⟩
      rw [ev_succ]
      simp only [evStep, h1]
      cases e <;> simp at hne ⊢
theorem W_scope {AP : AProg} {whole r : ACode} {st : St} {Q : AExit → St → Prop} (h : W AP r st (fun e s => (∃ l q, e = .goto l ∧ afind whole l = some q ∧ W AP (.scope whole q) s Q) ∨ ((∀ l, e ≠ .goto l) ∧ Q e s))) : W AP (.scope whole r) st Q := by
  obtain ⟨k, e, st', h1, h2⟩ := h
  rcases h2 with ⟨l, q, rfl, hq, k2, e2, st2, h3, h4⟩ | ⟨hne, hq⟩
  · refine ⟨k + k2 + 1, e2, st2, ?_, h4⟩
    rw [ev_succ]
    simp only [evStep, ev_add AP k k2 _ _ _ h1, hq]
    rw [Nat.add_comm]
    exact ev_add AP k2 k _ _ _ h3
  · refine ⟨k + 1, e, st', ?_, hq⟩
    rw [ev_succ]
    simp only [evStep, h1]
    cases e <;> simp at hne ⊢
/-- A region that calls nothing. -/
theorem W_region {AP : AProg} {ops : List AOper} {chk : List (Nat × Nat)} {st st' : St} {Q : AExit → St → Prop} (h : ∀ k, evRegion AP (ev AP k) ops chk st = some (.normal, st')) (hq : Q .normal st') : W AP (.region ops chk) st Q :=
  ⟨1, _, _, by rw [ev_succ]; exact h 0, hq⟩
/-- A region that calls: with enough fuel. -/
theorem W_regionN {AP : AProg} {ops : List AOper} {chk : List (Nat × Nat)} {st st' : St} {Q : AExit → St → Prop} (h : ∃ k, evRegion AP (ev AP k) ops chk st = some (.normal, st')) (hq : Q .normal st') : W AP (.region ops chk) st Q := by
  obtain ⟨k, h⟩ := h
  exact ⟨k + 1, _, _, by rw [ev_succ]; exact h, hq⟩
/-- From the body to the function. -/
theorem E_body {AP : AProg} {f : Nat} {F : AFun} (hF : AP f = some F) (hp : F.pure = true) (hn : F.nat = none) {args : List T} {v : T} (h : W AP F.body ⟨args ++ List.replicate (F.ntmps - args.length) .undef, fun _ => none, 0⟩ (fun e st => e.leaves = true ∧ ∃ u ids, resT st.s st.g F.res = some u ∧ frz ⟨st.g, st.nx⟩ frzDepth u = some (v, ids))) : E AP f args v := by
  obtain ⟨k, e, st, h1, h2, u, ids, h3, h4⟩ := h
  refine E_of (k := k) ?_
  unfold evF
  rw [hF]
  simp only [hp, hn, Option.isNone_none, Bool.and_self, if_true]
  unfold runPure runBody
  simp only [h1, h2, if_true, h3, h4]
/-- A call, in a region: what it comes to. -/
theorem E.run {AP : AProg} {f : Nat} {F : AFun} (hF : AP f = some F) {args : List T} {v : T} (h : E AP f args v) : ∃ N, ∀ k, runPure (ev AP (k + N)) F args = some v := by
  obtain ⟨N, h⟩ := h
  refine ⟨N, fun k => ?_⟩
  have := h k
  unfold evF at this
  rw [hF] at this
  simp only at this
  split at this
  · exact this
  · cases this
end Go.Proofs.YtabfinhkoihhfaaGreat.Abs
