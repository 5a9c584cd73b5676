/- Calls; one operation of a region, in the model. -/
import Derived.Test.YthanlobfjpjegaaB6
namespace Go.Proofs.Ythanlobfjpjegaa.Abs
open Go Go.RowKit
set_option linter.unusedVariables false
set_option linter.unusedSimpArgs false

/-- What the blocks ids cover. -/
def Owned (g : Mem) (μ : Nat → Option Loc) (ids : List Nat) (b o : Nat) : Prop := ∃ t ∈ ids, ∃ c m, g t = some c ∧ μ t = some m ∧ b = m.1 ∧ m.2.1 ≤ o ∧ o < m.2.1 + m.2.2
def ZOf (Z : Nat → Nat → Prop) (g : Mem) (μ : Nat → Option Loc) (ids : List Nat) (b o : Nat) : Prop := Z b o ∨ Owned g μ ids b o

section
variable {P : Program} {o : Oper} {a : Act} {B : Nat} {W0 w : World} {Z0 Z : Nat → Nat → Prop} {g : Mem} {μ : Nat → Option Loc} {s : List T}

theorem zof_le {ids ids' : List Nat} (h : ∀ t ∈ ids, t ∈ ids') : ZLe w w (ZOf Z g μ ids) (ZOf Z g μ ids') := fun b o hz => ⟨hz.imp id fun ⟨t, ht, r⟩ => ⟨t, h t ht, r⟩, rfl⟩
theorem z_zof {ids : List Nat} : ZLe w w Z (ZOf Z g μ ids) := fun b o hz => ⟨.inl hz, rfl⟩

theorem frz_leaf {h : Hp} {d : Nat} {v v' : T} {ids : List Nat} (hf : frz h d v = some (v', ids)) (hl : v.leaf = true) : v'.leaf = true := by
  cases d with
  | zero => simp [frz] at hf
  | succ d =>
    cases v <;> simp [T.leaf] at hl <;> simp only [frz] at hf
    case own =>
      split at hf
      · cases hf
      · split at hf
        · split at hf
          · simp at hf; obtain ⟨rfl, _⟩ := hf; rfl
          · cases hf
        · cases hf
    case fn =>
      split at hf
      · simp at hf; obtain ⟨rfl, _⟩ := hf; rfl
      · cases hf
    all_goals first | (cases hf; done) | (simp at hf; obtain ⟨rfl, _⟩ := hf; rfl)

theorem frzAll_ok {f : T → Option (T × List Nat)} (hf : ∀ x y us v, f x = some (y, us) → VR w Z μ x v → VI w (ZOf Z g μ us) y v) : ∀ (l l' : List T) (ts : List Nat) (vs : List Value), frzAll f l = some (l', ts) → VRL w Z μ l vs → VIL w (ZOf Z g μ ts) l' vs
  | [], l', ts, vs, h, hv => by
    simp [frzAll] at h; obtain ⟨rfl, rfl⟩ := h
    simpa only [VRL, VIL] using hv
  | x :: l, l', ts, vs, h, hv => by
    simp only [frzAll] at h
    split at h
    · rename_i y us l1 ts1 h1 h2
      simp at h; obtain ⟨rfl, rfl⟩ := h
      simp only [VRL] at hv
      obtain ⟨v, vs', rfl, k1, k2⟩ := hv
      simp only [VIL]
      exact ⟨v, vs', rfl, VI.mono (zof_le fun t ht => List.mem_append_left _ ht) _ _ (hf x y us v h1 k1), VIL.mono (zof_le fun t ht => List.mem_append_right _ ht) _ _ (frzAll_ok hf l l1 ts1 vs' h2 k2)⟩
    · cases h
theorem frzAll_leaf {f : T → Option (T × List Nat)} (hf : ∀ x y us, f x = some (y, us) → x.leaf = true → y.leaf = true) : ∀ (l l' : List T) (ts : List Nat), frzAll f l = some (l', ts) → allLeaf l = true → allLeaf l' = true
  | [], l', ts, h, hv => by simp [frzAll] at h; obtain ⟨rfl, rfl⟩ := h; rfl
  | x :: l, l', ts, h, hv => by
    simp only [frzAll] at h
    split at h
    · rename_i y us l1 ts1 h1 h2
      simp at h; obtain ⟨rfl, rfl⟩ := h
      simp only [allLeaf, List.all_cons, Bool.and_eq_true] at hv ⊢
      exact ⟨hf x y us h1 hv.1, frzAll_leaf hf l l1 ts1 h2 hv.2⟩
    · cases h
theorem frzAll_len {f : T → Option (T × List Nat)} : ∀ (l l' : List T) (ts : List Nat), frzAll f l = some (l', ts) → l'.length = l.length
  | [], l', ts, h => by simp [frzAll] at h; obtain ⟨rfl, rfl⟩ := h; rfl
  | x :: l, l', ts, h => by
    simp only [frzAll] at h
    split at h
    · rename_i y us l1 ts1 h1 h2
      simp at h; obtain ⟨rfl, rfl⟩ := h
      simp [frzAll_len l l1 ts1 h2]
    · cases h

theorem frz_ok (hi : Inv B W0 Z0 g w Z μ) {nx : Nat} : ∀ (d : Nat) (x y : T) (us : List Nat) (v : Value), frz ⟨g, nx⟩ d x = some (y, us) → VR w Z μ x v → VI w (ZOf Z g μ us) y v
  | 0, _, _, _, _, h, _ => by simp [frz] at h
  | d + 1, x, y, us, v, h, hv => by
    have ih := frz_ok hi (nx := nx) d
    cases x <;> simp only [frz] at h
    case own t off len es =>
      split at h
      · cases h
      · rename_i c hc
        split at h
        · rename_i hl
          split at h
          · rename_i l ts h1
            simp at h
            obtain ⟨rfl, rfl⟩ := h
            have hle : off + len * es ≤ c.length ∨ len * es = 0 := by
              simp at hl; omega
            simp only [VR] at hv
            obtain ⟨ad, cap, m, j1, j2, j3, j4, j5⟩ := hv
            obtain ⟨m', p1, p2, p3, p4, p5, p6, p7⟩ := hi.blk _ _ hc
            obtain rfl : m' = m := by rw [j3] at p1; exact (Option.some.inj p1).symm
            simp only [VI]
            refine ⟨ad, cap, j1, j2, by simp, ?_⟩
            have hll := frzAll_len _ _ _ h1
            rw [hl] at hll
            rcases Nat.eq_zero_or_pos (len * es) with h0 | h0
            · left; exact List.eq_nil_of_length_eq_zero (by rw [hll]; exact h0)
            · right
              have hle' : off + len * es ≤ c.length := by omega
              have hlen : 0 < len := Nat.pos_of_mul_pos_right h0
              refine ⟨m'.1, m'.2.1 + off, j4 (by omega), ?_⟩
              obtain ⟨vs, q1, q2, q3, q4⟩ := p7.range (off := off) (n := len * es) hle'
              have hlf : allLeaf (cut c off (len * es)) = true := by
                unfold allLeaf; rw [List.all_eq_true]
                intro y hy
                obtain ⟨q, hq, rfl⟩ := List.getElem_of_mem hy
                have hq2 := List.getElem?_eq_getElem hq
                rw [cut_get] at hq2
                split at hq2
                · exact (p7 _ _ hq2).1
                · cases hq2
              have hvi := frzAll_ok (Z := Z) (g := g) ih _ _ _ _ h1 q2
              have hvl := frzAll_leaf (fun x y us h hl => frz_leaf h hl) _ _ _ h1 hlf
              have hlenm := Nat.mul_le_mul_right es j2
              refine VC.mk fun i z hz => ?_
              obtain ⟨u, r1, r2⟩ := hvi.get hz
              have hil : i < len * es := by have := (List.getElem?_eq_some_iff.1 hz).1; omega
              refine ⟨u, q3 i u r1, .inr ⟨t, by simp, c, m', hc, j3, rfl, by omega, by omega⟩, VI.mono (zof_le fun t ht => by simp [ht]) _ _ r2, List.all_eq_true.1 hvl z (List.mem_of_getElem? hz)⟩
          · cases h
        · cases h
    case agg l =>
      split at h
      · rename_i l1 ts h1
        simp at h; obtain ⟨rfl, rfl⟩ := h
        simp only [VR] at hv
        obtain ⟨vs, rfl, k1⟩ := hv
        simp only [VI]
        exact ⟨vs, rfl, frzAll_ok ih _ _ _ _ h1 k1⟩
      · cases h
    case tup l =>
      split at h
      · rename_i l1 ts h1
        simp at h; obtain ⟨rfl, rfl⟩ := h
        simp only [VR] at hv
        obtain ⟨vs, rfl, k1⟩ := hv
        simp only [VI]
        exact ⟨vs, rfl, frzAll_ok ih _ _ _ _ h1 k1⟩
      · cases h
    case fn f p q =>
      split at h
      · rename_i l1 ts l2 us2 h1 h2
        simp at h; obtain ⟨rfl, rfl⟩ := h
        simp only [VR] at hv
        obtain ⟨va, vb, rfl, k1, k2⟩ := hv
        simp only [VI]
        exact ⟨va, vb, rfl, VIL.mono (zof_le fun t ht => List.mem_append_left _ ht) _ _ (frzAll_ok ih _ _ _ _ h1 k1), VIL.mono (zof_le fun t ht => List.mem_append_right _ ht) _ _ (frzAll_ok ih _ _ _ _ h2 k2)⟩
      · cases h
    all_goals first
      | (cases h; done)
      | (simp at h; obtain ⟨rfl, rfl⟩ := h; simp only [VR] at hv; exact VI.mono z_zof _ _ hv)

/-- Flat values lead nowhere. -/
theorem flatL_any {w' : World} {Z' : Nat → Nat → Prop} : ∀ (l : List T) (vs : List Value), T.flatL l = true → VIL w Z l vs → VIL w' Z' l vs
  | [], vs, _, h => by simpa only [VIL] using h
  | x :: l, vs, hf, h => by
    simp only [VIL] at h ⊢
    obtain ⟨v, vs', rfl, h1, h2⟩ := h
    cases x
    case int => simp only [T.flatL] at hf; exact ⟨v, vs', rfl, by simpa only [VI] using h1, flatL_any l vs' hf h2⟩
    case bool => simp only [T.flatL] at hf; exact ⟨v, vs', rfl, by simpa only [VI] using h1, flatL_any l vs' hf h2⟩
    case str => simp only [T.flatL] at hf; exact ⟨v, vs', rfl, by simpa only [VI] using h1, flatL_any l vs' hf h2⟩
    case imm f n c =>
      have : n = 0 ∧ c = [] ∧ T.flatL l = true := by
        cases n <;> cases c <;> simp_all [T.flatL]
      obtain ⟨rfl, rfl, hl⟩ := this
      refine ⟨v, vs', rfl, ?_, flatL_any l vs' hl h2⟩
      simp only [VI] at h1 ⊢
      obtain ⟨a, cap, k1, k2, k3, _⟩ := h1
      exact ⟨a, cap, k1, k2, k3, .inl trivial⟩
    all_goals (simp [T.flatL] at hf)
theorem flat_any {w' : World} {Z' : Nat → Nat → Prop} {x : T} {v : Value} (hf : x.flat = true) (h : VI w Z x v) : VI w' Z' x v := by
  cases x
  case int => simpa only [VI] using h
  case bool => simpa only [VI] using h
  case str => simpa only [VI] using h
  case imm f n c =>
    have : n = 0 ∧ c = [] := by cases n <;> cases c <;> simp_all [T.flat]
    obtain ⟨rfl, rfl⟩ := this
    simp only [VI] at h ⊢
    obtain ⟨a, cap, k1, k2, k3, _⟩ := h
    exact ⟨a, cap, k1, k2, k3, .inl trivial⟩
  case agg l =>
    simp only [VI] at h ⊢
    obtain ⟨vs, rfl, hl⟩ := h
    exact ⟨vs, rfl, flatL_any l _ (by simpa [T.flat] using hf) hl⟩
  case tup l =>
    simp only [VI] at h ⊢
    obtain ⟨vs, rfl, hl⟩ := h
    exact ⟨vs, rfl, flatL_any l _ (by simpa [T.flat] using hf) hl⟩
  all_goals (simp [T.flat] at hf)

/-- A call that leaves all that was there as it was. -/
theorem Inv.below (hi : Inv B W0 Z0 g w Z μ) {w' : World} (hb : Below w.heap.size w w') {Z' : Nat → Nat → Prop} (hz : ZLe w w' Z Z') (hin : ∀ b o, Z' b o → b < w'.heap.size) {ids : List Nat}
    (hnew : ∀ b o, Z' b o → ZOf Z g μ ids b o ∨ w.heap.size ≤ b) : Inv B W0 Z0 (putAll g (ids.map fun t => (t, none))) w' Z' μ := by
  have hdel : ∀ (t : Nat) c, putAll g (ids.map fun t => (t, none)) t = some c → t ∉ ids ∧ g t = some c := by
    intro t c ht
    have : ∀ (l : List Nat) (g : Mem), putAll g (l.map fun t => (t, none)) t = some c → t ∉ l ∧ g t = some c := by
      intro l
      induction l with
      | nil => intro g h; exact ⟨by simp, h⟩
      | cons x l ih =>
        intro g h
        obtain ⟨h1, h2⟩ := ih (put1 g (x, none)) h
        simp only [put1] at h2
        split at h2
        · cases h2
        · rename_i hx; exact ⟨by simp [hx, h1], h2⟩
    exact this ids g ht
  refine ⟨hi.bel.trans (hb.mono hi.base), Nat.le_trans hi.base hb.size, hin, fun b o hbo => ?_, fun t c ht => ?_, fun t u ct cu m m' hne ht hu hm hm' => hi.dis t u ct cu m m' hne (hdel t ct ht).2 (hdel u cu hu).2 hm hm'⟩
  · rcases hnew b o hbo with h | h
    · rcases h with h | ⟨t, ht, c, m, h1, h2, h3, _, _⟩
      · exact hi.zold b o h
      · right
        obtain ⟨m', k1, k2, _⟩ := hi.blk t c h1
        rw [h2] at k1; obtain rfl := Option.some.inj k1
        omega
    · right; have := hi.base; omega
  · obtain ⟨hnt, hg⟩ := hdel t c ht
    obtain ⟨m, k1, k2, k3, k4, k5, k6, k7⟩ := hi.blk t c hg
    have hcell : ∀ i, w'.cell? ⟨m.1, m.2.1 + i, none⟩ = w.cell? ⟨m.1, m.2.1 + i, none⟩ := fun i => hb.cell k3
    refine ⟨m, k1, k2, Nat.lt_of_lt_of_le k3 hb.size, k4, fun j hj => ?_, fun i hil hzz => ?_, k7.mono hz MLe.refl fun i _ => hcell i⟩
    · have := k5 j hj
      rw [hcell j]
      exact ⟨this.1, by rw [hb.frozen (p := ⟨m.1, m.2.1 + j, none⟩) k3]; exact this.2⟩
    · rcases hnew _ _ hzz with h | h
      · rcases h with h | ⟨t', ht', c', m', h1, h2, h3, h4, h5⟩
        · exact k6 i hil h
        · have hne : t ≠ t' := fun e => hnt (e ▸ ht')
          rcases hi.dis t t' c c' m m' hne hg h1 k1 h2 with hd | hd | hd
          · exact hd h3
          · omega
          · omega
      · omega
theorem zle_below {w' : World} (hin : ∀ b o, Z b o → b < w.heap.size) (hb : Below w.heap.size w w') : ZLe w w' Z Z := fun b o hz => ⟨hz, hb.cell (p := ⟨b, o, none⟩) (hin b o hz)⟩
end

/-! ### Calls -/
def CloneOk (P : Program) (f es bytes : Nat) : Prop :=
  ∀ (B : Nat) (W0 : World) (Z0 : Nat → Nat → Prop) (g : Mem) (w : World) (Z : Nat → Nat → Prop) (μ : Nat → Option Loc) (fr : Nat) (x : T) (v : Value) (n : Nat) (c : List T) (rd : List Nat), Inv B W0 Z0 g w Z μ → μ fr = none → VR w Z μ x v →
    cellsOf g es x = some (n, c, rd) → c.length = n * es → allLeaf c = true → n * bytes ≤ room → n ≤ room →
    Calls P f #[v] w (fun e w' => ∃ u μ', e = .returned u ∧ VR w' Z μ' (if n = 0 then .imm true 0 [] else .own fr 0 n es) u ∧ Inv B W0 Z0 (if n = 0 then g else put1 g (fr, some c)) w' Z μ' ∧ ZLe w w' Z Z ∧ MLe μ μ' ∧ ∀ u, u ≠ fr → μ' u = μ u)
def ClonesOk (P : Program) (AP : AProg) : Prop := ∀ (f : Nat) (F : AFun) (es bytes : Nat), AP f = some F → F.nat = some (es, bytes) → CloneOk P f es bytes
def PureOk (P : Program) (AP : AProg) (ih : Run) : Prop :=
  ∀ (f : Nat) (F : AFun) (args : List T) (v : T), AP f = some F → F.nat = none → F.pure = true → runPure ih F args = some v → ∀ (w : World) (Z : Nat → Nat → Prop) (vs : List Value), VIL w Z args vs → (∀ b o, Z b o → b < w.heap.size) →
    Calls P f vs.toArray w (fun e w' => ∃ u Z', e = .returned u ∧ Below w.heap.size w w' ∧ ZLe w w' Z Z' ∧ (∀ b o, Z' b o → b < w'.heap.size) ∧ (∀ b o, Z' b o → Z b o ∨ w.heap.size ≤ b) ∧ VI w' Z' v u)
/-- How memory goes on. -/
structure Pr (w : World) (Z : Nat → Nat → Prop) (μ : Nat → Option Loc) (nx : Nat) (w' : World) (Z' : Nat → Nat → Prop) (μ' : Nat → Option Loc) (nx' : Nat) : Prop where
  z : ZLe w w' Z Z'
  m : MLe μ μ'
  n : nx ≤ nx'
  old : ∀ t, t < nx → μ' t = μ t
  new : ∀ t, nx' ≤ t → μ' t = none
def ImpOk (P : Program) (AP : AProg) (ih : Run) : Prop :=
  ∀ (f : Nat) (F : AFun) (args : List T) (g : Mem) (nx : Nat) (v : T) (g' : Mem) (nx' : Nat), AP f = some F → F.pure = false → runBody ih F args g nx = some (v, g', nx') →
    ∀ (B : Nat) (W0 : World) (Z0 : Nat → Nat → Prop) (w : World) (Z : Nat → Nat → Prop) (μ : Nat → Option Loc) (vs : List Value), VRL w Z μ args vs → Inv B W0 Z0 g w Z μ → (∀ t, nx ≤ t → μ t = none) →
    Calls P f vs.toArray w (fun e w' => ∃ u Z' μ', e = .returned u ∧ VR w' Z' μ' v u ∧ Inv B W0 Z0 g' w' Z' μ' ∧ Pr w Z μ nx w' Z' μ' nx')
/-- A function of the plain program stands for one of the program's that has a body. -/
def Enters (P : Program) (AP : AProg) : Prop := ∀ (f : Nat) (F : AFun), AP f = some F → ∃ fn, P.funcs[f]? = some fn ∧ (fn.name == "runtime.NumGoroutine") = false ∧ fn.body.isNone = false

section
variable {P : Program} {o : Oper} {a : Act} {B : Nat} {W0 w : World} {Z0 Z : Nat → Nat → Prop} {g : Mem} {μ : Nat → Option Loc} {s : List T} {AP : AProg} {ih : Run}

theorem callee_ok (hE : Enters P AP) (hs : VRL w Z μ s a.tmps.toList) {op : AOp} (hc : compOp P o.op = some op) {f : Nat} {args : List T} (hce : callee s op = some (f, args)) {F : AFun} (hF : AP f = some F) :
    ∃ vs : List Value, VRL w Z μ args vs ∧ (execOp a.eval o).run P w = .ok (.enter f vs.toArray) w := by
  obtain ⟨fn, e1, e2, e3⟩ := hE f F hF
  have hcf : ∀ vs : Array Value, (callFunc f vs).run P w = .ok (.enter f vs) w := fun vs => by
    have e2' : (fn.name = "runtime.NumGoroutine") = False := by simpa using e2
    have e3' : (fn.body = none) = False := by cases hb : fn.body <;> simp_all
    simp [callFunc, e1, e2', e3']
  generalize ho : o.op = q at hc
  cases q with
  | call c =>
    obtain ⟨cal, args', ats⟩ := c
    unfold compOp at hc
    split at hc
    all_goals (rename_i heq; try (cases heq))
    · split at hc
      · rename_i l hl
        obtain rfl := Option.some.inj hc
        simp [callee] at hce
        obtain ⟨rfl, rfl⟩ := hce
        refine ⟨(args'.map a.eval).toList, by rw [Array.toList_map]; exact rhos_ok hs hl, ?_⟩
        unfold execOp; rw [ho]
        have hta : ((args'.map a.eval).toList).toArray = args'.map a.eval := Array.toArray_toList
        rw [hta]
        simp [-Array.toList_map, resolve, Act.eval, Deferred.ofValue, invoke, hcf]
      · cases hc
    · split at hc
      · rename_i t _ l hl
        obtain rfl := Option.some.inj hc
        simp only [callee] at hce
        split at hce
        · rename_i f' fs cs e
          simp at hce
          obtain ⟨rfl, rfl⟩ := hce
          have hv := rho_ok hs (x := .tmp t) (y := .tmp t) rfl
          rw [e] at hv
          simp only [VR] at hv
          obtain ⟨va, vb, j1, j2, j3⟩ := hv
          refine ⟨(va ++ args'.map a.eval ++ vb).toList, ?_, ?_⟩
          · simp only [Array.toList_append, Array.toList_map, List.append_assoc]
            exact j2.append ((rhos_ok hs hl).append j3)
          · unfold execOp; rw [ho]
            simp [resolve, j1, Deferred.ofValue, invoke, hcf]
        · cases hce
      · cases hc
    all_goals
      first
        | (cases hc; done)
        | (split at hc
           · split at hc
             · split at hc
               · obtain rfl := Option.some.inj hc; simp [callee] at hce
               · cases hc
             · cases hc
           · cases hc)
        | (split at hc
           · split at hc
             · obtain rfl := Option.some.inj hc; simp [callee] at hce
             · obtain rfl := Option.some.inj hc; simp [callee] at hce
             · cases hc
           · cases hc)
        | (split at hc
           · obtain rfl := Option.some.inj hc; simp [callee] at hce
           · cases hc)
  | makeFunc fn fs cs =>
    exfalso
    cases fn <;> simp only [compOp] at hc
    case func q =>
      split at hc
      · obtain rfl := Option.some.inj hc; simp [callee] at hce
      · cases hc
    all_goals cases hc
  | _ =>
    exfalso
    simp only [compOp] at hc
    repeat' (split at hc)
    all_goals first | (cases hc; done) | (obtain rfl := Option.some.inj hc; simp [callee] at hce)

theorem enter_wp {f : Nat} {vs : Array Value} (h : (execOp a.eval o).run P w = .ok (.enter f vs) w) {K : Act → World → Prop} {Q : Exit → Act → World → Prop} {R : Ending → World → Prop} (hc : Calls P f vs w R)
    (hk : ∀ e w', R e w' → ∃ u, e = .returned u ∧ K (a.put o.dst u) w') : o.wp P a w K Q := by
  unfold Oper.wp
  rw [h]
  refine Calls.mono hc fun e w' hr => ?_
  obtain ⟨u, rfl, hK⟩ := hk e w' hr
  exact hK
end
end Go.Proofs.Ythanlobfjpjegaa.Abs
