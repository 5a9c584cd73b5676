/- Regions that draw their order. -/
import Derived.Test.YthanlobfjpjegaaB8
namespace Go.Proofs.Ythanlobfjpjegaa.Abs
open Go Go.RowKit
set_option linter.unusedVariables false
set_option linter.unusedSimpArgs false
set_option linter.unnecessarySimpa false

def befVal (acc : Array Nat) (o : Oper) : Nat := o.after.foldl (fun s e => if Region.binds .any e then s ||| 2 ^ e.on ||| acc.getD e.on 0 else s) 0
theorem befVal_bit (acc : Array Nat) (o : Oper) (i : Nat) (h : (befVal acc o).testBit i = true) : ∃ e ∈ o.after, Region.binds .any e = true ∧ (e.on = i ∨ (acc.getD e.on 0).testBit i = true) := by
  unfold befVal at h
  rw [← Array.foldl_toList] at h
  have key : ∀ (l : List Edge) (s : Nat), (l.foldl (fun s e => if Region.binds .any e then s ||| 2 ^ e.on ||| acc.getD e.on 0 else s) s).testBit i = true → s.testBit i = true ∨ ∃ e ∈ l, Region.binds .any e = true ∧ (e.on = i ∨ (acc.getD e.on 0).testBit i = true) := by
    intro l
    induction l with
    | nil => intro s h; exact .inl h
    | cons e l ih =>
      intro s h
      rw [List.foldl_cons] at h
      rcases ih _ h with h | ⟨e', h1, h2⟩
      · split at h
        · rename_i hb
          rw [Nat.testBit_or, Nat.testBit_or, Bool.or_eq_true, Bool.or_eq_true] at h
          rcases h with (h | h) | h
          · exact .inl h
          · right
            rw [Nat.testBit_two_pow] at h
            exact ⟨e, by simp, hb, .inl (by simpa using h)⟩
          · exact .inr ⟨e, by simp, hb, .inr h⟩
        · exact .inl h
      · exact .inr ⟨e', by simp [h1], h2⟩
  rcases key _ _ h with h | ⟨e, h1, h2⟩
  · simp at h
  · exact ⟨e, by simpa using h1, h2⟩
theorem before_fold : ∀ (l : List Oper) (acc : Array Nat), (l.foldl (fun acc o => acc.push (befVal acc o)) acc).size = acc.size + l.length ∧ (∀ k, k < acc.size → (l.foldl (fun acc o => acc.push (befVal acc o)) acc).getD k 0 = acc.getD k 0) ∧
    ∀ (j : Nat) o, l[j]? = some o → ∃ acc' : Array Nat, acc'.size = acc.size + j ∧ (l.foldl (fun acc o => acc.push (befVal acc o)) acc).getD (acc.size + j) 0 = befVal acc' o ∧ ∀ k, k < acc.size + j → acc'.getD k 0 = (l.foldl (fun acc o => acc.push (befVal acc o)) acc).getD k 0
  | [], acc => by simp
  | x :: l, acc => by
    obtain ⟨h1, h2, h3⟩ := before_fold l (acc.push (befVal acc x))
    simp only [List.foldl_cons, Array.size_push] at h1 h2 h3 ⊢
    have hp : ∀ k, k < acc.size → (acc.push (befVal acc x)).getD k 0 = acc.getD k 0 := fun k hk => by
      simp only [Array.getD_eq_getD_getElem?, Array.getElem?_push]
      rw [if_neg (by omega)]
    refine ⟨by rw [h1]; simp; omega, fun k hk => (h2 k (by omega)).trans (hp k hk), fun j o hj => ?_⟩
    cases j with
    | zero =>
      simp at hj; subst hj
      refine ⟨acc, rfl, ?_, fun k hk => ((h2 k (by omega)).trans (hp k hk)).symm⟩
      rw [Nat.add_zero, h2 _ (by omega)]
      simp [Array.getD_eq_getD_getElem?]
    | succ j =>
      simp at hj
      obtain ⟨acc', k1, k2, k3⟩ := h3 j o hj
      refine ⟨acc', by omega, ?_, fun k hk => k3 k (by omega)⟩
      rw [← k2]; congr 1; omega
theorem before_spec {ops : Array Oper} {j : Nat} {o : Oper} (ho : ops[j]? = some o) {i : Nat} (h : ordOf ops i j = true) : ∃ e ∈ o.after, Region.binds .any e = true ∧ (e.on = i ∨ (e.on < j ∧ ordOf ops i e.on = true)) := by
  have hb : Region.before ops = ops.toList.foldl (fun acc o => acc.push (befVal acc o)) #[] := by
    unfold Region.before; rw [← Array.foldl_toList]; rfl
  obtain ⟨_, _, h3⟩ := before_fold ops.toList #[]
  obtain ⟨acc', k1, k2, k3⟩ := h3 j o (by simpa using ho)
  simp only [Array.size_empty, Nat.zero_add] at k1 k2 k3
  unfold ordOf at h
  rw [hb, k2] at h
  obtain ⟨e, e1, e2, e3⟩ := befVal_bit acc' o i h
  refine ⟨e, e1, e2, e3.imp id fun hbit => ?_⟩
  have hlt : e.on < j := by
    rcases Nat.lt_or_ge e.on acc'.size with h | h
    · omega
    · rw [Array.getD_eq_getD_getElem?, Array.getElem?_eq_none h] at hbit; simp at hbit
  refine ⟨hlt, ?_⟩
  unfold ordOf
  rw [hb, ← k3 _ hlt]; exact hbit

/-- What has been done is closed under what must stand ahead. -/
def Closed (ops : Array Oper) (listed : Array Bool) : Prop := ∀ (k : Nat) o, listed.getD k false = true → ops[k]? = some o → ∀ e ∈ o.after, Region.binds .any e = true → listed.getD e.on false = true
theorem listed_preds {ops : Array Oper} {listed : Array Bool} (hc : Closed ops listed) : ∀ (j : Nat) (o : Oper), ops[j]? = some o → (∀ e ∈ o.after, Region.binds .any e = true → listed.getD e.on false = true) → ∀ i, ordOf ops i j = true → listed.getD i false = true := by
  intro j
  induction j using Nat.strongRecOn with
  | _ j ih =>
    intro o ho he i hi
    obtain ⟨e, e1, e2, e3⟩ := before_spec ho hi
    rcases e3 with rfl | ⟨hlt, hb⟩
    · exact he e e1 e2
    · have hl := he e e1 e2
      cases ho2 : ops[e.on]? with
      | none =>
        have : ops.size ≤ e.on := Array.getElem?_eq_none_iff.1 ho2
        have := (Array.getElem?_eq_some_iff.1 ho).1
        omega
      | some o2 => exact ih e.on hlt o2 ho2 (fun e' h1 h2 => hc e.on o2 hl ho2 e' h1 h2) i hb

def AOp.isS : AOp → Bool
  | .mv _ | .pick .. | .build .. | .bin .. | .beq .. | .aeq .. | .un .. | .conv .. | .mkfn .. | .slSl .. | .faddr .. | .field .. | .iarr .. | .isl .. | .index .. | .extract .. | .len _ | .mn _ | .mx _ | .nilchk _ => true
  | _ => false
def AOp.isR : AOp → Bool
  | .load .. | .slArr .. => true
  | _ => false
def quiet (x y : AOp) : Bool := x.isS || y.isS || (x.isR && y.isR)

theorem pureR_eq {v : T} {r : Res} (h : pureR v = some r) : r.rd = [] ∧ r.ed = [] := by
  unfold pureR at h; obtain rfl := Option.some.inj h; exact ⟨rfl, rfl⟩
theorem isS_ok {op : AOp} {fr : Nat} {s : List T} {g : Mem} {r : Res} (h : op.isS = true) (hr : opRes op fr s g = some r) : r.rd = [] ∧ r.ed = [] := by
  cases op <;> simp [AOp.isS] at h <;> simp only [opRes] at hr
  all_goals
    repeat' (split at hr)
    all_goals first | exact pureR_eq hr | (cases hr; done)
theorem isR_ok {op : AOp} {fr : Nat} {s : List T} {g : Mem} {r : Res} (h : op.isR = true) (hr : opRes op fr s g = some r) : r.ed = [] := by
  cases op <;> simp [AOp.isR] at h <;> simp only [opRes] at hr
  all_goals
    repeat' (split at hr)
    all_goals first | (exact (pureR_eq hr).2) | (cases hr; done) | (obtain rfl := Option.some.inj hr; rfl)
theorem callee_S {op : AOp} (h : op.isS = true ∨ op.isR = true) (s : List T) : callee s op = none := by
  cases op <;> simp [AOp.isS, AOp.isR] at h <;> rfl
theorem evOp_S {AP : AProg} {ih : Run} {fr : Nat} {o : AOper} {st st' : St} {fp : Fp} (h : evOp AP ih fr o st = some (st', fp)) : (o.op.isS = true → fp = some ([], [])) ∧ (o.op.isR = true → ∃ rd, fp = some (rd, [])) := by
  unfold evOp at h
  split at h
  · rename_i r hr
    simp at h
    obtain ⟨_, rfl⟩ := h
    unfold evG at hr
    split at hr
    · unfold evR at hr
      refine ⟨fun hs => ?_, fun hs => ?_⟩
      · rw [callee_S (.inl hs)] at hr
        obtain ⟨k1, k2⟩ := isS_ok hs hr
        rw [k1, k2]; rfl
      · rw [callee_S (.inr hs)] at hr
        have := isR_ok hs hr
        exact ⟨r.rd, by rw [this]; rfl⟩
    · obtain rfl := Option.some.inj hr
      exact ⟨fun _ => rfl, fun _ => ⟨[], rfl⟩⟩
    · cases hr
  · split at h
    · unfold evI at h
      refine ⟨fun hs => ?_, fun hs => ?_⟩
      · rw [callee_S (.inl hs)] at h; simp at h
      · rw [callee_S (.inr hs)] at h; simp at h
    · cases h
theorem quiet_ind {x y : AOp} {p q : Fp} (h : quiet x y = true) (hx : (x.isS = true → p = some ([], [])) ∧ (x.isR = true → ∃ rd, p = some (rd, []))) (hy : (y.isS = true → q = some ([], [])) ∧ (y.isR = true → ∃ rd, q = some (rd, []))) : Ind p q := by
  unfold quiet at h
  simp only [Bool.or_eq_true, Bool.and_eq_true] at h
  rcases h with (h | h) | ⟨h1, h2⟩
  · rw [hx.1 h]
    cases q with
    | none => exact ⟨rfl, rfl⟩
    | some q => exact ⟨by simp, by simp, by simp⟩
  · rw [hy.1 h]
    cases p with
    | none => exact ⟨rfl, rfl⟩
    | some q => exact ⟨by simp, by simp, by simp⟩
  · obtain ⟨r1, rfl⟩ := hx.2 h1
    obtain ⟨r2, rfl⟩ := hy.2 h2
    exact ⟨by simp, by simp, by simp⟩
theorem apart_ind {p q : Fp} (h : Fp.apart p q = true) : Ind p q := by
  unfold Fp.apart at h
  split at h
  · simp only [Bool.and_eq_true, disj, List.all_eq_true, Bool.not_eq_true', List.contains_eq_mem, decide_eq_false_iff_not] at h
    exact ⟨h.1.1, h.1.2, h.2⟩
  · cases h
theorem evOps_fp {AP : AProg} {ih : Run} : ∀ (al : List AOper) (fr : Nat) (st st' : St) (fps : List Fp), evOps AP ih fr al st = some (st', fps) →
    ∀ (i : Nat) ao, al[i]? = some ao → ∃ fp, fps[i]? = some fp ∧ (ao.op.isS = true → fp = some ([], [])) ∧ (ao.op.isR = true → ∃ rd, fp = some (rd, []))
  | [], fr, st, st', fps, h => by simp
  | o :: al, fr, st, st', fps, h => by
    simp only [evOps] at h
    split at h
    · rename_i st1 fp h1
      split at h
      · rename_i st2 fps2 h2
        simp at h
        obtain ⟨_, rfl⟩ := h
        intro i ao hi
        cases i with
        | zero => simp at hi; subst hi; exact ⟨fp, by simp, evOp_S h1⟩
        | succ i => simp at hi; obtain ⟨q, k1, k2⟩ := evOps_fp al _ st1 st2 fps2 h2 i ao hi; exact ⟨q, by simpa using k1, k2⟩
      · cases h
    · cases h

/-- The region's form is such that its order is of no matter, if the pairs chk don't touch one another. -/
def drawOk (ops : Array Oper) (al : List AOper) (chk : List (Nat × Nat)) : Bool :=
  (ops.toList.zipIdx.all fun (o, j) => o.after.toList.all fun e => !Region.binds .any e || decide (e.on < j)) &&
  (al.zipIdx.all fun (y, j) => al.zipIdx.all fun (x, i) => !decide (i < j) || ordOf ops i j || (x.apart y && (quiet x.op y.op || chk.contains (i, j))))
theorem drawOk_spec {ops : Array Oper} {al : List AOper} {chk : List (Nat × Nat)} (h : drawOk ops al chk = true) :
    (∀ (j : Nat) o, ops[j]? = some o → ∀ e ∈ o.after, Region.binds .any e = true → e.on < j) ∧
    (∀ (i j : Nat) x y, i < j → al[i]? = some x → al[j]? = some y → ordOf ops i j = false → x.apart y = true ∧ (quiet x.op y.op = true ∨ (i, j) ∈ chk)) := by
  unfold drawOk at h
  simp only [Bool.and_eq_true, List.all_eq_true] at h
  obtain ⟨h1, h2⟩ := h
  refine ⟨fun j o ho e he hb => ?_, fun i j x y hij hx hy ho => ?_⟩
  · have := h1 (o, j) (List.mem_zipIdx_iff_getElem?.2 (by simpa using ho)) e (by simpa using he)
    simp [hb] at this
    exact this
  · have := h2 (y, j) (List.mem_zipIdx_iff_getElem?.2 hy) (x, i) (List.mem_zipIdx_iff_getElem?.2 hx)
    simp [hij, ho] at this
    exact this

section
variable {P : Program} {ops : Array Oper} {B : Nat} {W0 : World} {Z0 : Nat → Nat → Prop} {AP : AProg} {ih : Run}
theorem draw_sound (hE : Enters P AP) (HC : ClonesOk P AP) (HP : PureOk P AP ih) (HI : ImpOk P AP ih) {al : List AOper} (hal : compOpers P ops ops.toList = some al) {chk : List (Nat × Nat)} (hok : drawOk ops al chk = true) {base : Nat} {st' : St} {Q : Exit → Act → World → Prop}
    {w0 : World} {Zs : Nat → Nat → Prop} {μ0 : Nat → Option Loc} {defs : List Deferred}
    (hQ : ∀ a' w' Z' μ', a'.defers = defs → VRL w' Z' μ' st'.s a'.tmps.toList → Inv B W0 Z0 st'.g w' Z' μ' → Pr w0 Zs μ0 base w' Z' μ' st'.nx → Q .normal a' w') :
    ∀ (n : Nat) (l : List (AOper × Nat)) (listed : Array Bool) (a : Act) (w : World) (Z : Nat → Nat → Prop) (μ : Nat → Option Loc) (st : St) (tr : List (Nat × Fp)), l.length = n → listed.size = ops.size → l.Pairwise (fun x y => x.2 < y.2) → (∀ x ∈ l, al[x.2]? = some x.1) →
      (∀ i, i < ops.size → (listed.getD i true = false ↔ ∃ x ∈ l, x.2 = i)) → Closed ops listed → evL AP ih base l st = some (st', tr) → tr.Pairwise (fun x y => ordOf ops x.1 y.1 = false → Ind x.2 y.2) →
      base + al.length ≤ st.nx → a.defers = defs → VRL w Z μ st.s a.tmps.toList → Inv B W0 Z0 st.g w Z μ → ZLe w0 w Zs Z → MLe μ0 μ → (∀ t, t < base → μ t = μ0 t) → (∀ x ∈ l, μ (base + x.2) = none) → (∀ t, st.nx ≤ t → μ t = none) →
      wpAny P .any ops Q n listed a w := by
  obtain ⟨d1, d2⟩ := drawOk_spec hok
  obtain ⟨c1, c2⟩ := compOpers_get _ _ hal
  have c1' : al.length = ops.size := by simpa using c1
  have dflt : ∀ {listed : Array Bool} {i : Nat} (b c : Bool), i < listed.size → listed.getD i b = listed.getD i c := fun {listed i} b c h => by
    simp [Array.getD_eq_getD_getElem?, h]
  intro n
  induction n with
  | zero =>
    intro l listed a w Z μ st tr hn hsz hp hl hli hc h htr hb hd hs hi hz hm ho hf hx
    obtain rfl := List.eq_nil_of_length_eq_zero hn
    simp [evL] at h
    obtain ⟨rfl, rfl⟩ := h
    refine ⟨?_, hQ a w Z μ hd hs hi ⟨hz, hm, by omega, ho, hx⟩⟩
    unfold Region.ready
    refine List.filter_eq_nil_iff.2 fun i hi' => ?_
    have := mt (hli i (by simpa using hi')).1 (by simp)
    simp at this
    simp [this]
  | succ n IH =>
    intro l listed a w Z μ st tr hn hsz hp hl hli hc h htr hb hd hs hi hz hm ho hf hx
    refine ⟨fun hr => ?_, fun i hir => ?_⟩
    · exfalso
      cases l with
      | nil => simp at hn
      | cons x l =>
        have hx1 := hl x (by simp)
        have hlt : x.2 < al.length := (List.getElem?_eq_some_iff.1 hx1).1
        have hmem : x.2 ∈ Region.ready .any ops listed := by
          unfold Region.ready
          refine List.mem_filter.2 ⟨by simp; omega, ?_⟩
          have h1 := (hli x.2 (by omega)).2 ⟨x, by simp, rfl⟩
          have h2 : ops[x.2]? = some (ops[x.2]'(by omega)) := Array.getElem?_eq_getElem (by omega)
          rw [h1, h2]
          simp only [Bool.not_false, Bool.true_and, Option.map_some, Option.getD_some]
          rw [Array.all_eq_true_iff_forall_mem]
          intro e he
          cases hbd : Region.binds .any e with
          | false => rfl
          | true =>
            have hlt2 := d1 x.2 _ h2 e he hbd
            have h3 : listed.getD e.on true = true := by
              cases h4 : listed.getD e.on true with
              | true => rfl
              | false =>
                obtain ⟨y, hy, hye⟩ := (hli e.on (by omega)).1 h4
                rcases List.mem_cons.1 hy with rfl | hy
                · omega
                · have := (List.pairwise_cons.1 hp).1 y hy; omega
            rw [dflt false true (by omega), h3]; rfl
        rw [hr] at hmem; cases hmem
    · unfold Region.ready at hir
      obtain ⟨hr1, hr2⟩ := List.mem_filter.1 hir
      have his : i < ops.size := by simpa using hr1
      have ho1 : ops[i]? = some ops[i] := Array.getElem?_eq_getElem his
      rw [ho1] at hr2
      simp only [Bool.and_eq_true, Bool.not_eq_true', Option.map_some, Option.getD_some, Array.all_eq_true_iff_forall_mem] at hr2
      obtain ⟨hr3, hr4⟩ := hr2
      have hedges : ∀ e ∈ ops[i].after, Region.binds .any e = true → listed.getD e.on false = true := fun e he hb => by
        have := hr4 e he
        rw [hb] at this
        simpa using this
      obtain ⟨x, hxl, hxi⟩ := (hli i his).1 hr3
      obtain ⟨ao, j⟩ := x
      simp only at hxi; subst hxi
      obtain ⟨l1, l2, rfl⟩ := List.append_of_mem hxl
      have hpred := listed_preds hc j ops[j] ho1 hedges
      rw [List.pairwise_append] at hp
      obtain ⟨hp1, hp2, hp3⟩ := hp
      have hp2' := List.pairwise_cons.1 hp2
      have hao := hl (ao, j) (by simp)
      have hlst : ∀ y ∈ l1 ++ (ao, j) :: l2, listed.getD y.2 false = false := fun y hy => by
        have h1 := hl y hy
        have h2 : y.2 < al.length := (List.getElem?_eq_some_iff.1 h1).1
        rw [dflt false true (by omega)]
        exact (hli y.2 (by omega)).2 ⟨y, hy, rfl⟩
      have hno : ∀ y ∈ l1, ordOf ops y.2 j = false := fun y hy => by
        cases hoo : ordOf ops y.2 j with
        | false => rfl
        | true => have := hpred _ hoo; rw [hlst y (by simp [hy])] at this; cases this
      have hna : ∀ y ∈ l1, ordOf ops y.2 j = false → y.1.apart ao = true := fun y hy hoo =>
        (d2 y.2 j y.1 ao (hp3 y hy (ao, j) (by simp)) (hl y (by simp [hy])) hao hoo).1
      obtain ⟨st1, fp, tr', q1, q2, q3, q4⟩ := move_front l1 st st' tr h hno hna htr
      obtain ⟨ao', k1, k2⟩ := c2 j ops[j] (by simpa using ho1)
      obtain rfl : ao' = ao := by rw [hao] at k1; exact (Option.some.inj k1).symm
      have hjal : j < al.length := by omega
      refine evOp_sound hE HC HP HI ho1 k2 q1 hs hi (hf (ao', j) (by simp)) (by omega) hx fun a' w' Z' μ' e1 e2 e3 e4 e5 e6 e7 e8 => ?_
      refine IH (l1 ++ l2) (listed.setIfInBounds j true) a' w' Z' μ' st1 tr' (by simp at hn ⊢; omega) (by simp [hsz]) ?_ (fun y hy => hl y (by rcases List.mem_append.1 hy with h | h <;> simp [h])) ?_ ?_ q2 (htr.sublist q4) (by omega) (e1.trans hd) e2 e3 (hz.trans e4) (hm.trans e5)
        (fun t ht => by rw [e7 t (by omega) (by omega)]; exact ho t ht) (fun y hy => ?_) e8
      · rw [List.pairwise_append]
        exact ⟨hp1, hp2'.2, fun y hy z hz => hp3 y hy z (by simp [hz])⟩
      · intro q hq
        have hget : (listed.setIfInBounds j true).getD q true = if q = j then true else listed.getD q true := by
          simp only [Array.getD_eq_getD_getElem?, Array.getElem?_setIfInBounds]
          split
          · rename_i e; subst e; simp [hsz, his]
          · rename_i e; rw [if_neg (fun h => e h.symm)]
        rw [hget]
        split
        · rename_i e; subst e
          simp only [Bool.true_eq_false, false_iff, not_exists, not_and]
          intro y hy hyq
          rcases List.mem_append.1 hy with hy | hy
          · have := hp3 y hy (ao', q) (by simp); omega
          · have := hp2'.1 y hy; simp only at this; omega
        · rename_i e
          rw [hli q hq]
          constructor
          · rintro ⟨y, hy, rfl⟩
            rcases List.mem_append.1 hy with hy | hy
            · exact ⟨y, by simp [hy], rfl⟩
            · rcases List.mem_cons.1 hy with rfl | hy
              · exact absurd rfl e
              · exact ⟨y, by simp [hy], rfl⟩
          · rintro ⟨y, hy, rfl⟩
            rcases List.mem_append.1 hy with hy | hy <;> exact ⟨y, by simp [hy], rfl⟩
      · intro k o hk hok' e he hb
        have hget : ∀ q, (listed.setIfInBounds j true).getD q false = if q = j then true else listed.getD q false := fun q => by
          simp only [Array.getD_eq_getD_getElem?, Array.getElem?_setIfInBounds]
          split
          · rename_i e; subst e; simp [hsz, his]
          · rename_i e; rw [if_neg (fun h => e h.symm)]
        rw [hget] at hk ⊢
        split
        · rfl
        · split at hk
          · rename_i e2; subst e2
            rw [ho1] at hok'; obtain rfl := Option.some.inj hok'
            exact hedges e he hb
          · exact hc k o hk hok' e he hb
      · have hne : y.2 ≠ j := by
          rcases List.mem_append.1 hy with hy | hy
          · have := hp3 y hy (ao', j) (by simp); simp only at this; omega
          · have := hp2'.1 y hy; simp only at this; omega
        have h1 := hl y (by rcases List.mem_append.1 hy with h | h <;> simp [h])
        have h2 : y.2 < al.length := (List.getElem?_eq_some_iff.1 h1).1
        rw [e7 _ (by omega) (by omega)]
        exact hf y (by rcases List.mem_append.1 hy with h | h <;> simp [h])
end
end Go.Proofs.Ythanlobfjpjegaa.Abs
