/- One operation, in the plain machine, and in the model; two that may change places. -/
import Derived.Test.YthanlobfjpjegaaB5
namespace Go.Proofs.Ythanlobfjpjegaa.Abs
open Go Go.RowKit
set_option linter.unusedVariables false
set_option linter.unusedSimpArgs false

def AOper.looks (o : AOper) : List Nat := o.op.tmps ++ (match o.guard with | some (t, _) => [t] | none => [])
def AOper.apart (x y : AOper) : Bool :=
  (match x.dst with | some d => !y.looks.contains d && y.dst != some d | none => true) && (match y.dst with | some d => !x.looks.contains d | none => true)
def Ind : Fp → Fp → Prop
  | some (r1, w1), some (r2, w2) => (∀ t ∈ w1, t ∉ r2) ∧ (∀ t ∈ w1, t ∉ w2) ∧ (∀ t ∈ w2, t ∉ r1)
  | some (r, w), none => r = [] ∧ w = []
  | none, some (r, w) => r = [] ∧ w = []
  | none, none => False

theorem apart_spec {x y : AOper} (h : x.apart y = true) : (∀ d, x.dst = some d → d ∉ y.looks) ∧ (∀ d, x.dst = some d → y.dst ≠ some d) ∧ (∀ d, y.dst = some d → d ∉ x.looks) := by
  refine ⟨fun d hd => ?_, fun d hd => ?_, fun d hd => ?_⟩ <;> simp [AOper.apart, hd] at h
  · exact h.1.1
  · exact h.1.2
  · exact h.2
theorem same_set {s : List T} {d : Option Nat} {v : T} {l : List Nat} (h : ∀ t, d = some t → t ∉ l) : SameAt s (setDst s d v) l := by
  intro t ht
  cases d with
  | none => rfl
  | some d =>
    have : d ≠ t := fun e => h d rfl (e ▸ ht)
    simp [setDst, List.getD_eq_getElem?_getD, List.getElem?_set_ne this]
theorem SameAt.symm {s s' : List T} {l : List Nat} (h : SameAt s s' l) : SameAt s' s l := fun t ht => (h t ht).symm
theorem guard_same {s s' : List T} {o : AOper} (h : SameAt s s' o.looks) : guardT s' o.guard = guardT s o.guard := by
  unfold AOper.looks at h
  cases hg : o.guard with
  | none => rfl
  | some p =>
    obtain ⟨t, b⟩ := p
    rw [hg] at h
    have := h.right t (by simp)
    simp only [guardT, rho]
    rw [this]
theorem evR_same {AP : AProg} {ih : Run} {fr : Nat} {op : AOp} {s s' : List T} {g : Mem} (h : SameAt s s' op.tmps) : evR AP ih fr op s' g = evR AP ih fr op s g := by
  unfold evR; rw [callee_slots h, opRes_slots h]
theorem evI_same {AP : AProg} {ih : Run} {op : AOp} {s s' : List T} {g : Mem} {nx : Nat} (h : SameAt s s' op.tmps) : evI AP ih op s' g nx = evI AP ih op s g nx := by
  unfold evI; rw [callee_slots h]
theorem evG_same {AP : AProg} {ih : Run} {fr : Nat} {o : AOper} {s s' : List T} {g : Mem} (h : SameAt s s' o.looks) : evG AP ih fr o s' g = evG AP ih fr o s g := by
  unfold evG; rw [guard_same h, evR_same (show SameAt s s' o.op.tmps from h.left)]
theorem evR_mem {AP : AProg} {ih : Run} {fr : Nat} {op : AOp} {s : List T} {g g' : Mem} {r : Res} (h : evR AP ih fr op s g = some r) (hg : ∀ t ∈ r.rd, g' t = g t) : evR AP ih fr op s g' = some r := by
  unfold evR at h ⊢
  split at h
  · split at h
    · split at h
      · unfold cloneRes at h ⊢
        split at h
        · split at h
          · rename_i n c rd hc
            have : r.rd = rd := by
              split at h
              · split at h <;> (obtain rfl := Option.some.inj h; rfl)
              · cases h
            rw [cellsOf_mem hc fun t ht => hg t (by rw [this]; exact ht)]
            exact h
          · cases h
        · cases h
      · split at h
        · rename_i hp; simp only [hp, if_true]; exact callPure_mem h hg
        · cases h
    · cases h
  · exact opRes_mem h hg
theorem evG_mem {AP : AProg} {ih : Run} {fr : Nat} {o : AOper} {s : List T} {g g' : Mem} {r : Res} (h : evG AP ih fr o s g = some r) (hg : ∀ t ∈ r.rd, g' t = g t) : evG AP ih fr o s g' = some r := by
  unfold evG at h ⊢
  split at h
  · exact evR_mem h hg
  · exact h
  · cases h
theorem putAll_get (t : Nat) : ∀ (es : List (Nat × Option (List T))) (g : Mem), (∀ e ∈ es, e.1 ≠ t) → putAll g es t = g t
  | [], _, _ => rfl
  | e :: es, g, h => by
    show putAll (put1 g e) es t = g t
    rw [putAll_get t es _ fun e' he => h e' (by simp [he])]
    have := h e (by simp)
    simp only [put1]
    rw [if_neg (fun h => this h.symm)]
theorem putAll_hit (t : Nat) : ∀ (es : List (Nat × Option (List T))) (g g' : Mem), g t = g' t → putAll g es t = putAll g' es t
  | [], _, _, h => h
  | e :: es, g, g', h => by
    show putAll (put1 g e) es t = putAll (put1 g' e) es t
    refine putAll_hit t es _ _ ?_
    simp only [put1]; split
    · rfl
    · exact h
theorem putAll_comm {a b : List (Nat × Option (List T))} (h : ∀ t ∈ a.map (·.1), t ∉ b.map (·.1)) (g : Mem) : putAll (putAll g a) b = putAll (putAll g b) a := by
  funext t
  by_cases hb : t ∈ b.map (·.1)
  · have ha : ∀ e ∈ a, e.1 ≠ t := fun e he e1 => h t (e1 ▸ List.mem_map_of_mem he) hb
    rw [putAll_get t a _ ha]
    exact putAll_hit t b _ _ (putAll_get t a _ ha)
  · have hb' : ∀ e ∈ b, e.1 ≠ t := fun e he e1 => hb (e1 ▸ List.mem_map_of_mem he)
    rw [putAll_get t b _ hb']
    exact (putAll_hit t a _ _ (putAll_get t b _ hb')).symm
theorem setDst_comm {s : List T} {d e : Option Nat} {u v : T} (h : ∀ t, d = some t → e ≠ some t) : setDst (setDst s d u) e v = setDst (setDst s e v) d u := by
  cases d with
  | none => rfl
  | some d =>
    cases e with
    | none => rfl
    | some e =>
      have : d ≠ e := fun e' => h d rfl (e' ▸ rfl)
      simp [setDst, List.set_comm _ _ this]
theorem rd_free {r : Res} {ed : List (Nat × Option (List T))} {g : Mem} (h : ∀ t ∈ ed.map (·.1), t ∉ r.rd) : ∀ t ∈ r.rd, putAll g ed t = g t := fun t ht =>
  putAll_get t ed g fun e he e1 => h t (e1 ▸ List.mem_map_of_mem he) ht
theorem nil_ed {r : Res} (h : r.ed.map (·.1) = []) : r.ed = [] := by
  cases he : r.ed with
  | nil => rfl
  | cons a l => rw [he] at h; simp at h

theorem evOp_swap {AP : AProg} {ih : Run} {fj fi : Nat} {oj oi : AOper} {st st1 st2 : St} {pj pi : Fp} (hap : oj.apart oi = true) (h1 : evOp AP ih fj oj st = some (st1, pj)) (h2 : evOp AP ih fi oi st1 = some (st2, pi)) (hind : Ind pj pi) :
    ∃ st', evOp AP ih fi oi st = some (st', pi) ∧ evOp AP ih fj oj st' = some (st2, pj) := by
  obtain ⟨a1, a2, a3⟩ := apart_spec hap
  unfold evOp at h1
  split at h1
  · rename_i rj hj
    simp at h1
    obtain ⟨rfl, rfl⟩ := h1
    unfold evOp at h2
    split at h2
    · rename_i ri hi
      simp at h2
      obtain ⟨rfl, rfl⟩ := h2
      simp only [Ind] at hind
      obtain ⟨i1, i2, i3⟩ := hind
      simp only at hi
      rw [evG_same (same_set a1)] at hi
      have hi' : evG AP ih fi oi st.s st.g = some ri := evG_mem hi fun t ht => (rd_free i1 t ht).symm
      refine ⟨⟨setDst st.s oi.dst ri.v, putAll st.g ri.ed, st.nx⟩, by unfold evOp; rw [hi'], ?_⟩
      have hj' : evG AP ih fj oj (setDst st.s oi.dst ri.v) (putAll st.g ri.ed) = some rj := by
        rw [evG_same (same_set a3)]
        exact evG_mem hj (rd_free i3)
      unfold evOp
      simp only [hj']
      rw [setDst_comm a2, putAll_comm i2]
    · rename_i hi
      split at h2
      · rename_i hg
        split at h2
        · rename_i v g nx hI
          simp at h2
          obtain ⟨rfl, rfl⟩ := h2
          simp only [Ind] at hind
          have hed := nil_ed hind.2
          simp only [hed, putAll, List.foldl_nil] at hi hI hg ⊢
          rw [evG_same (same_set a1)] at hi
          rw [guard_same (same_set a1)] at hg
          rw [evI_same (same_set fun d hd hm => a1 d hd (List.mem_append_left _ hm))] at hI
          refine ⟨⟨setDst st.s oi.dst v, g, nx⟩, by unfold evOp; simp only [hi, hg, hI], ?_⟩
          have hj' : evG AP ih fj oj (setDst st.s oi.dst v) g = some rj := by
            rw [evG_same (same_set a3)]
            exact evG_mem hj fun t ht => by rw [hind.1] at ht; cases ht
          unfold evOp
          simp only [hj', hed, putAll, List.foldl_nil]
          rw [setDst_comm a2]
        · cases h2
      · cases h2
  · rename_i hj
    split at h1
    · rename_i hg
      split at h1
      · rename_i v g nx hI
        simp at h1
        obtain ⟨rfl, rfl⟩ := h1
        unfold evOp at h2
        split at h2
        · rename_i ri hi
          simp at h2
          obtain ⟨rfl, rfl⟩ := h2
          simp only [Ind] at hind
          have hed := nil_ed hind.2
          simp only at hi
          rw [evG_same (same_set a1)] at hi
          have hi' : evG AP ih fi oi st.s st.g = some ri := evG_mem hi fun t ht => by rw [hind.1] at ht; cases ht
          refine ⟨⟨setDst st.s oi.dst ri.v, st.g, st.nx⟩, by unfold evOp; rw [hi']; simp [hed, putAll], ?_⟩
          unfold evOp
          have e1 : evG AP ih fj oj (setDst st.s oi.dst ri.v) st.g = none := by rw [evG_same (same_set a3)]; exact hj
          have e2 : guardT (setDst st.s oi.dst ri.v) oj.guard = some true := by rw [guard_same (same_set a3)]; exact hg
          have e3 : evI AP ih oj.op (setDst st.s oi.dst ri.v) st.g st.nx = some (v, g, nx) := by rw [evI_same (same_set fun d hd hm => a3 d hd (List.mem_append_left _ hm))]; exact hI
          simp only [e1, e2, e3, hed, putAll, List.foldl_nil]
          rw [setDst_comm a2]
        · split at h2
          · split at h2
            · simp at h2
              obtain ⟨rfl, rfl⟩ := h2
              exact hind.elim
            · cases h2
          · cases h2
      · cases h1
    · cases h1

/-! ### A list of operations, each with its number -/
def evL (AP : AProg) (ih : Run) (base : Nat) : List (AOper × Nat) → St → Option (St × List (Nat × Fp))
  | [], st => some (st, [])
  | (o, i) :: r, st => match evOp AP ih (base + i) o st with
    | some (st, fp) => match evL AP ih base r st with
      | some (st, tr) => some (st, (i, fp) :: tr)
      | none => none
    | none => none
theorem evOps_evL {AP : AProg} {ih : Run} {base : Nat} : ∀ (ops : List AOper) (i : Nat) (st st' : St) (fps : List Fp), evOps AP ih (base + i) ops st = some (st', fps) →
    evL AP ih base (ops.zipIdx i) st = some (st', (fps.zipIdx i).map fun p => (p.2, p.1)) ∧ fps.length = ops.length
  | [], i, st, st', fps, h => by simp [evOps] at h; obtain ⟨rfl, rfl⟩ := h; simp [evL]
  | o :: ops, i, st, st', fps, h => by
    simp only [evOps] at h
    split at h
    · rename_i st1 fp h1
      split at h
      · rename_i st2 fps2 h2
        simp at h
        obtain ⟨rfl, rfl⟩ := h
        obtain ⟨k1, k2⟩ := evOps_evL ops (i + 1) st1 st2 fps2 h2
        simp only [List.zipIdx_cons, evL, h1, k1, List.map_cons, List.length_cons, k2, and_self]
      · cases h
    · cases h

theorem move_front {AP : AProg} {ih : Run} {base : Nat} {ord : Nat → Nat → Bool} {o : AOper} {i : Nat} {l2 : List (AOper × Nat)} : ∀ (l1 : List (AOper × Nat)) (st st' : St) (tr : List (Nat × Fp)),
    evL AP ih base (l1 ++ (o, i) :: l2) st = some (st', tr) → (∀ x ∈ l1, ord x.2 i = false) → (∀ x ∈ l1, ord x.2 i = false → x.1.apart o = true) → tr.Pairwise (fun x y => ord x.1 y.1 = false → Ind x.2 y.2) →
    ∃ st1 fp tr', evOp AP ih (base + i) o st = some (st1, fp) ∧ evL AP ih base (l1 ++ l2) st1 = some (st', tr') ∧ (i, fp) ∈ tr ∧ tr'.Sublist tr
  | [], st, st', tr, h, _, _, hp => by
    simp only [List.nil_append, evL] at h ⊢
    split at h
    · rename_i st1 fp h1
      split at h
      · rename_i st2 tr2 h2
        simp at h
        obtain ⟨rfl, rfl⟩ := h
        exact ⟨st1, fp, tr2, h1, h2, by simp, List.sublist_cons_self _ _⟩
      · cases h
    · cases h
  | (x, j) :: l1, st, st', tr, h, ho, hn, hp => by
    simp only [List.cons_append, evL] at h ⊢
    split at h
    · rename_i sx px h1
      split at h
      · rename_i st2 tr2 h2
        simp at h
        obtain ⟨rfl, rfl⟩ := h
        obtain ⟨st1, fp, tr', k1, k2, k3, k4⟩ := move_front l1 sx st2 tr2 h2 (fun y hy => ho y (by simp [hy])) (fun y hy => hn y (by simp [hy])) (List.pairwise_cons.1 hp).2
        have hord := ho (x, j) (by simp)
        have hind := (List.pairwise_cons.1 hp).1 (i, fp) k3 hord
        obtain ⟨s', q1, q2⟩ := evOp_swap (hn (x, j) (by simp) hord) h1 k1 hind
        exact ⟨s', fp, (j, px) :: tr', q1, by simp only [q2, k2], by simp [k3], k4.cons_cons _⟩
      · cases h
    · cases h
end Go.Proofs.Ythanlobfjpjegaa.Abs
