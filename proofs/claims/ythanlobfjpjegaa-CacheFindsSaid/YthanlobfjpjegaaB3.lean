/- copy, min, max; what is equal cell by cell. -/
import Derived.Test.YthanlobfjpjegaaB2
import Derived.Laws.StructEq
namespace Go.Proofs.Ythanlobfjpjegaa.Abs
open Go Go.RowKit
set_option linter.unusedVariables false
set_option linter.unusedSimpArgs false
section
variable {P : Program} {o : Oper} {a : Act} {B : Nat} {W0 w : World} {Z0 Z : Nat → Nat → Prop} {g : Mem} {μ : Nat → Option Loc} {fr : Nat} {r : Res} {s : List T}

theorem VRL.take {l : List T} {vs : List Value} (h : VRL w Z μ l vs) (n : Nat) : VRL w Z μ (l.take n) (vs.take n) := by
  refine VRL.mk (by simp [h.len]) fun i x v hx hv => ?_
  rw [List.getElem?_take] at hx hv
  split at hx
  · rename_i hi
    rw [if_pos hi] at hv
    obtain ⟨u, h1, h2⟩ := h.get hx
    rw [hv] at h1; obtain rfl := Option.some.inj h1; exact h2
  · cases hx

theorem copy_ok (hi : Inv B W0 Z0 g w Z μ) (hs : VRL w Z μ s a.tmps.toList) {t tx e : TypeId} {n : Nat} {d x : Operand} {d' x' : Opd} {ats : Array TypeId} {xs : Array Operand}
    (ho : o.op = .call { callee := .builtin .copy, args := xs, argTypes := ats }) (hat : ats.toList = [t, tx]) (hxs : xs.toList = [d, x]) (ht : P.underlying t = some (.slice e))
    (h1 : szOf P e = some n) (hd : opd d = some d') (hx : opd x = some x') (hr : opRes (.copy n d' x') fr s g = some r) : OpOk P o a B W0 Z0 g w Z μ fr r := by
  obtain rfl : xs = #[d, x] := by cases xs; simp_all
  obtain rfl : ats = #[t, tx] := by cases ats; simp_all
  obtain ⟨ti, q1, q2, q3⟩ := sz_ok h1
  have hvd := rho_ok hs hd
  have hvx := rho_ok hs hx
  simp only [opRes] at hr
  split at hr
  · rename_i ns new rd t' off len es' hc e'
    split at hr
    · rename_i c hcg
      split at hr
      · rename_i hb
        obtain ⟨hb1, hb2, hb3, hb4⟩ := hb
        subst hb1
        obtain rfl := Option.some.inj hr
        obtain ⟨ad, cap, news, k1, k2, k3, k4, k5, k6⟩ := src_ok hi hc hvx q3 hb3 hb4
        rw [e'] at hvd
        simp only [VR] at hvd
        obtain ⟨ad', cap', m, j1, j2, j3, j4, j5⟩ := hvd
        obtain ⟨m', p1, p2, p3, p4, p5, p6, p7⟩ := hi.blk _ _ hcg
        obtain rfl : m' = m := by rw [j3] at p1; exact (Option.some.inj p1).symm
        have hf := first_run (P := P) (w := w) (k := min ns len) (cap := cap) (Nat.min_le_left _ _) k6 k3 k4
        have hrun : ∀ w', (∀ b, ad' = some b → (storeCells b (news.take (min ns len * es'))).run P w = .ok () w') → (ad' = none → w' = w) → (execOp a.eval o).run P w = .ok (.value (.int .i64 ((min ns len : Nat) : Int))) w' := fun w' hst hnone => by
          unfold execOp; rw [ho]
          have hmin : Nat.min ns len = min ns len := rfl
          cases ad' with
          | none =>
            obtain rfl := hnone rfl
            simp [resolve, invoke, builtin, Builtin.copy_, j1, k1, run_underlying ht, Builtin.lenOf, sizeOf, typeInfo, q1, q2, hmin, hf, goInt]
          | some b =>
            have := hst b rfl
            simp [resolve, invoke, builtin, Builtin.copy_, j1, k1, run_underlying ht, Builtin.lenOf, sizeOf, typeInfo, q1, q2, hmin, hf, goInt, this]
        rcases Nat.eq_zero_or_pos (min ns len) with h0 | h0
        · have h0' : min ns len * es' = 0 := by rw [h0]; simp
          have hr2 := hrun w (fun b _ => by rw [h0', List.take_zero]; rfl) (fun _ => rfl)
          refine ⟨_, w, μ, goes_value hr2, by simp only [VR, VI], ?_, ZLe.refl, MLe.refl, fun _ _ => rfl⟩
          have : putAll g [(t', some (splice c off (new.take (min ns len * es'))))] = g := by
            rw [h0', List.take_zero]
            funext u
            simp only [putAll, List.foldl_cons, List.foldl_nil, put1, splice]
            split
            · rename_i e; rw [e, hcg]
            · rfl
          rw [this]; exact hi
        · have hlen : 0 < len := by omega
          have had := j4 (by omega)
          subst had
          have hle : min ns len * es' ≤ len * es' := Nat.mul_le_mul_right _ (Nat.min_le_right _ _)
          have hle2 : min ns len * es' ≤ ns * es' := Nat.mul_le_mul_right _ (Nat.min_le_left _ _)
          have hnl := k2.len
          have htl : (news.take (min ns len * es')).length = min ns len * es' := by simp; omega
          have hst := run_storeCells_cells (P := P) m'.1 (m'.2.1 + off) (news.take (min ns len * es')) 0 w
            (fun j hj => by have := (p5 (off + j) (by omega)).1; simpa [Nat.add_assoc] using this)
            (fun j hj => by have := (p5 (off + j) (by omega)).2; simpa [Nat.add_assoc] using this)
            (fun u hu => k5 u (List.mem_of_mem_take hu))
          simp only [Nat.add_zero] at hst
          have hr2 := hrun _ (fun b hb => by obtain rfl := Option.some.inj hb; exact hst) (fun h => by cases h)
          obtain ⟨w1, w2⟩ := hi.splice hcg j3 (off := off) (k2.take (min ns len * es')) (by
            unfold allLeaf at *; rw [List.all_eq_true] at *; exact fun y hy => hb4 y (List.mem_of_mem_take hy)) (by simp; omega)
          exact ⟨_, _, μ, goes_value hr2, by simp only [VR, VI], w1, w2, MLe.refl, fun _ _ => rfl⟩
      · cases hr
    · cases hr
  · cases hr

theorem minmax_run {f : T → T → Option T} {F : Value → Value → Sem Value} (hF : ∀ x y z u v, f x y = some z → VR w Z μ x u → VR w Z μ y v → ∃ q, VR w Z μ z q ∧ (F u v).run P w = .ok q w) :
    ∀ (l : List T) (vs : List Value) (x z : T) (u : Value), VRL w Z μ l vs → VR w Z μ x u → l.foldlM f x = some z → ∃ q, VR w Z μ z q ∧ (vs.foldlM F u).run P w = .ok q w
  | [], vs, x, z, u, hl, hx, h => by
    simp only [VRL] at hl; subst hl
    simp at h; subst h
    exact ⟨u, hx, by simp⟩
  | y :: l, vs, x, z, u, hl, hx, h => by
    simp only [VRL] at hl
    obtain ⟨v, vs', rfl, h1, h2⟩ := hl
    simp only [List.foldlM_cons] at h ⊢
    cases hf : f x y with
    | none => rw [hf] at h; simp at h
    | some p =>
      rw [hf] at h
      simp only [Option.bind_eq_bind, Option.bind_some] at h
      obtain ⟨q, k1, k2⟩ := hF x y p u v hf hx h1
      obtain ⟨q', j1, j2⟩ := minmax_run hF l vs' p z q h2 k1 h
      exact ⟨q', j1, by rw [Sem.run_bind, k2]; exact j2⟩

theorem mn_ok (hi : Inv B W0 Z0 g w Z μ) (hs : VRL w Z μ s a.tmps.toList) {l : List Opd} {ats : Array TypeId} {xs : Array Operand}
    (ho : o.op = .call { callee := .builtin .min, args := xs, argTypes := ats }) (hl : opds xs.toList = some l) (hr : opRes (.mn l) fr s g = some r) : OpOk P o a B W0 Z0 g w Z μ fr r := by
  have hv := rhos_ok hs hl
  simp only [opRes] at hr
  split at hr
  · rename_i z hz
    obtain rfl := Option.some.inj hr
    generalize hm : l.map (rho s) = ts at hz hv
    cases ts with
    | nil => simp [minL] at hz
    | cons x ts =>
      simp only [VRL] at hv
      obtain ⟨u, us, e1, h1, h2⟩ := hv
      simp only [minL] at hz
      obtain ⟨q, k1, k2⟩ := minmax_run (P := P) (F := Builtin.min2) (fun x y z u v hf hx hy => by
        split at hf
        · rename_i k p k' p'
          obtain rfl := Option.some.inj hf
          simp only [VR, VI] at hx hy
          subst hx; subst hy
          exact ⟨_, by simp only [VR, VI]; rfl, by simp [Builtin.min2]⟩
        · cases hf) ts us x z u h2 h1 hz
      refine opok_quiet hi (goes_value ?_) k1
      have e2 : (xs.map a.eval).toList = u :: us := by rw [Array.toList_map]; exact e1
      unfold execOp; rw [ho]
      have e3 : (Builtin.min_ ats o.type (xs.map a.eval)).run P w = .ok q w := by unfold Builtin.min_; rw [e2]; exact k2
      simp [resolve, invoke, builtin, e3]
  · cases hr
theorem mx_ok (hi : Inv B W0 Z0 g w Z μ) (hs : VRL w Z μ s a.tmps.toList) {l : List Opd} {ats : Array TypeId} {xs : Array Operand}
    (ho : o.op = .call { callee := .builtin .max, args := xs, argTypes := ats }) (hl : opds xs.toList = some l) (hr : opRes (.mx l) fr s g = some r) : OpOk P o a B W0 Z0 g w Z μ fr r := by
  have hv := rhos_ok hs hl
  simp only [opRes] at hr
  split at hr
  · rename_i z hz
    obtain rfl := Option.some.inj hr
    generalize hm : l.map (rho s) = ts at hz hv
    cases ts with
    | nil => simp [maxL] at hz
    | cons x ts =>
      simp only [VRL] at hv
      obtain ⟨u, us, e1, h1, h2⟩ := hv
      simp only [maxL] at hz
      obtain ⟨q, k1, k2⟩ := minmax_run (P := P) (F := Builtin.max2) (fun x y z u v hf hx hy => by
        split at hf
        · rename_i k p k' p'
          obtain rfl := Option.some.inj hf
          simp only [VR, VI] at hx hy
          subst hx; subst hy
          exact ⟨_, by simp only [VR, VI]; rfl, by simp [Builtin.max2]⟩
        · cases hf) ts us x z u h2 h1 hz
      refine opok_quiet hi (goes_value ?_) k1
      have e2 : (xs.map a.eval).toList = u :: us := by rw [Array.toList_map]; exact e1
      unfold execOp; rw [ho]
      have e3 : (Builtin.max_ ats o.type (xs.map a.eval)).run P w = .ok q w := by unfold Builtin.max_; rw [e2]; exact k2
      simp [resolve, invoke, builtin, e3]
  · cases hr
end
end Go.Proofs.Ythanlobfjpjegaa.Abs
