/- What stands for what stays so while the world grows. -/
import Derived.Test.YthanlobfjpjegaaA1
namespace Go.Proofs.Ythanlobfjpjegaa.Abs
open Go Go.RowKit
set_option linter.unusedVariables false
set_option linter.unusedSimpArgs false

section
variable {w w' : World} {Z Z' : Nat → Nat → Prop} {μ μ' : Nat → Option Loc}
/-- Z grows, and its cells stay. -/
def ZLe (w w' : World) (Z Z' : Nat → Nat → Prop) : Prop := ∀ b o, Z b o → Z' b o ∧ w'.cell? ⟨b, o, none⟩ = w.cell? ⟨b, o, none⟩
theorem ZLe.refl : ZLe w w Z Z := fun _ _ h => ⟨h, rfl⟩
theorem ZLe.trans {w'' : World} {Z'' : Nat → Nat → Prop} (h : ZLe w w' Z Z') (k : ZLe w' w'' Z' Z'') : ZLe w w'' Z Z'' :=
  fun b o hz => ⟨(k b o (h b o hz).1).1, ((k b o (h b o hz).1).2).trans (h b o hz).2⟩
mutual
theorem VI.mono (h : ZLe w w' Z Z') : ∀ (x : T) (v : Value), VI w Z x v → VI w' Z' x v
  | .int _ _, _, hv => by simpa only [VI] using hv
  | .bool _, _, hv => by simpa only [VI] using hv
  | .str _, _, hv => by simpa only [VI] using hv
  | .imm full len cells, v, hv => by
    simp only [VI] at hv ⊢
    obtain ⟨a, cap, h1, h2, h3, h4⟩ := hv
    exact ⟨a, cap, h1, h2, h3, h4.imp id fun ⟨b, o, e, hc⟩ => ⟨b, o, e, VC.mono h cells b o hc⟩⟩
  | .own .., _, hv => by simp only [VI] at hv
  | .ptr .., _, hv => by simp only [VI] at hv
  | .iptr cells off, v, hv => by
    simp only [VI] at hv ⊢
    obtain ⟨b, o, e, hc⟩ := hv
    exact ⟨b, o, e, VC.mono h cells b o hc⟩
  | .agg l, v, hv => by
    simp only [VI] at hv ⊢
    obtain ⟨vs, e, hl⟩ := hv
    exact ⟨vs, e, VIL.mono h l _ hl⟩
  | .tup l, v, hv => by
    simp only [VI] at hv ⊢
    obtain ⟨vs, e, hl⟩ := hv
    exact ⟨vs, e, VIL.mono h l _ hl⟩
  | .fn f fs cs, v, hv => by
    simp only [VI] at hv ⊢
    obtain ⟨a, b, e, h1, h2⟩ := hv
    exact ⟨a, b, e, VIL.mono h fs _ h1, VIL.mono h cs _ h2⟩
  | .undef, _, hv => by simpa only [VI] using hv
  | .junk, _, hv => by simp only [VI]
theorem VC.mono (h : ZLe w w' Z Z') : ∀ (l : List T) (b o : Nat), VC w Z b o l → VC w' Z' b o l
  | [], _, _, _ => by simp only [VC]
  | c :: cs, b, o, hv => by
    simp only [VC] at hv ⊢
    obtain ⟨⟨v, h1, h2, h3, h4⟩, hr⟩ := hv
    exact ⟨⟨v, ((h b o h2).2).trans h1, (h b o h2).1, VI.mono h c v h3, h4⟩, VC.mono h cs b (o + 1) hr⟩
theorem VIL.mono (h : ZLe w w' Z Z') : ∀ (l : List T) (vs : List Value), VIL w Z l vs → VIL w' Z' l vs
  | [], _, hv => by simpa only [VIL] using hv
  | c :: cs, vs, hv => by
    simp only [VIL] at hv ⊢
    obtain ⟨v, vs', e, h1, h2⟩ := hv
    exact ⟨v, vs', e, VI.mono h c v h1, VIL.mono h cs vs' h2⟩
end
/-- What is known of the call's own blocks stays. -/
def MLe (μ μ' : Nat → Option Loc) : Prop := ∀ t m, μ t = some m → μ' t = some m
theorem MLe.refl : MLe μ μ := fun _ _ h => h
theorem MLe.trans {μ'' : Nat → Option Loc} (h : MLe μ μ') (k : MLe μ' μ'') : MLe μ μ'' := fun t m e => k t m (h t m e)
mutual
theorem VR.mono (h : ZLe w w' Z Z') (hm : MLe μ μ') : ∀ (x : T) (v : Value), VR w Z μ x v → VR w' Z' μ' x v
  | .int _ _, _, hv => by simpa only [VR, VI] using hv
  | .bool _, _, hv => by simpa only [VR, VI] using hv
  | .str _, _, hv => by simpa only [VR, VI] using hv
  | .imm .., _, hv => by simp only [VR] at hv ⊢; exact VI.mono h _ _ hv
  | .own .., _, hv => by
    simp only [VR] at hv ⊢
    obtain ⟨a, cap, m, h1, h2, h3, h4, h5⟩ := hv
    exact ⟨a, cap, m, h1, h2, hm _ _ h3, h4, h5⟩
  | .ptr .., _, hv => by
    simp only [VR] at hv ⊢
    obtain ⟨m, h1, h2⟩ := hv
    exact ⟨m, hm _ _ h1, h2⟩
  | .iptr .., _, hv => by simp only [VR] at hv ⊢; exact VI.mono h _ _ hv
  | .agg l, v, hv => by
    simp only [VR] at hv ⊢
    obtain ⟨vs, e, hl⟩ := hv
    exact ⟨vs, e, VRL.mono h hm l _ hl⟩
  | .tup l, v, hv => by
    simp only [VR] at hv ⊢
    obtain ⟨vs, e, hl⟩ := hv
    exact ⟨vs, e, VRL.mono h hm l _ hl⟩
  | .fn f fs cs, v, hv => by
    simp only [VR] at hv ⊢
    obtain ⟨a, b, e, h1, h2⟩ := hv
    exact ⟨a, b, e, VRL.mono h hm fs _ h1, VRL.mono h hm cs _ h2⟩
  | .undef, _, hv => by simpa only [VR, VI] using hv
  | .junk, _, hv => by simp only [VR, VI]
theorem VRL.mono (h : ZLe w w' Z Z') (hm : MLe μ μ') : ∀ (l : List T) (vs : List Value), VRL w Z μ l vs → VRL w' Z' μ' l vs
  | [], _, hv => by simpa only [VRL] using hv
  | c :: cs, vs, hv => by
    simp only [VRL] at hv ⊢
    obtain ⟨v, vs', e, h1, h2⟩ := hv
    exact ⟨v, vs', e, VR.mono h hm c v h1, VRL.mono h hm cs vs' h2⟩
end
mutual
theorem VI.vr : ∀ (x : T) (v : Value), VI w Z x v → VR w Z μ x v
  | .int _ _, _, hv => by simpa only [VR, VI] using hv
  | .bool _, _, hv => by simpa only [VR, VI] using hv
  | .str _, _, hv => by simpa only [VR, VI] using hv
  | .imm .., _, hv => by simp only [VR]; exact hv
  | .own .., _, hv => by simp only [VI] at hv
  | .ptr .., _, hv => by simp only [VI] at hv
  | .iptr .., _, hv => by simp only [VR]; exact hv
  | .agg l, v, hv => by
    simp only [VR, VI] at hv ⊢
    obtain ⟨vs, e, hl⟩ := hv
    exact ⟨vs, e, VIL.vr l _ hl⟩
  | .tup l, v, hv => by
    simp only [VR, VI] at hv ⊢
    obtain ⟨vs, e, hl⟩ := hv
    exact ⟨vs, e, VIL.vr l _ hl⟩
  | .fn f fs cs, v, hv => by
    simp only [VR, VI] at hv ⊢
    obtain ⟨a, b, e, h1, h2⟩ := hv
    exact ⟨a, b, e, VIL.vr fs _ h1, VIL.vr cs _ h2⟩
  | .undef, _, hv => by simpa only [VR, VI] using hv
  | .junk, _, hv => by simp only [VR, VI]
theorem VIL.vr : ∀ (l : List T) (vs : List Value), VIL w Z l vs → VRL w Z μ l vs
  | [], _, hv => by simpa only [VIL, VRL] using hv
  | c :: cs, vs, hv => by
    simp only [VIL, VRL] at hv ⊢
    obtain ⟨v, vs', e, h1, h2⟩ := hv
    exact ⟨v, vs', e, VI.vr c v h1, VIL.vr cs vs' h2⟩
end
/-- Lists, by places. -/
theorem VRL.len : ∀ {l : List T} {vs : List Value}, VRL w Z μ l vs → vs.length = l.length
  | [], _, h => by simp only [VRL] at h; subst h; rfl
  | c :: cs, _, h => by simp only [VRL] at h; obtain ⟨v, vs', rfl, _, h2⟩ := h; simp [VRL.len h2]
theorem VRL.get : ∀ {l : List T} {vs : List Value}, VRL w Z μ l vs → ∀ {i : Nat} {x : T}, l[i]? = some x → ∃ v, vs[i]? = some v ∧ VR w Z μ x v
  | [], _, h, i, x, e => by simp at e
  | c :: cs, _, h, i, x, e => by
    simp only [VRL] at h
    obtain ⟨v, vs', rfl, h1, h2⟩ := h
    cases i with
    | zero => simp at e; subst e; exact ⟨v, rfl, h1⟩
    | succ i => simp at e; obtain ⟨u, hu, hr⟩ := VRL.get h2 e; exact ⟨u, by simpa using hu, hr⟩
theorem VRL.mk : ∀ {l : List T} {vs : List Value}, vs.length = l.length → (∀ (i : Nat) x v, l[i]? = some x → vs[i]? = some v → VR w Z μ x v) → VRL w Z μ l vs
  | [], vs, hl, _ => by simp only [VRL]; exact List.eq_nil_of_length_eq_zero hl
  | c :: cs, [], hl, _ => by simp at hl
  | c :: cs, v :: vs, hl, h => by
    simp only [VRL]
    exact ⟨v, vs, rfl, h 0 c v rfl rfl, VRL.mk (by simpa using hl) fun i x u hx hu => h (i + 1) x u (by simpa using hx) (by simpa using hu)⟩
theorem VIL.len : ∀ {l : List T} {vs : List Value}, VIL w Z l vs → vs.length = l.length
  | [], _, h => by simp only [VIL] at h; subst h; rfl
  | c :: cs, _, h => by simp only [VIL] at h; obtain ⟨v, vs', rfl, _, h2⟩ := h; simp [VIL.len h2]
theorem VIL.get : ∀ {l : List T} {vs : List Value}, VIL w Z l vs → ∀ {i : Nat} {x : T}, l[i]? = some x → ∃ v, vs[i]? = some v ∧ VI w Z x v
  | [], _, h, i, x, e => by simp at e
  | c :: cs, _, h, i, x, e => by
    simp only [VIL] at h
    obtain ⟨v, vs', rfl, h1, h2⟩ := h
    cases i with
    | zero => simp at e; subst e; exact ⟨v, rfl, h1⟩
    | succ i => simp at e; obtain ⟨u, hu, hr⟩ := VIL.get h2 e; exact ⟨u, by simpa using hu, hr⟩
theorem VIL.mk : ∀ {l : List T} {vs : List Value}, vs.length = l.length → (∀ (i : Nat) x v, l[i]? = some x → vs[i]? = some v → VI w Z x v) → VIL w Z l vs
  | [], vs, hl, _ => by simp only [VIL]; exact List.eq_nil_of_length_eq_zero hl
  | c :: cs, [], hl, _ => by simp at hl
  | c :: cs, v :: vs, hl, h => by
    simp only [VIL]
    exact ⟨v, vs, rfl, h 0 c v rfl rfl, VIL.mk (by simpa using hl) fun i x u hx hu => h (i + 1) x u (by simpa using hx) (by simpa using hu)⟩
theorem VC.get : ∀ {l : List T} {b o : Nat}, VC w Z b o l → ∀ {i : Nat} {x : T}, l[i]? = some x → ∃ v, w.cell? ⟨b, o + i, none⟩ = some v ∧ Z b (o + i) ∧ VI w Z x v ∧ x.leaf = true
  | [], _, _, h, i, x, e => by simp at e
  | c :: cs, b, o, h, i, x, e => by
    simp only [VC] at h
    obtain ⟨h1, h2⟩ := h
    cases i with
    | zero => simp at e; subst e; exact h1
    | succ i => simp at e; have := VC.get h2 e; rwa [show o + 1 + i = o + (i + 1) by omega] at this
theorem VC.mk : ∀ {l : List T} {b o : Nat}, (∀ (i : Nat) x, l[i]? = some x → ∃ v, w.cell? ⟨b, o + i, none⟩ = some v ∧ Z b (o + i) ∧ VI w Z x v ∧ x.leaf = true) → VC w Z b o l
  | [], _, _, _ => by simp only [VC]
  | c :: cs, b, o, h => by
    simp only [VC]
    exact ⟨h 0 c rfl, VC.mk fun i x hx => by have := h (i + 1) x (by simpa using hx); rwa [show o + (i + 1) = o + 1 + i by omega] at this⟩
theorem VR.oneCell {x : T} {v : Value} (h : VR w Z μ x v) (hl : x.leaf = true) : v.oneCell' = true := by
  cases x <;> simp [T.leaf] at hl <;> simp only [VR, VI] at h
  · subst h; rfl
  · subst h; rfl
  · subst h; rfl
  · obtain ⟨a, c, rfl, _⟩ := h; rfl
  · obtain ⟨a, c, m, rfl, _⟩ := h; rfl
  · obtain ⟨m, _, rfl⟩ := h; rfl
  · obtain ⟨b, o, rfl, _⟩ := h; rfl
  · obtain ⟨a, b, rfl, _⟩ := h; rfl
/-- The cells of a value. -/
theorem VR.cells {x : T} {v : Value} (h : VR w Z μ x v) (hx : x ≠ .junk) (hu : x ≠ .undef) (ht : ∀ l, x ≠ .tup l) : VRL w Z μ x.cells v.cells.toList := by
  cases x with
  | agg l => simp only [VR] at h; obtain ⟨vs, rfl, hl⟩ := h; exact hl
  | tup l => exact absurd rfl (ht l)
  | junk => exact absurd rfl hx
  | undef => exact absurd rfl hu
  | int k n => have := h; simp only [VR, VI] at this; subst this; exact (by simp only [T.cells, Value.cells, VRL]; exact ⟨_, [], rfl, h, rfl⟩)
  | bool b => have := h; simp only [VR, VI] at this; subst this; exact (by simp only [T.cells, Value.cells, VRL]; exact ⟨_, [], rfl, h, rfl⟩)
  | str s => have := h; simp only [VR, VI] at this; subst this; exact (by simp only [T.cells, Value.cells, VRL]; exact ⟨_, [], rfl, h, rfl⟩)
  | imm f n c => have h' := h; simp only [VR, VI] at h'; obtain ⟨a, c, rfl, _⟩ := h'; exact (by simp only [T.cells, Value.cells, VRL]; exact ⟨_, [], rfl, h, rfl⟩)
  | own t o n e => have h' := h; simp only [VR] at h'; obtain ⟨a, c, m, rfl, _⟩ := h'; exact (by simp only [T.cells, Value.cells, VRL]; exact ⟨_, [], rfl, h, rfl⟩)
  | ptr t o => have h' := h; simp only [VR] at h'; obtain ⟨m, _, rfl⟩ := h'; exact (by simp only [T.cells, Value.cells, VRL]; exact ⟨_, [], rfl, h, rfl⟩)
  | iptr c o => have h' := h; simp only [VR, VI] at h'; obtain ⟨b, p, rfl, _⟩ := h'; exact (by simp only [T.cells, Value.cells, VRL]; exact ⟨_, [], rfl, h, rfl⟩)
  | fn f a b => have h' := h; simp only [VR] at h'; obtain ⟨x, y, rfl, _⟩ := h'; exact (by simp only [T.cells, Value.cells, VRL]; exact ⟨_, [], rfl, h, rfl⟩)
end
end Go.Proofs.Ythanlobfjpjegaa.Abs
