/- Operations that do not touch one another may change places. -/
import Derived.Test.YthanlobfjpjegaaB4
namespace Go.Proofs.Ythanlobfjpjegaa.Abs
open Go Go.RowKit
set_option linter.unusedVariables false
set_option linter.unusedSimpArgs false

def Opd.tmps : Opd → List Nat
  | .tmp t => [t]
  | .con _ => []
def Opd.tmpsL (l : List Opd) : List Nat := l.flatMap Opd.tmps
def Opd.tmpsO : Option Opd → List Nat
  | some x => x.tmps
  | none => []
def AOp.tmps : AOp → List Nat
  | .mv x | .box x | .nilchk x | .un _ x | .conv _ x | .faddr x _ | .field _ _ _ x | .extract x _ | .len x | .load _ _ x => x.tmps
  | .pick c a b => c.tmps ++ (a.tmps ++ b.tmps)
  | .alloc _ => []
  | .build _ ps => Opd.tmpsL (ps.map (·.2.2))
  | .bsl _ _ _ ps => Opd.tmpsL (ps.map (·.2.2))
  | .store _ a x | .bin _ a x | .beq _ a x | .aeq _ _ a x | .mksl _ _ _ a x | .iarr _ _ a x | .isl _ a x | .index _ _ _ a x | .append _ _ a x | .copy _ a x => a.tmps ++ x.tmps
  | .mkfn _ fs cs => Opd.tmpsL fs ++ Opd.tmpsL cs
  | .slArr _ _ x a b c | .slSl _ x a b c => x.tmps ++ (Opd.tmpsO a ++ (Opd.tmpsO b ++ Opd.tmpsO c))
  | .mn l | .mx l => Opd.tmpsL l
  | .call _ l => Opd.tmpsL l
  | .callv x l => x.tmps ++ Opd.tmpsL l

/-- The slots t have the same values. -/
def SameAt (s s' : List T) (l : List Nat) : Prop := ∀ t ∈ l, s'.getD t .undef = s.getD t .undef
theorem SameAt.left {s s' : List T} {l l' : List Nat} (h : SameAt s s' (l ++ l')) : SameAt s s' l := fun t ht => h t (List.mem_append_left _ ht)
theorem SameAt.right {s s' : List T} {l l' : List Nat} (h : SameAt s s' (l ++ l')) : SameAt s s' l' := fun t ht => h t (List.mem_append_right _ ht)
theorem rho_same {s s' : List T} {x : Opd} (h : SameAt s s' x.tmps) : rho s' x = rho s x := by
  cases x with
  | tmp t => exact h t (by simp [Opd.tmps])
  | con v => rfl
theorem rho_sameL {s s' : List T} : ∀ {l : List Opd}, SameAt s s' (Opd.tmpsL l) → l.map (rho s') = l.map (rho s)
  | [], _ => rfl
  | x :: l, h => by
    simp only [Opd.tmpsL, List.flatMap_cons] at h
    rw [List.map_cons, List.map_cons, rho_same h.left, rho_sameL (l := l) h.right]
theorem rho_sameO {s s' : List T} {x : Option Opd} (h : SameAt s s' (Opd.tmpsO x)) : x.map (rho s') = x.map (rho s) := by
  cases x with
  | none => rfl
  | some x => simp only [Option.map_some]; rw [rho_same h]
theorem rho_sameP {s s' : List T} : ∀ {l : List (Nat × Nat × Opd)}, SameAt s s' (Opd.tmpsL (l.map (·.2.2))) → l.map (fun p => (p.1, p.2.1, rho s' p.2.2)) = l.map (fun p => (p.1, p.2.1, rho s p.2.2))
  | [], _ => rfl
  | x :: l, h => by
    simp only [Opd.tmpsL, List.map_cons, List.flatMap_cons] at h
    rw [List.map_cons, List.map_cons, rho_same h.left, rho_sameP (l := l) h.right]

theorem opRes_slots {op : AOp} {fr : Nat} {s s' : List T} {g : Mem} (h : SameAt s s' op.tmps) : opRes op fr s' g = opRes op fr s g := by
  cases op <;> simp only [AOp.tmps] at h <;> simp only [opRes]
  case pick => rw [rho_same h.left, rho_same h.right.left, rho_same h.right.right]
  case build => rw [rho_sameP h]
  case bsl => rw [rho_sameP h]
  case mkfn => rw [rho_sameL h.left, rho_sameL h.right]
  case slArr => rw [rho_same h.left, rho_sameO h.right.left, rho_sameO h.right.right.left, rho_sameO h.right.right.right]
  case slSl => rw [rho_same h.left, rho_sameO h.right.left, rho_sameO h.right.right.left, rho_sameO h.right.right.right]
  case mn => rw [rho_sameL h]
  case mx => rw [rho_sameL h]
  all_goals first
    | rfl
    | rw [rho_same h]
    | rw [rho_same h.left, rho_same h.right]
theorem callee_slots {op : AOp} {s s' : List T} (h : SameAt s s' op.tmps) : callee s' op = callee s op := by
  cases op <;> simp only [AOp.tmps] at h <;> simp only [callee]
  case call => rw [rho_sameL h]
  case callv => rw [rho_same h.left, rho_sameL h.right]

/-- What is read of memory decides. -/
theorem cellsOf_mem {g g' : Mem} {es : Nat} {y : T} {n : Nat} {c : List T} {rd : List Nat} (h : cellsOf g es y = some (n, c, rd)) (hg : ∀ t ∈ rd, g' t = g t) : cellsOf g' es y = some (n, c, rd) := by
  unfold cellsOf at h ⊢
  split at h
  · exact h
  · rename_i t off len es'
    split at h
    · rename_i he
      simp only [if_pos he]
      cases hc : g t with
      | none => rw [hc] at h; simp at h
      | some c' =>
        rw [hc] at h
        simp only at h
        split at h
        · rename_i hle
          simp at h
          obtain ⟨rfl, rfl, rfl⟩ := h
          rw [hg t (by simp), hc]
          simp [hle]
        · cases h
    · cases h
  · cases h

theorem opRes_mem {op : AOp} {fr : Nat} {s : List T} {g g' : Mem} {r : Res} (h : opRes op fr s g = some r) (hg : ∀ t ∈ r.rd, g' t = g t) : opRes op fr s g' = some r := by
  cases op <;> try exact h
  case load one n x =>
    simp only [opRes] at h ⊢
    split at h
    · rename_i t off e
      cases hc : g t with
      | none => rw [hc] at h; simp at h
      | some c =>
        rw [hc] at h
        have : t ∈ r.rd := by
          simp only at h
          split at h
          · split at h
            · split at h
              · obtain rfl := Option.some.inj h; simp
              · cases h
            · obtain rfl := Option.some.inj h; simp
          · cases h
        rw [hg t this, hc]; exact h
    · exact h
    · cases h
  case store n x y =>
    simp only [opRes] at h ⊢
    split at h
    · rename_i t off e
      cases hc : g t with
      | none => rw [hc] at h; simp at h
      | some c =>
        rw [hc] at h
        have : t ∈ r.rd := by
          simp only at h
          split at h
          · obtain rfl := Option.some.inj h; simp
          · cases h
        rw [hg t this, hc]; exact h
    · cases h
  case slArr n es x lo hi mx =>
    simp only [opRes] at h ⊢
    split at h
    · split at h
      · rename_i hc
        simp only [if_pos hc]
        split at h
        · rename_i t off e
          cases hc : g t with
          | none => rw [hc] at h; simp at h
          | some c =>
            rw [hc] at h
            have : t ∈ r.rd := by
              simp only at h
              split at h
              · obtain rfl := Option.some.inj h; simp
              · cases h
            rw [hg t this, hc]; exact h
        · exact h
        · cases h
      · cases h
    · cases h
  case append es bytes sl x =>
    simp only [opRes] at h ⊢
    split at h
    · rename_i n new rd hc
      have hrd : ∀ t ∈ rd, t ∈ r.rd := by
        split at h
        · split at h
          · split at h
            · obtain rfl := Option.some.inj h; exact fun t ht => ht
            · obtain rfl := Option.some.inj h; exact fun t ht => ht
            · cases h
          · cases h
        · split at h
          · split at h
            · split at h
              · obtain rfl := Option.some.inj h; exact fun t ht => ht
              · cases h
            · split at h
              · split at h
                · split at h
                  · obtain rfl := Option.some.inj h; exact fun t ht => List.mem_cons_of_mem _ ht
                  · cases h
                · cases h
              · cases h
            · cases h
          · cases h
      rw [cellsOf_mem hc fun t ht => hg t (hrd t ht)]
      simp only
      split at h
      · rename_i h0
        simp only [if_pos h0]
        exact h
      · rename_i h0
        simp only [if_neg h0]
        split at h
        · rename_i h1
          simp only [if_pos h1]
          split at h
          · exact h
          · rename_i t off len es' e
            split at h
            · rename_i h2
              simp only [if_pos h2]
              cases hc2 : g t with
              | none => rw [hc2] at h; simp at h
              | some c =>
                rw [hc2] at h
                have : t ∈ r.rd := by
                  simp only at h
                  split at h
                  · obtain rfl := Option.some.inj h; simp
                  · cases h
                rw [hg t this, hc2]; exact h
            · cases h
          · cases h
        · cases h
    · cases h
  case copy es d x =>
    simp only [opRes] at h ⊢
    split at h
    · rename_i n new rd t off len es' hc e
      cases hc2 : g t with
      | none => rw [hc2] at h; simp at h
      | some c =>
        rw [hc2] at h
        simp only at h
        split at h
        · rename_i hb
          obtain rfl := Option.some.inj h
          rw [cellsOf_mem hc fun t ht => hg t (by simp [ht]), e]
          have h2 : g' t = some c := by rw [hg t (by simp), hc2]
          simp [h2, hb]
        · cases h
    · cases h

theorem frzAll_mem {f f' : T → Option (T × List Nat)} {g g' : Mem} (hf : ∀ x y us, f x = some (y, us) → (∀ t ∈ us, g' t = g t) → f' x = some (y, us)) : ∀ (l l' : List T) (ts : List Nat), frzAll f l = some (l', ts) → (∀ t ∈ ts, g' t = g t) → frzAll f' l = some (l', ts)
  | [], l', ts, h, _ => h
  | x :: l, l', ts, h, hg => by
    simp only [frzAll] at h ⊢
    split at h
    · rename_i y us l1 ts1 h1 h2
      simp at h
      obtain ⟨rfl, rfl⟩ := h
      rw [hf x y us h1 fun t ht => hg t (List.mem_append_left _ ht), frzAll_mem hf l l1 ts1 h2 fun t ht => hg t (List.mem_append_right _ ht)]
    · cases h
theorem frz_mem {g g' : Mem} {nx nx' : Nat} : ∀ (d : Nat) (v : T) (v' : T) (ids : List Nat), frz ⟨g, nx⟩ d v = some (v', ids) → (∀ t ∈ ids, g' t = g t) → frz ⟨g', nx'⟩ d v = some (v', ids)
  | 0, v, v', ids, h, _ => by simp [frz] at h
  | d + 1, v, v', ids, h, hg => by
    have hL := frzAll_mem (g := g) (g' := g') (f := frz ⟨g, nx⟩ d) (f' := frz ⟨g', nx'⟩ d) (fun x y us h1 h2 => frz_mem d x y us h1 h2)
    cases v <;> simp only [frz] at h ⊢ <;> try exact h
    case own t off len es =>
      cases hc : g t with
      | none => rw [hc] at h; simp at h
      | some c =>
        rw [hc] at h
        simp only at h
        split at h
        · rename_i hl
          split at h
          · rename_i l ts h1
            simp at h
            obtain ⟨rfl, rfl⟩ := h
            rw [hg t (by simp), hc]
            simp only [hl, if_true]
            rw [hL _ _ _ h1 fun t ht => hg t (by simp [ht])]
          · cases h
        · cases h
    case agg l =>
      split at h
      · rename_i l1 ts h1
        simp at h; obtain ⟨rfl, rfl⟩ := h
        rw [hL _ _ _ h1 hg]
      · cases h
    case tup l =>
      split at h
      · rename_i l1 ts h1
        simp at h; obtain ⟨rfl, rfl⟩ := h
        rw [hL _ _ _ h1 hg]
      · cases h
    case fn f a b =>
      split at h
      · rename_i l1 ts l2 us h1 h2
        simp at h; obtain ⟨rfl, rfl⟩ := h
        rw [hL _ _ _ h1 fun t ht => hg t (by simp [ht]), hL _ _ _ h2 fun t ht => hg t (by simp [ht])]
      · cases h
theorem frzL_mem {g g' : Mem} {nx nx' : Nat} {d : Nat} (l : List T) (l' : List T) (ts : List Nat) (h : frzL ⟨g, nx⟩ d l = some (l', ts)) (hg : ∀ t ∈ ts, g' t = g t) : frzL ⟨g', nx'⟩ d l = some (l', ts) :=
  frzAll_mem (g := g) (g' := g') (fun x y us h1 h2 => frz_mem d x y us h1 h2) l l' ts h hg
theorem callPure_mem {ih : Run} {F : AFun} {args : List T} {g g' : Mem} {r : Res} (h : callPure ih F args g = some r) (hg : ∀ t ∈ r.rd, g' t = g t) : callPure ih F args g' = some r := by
  unfold callPure at h ⊢
  split at h
  · rename_i args' ids h1
    have : r.rd = ids := by
      split at h
      · obtain rfl := Option.some.inj h; rfl
      · cases h
    rw [frzL_mem _ _ _ h1 fun t ht => hg t (by rw [this]; exact ht)]
    exact h
  · cases h
end Go.Proofs.Ythanlobfjpjegaa.Abs
