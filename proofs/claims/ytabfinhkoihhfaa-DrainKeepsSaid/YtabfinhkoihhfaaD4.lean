/- Trees that tell of more room: what runs on one tree runs on each that says no less of its capacities. -/
import Derived.Test.YtabfinhkoihhfaaC7
namespace Go.Proofs.Ytabfinhkoihhfaa.Abs
open Go Go.RowKit
set_option linter.unusedVariables false
set_option linter.unusedSimpArgs false
set_option linter.unnecessarySimpa false
set_option maxRecDepth 100000
set_option maxHeartbeats 1000000
mutual
def UpT : T → T → Prop
  | .imm f n c, y => ∃ f' c', y = .imm f' n c' ∧ (f = true → f' = true) ∧ UpL c c'
  | .iptr c o, y => ∃ c', y = .iptr c' o ∧ UpL c c'
  | .agg l, y => ∃ l', y = .agg l' ∧ UpL l l'
  | .tup l, y => ∃ l', y = .tup l' ∧ UpL l l'
  | .fn f a b, y => ∃ a' b', y = .fn f a' b' ∧ UpL a a' ∧ UpL b b'
  | .int k n, y => y = .int k n
  | .bool b, y => y = .bool b
  | .str s, y => y = .str s
  | .own t o n e, y => y = .own t o n e
  | .ptr t o, y => y = .ptr t o
  | .undef, y => y = .undef
  | .junk, y => y = .junk
def UpL : List T → List T → Prop
  | [], l => l = []
  | c :: cs, l => ∃ v vs, l = v :: vs ∧ UpT c v ∧ UpL cs vs
end
mutual
theorem UpT.refl : ∀ x : T, UpT x x
  | .imm f n c => by simp only [UpT]; exact ⟨f, c, rfl, id, UpL.refl c⟩
  | .iptr c o => by simp only [UpT]; exact ⟨c, rfl, UpL.refl c⟩
  | .agg l => by simp only [UpT]; exact ⟨l, rfl, UpL.refl l⟩
  | .tup l => by simp only [UpT]; exact ⟨l, rfl, UpL.refl l⟩
  | .fn f a b => by simp only [UpT]; exact ⟨a, b, rfl, UpL.refl a, UpL.refl b⟩
  | .int _ _ | .bool _ | .str _ | .own _ _ _ _ | .ptr _ _ | .undef | .junk => by simp only [UpT]
theorem UpL.refl : ∀ l : List T, UpL l l
  | [] => by simp only [UpL]
  | c :: cs => by simp only [UpL]; exact ⟨c, cs, rfl, UpT.refl c, UpL.refl cs⟩
end
mutual
theorem UpT.trans : ∀ {x y z : T}, UpT x y → UpT y z → UpT x z
  | .imm f n c, y, z, h, h' => by
    simp only [UpT] at h ⊢
    obtain ⟨f', c', rfl, h1, h2⟩ := h
    simp only [UpT] at h'
    obtain ⟨f'', c'', rfl, h3, h4⟩ := h'
    exact ⟨f'', c'', rfl, fun e => h3 (h1 e), UpL.trans h2 h4⟩
  | .iptr c o, y, z, h, h' => by
    simp only [UpT] at h ⊢
    obtain ⟨c', rfl, h2⟩ := h
    simp only [UpT] at h'
    obtain ⟨c'', rfl, h4⟩ := h'
    exact ⟨c'', rfl, UpL.trans h2 h4⟩
  | .agg c, y, z, h, h' => by
    simp only [UpT] at h ⊢
    obtain ⟨c', rfl, h2⟩ := h
    simp only [UpT] at h'
    obtain ⟨c'', rfl, h4⟩ := h'
    exact ⟨c'', rfl, UpL.trans h2 h4⟩
  | .tup c, y, z, h, h' => by
    simp only [UpT] at h ⊢
    obtain ⟨c', rfl, h2⟩ := h
    simp only [UpT] at h'
    obtain ⟨c'', rfl, h4⟩ := h'
    exact ⟨c'', rfl, UpL.trans h2 h4⟩
  | .fn f a b, y, z, h, h' => by
    simp only [UpT] at h ⊢
    obtain ⟨a', b', rfl, h1, h2⟩ := h
    simp only [UpT] at h'
    obtain ⟨a'', b'', rfl, h3, h4⟩ := h'
    exact ⟨a'', b'', rfl, UpL.trans h1 h3, UpL.trans h2 h4⟩
  | .int _ _, y, z, h, h' | .bool _, y, z, h, h' | .str _, y, z, h, h' | .own _ _ _ _, y, z, h, h' | .ptr _ _, y, z, h, h' | .undef, y, z, h, h' | .junk, y, z, h, h' => by
    simp only [UpT] at h
    rw [h] at h'
    exact h'
theorem UpL.trans : ∀ {x y z : List T}, UpL x y → UpL y z → UpL x z
  | [], y, z, h, h' => by
    simp only [UpL] at h
    rw [h] at h'
    exact h'
  | c :: cs, y, z, h, h' => by
    simp only [UpL] at h ⊢
    obtain ⟨v, vs, rfl, h1, h2⟩ := h
    simp only [UpL] at h'
    obtain ⟨w, ws, rfl, h3, h4⟩ := h'
    exact ⟨w, ws, rfl, UpT.trans h1 h3, UpL.trans h2 h4⟩
end
theorem UpL.nil : UpL [] [] := UpL.refl []
theorem UpL.cons {x y : T} {l l' : List T} (h : UpT x y) (hl : UpL l l') : UpL (x :: l) (y :: l') := by simp only [UpL]; exact ⟨y, l', rfl, h, hl⟩
theorem UpL.len : ∀ {l l' : List T}, UpL l l' → l'.length = l.length
  | [], l', h => by simp only [UpL] at h; rw [h]
  | x :: l, l', h => by
    simp only [UpL] at h
    obtain ⟨v, vs, rfl, _, h2⟩ := h
    rw [List.length_cons, List.length_cons, UpL.len h2]
theorem UpL.get : ∀ {l l' : List T}, UpL l l' → ∀ {i : Nat} {x : T}, l[i]? = some x → ∃ y, l'[i]? = some y ∧ UpT x y
  | [], l', h, i, x, hi => by simp at hi
  | c :: l, l', h, i, x, hi => by
    simp only [UpL] at h
    obtain ⟨v, vs, rfl, h1, h2⟩ := h
    cases i with
    | zero => rw [List.getElem?_cons_zero] at hi ⊢; obtain rfl := Option.some.inj hi; exact ⟨v, rfl, h1⟩
    | succ i => rw [List.getElem?_cons_succ] at hi ⊢; exact UpL.get h2 hi
theorem UpL.of_get : ∀ {l l' : List T}, l'.length = l.length → (∀ (i : Nat) (x : T), l[i]? = some x → ∃ y, l'[i]? = some y ∧ UpT x y) → UpL l l'
  | [], [], _, _ => UpL.nil
  | x :: l, y :: l', hl, h => by
    refine UpL.cons ?_ (UpL.of_get (by simpa using hl) (fun i z hz => ?_))
    · obtain ⟨w, h1, h2⟩ := h 0 x rfl
      rw [List.getElem?_cons_zero] at h1
      obtain rfl := Option.some.inj h1
      exact h2
    · obtain ⟨w, h1, h2⟩ := h (i + 1) z (by rw [List.getElem?_cons_succ]; exact hz)
      rw [List.getElem?_cons_succ] at h1
      exact ⟨w, h1, h2⟩
  | [], _ :: _, hl, _ => by simp at hl
  | _ :: _, [], hl, _ => by simp at hl
theorem UpL.append {a a' b b' : List T} (h : UpL a a') (h' : UpL b b') : UpL (a ++ b) (a' ++ b') := by
  refine UpL.of_get (by rw [List.length_append, List.length_append, h.len, h'.len]) (fun i x hx => ?_)
  by_cases hi : i < a.length
  · rw [List.getElem?_append_left hi] at hx
    rw [List.getElem?_append_left (by rw [h.len]; exact hi)]
    exact h.get hx
  · rw [List.getElem?_append_right (by omega)] at hx
    rw [List.getElem?_append_right (by rw [h.len]; omega), h.len]
    exact h'.get hx
theorem UpL.take {a a' : List T} (h : UpL a a') (n : Nat) : UpL (a.take n) (a'.take n) := by
  refine UpL.of_get (by rw [List.length_take, List.length_take, h.len]) (fun i x hx => ?_)
  rw [List.getElem?_take] at hx ⊢
  split
  · rename_i hi; rw [if_pos hi] at hx; exact h.get hx
  · rename_i hi; rw [if_neg hi] at hx; cases hx
theorem UpL.drop {a a' : List T} (h : UpL a a') (n : Nat) : UpL (a.drop n) (a'.drop n) := by
  refine UpL.of_get (by rw [List.length_drop, List.length_drop, h.len]) (fun i x hx => ?_)
  rw [List.getElem?_drop] at hx ⊢
  exact h.get hx
theorem UpL.cut {a a' : List T} (h : UpL a a') (o n : Nat) : UpL (cut a o n) (cut a' o n) := (h.drop o).take n
theorem UpL.set {a a' : List T} (h : UpL a a') (i : Nat) {x y : T} (hx : UpT x y) : UpL (a.set i x) (a'.set i y) := by
  refine UpL.of_get (by rw [List.length_set, List.length_set, h.len]) (fun j z hz => ?_)
  rw [List.getElem?_set] at hz ⊢
  split
  · rename_i hij
    rw [if_pos hij] at hz
    split at hz
    · rename_i hl
      rw [if_pos (by rw [h.len]; exact hl)]
      obtain rfl := Option.some.inj hz
      exact ⟨y, rfl, hx⟩
    · cases hz
  · rename_i hij
    rw [if_neg hij] at hz
    exact h.get hz
theorem UpL.splice : ∀ {l l' : List T} {c c' : List T} {o : Nat}, UpL c c' → UpL l l' → UpL (splice c o l) (splice c' o l')
  | [], l', c, c', o, h, hl => by simp only [UpL] at hl; rw [hl]; exact h
  | x :: l, l', c, c', o, h, hl => by
    simp only [UpL] at hl
    obtain ⟨v, vs, rfl, h1, h2⟩ := hl
    show UpL (Abs.splice (c.set o x) (o + 1) l) (Abs.splice (c'.set o v) (o + 1) vs)
    exact UpL.splice (h.set o h1) h2
theorem UpL.replicate_flat {z : List T} (n : Nat) : UpL (List.replicate n z).flatten (List.replicate n z).flatten := UpL.refl _
theorem UpT.leaf {x y : T} (h : UpT x y) : y.leaf = x.leaf := by
  cases x <;> simp only [UpT] at h
  case imm => obtain ⟨_, _, rfl, _⟩ := h; rfl
  case iptr => obtain ⟨_, rfl, _⟩ := h; rfl
  case agg => obtain ⟨_, rfl, _⟩ := h; rfl
  case tup => obtain ⟨_, rfl, _⟩ := h; rfl
  case fn => obtain ⟨_, _, rfl, _⟩ := h; rfl
  all_goals rw [h]
theorem UpL.allLeaf : ∀ {l l' : List T}, UpL l l' → l'.all T.leaf = l.all T.leaf
  | [], l', h => by simp only [UpL] at h; rw [h]
  | x :: l, l', h => by
    simp only [UpL] at h
    obtain ⟨v, vs, rfl, h1, h2⟩ := h
    rw [List.all_cons, List.all_cons, h1.leaf, UpL.allLeaf h2]
theorem UpT.cells {x y : T} (h : UpT x y) : UpL x.cells y.cells := by
  have h0 := h
  cases x <;> simp only [UpT] at h
  case agg => obtain ⟨_, rfl, h⟩ := h; exact h
  case imm => obtain ⟨_, _, rfl, _⟩ := h; exact UpL.cons h0 UpL.nil
  case iptr => obtain ⟨_, rfl, _⟩ := h; exact UpL.cons h0 UpL.nil
  case tup => obtain ⟨_, rfl, _⟩ := h; exact UpL.cons h0 UpL.nil
  case fn => obtain ⟨_, _, rfl, _⟩ := h; exact UpL.cons h0 UpL.nil
  all_goals (rw [h]; exact UpL.refl _)
theorem UpL.flatL : ∀ {l l' : List T}, UpL l l' → T.flatL l' = T.flatL l
  | [], l', h => by simp only [UpL] at h; rw [h]
  | x :: l, l', h => by
    simp only [UpL] at h
    obtain ⟨v, vs, rfl, h1, h2⟩ := h
    have ih := UpL.flatL h2
    cases x <;> simp only [UpT] at h1
    case imm f n c =>
      obtain ⟨f', c', rfl, _, hc⟩ := h1
      cases n with
      | zero =>
        cases c with
        | nil => simp only [UpL] at hc; subst hc; simp only [T.flatL, ih]
        | cons a b => simp only [UpL] at hc; obtain ⟨v, vs, rfl, _⟩ := hc; rfl
      | succ n => rfl
    case iptr => obtain ⟨_, rfl, _⟩ := h1; rfl
    case agg => obtain ⟨_, rfl, _⟩ := h1; rfl
    case tup => obtain ⟨_, rfl, _⟩ := h1; rfl
    case fn => obtain ⟨_, _, rfl, _⟩ := h1; rfl
    all_goals (subst h1; first | rfl | simp only [T.flatL, ih])
theorem UpT.flat {x y : T} (h : UpT x y) : y.flat = x.flat := by
  cases x <;> simp only [UpT] at h
  case imm f n c =>
    obtain ⟨f', c', rfl, _, hc⟩ := h
    cases n with
    | zero =>
      cases c with
      | nil => simp only [UpL] at hc; subst hc; rfl
      | cons a b => simp only [UpL] at hc; obtain ⟨v, vs, rfl, _⟩ := hc; rfl
    | succ n => rfl
  case iptr => obtain ⟨_, rfl, _⟩ := h; rfl
  case agg => obtain ⟨_, rfl, h⟩ := h; exact h.flatL
  case tup => obtain ⟨_, rfl, h⟩ := h; exact h.flatL
  case fn => obtain ⟨_, _, rfl, _⟩ := h; rfl
  all_goals rw [h]
/-! Memory. -/
def UpO : Option (List T) → Option (List T) → Prop
  | none, y => y = none
  | some c, y => ∃ c', y = some c' ∧ UpL c c'
def UpM (g g' : Mem) : Prop := ∀ t, UpO (g t) (g' t)
theorem UpO.refl (x : Option (List T)) : UpO x x := by
  cases x with
  | none => rfl
  | some c => exact ⟨c, rfl, UpL.refl c⟩
theorem UpM.refl (g : Mem) : UpM g g := fun t => UpO.refl _
theorem UpM.get {g g' : Mem} (h : UpM g g') {t : Nat} {c : List T} (hc : g t = some c) : ∃ c', g' t = some c' ∧ UpL c c' := by
  have := h t; rw [hc] at this; exact this
def UpE : List (Nat × Option (List T)) → List (Nat × Option (List T)) → Prop
  | [], l => l = []
  | e :: r, l => ∃ o r', l = (e.1, o) :: r' ∧ UpO e.2 o ∧ UpE r r'
theorem UpE.refl : ∀ l, UpE l l
  | [] => rfl
  | e :: r => ⟨e.2, r, rfl, UpO.refl _, UpE.refl r⟩
theorem UpM.put {g g' : Mem} (h : UpM g g') {t : Nat} {o o' : Option (List T)} (ho : UpO o o') : UpM (put1 g (t, o)) (put1 g' (t, o')) := by
  intro u
  unfold put1
  simp only
  split
  · exact ho
  · exact h u
theorem UpM.putAll : ∀ {l l' : List (Nat × Option (List T))} {g g' : Mem}, UpM g g' → UpE l l' → UpM (putAll g l) (putAll g' l')
  | [], l', g, g', h, he => by have he : l' = [] := he; rw [he]; exact h
  | (t, o) :: r, l', g, g', h, he => by
    obtain ⟨o', r', rfl, h1, h2⟩ := he
    show UpM (Abs.putAll (put1 g (t, o)) r) (Abs.putAll (put1 g' (t, o')) r')
    exact UpM.putAll (h.put h1) h2
theorem UpE.ids : ∀ {l l' : List (Nat × Option (List T))}, UpE l l' → l'.map (·.1) = l.map (·.1)
  | [], l', h => by have h : l' = [] := h; rw [h]
  | (t, o) :: r, l', h => by
    obtain ⟨o', r', rfl, _, h2⟩ := h
    rw [List.map_cons, List.map_cons, UpE.ids h2]
theorem frzAll_up {f f' : T → Option (T × List Nat)} (hf : ∀ x y u is, UpT x y → f x = some (u, is) → ∃ u', f' y = some (u', is) ∧ UpT u u') : ∀ {l l' : List T} {m : List T} {is : List Nat}, UpL l l' → frzAll f l = some (m, is) → ∃ m', frzAll f' l' = some (m', is) ∧ UpL m m'
  | [], l', m, is, h, he => by
    simp only [UpL] at h
    simp only [frzAll, Option.some.injEq, Prod.mk.injEq] at he
    obtain ⟨rfl, rfl⟩ := he
    rw [h]
    exact ⟨[], rfl, UpL.nil⟩
  | x :: l, l', m, is, h, he => by
    simp only [UpL] at h
    obtain ⟨v, vs, rfl, h1, h2⟩ := h
    simp only [frzAll] at he
    split at he
    · rename_i y us m1 ts e1 e2
      simp only [Option.some.injEq, Prod.mk.injEq] at he
      obtain ⟨rfl, rfl⟩ := he
      obtain ⟨u', h3, h4⟩ := hf _ _ _ _ h1 e1
      obtain ⟨m', h5, h6⟩ := frzAll_up hf h2 e2
      exact ⟨u' :: m', by simp only [frzAll, h3, h5], UpL.cons h4 h6⟩
    · cases he
theorem frz_up {h h' : Hp} (hh : UpM h.get h'.get) : ∀ (d : Nat) (x y u : T) (is : List Nat), UpT x y → frz h d x = some (u, is) → ∃ u', frz h' d y = some (u', is) ∧ UpT u u'
  | 0, _, _, _, _, _, he => by cases he
  | d + 1, x, y, u, is, hx, he => by
    have ih := frz_up hh d
    have hx0 := hx
    cases x <;> simp only [UpT] at hx <;> simp only [frz] at he
    case int => subst hx; simp only [Option.some.injEq, Prod.mk.injEq] at he; obtain ⟨rfl, rfl⟩ := he; exact ⟨_, rfl, UpT.refl _⟩
    case bool => subst hx; simp only [Option.some.injEq, Prod.mk.injEq] at he; obtain ⟨rfl, rfl⟩ := he; exact ⟨_, rfl, UpT.refl _⟩
    case str => subst hx; simp only [Option.some.injEq, Prod.mk.injEq] at he; obtain ⟨rfl, rfl⟩ := he; exact ⟨_, rfl, UpT.refl _⟩
    case imm => obtain ⟨_, _, rfl, _⟩ := hx; simp only [Option.some.injEq, Prod.mk.injEq] at he; obtain ⟨rfl, rfl⟩ := he; exact ⟨_, rfl, hx0⟩
    case iptr => obtain ⟨_, rfl, _⟩ := hx; simp only [Option.some.injEq, Prod.mk.injEq] at he; obtain ⟨rfl, rfl⟩ := he; exact ⟨_, rfl, hx0⟩
    case own t off len es =>
      subst hx
      split at he
      · cases he
      · rename_i c hc
        obtain ⟨c', hc', hcc⟩ := hh.get hc
        split at he
        · rename_i hl
          split at he
          · rename_i l ts hfz
            simp only [Option.some.injEq, Prod.mk.injEq] at he
            obtain ⟨rfl, rfl⟩ := he
            have hcu := (hcc.drop off).take (len * es)
            obtain ⟨m', h1, h2⟩ := frzAll_up ih hcu hfz
            refine ⟨.imm false len m', ?_, by simp only [UpT]; exact ⟨false, m', rfl, id, h2⟩⟩
            simp only [frz, hc', hcu.len, hl, if_true, h1]
          · cases he
        · cases he
    case agg =>
      obtain ⟨l', rfl, hl⟩ := hx
      split at he
      · rename_i l ts hfz
        simp only [Option.some.injEq, Prod.mk.injEq] at he
        obtain ⟨rfl, rfl⟩ := he
        obtain ⟨m', h1, h2⟩ := frzAll_up ih hl hfz
        exact ⟨.agg m', by simp only [frz, h1], by simp only [UpT]; exact ⟨m', rfl, h2⟩⟩
      · cases he
    case tup =>
      obtain ⟨l', rfl, hl⟩ := hx
      split at he
      · rename_i l ts hfz
        simp only [Option.some.injEq, Prod.mk.injEq] at he
        obtain ⟨rfl, rfl⟩ := he
        obtain ⟨m', h1, h2⟩ := frzAll_up ih hl hfz
        exact ⟨.tup m', by simp only [frz, h1], by simp only [UpT]; exact ⟨m', rfl, h2⟩⟩
      · cases he
    case fn fi fa fb =>
      obtain ⟨a', b', rfl, ha, hb⟩ := hx
      split at he
      · rename_i a ts b us hfa hfb
        simp only [Option.some.injEq, Prod.mk.injEq] at he
        obtain ⟨rfl, rfl⟩ := he
        obtain ⟨m', h1, h2⟩ := frzAll_up ih ha hfa
        obtain ⟨n', h3, h4⟩ := frzAll_up ih hb hfb
        exact ⟨.fn fi m' n', by simp only [frz, h1, h3], by simp only [UpT]; exact ⟨m', n', rfl, h2, h4⟩⟩
      · cases he
    all_goals cases he

set_option maxHeartbeats 2000000
theorem rho_up {s s' : List T} (hs : UpL s s') (x : Opd) : UpT (rho s x) (rho s' x) := by
  cases x with
  | con v => exact UpT.refl v
  | tmp t =>
    show UpT (s.getD t .undef) (s'.getD t .undef)
    rw [List.getD_eq_getElem?_getD, List.getD_eq_getElem?_getD]
    cases h : s[t]? with
    | none =>
      have : s.length ≤ t := List.getElem?_eq_none_iff.mp h
      rw [List.getElem?_eq_none (by rw [hs.len]; exact this)]
      exact UpT.refl _
    | some x =>
      obtain ⟨y, h1, h2⟩ := hs.get h
      rw [h1]; exact h2
theorem rhos_up {s s' : List T} (hs : UpL s s') : ∀ l : List Opd, UpL (l.map (rho s)) (l.map (rho s'))
  | [] => UpL.nil
  | x :: l => UpL.cons (rho_up hs x) (rhos_up hs l)
def UpR (r r' : Res) : Prop := UpT r.v r'.v ∧ r'.rd = r.rd ∧ UpE r.ed r'.ed
theorem up_pure {v v' : T} {r : Res} (h : pureR v = some r) (hv : UpT v v') : ∃ r', pureR v' = some r' ∧ UpR r r' := by
  obtain rfl := Option.some.inj h
  exact ⟨_, rfl, hv, rfl, UpE.refl []⟩
theorem up_same {o : Option Res} {r : Res} (h : o = some r) : ∃ r', o = some r' ∧ UpR r r' := ⟨r, h, UpT.refl _, rfl, UpE.refl _⟩
theorem UpT.int {k : IntKind} {n : Int} {y : T} (h : UpT (.int k n) y) : y = .int k n := by simp only [UpT] at h; exact h
theorem UpT.bool {b : Bool} {y : T} (h : UpT (.bool b) y) : y = .bool b := by simp only [UpT] at h; exact h
theorem UpT.ptr {t o : Nat} {y : T} (h : UpT (.ptr t o) y) : y = .ptr t o := by simp only [UpT] at h; exact h
theorem UpT.own {t o n e : Nat} {y : T} (h : UpT (.own t o n e) y) : y = .own t o n e := by simp only [UpT] at h; exact h
theorem UpT.undef {y : T} (h : UpT .undef y) : y = .undef := by simp only [UpT] at h; exact h
theorem UpT.iptr {c : List T} {o : Nat} {y : T} (h : UpT (.iptr c o) y) : ∃ c', y = .iptr c' o ∧ UpL c c' := by simp only [UpT] at h; exact h
theorem UpT.imm {f : Bool} {n : Nat} {c : List T} {y : T} (h : UpT (.imm f n c) y) : ∃ f' c', y = .imm f' n c' ∧ (f = true → f' = true) ∧ UpL c c' := by simp only [UpT] at h; exact h
theorem UpT.agg {c : List T} {y : T} (h : UpT (.agg c) y) : ∃ c', y = .agg c' ∧ UpL c c' := by simp only [UpT] at h; exact h
theorem UpT.tup {c : List T} {y : T} (h : UpT (.tup c) y) : ∃ c', y = .tup c' ∧ UpL c c' := by simp only [UpT] at h; exact h
theorem UpT.fn {f : Nat} {a b : List T} {y : T} (h : UpT (.fn f a b) y) : ∃ a' b', y = .fn f a' b' ∧ UpL a a' ∧ UpL b b' := by simp only [UpT] at h; exact h
theorem up_nat {x y : T} {n : Nat} (h : UpT x y) (hx : natOf x = some n) : natOf y = some n := by
  unfold natOf at hx
  split at hx
  · rw [h.int]; exact hx
  · cases hx
theorem up_bnd {s s' : List T} (hs : UpL s s') {x : Option Opd} {d n : Nat} (hx : bnd (x.map (rho s)) d = some n) : bnd (x.map (rho s')) d = some n := by
  cases x with
  | none => exact hx
  | some x => exact up_nat (rho_up hs x) hx
theorem fill_up : ∀ {l : List (Nat × Nat × Opd)} {s s' : List T} {c c' r : List T}, UpL s s' → UpL c c' → fillT c (l.map fun p => (p.1, p.2.1, rho s p.2.2)) = some r → ∃ r', fillT c' (l.map fun p => (p.1, p.2.1, rho s' p.2.2)) = some r' ∧ UpL r r'
  | [], s, s', c, c', r, hs, hc, h => by
    obtain rfl := Option.some.inj h
    exact ⟨c', rfl, hc⟩
  | p :: l, s, s', c, c', r, hs, hc, h => by
    simp only [List.map_cons, fillT] at h ⊢
    have hp := (rho_up hs p.2.2).cells
    split at h
    · rename_i hcond
      rw [if_pos ⟨by rw [hp.len]; exact hcond.1, by rw [hc.len]; exact hcond.2.1, by rw [hp.allLeaf]; exact hcond.2.2⟩]
      exact fill_up hs (hc.splice hp) h
    · cases h
theorem cellsOf_up {g g' : Mem} (hg : UpM g g') {es n : Nat} {x y : T} {new : List T} {rd : List Nat} (hx : UpT x y) (h : cellsOf g es x = some (n, new, rd)) : ∃ new', cellsOf g' es y = some (n, new', rd) ∧ UpL new new' := by
  cases x <;> simp only [cellsOf] at h
  case imm f len c =>
    obtain ⟨f', c', rfl, _, hc⟩ := hx.imm
    simp only [Option.some.injEq, Prod.mk.injEq] at h
    obtain ⟨rfl, rfl, rfl⟩ := h
    exact ⟨c', rfl, hc⟩
  case own t off len es' =>
    obtain rfl := hx.own
    split at h
    · rename_i he
      split at h
      · rename_i c hc
        obtain ⟨c', hc', hcc⟩ := hg.get hc
        split at h
        · rename_i hb
          simp only [Option.some.injEq, Prod.mk.injEq] at h
          obtain ⟨rfl, rfl, rfl⟩ := h
          exact ⟨Abs.cut c' off (len * es), by simp only [cellsOf, he, if_true, hc', if_pos (show off + len * es ≤ c'.length by rw [hcc.len]; exact hb)], hcc.cut _ _⟩
        · cases h
      · cases h
    · cases h
  all_goals cases h
theorem bin_up {op : BinOp} {x x' y y' v : T} (hx : UpT x x') (hy : UpT y y') (h : binT op x y = some v) : binT op x' y' = some v := by
  unfold binT at h
  split at h
  · rw [hx.int, hy.int]; exact h
  · cases h
theorem un_up {op : UnOp} {x x' v : T} (hx : UpT x x') (h : unT op x = some v) : unT op x' = some v := by
  unfold unT at h
  split at h
  · rw [hx.int]; exact h
  · rw [hx.bool]; exact h
  · rw [hx.int]; exact h
  · cases h
theorem conf_up : ∀ {ks : List (Option IntKind)} {l l' : List T}, UpL l l' → conf ks l = true → l' = l
  | [], [], l', h, _ => by simp only [UpL] at h; exact h
  | k :: ks, x :: l, l', h, hc => by
    simp only [UpL] at h
    obtain ⟨v, vs, rfl, h1, h2⟩ := h
    rw [conf, Bool.and_eq_true] at hc
    rw [conf_up h2 hc.2]
    have : v = x := by
      have h3 := hc.1
      cases x <;> first | exact h1.int | exact h1.bool | (cases k <;> simp [conf1] at h3)
    rw [this]
  | [], _ :: _, _, _, h => by cases h
  | _ :: _, [], _, _, h => by cases h
theorem fold_int {f : T → T → Option T} (hf : ∀ x y v, f x y = some v → (∃ k n, y = .int k n)) : ∀ {l l' : List T} {x v : T}, UpL l l' → l.foldlM f x = some v → l' = l
  | [], l', x, v, h, _ => by simp only [UpL] at h; exact h
  | y :: l, l', x, v, h, he => by
    simp only [UpL] at h
    obtain ⟨w, ws, rfl, h1, h2⟩ := h
    rw [List.foldlM_cons] at he
    cases hxy : f x y with
    | none => rw [hxy] at he; cases he
    | some z =>
      rw [hxy] at he
      obtain ⟨k, n, rfl⟩ := hf _ _ _ hxy
      rw [h1.int, fold_int hf h2 he]
def minF (x y : T) : Option T := match x, y with | .int k a, .int k' b => some (.int k (if b < a then b else a)) | _, _ => none
theorem min_up {l l' : List T} {v : T} (h : UpL l l') (he : minL l = some v) : ∃ v', minL l' = some v' ∧ UpT v v' := by
  cases l with
  | nil => cases he
  | cons x l =>
    simp only [UpL] at h
    obtain ⟨y, ys, rfl, h1, h2⟩ := h
    have he : l.foldlM minF x = some v := he
    have e := fold_int (f := minF) (fun x y v h => by
      unfold minF at h
      split at h
      · exact ⟨_, _, rfl⟩
      · cases h) h2 he
    subst e
    show ∃ v', ys.foldlM minF y = some v' ∧ UpT v v'
    cases ys with
    | nil =>
      have he : some x = some v := he
      obtain rfl := Option.some.inj he
      exact ⟨y, rfl, h1⟩
    | cons z zs =>
      have : y = x := by
        rw [List.foldlM_cons] at he
        cases x <;> first | exact h1.int | (simp [minF] at he)
      rw [this]
      exact ⟨v, he, UpT.refl v⟩
def maxF (x y : T) : Option T := match x, y with | .int k a, .int k' b => some (.int k (if b > a then b else a)) | _, _ => none
theorem max_up {l l' : List T} {v : T} (h : UpL l l') (he : maxL l = some v) : ∃ v', maxL l' = some v' ∧ UpT v v' := by
  cases l with
  | nil => cases he
  | cons x l =>
    simp only [UpL] at h
    obtain ⟨y, ys, rfl, h1, h2⟩ := h
    have he : l.foldlM maxF x = some v := he
    have e := fold_int (f := maxF) (fun x y v h => by
      unfold maxF at h
      split at h
      · exact ⟨_, _, rfl⟩
      · cases h) h2 he
    subst e
    show ∃ v', ys.foldlM maxF y = some v' ∧ UpT v v'
    cases ys with
    | nil =>
      have he : some x = some v := he
      obtain rfl := Option.some.inj he
      exact ⟨y, rfl, h1⟩
    | cons z zs =>
      have : y = x := by
        rw [List.foldlM_cons] at he
        cases x <;> first | exact h1.int | (simp [maxF] at he)
      rw [this]
      exact ⟨v, he, UpT.refl v⟩

set_option maxHeartbeats 4000000
theorem upE_one {t : Nat} {o o' : Option (List T)} (h : UpO o o') : UpE [(t, o)] [(t, o')] := ⟨o', [], rfl, h, rfl⟩
theorem upE_two {t u : Nat} {o o' p p' : Option (List T)} (h : UpO o o') (h' : UpO p p') : UpE [(t, o), (u, p)] [(t, o'), (u, p')] := ⟨o', _, rfl, h, p', [], rfl, h', rfl⟩
theorem upO_some {c c' : List T} (h : UpL c c') : UpO (some c) (some c') := ⟨c', rfl, h⟩
theorem upT_agg {c c' : List T} (h : UpL c c') : UpT (.agg c) (.agg c') := by simp only [UpT]; exact ⟨c', rfl, h⟩
theorem upT_tup {c c' : List T} (h : UpL c c') : UpT (.tup c) (.tup c') := by simp only [UpT]; exact ⟨c', rfl, h⟩
theorem upT_iptr {c c' : List T} {o : Nat} (h : UpL c c') : UpT (.iptr c o) (.iptr c' o) := by simp only [UpT]; exact ⟨c', rfl, h⟩
theorem upT_imm {f f' : Bool} {n : Nat} {c c' : List T} (hf : f = true → f' = true) (h : UpL c c') : UpT (.imm f n c) (.imm f' n c') := by simp only [UpT]; exact ⟨f', c', rfl, hf, h⟩
theorem upT_fn {f : Nat} {a a' b b' : List T} (h : UpL a a') (h' : UpL b b') : UpT (.fn f a b) (.fn f a' b') := by simp only [UpT]; exact ⟨a', b', rfl, h, h'⟩
theorem allLeaf_up {c c' : List T} (h : UpL c c') (hl : allLeaf c = true) : allLeaf c' = true := by unfold allLeaf at hl ⊢; rw [h.allLeaf]; exact hl
theorem opRes_up {op : AOp} {fr : Nat} {s s' : List T} {g g' : Mem} (hs : UpL s s') (hg : UpM g g') {r : Res} (h : opRes op fr s g = some r) : ∃ r', opRes op fr s' g' = some r' ∧ UpR r r' := by
  have hr := rho_up hs
  cases op <;> simp only [opRes] at h ⊢
  case mv x => exact up_pure h (hr x)
  case pick c a b =>
    have hc := hr c
    generalize rho s c = C at *
    cases C <;> (try simp only at h)
    case bool t =>
      rw [hc.bool]
      cases t
      · exact up_pure h (hr b)
      · exact up_pure h (hr a)
    all_goals cases h
  case alloc z => exact up_same h
  case box x =>
    have hc := (hr x).cells
    split at h
    · rename_i hl
      obtain rfl := Option.some.inj h
      rw [if_pos (allLeaf_up hc hl)]
      exact ⟨_, rfl, UpT.refl _, rfl, upE_one (upO_some hc)⟩
    · cases h
  case build z ps =>
    split at h
    · rename_i c hc
      obtain ⟨c', h1, h2⟩ := fill_up hs (UpL.refl z) hc
      rw [h1]
      exact up_pure h (upT_agg h2)
    · cases h
  case bsl z len es ps =>
    split at h
    · rename_i c hc
      obtain ⟨c', h1, h2⟩ := fill_up hs (UpL.refl z) hc
      rw [h1]
      split at h
      · rename_i hl
        obtain rfl := Option.some.inj h
        simp only
        rw [if_pos ⟨allLeaf_up h2 hl.1, by rw [h2.len]; exact hl.2⟩]
        exact ⟨_, rfl, UpT.refl _, rfl, upE_one (upO_some h2)⟩
      · cases h
    · cases h
  case load one n a =>
    have ha := hr a
    generalize rho s a = A at *
    cases A <;> (try simp only at h)
    case ptr t off =>
      rw [ha.ptr]
      simp only
      cases hc : g t with
      | none => rw [hc] at h; cases h
      | some c =>
        obtain ⟨c', h1, h2⟩ := hg.get hc
        rw [hc] at h
        rw [h1]
        simp only at h ⊢
        split at h
        · rename_i hb
          rw [if_pos (by rw [h2.len]; exact hb)]
          cases one with
          | true =>
            simp only [if_true] at h ⊢
            cases hx : c[off]? with
            | none => rw [hx] at h; cases h
            | some x =>
              obtain ⟨y, h3, h4⟩ := h2.get hx
              rw [hx] at h
              rw [h3]
              obtain rfl := Option.some.inj h
              exact ⟨_, rfl, h4, rfl, UpE.refl []⟩
          | false =>
            simp only [Bool.false_eq_true, if_false] at h ⊢
            obtain rfl := Option.some.inj h
            exact ⟨_, rfl, upT_agg (h2.cut _ _), rfl, UpE.refl []⟩
        · cases h
    case iptr c off =>
      obtain ⟨c', e, h2⟩ := ha.iptr
      rw [e]
      simp only
      split at h
      · rename_i hb
        rw [if_pos (by rw [h2.len]; exact hb)]
        cases one with
        | true =>
          simp only [if_true] at h ⊢
          cases hx : c[off]? with
          | none => rw [hx] at h; cases h
          | some x =>
            obtain ⟨y, h3, h4⟩ := h2.get hx
            rw [hx] at h
            rw [h3]
            exact up_pure h h4
        | false =>
          simp only [Bool.false_eq_true, if_false] at h ⊢
          exact up_pure h (upT_agg (h2.cut _ _))
      · cases h
    all_goals cases h
  case store n a x =>
    have ha := hr a
    have hx := (hr x).cells
    generalize rho s a = A at *
    cases A <;> (try simp only at h)
    case ptr t off =>
      rw [ha.ptr]
      simp only
      cases hc : g t with
      | none => rw [hc] at h; cases h
      | some c =>
        obtain ⟨c', h1, h2⟩ := hg.get hc
        rw [hc] at h
        rw [h1]
        simp only at h ⊢
        split at h
        · rename_i hb
          rw [if_pos ⟨by rw [h2.len]; exact hb.1, by rw [hx.len]; exact hb.2.1, allLeaf_up hx hb.2.2⟩]
          obtain rfl := Option.some.inj h
          exact ⟨_, rfl, UpT.refl _, rfl, upE_one (upO_some (h2.splice hx))⟩
        · cases h
    all_goals cases h
  case nilchk x =>
    have hx := hr x
    generalize rho s x = X at *
    cases X <;> (try simp only at h)
    case ptr t o => rw [hx.ptr]; exact up_same h
    case iptr c o => obtain ⟨c', e, h2⟩ := hx.iptr; rw [e]; exact up_pure h (upT_iptr h2)
    case fn f a b => obtain ⟨a', b', e, h2, h3⟩ := hx.fn; rw [e]; exact up_pure h (upT_fn h2 h3)
    all_goals cases h
  case bin op x y =>
    split at h
    · rename_i v hv
      rw [bin_up (hr x) (hr y) hv]
      exact up_same h
    · cases h
  case beq neg x y =>
    have hx := hr x
    have hy := hr y
    generalize rho s x = X at *
    generalize rho s y = Y at *
    split at h
    · rw [hx.bool, hy.bool]; exact up_same h
    · cases h
  case aeq neg ks x y =>
    have hx := hr x
    have hy := hr y
    generalize rho s x = X at *
    generalize rho s y = Y at *
    split at h
    · rename_i a b
      obtain ⟨a', e1, h1⟩ := hx.agg
      obtain ⟨b', e2, h2⟩ := hy.agg
      rw [e1, e2]
      split at h
      · rename_i hc
        rw [Bool.and_eq_true] at hc
        rw [conf_up h1 hc.1, conf_up h2 hc.2]
        simp only [hc.1, hc.2, Bool.and_self, if_true]
        exact up_same h
      · cases h
    · cases h
  case un op x =>
    split at h
    · rename_i v hv
      rw [un_up (hr x) hv]
      exact up_same h
    · cases h
  case conv k x =>
    have hx := hr x
    generalize rho s x = X at *
    split at h
    · rw [hx.int]; exact up_same h
    · cases h
  case mkfn f fs cs => exact up_pure h (upT_fn (rhos_up hs fs) (rhos_up hs cs))
  case mksl z es bytes n c =>
    split at h
    · rename_i n1 c1 hn hc
      rw [up_nat (hr n) hn, up_nat (hr c) hc]
      exact up_same h
    · cases h
  case slArr n es x lo hi mx =>
    split at h
    · rename_i l1 h1 m1 e1 e2 e3
      rw [up_bnd hs e1, up_bnd hs e2, up_bnd hs e3]
      simp only
      split at h
      · rename_i hcond
        rw [if_pos hcond]
        have hx := hr x
        generalize rho s x = X at *
        cases X <;> (try simp only at h)
        case ptr t off =>
          rw [hx.ptr]
          simp only
          cases hc : g t with
          | none => rw [hc] at h; cases h
          | some c =>
            obtain ⟨c', k1, k2⟩ := hg.get hc
            rw [hc] at h
            rw [k1]
            simp only at h ⊢
            split at h
            · rename_i hb
              rw [if_pos (by rw [k2.len]; exact hb)]
              exact up_same h
            · cases h
        case iptr c off =>
          obtain ⟨c', e, k2⟩ := hx.iptr
          rw [e]
          simp only
          split at h
          · rename_i hb
            rw [if_pos (by rw [k2.len]; exact hb)]
            exact up_pure h (upT_imm id (k2.cut _ _))
          · cases h
        all_goals cases h
      · cases h
    · cases h
  case slSl es x lo hi mx =>
    have hx := hr x
    generalize rho s x = X at *
    cases X <;> (try simp only at h)
    case imm full len c =>
      obtain ⟨f', c', e, hf, hc⟩ := hx.imm
      rw [e]
      simp only
      split at h
      · rename_i l1 h1 m1 e1 e2 e3
        rw [up_bnd hs e1, up_bnd hs e2, up_bnd hs e3]
        simp only
        split at h
        · rename_i hcond
          rw [if_pos hcond]
          refine up_pure h (upT_imm ?_ (hc.cut _ _))
          cases mx with
          | none =>
            simp only [Option.isSome_none, Bool.false_eq_true, if_false, Bool.and_eq_true]
            exact fun ⟨a, b⟩ => ⟨hf a, b⟩
          | some m => exact id
        · cases h
      · cases h
    case own t off len es' =>
      rw [hx.own]
      simp only
      split at h
      · rename_i l1 h1 m1 e1 e2 e3
        rw [up_bnd hs e1, up_bnd hs e2, up_bnd hs e3]
        exact up_same h
      · cases h
    all_goals cases h
  case faddr x off =>
    have hx := hr x
    generalize rho s x = X at *
    cases X <;> (try simp only at h)
    case ptr t o => rw [hx.ptr]; exact up_same h
    case iptr c o => obtain ⟨c', e, h2⟩ := hx.iptr; rw [e]; exact up_pure h (upT_iptr h2)
    all_goals cases h
  case field one off n x =>
    have hx := hr x
    generalize rho s x = X at *
    cases X <;> (try simp only at h)
    case agg c =>
      obtain ⟨c', e, h2⟩ := hx.agg
      rw [e]
      simp only
      split at h
      · rename_i hb
        rw [if_pos (by rw [h2.len]; exact hb)]
        cases one with
        | true =>
          simp only [if_true] at h ⊢
          cases hx : c[off]? with
          | none => rw [hx] at h; cases h
          | some x =>
            obtain ⟨y, h3, h4⟩ := h2.get hx
            rw [hx] at h
            rw [h3]
            exact up_pure h h4
        | false =>
          simp only [Bool.false_eq_true, if_false] at h ⊢
          exact up_pure h (upT_agg (h2.cut _ _))
      · cases h
    all_goals cases h
  case iarr n es x i =>
    split at h
    · rename_i i1 hi
      rw [up_nat (hr i) hi]
      simp only
      split at h
      · rename_i hb
        rw [if_pos hb]
        have hx := hr x
        generalize rho s x = X at *
        cases X <;> (try simp only at h)
        case ptr t o => rw [hx.ptr]; exact up_same h
        case iptr c o => obtain ⟨c', e, h2⟩ := hx.iptr; rw [e]; exact up_pure h (upT_iptr h2)
        all_goals cases h
      · cases h
    · cases h
  case isl es x i =>
    split at h
    · rename_i i1 hi
      rw [up_nat (hr i) hi]
      simp only
      have hx := hr x
      generalize rho s x = X at *
      cases X <;> (try simp only at h)
      case imm f len c =>
        obtain ⟨f', c', e, hf, hc⟩ := hx.imm
        rw [e]
        simp only
        split at h
        · rename_i hb
          rw [if_pos (by rw [hc.len]; exact hb)]
          exact up_pure h (upT_iptr hc)
        · cases h
      case own t off len es' => rw [hx.own]; exact up_same h
      all_goals cases h
    · cases h
  case index one n es x i =>
    split at h
    · rename_i i1 hi
      rw [up_nat (hr i) hi]
      simp only
      have hx := hr x
      generalize rho s x = X at *
      cases X <;> (try simp only at h)
      case agg c =>
        obtain ⟨c', e, h2⟩ := hx.agg
        rw [e]
        simp only
        split at h
        · rename_i hb
          rw [if_pos (by rw [h2.len]; exact hb)]
          cases one with
          | true =>
            simp only [if_true] at h ⊢
            cases hx : c[i1 * es]? with
            | none => rw [hx] at h; cases h
            | some x =>
              obtain ⟨y, h3, h4⟩ := h2.get hx
              rw [hx] at h
              rw [h3]
              exact up_pure h h4
          | false =>
            simp only [Bool.false_eq_true, if_false] at h ⊢
            exact up_pure h (upT_agg (h2.cut _ _))
        · cases h
      all_goals cases h
    · cases h
  case extract x i =>
    have hx := hr x
    generalize rho s x = X at *
    cases X <;> (try simp only at h)
    case tup l =>
      obtain ⟨l', e, h2⟩ := hx.tup
      rw [e]
      simp only
      cases hx : l[i]? with
      | none => rw [hx] at h; cases h
      | some x =>
        obtain ⟨y, h3, h4⟩ := h2.get hx
        rw [hx] at h
        rw [h3]
        exact up_pure h h4
    all_goals cases h
  case len x =>
    have hx := hr x
    generalize rho s x = X at *
    cases X <;> (try simp only at h)
    case imm f len c => obtain ⟨f', c', e, hf, hc⟩ := hx.imm; rw [e]; exact up_same h
    case own t off len es' => rw [hx.own]; exact up_same h
    all_goals cases h
  case append es bytes sl x =>
    split at h
    · rename_i n new rd hcell
      obtain ⟨new', h1, h2⟩ := cellsOf_up hg (hr x) hcell
      rw [h1]
      simp only
      have hx := hr sl
      generalize rho s sl = X at *
      split at h
      · rename_i hn
        rw [if_pos hn]
        split at h
        · rename_i hnl
          rw [if_pos (by rw [h2.len]; exact hnl)]
          cases X <;> (try simp only at h)
          case imm f len c =>
            obtain ⟨f', c', e, hf, hc⟩ := hx.imm
            rw [e]
            obtain rfl := Option.some.inj h
            exact ⟨_, rfl, upT_imm hf hc, rfl, UpE.refl []⟩
          case own t off len es' => rw [hx.own]; exact up_same h
          all_goals cases h
        · cases h
      · rename_i hn
        rw [if_neg hn]
        split at h
        · rename_i hb
          rw [if_pos ⟨by rw [h2.len]; exact hb.1, allLeaf_up h2 hb.2⟩]
          cases X <;> (try simp only at h)
          case imm f len c =>
            cases f with
            | false => cases h
            | true =>
              obtain ⟨f', c', e, hf, hc⟩ := hx.imm
              have := hf rfl
              subst this
              rw [e]
              simp only at h ⊢
              split at h
              · rename_i hb2
                rw [if_pos ⟨hb2.1, hb2.2.1, by rw [hc.len]; exact hb2.2.2.1, allLeaf_up hc hb2.2.2.2⟩]
                obtain rfl := Option.some.inj h
                exact ⟨_, rfl, UpT.refl _, rfl, upE_one (upO_some (hc.append h2))⟩
              · cases h
          case own t off len es' =>
            rw [hx.own]
            simp only
            split at h
            · rename_i hb2
              rw [if_pos hb2]
              cases hc : g t with
              | none => rw [hc] at h; cases h
              | some c =>
                obtain ⟨c', k1, k2⟩ := hg.get hc
                rw [hc] at h
                rw [k1]
                simp only at h ⊢
                split at h
                · rename_i hb3
                  rw [if_pos (by rw [k2.len]; exact hb3)]
                  obtain rfl := Option.some.inj h
                  exact ⟨_, rfl, UpT.refl _, rfl, upE_two rfl (upO_some ((k2.cut _ _).append h2))⟩
                · cases h
            · cases h
          all_goals cases h
        · cases h
    · cases h
  case copy es d x =>
    split at h
    · rename_i n new rd t off len es' hcell hd
      obtain ⟨new', h1, h2⟩ := cellsOf_up hg (hr x) hcell
      have hx := hr d
      rw [hd] at hx
      rw [h1, hx.own]
      simp only
      cases hc : g t with
      | none => rw [hc] at h; cases h
      | some c =>
        obtain ⟨c', k1, k2⟩ := hg.get hc
        rw [hc] at h
        rw [k1]
        simp only at h ⊢
        split at h
        · rename_i hb
          rw [if_pos ⟨hb.1, by rw [k2.len]; exact hb.2.1, by rw [h2.len]; exact hb.2.2.1, allLeaf_up h2 hb.2.2.2⟩]
          obtain rfl := Option.some.inj h
          exact ⟨_, rfl, UpT.refl _, rfl, upE_one (upO_some (k2.splice (h2.take _)))⟩
        · cases h
    · cases h
  case mn args =>
    split at h
    · rename_i v hv
      obtain ⟨v', h1, h2⟩ := min_up (rhos_up hs args) hv
      rw [h1]
      exact up_pure h h2
    · cases h
  case mx args =>
    split at h
    · rename_i v hv
      obtain ⟨v', h1, h2⟩ := max_up (rhos_up hs args) hv
      rw [h1]
      exact up_pure h h2
    · cases h
  all_goals cases h

set_option maxHeartbeats 2000000
def UpS (a b : St) : Prop := UpL a.s b.s ∧ UpM a.g b.g ∧ b.nx = a.nx
def Up (a : Run) : Prop := ∀ c st st' e r, UpS st st' → a c st = some (e, r) → ∃ r', a c st' = some (e, r') ∧ UpS r r'
theorem resOne_up {s s' : List T} {g g' : Mem} (hs : UpL s s') (hg : UpM g g') {r : ARes} {v : T} (h : resOne s g r = some v) : ∃ v', resOne s' g' r = some v' ∧ UpT v v' := by
  cases r with
  | tmp t =>
    obtain rfl := Option.some.inj h
    exact ⟨_, rfl, rho_up hs _⟩
  | cell t one n =>
    unfold resOne at h ⊢
    simp only at h ⊢
    split at h
    · rename_i q hq
      obtain ⟨q', h1, h2, _⟩ := opRes_up hs hg hq
      obtain rfl := Option.some.inj h
      rw [h1]
      exact ⟨_, rfl, h2⟩
    · cases h
theorem resL_up {s s' : List T} {g g' : Mem} (hs : UpL s s') (hg : UpM g g') : ∀ {l : List ARes} {v : List T}, resL s g l = some v → ∃ v', resL s' g' l = some v' ∧ UpL v v'
  | [], v, h => by
    obtain rfl := Option.some.inj h
    exact ⟨[], rfl, UpL.nil⟩
  | r :: l, v, h => by
    simp only [resL] at h
    split at h
    · rename_i x xs e1 e2
      obtain rfl := Option.some.inj h
      obtain ⟨x', h1, h2⟩ := resOne_up hs hg e1
      obtain ⟨xs', h3, h4⟩ := resL_up hs hg e2
      exact ⟨_, by simp only [resL, h1, h3], UpL.cons h2 h4⟩
    · cases h
theorem resT_up {s s' : List T} {g g' : Mem} (hs : UpL s s') (hg : UpM g g') {l : List ARes} {v : T} (h : resT s g l = some v) : ∃ v', resT s' g' l = some v' ∧ UpT v v' := by
  unfold resT at h
  split at h
  · rename_i x e
    obtain rfl := Option.some.inj h
    obtain ⟨q, h1, h2⟩ := resL_up hs hg e
    simp only [UpL] at h2
    obtain ⟨y, ys, rfl, h3, rfl⟩ := h2
    exact ⟨y, by unfold resT; rw [h1], h3⟩
  · rename_i q hne e
    obtain rfl := Option.some.inj h
    obtain ⟨q', h1, h2⟩ := resL_up hs hg e
    refine ⟨.tup q', ?_, upT_tup h2⟩
    unfold resT
    rw [h1]
    match q', h2 with
    | [], _ => rfl
    | [y], h2 =>
      have hl := h2.len
      match q, hl with
      | [x], _ => exact absurd rfl (hne x)
    | _ :: _ :: _, _ => rfl
  · cases h
theorem runBody_up {a : Run} (ha : Up a) {F : AFun} {args args' : List T} {g g' : Mem} {nx : Nat} {r : T × Mem × Nat} (hs : UpL args args') (hg : UpM g g') (h : runBody a F args g nx = some r) : ∃ v' m', runBody a F args' g' nx = some (v', m', r.2.2) ∧ UpT r.1 v' ∧ UpM r.2.1 m' := by
  unfold runBody at h
  split at h
  · rename_i e st he
    have hl := hs.len
    obtain ⟨st', h1, h2, h3, h4⟩ := ha _ ⟨args ++ List.replicate (F.ntmps - args.length) .undef, g, nx⟩ ⟨args' ++ List.replicate (F.ntmps - args'.length) .undef, g', nx⟩ _ _ ⟨by show UpL (args ++ List.replicate (F.ntmps - args.length) T.undef) (args' ++ List.replicate (F.ntmps - args'.length) T.undef); rw [hl]; exact hs.append (UpL.refl _), hg, rfl⟩ he
    split at h
    · rename_i hlv
      split at h
      · rename_i v hv
        obtain ⟨v', h5, h6⟩ := resT_up h2 h3 hv
        obtain rfl := Option.some.inj h
        exact ⟨v', st'.g, by unfold runBody; rw [h1]; simp only [hlv, if_true, h5, h4], h6, h3⟩
      · cases h
    · cases h
  · cases h
theorem runPure_up {a : Run} (ha : Up a) {F : AFun} {args args' : List T} {v : T} (hs : UpL args args') (h : runPure a F args = some v) : ∃ v', runPure a F args' = some v' ∧ UpT v v' := by
  unfold runPure at h
  split at h
  · rename_i x g nx e
    split at h
    · rename_i y is hf
      obtain rfl := Option.some.inj h
      obtain ⟨x', m', h1, h2, h3⟩ := runBody_up ha hs (UpM.refl _) e
      obtain ⟨y', h4, h5⟩ := frz_up (h := ⟨g, nx⟩) (h' := ⟨m', nx⟩) h3 _ _ _ _ _ h2 hf
      exact ⟨y', by unfold runPure; rw [h1]; simp only [h4], h5⟩
    · cases h
  · cases h
theorem frzL_up {g g' : Mem} (hg : UpM g g') {d : Nat} : ∀ {l l' : List T} {m : List T} {is : List Nat}, UpL l l' → frzL ⟨g, 0⟩ d l = some (m, is) → ∃ m', frzL ⟨g', 0⟩ d l' = some (m', is) ∧ UpL m m' := by
  intro l l' m is h he
  unfold frzL at he ⊢
  exact frzAll_up (fun x y u is hx hu => frz_up (h := ⟨g, 0⟩) (h' := ⟨g', 0⟩) hg d x y u is hx hu) h he
theorem callPure_up {a : Run} (ha : Up a) {F : AFun} {args args' : List T} {g g' : Mem} {r : Res} (hs : UpL args args') (hg : UpM g g') (h : callPure a F args g = some r) : ∃ r', callPure a F args' g' = some r' ∧ UpR r r' := by
  unfold callPure at h
  split at h
  · rename_i l is hf
    split at h
    · rename_i v hv
      obtain rfl := Option.some.inj h
      obtain ⟨l', h1, h2⟩ := frzL_up hg hs hf
      obtain ⟨v', h3, h4⟩ := runPure_up ha h2 hv
      exact ⟨⟨v', is, if v.flat then [] else is.map fun t => (t, none)⟩, by unfold callPure; rw [h1]; simp only [h3]; rw [h4.flat], h4, rfl, UpE.refl _⟩
    · cases h
  · cases h
theorem cellsOf_none {g g' : Mem} (hg : UpM g g') {es : Nat} {x y : T} (hx : UpT x y) (h : cellsOf g es x = none) : cellsOf g' es y = none := by
  cases x <;> simp only [cellsOf] at h
  case imm => cases h
  case own t off len es' =>
    obtain rfl := hx.own
    simp only [cellsOf]
    split at h
    · rename_i he
      rw [if_pos he]
      have hgt := hg t
      split at h
      · rename_i c hc
        rw [hc] at hgt
        obtain ⟨c', h1, h2⟩ := hgt
        rw [h1]
        simp only
        split at h
        · cases h
        · rename_i hb; rw [if_neg (by rw [h2.len]; exact hb)]
      · rename_i hc
        rw [hc] at hgt
        have hgt : g' t = none := hgt
        rw [hgt]
    · rename_i he; rw [if_neg he]
  case int => rw [hx.int]; rfl
  case bool => rw [hx.bool]; rfl
  case ptr => rw [hx.ptr]; rfl
  case undef => rw [hx.undef]; rfl
  case iptr => obtain ⟨c', rfl, _⟩ := hx.iptr; rfl
  case agg => obtain ⟨c', rfl, _⟩ := hx.agg; rfl
  case tup => obtain ⟨c', rfl, _⟩ := hx.tup; rfl
  case fn => obtain ⟨_, _, rfl, _⟩ := hx.fn; rfl
  all_goals (simp only [UpT] at hx; rw [hx]; rfl)
theorem allLeaf_eq {c c' : List T} (h : UpL c c') : allLeaf c' = allLeaf c := by unfold allLeaf; rw [h.allLeaf]
theorem cloneRes_up {es bytes fr : Nat} {args args' : List T} {g g' : Mem} (hs : UpL args args') (hg : UpM g g') : (∀ r, cloneRes es bytes fr args g = some r → ∃ r', cloneRes es bytes fr args' g' = some r' ∧ UpR r r') ∧ (cloneRes es bytes fr args g = none → cloneRes es bytes fr args' g' = none) := by
  match args, args', hs with
  | [], l, hs => simp only [UpL] at hs; subst hs; exact ⟨fun r h => absurd (show (none : Option Res) = some r from h) (by simp), fun _ => rfl⟩
  | [x], l, hs =>
    simp only [UpL] at hs
    obtain ⟨y, ys, rfl, hx, rfl⟩ := hs
    cases hc : cellsOf g es x with
    | none =>
      have := cellsOf_none hg hx hc
      constructor
      · intro r h; unfold cloneRes at h; simp only [hc] at h; cases h
      · intro _; unfold cloneRes; simp only [this]
    | some q =>
      obtain ⟨n, c, rd⟩ := q
      obtain ⟨c', h1, h2⟩ := cellsOf_up hg hx hc
      have hcond : (c'.length = n * es ∧ allLeaf c' = true ∧ n * bytes ≤ room ∧ n ≤ room) ↔ (c.length = n * es ∧ allLeaf c = true ∧ n * bytes ≤ room ∧ n ≤ room) := by rw [h2.len, allLeaf_eq h2]
      constructor
      · intro r h
        unfold cloneRes at h ⊢
        simp only [hc] at h
        simp only [h1]
        split at h
        · rename_i hb
          rw [if_pos (hcond.mpr hb)]
          split at h
          · rename_i h0
            rw [if_pos h0]
            obtain rfl := Option.some.inj h
            exact ⟨_, rfl, UpT.refl _, rfl, UpE.refl _⟩
          · rename_i h0
            rw [if_neg h0]
            obtain rfl := Option.some.inj h
            exact ⟨_, rfl, UpT.refl _, rfl, upE_one (upO_some h2)⟩
        · cases h
      · intro h
        unfold cloneRes at h ⊢
        simp only [hc] at h
        simp only [h1]
        split at h
        · split at h <;> cases h
        · rename_i hb
          rw [if_neg (fun hh => hb (hcond.mp hh))]
  | x :: y :: l, l', hs =>
    have hl := hs.len
    match l', hl with
    | _ :: _ :: _, _ => exact ⟨fun r h => absurd (show (none : Option Res) = some r from h) (by simp), fun _ => rfl⟩
theorem callee_up {s s' : List T} (hs : UpL s s') {op : AOp} {f : Nat} {args : List T} (h : callee s op = some (f, args)) : ∃ args', callee s' op = some (f, args') ∧ UpL args args' := by
  cases op <;> simp only [callee] at h
  case call f' l =>
    simp only [Option.some.injEq, Prod.mk.injEq] at h
    obtain ⟨rfl, rfl⟩ := h
    exact ⟨_, rfl, rhos_up hs _⟩
  case callv x l =>
    have hx := rho_up hs x
    split at h
    · rename_i q fs cs e
      rw [e] at hx
      obtain ⟨fs', cs', e', h1, h2⟩ := hx.fn
      simp only [Option.some.injEq, Prod.mk.injEq] at h
      obtain ⟨rfl, rfl⟩ := h
      exact ⟨_, by simp only [callee, e'], (h1.append (rhos_up hs _)).append h2⟩
    · cases h
  all_goals cases h
theorem callee_none {s s' : List T} (hs : UpL s s') {op : AOp} {fr : Nat} {g : Mem} {r : Res} (h : callee s op = none) (ho : opRes op fr s g = some r) : callee s' op = none := by
  cases op <;> simp only [callee] at h ⊢ <;> first | (cases h; done) | (cases ho; done)
theorem still1_up {x y : T} (h : UpT x y) : still1 y = still1 x := by
  cases x <;> simp only [UpT] at h
  case imm => obtain ⟨_, _, rfl, _⟩ := h; rfl
  case iptr => obtain ⟨_, rfl, _⟩ := h; rfl
  case agg => obtain ⟨_, rfl, _⟩ := h; rfl
  case tup => obtain ⟨_, rfl, _⟩ := h; rfl
  case fn => obtain ⟨_, _, rfl, _⟩ := h; rfl
  all_goals rw [h]
theorem all_up {f : T → Bool} (hf : ∀ x y, UpT x y → f y = f x) : ∀ {l l' : List T}, UpL l l' → l'.all f = l.all f
  | [], l', h => by simp only [UpL] at h; rw [h]
  | x :: l, l', h => by
    simp only [UpL] at h
    obtain ⟨v, vs, rfl, h1, h2⟩ := h
    rw [List.all_cons, List.all_cons, hf _ _ h1, all_up hf h2]
theorem still_up {x y : T} (h : UpT x y) : y.still = x.still := by
  have h0 := still1_up h
  cases x <;> simp only [UpT] at h
  case imm => obtain ⟨_, _, rfl, _⟩ := h; rfl
  case iptr => obtain ⟨_, rfl, _⟩ := h; rfl
  case agg l => obtain ⟨l', rfl, h⟩ := h; exact all_up (fun x y => still1_up) h
  case tup => obtain ⟨_, rfl, _⟩ := h; rfl
  case fn => obtain ⟨_, _, rfl, _⟩ := h; rfl
  all_goals rw [h]
theorem calm_up {F : AFun} {args args' : List T} (h : UpL args args') : F.calm args' = F.calm args := by
  unfold AFun.calm; rw [all_up (fun x y => still_up) h]
theorem evR_up {AP : AProg} {a : Run} (ha : Up a) {fr : Nat} {op : AOp} {s s' : List T} {g g' : Mem} (hs : UpL s s') (hg : UpM g g') {r : Res} (h : evR AP a fr op s g = some r) : ∃ r', evR AP a fr op s' g' = some r' ∧ UpR r r' := by
  unfold evR at h
  split at h
  · rename_i f args hc
    obtain ⟨args', h1, h2⟩ := callee_up hs hc
    unfold evR
    rw [h1]
    simp only
    split at h
    · rename_i F hF
      try simp only [hF]
      split at h
      · exact (cloneRes_up h2 hg).1 _ h
      · rename_i hn
        split at h
        · rename_i hp
          rw [calm_up h2, if_pos hp]
          exact callPure_up ha h2 hg h
        · cases h
    · cases h
  · rename_i hc
    unfold evR
    rw [callee_none hs hc h]
    exact opRes_up hs hg h
theorem evI_up {AP : AProg} {a : Run} (ha : Up a) {fr : Nat} {op : AOp} {s s' : List T} {g g' : Mem} {nx : Nat} (hs : UpL s s') (hg : UpM g g') {r : T × Mem × Nat} (h : evI AP a op s g nx = some r) (hr : evR AP a fr op s g = none) : (∃ v' m', evI AP a op s' g' nx = some (v', m', r.2.2) ∧ UpT r.1 v' ∧ UpM r.2.1 m') ∧ evR AP a fr op s' g' = none := by
  unfold evI at h
  split at h
  · rename_i f args hc
    obtain ⟨args', h1, h2⟩ := callee_up hs hc
    unfold evR at hr
    rw [hc] at hr
    simp only at hr
    split at h
    · rename_i F hF
      rw [hF] at hr
      simp only at hr
      split at h
      · cases h
      · rename_i hp
        constructor
        · obtain ⟨v', m', h3, h4, h5⟩ := runBody_up ha h2 hg h
          exact ⟨v', m', by unfold evI; rw [h1]; simp only [hF]; rw [calm_up h2, if_neg hp]; exact h3, h4, h5⟩
        · unfold evR
          rw [h1]
          simp only [hF]
          split at hr
          · rename_i hn
            try simp only [hn]
            exact (cloneRes_up h2 hg).2 hr
          · rename_i hn
            try simp only [hn]
            rw [calm_up h2, if_neg hp]
    · cases h
  · cases h
theorem guardT_up {s s' : List T} (hs : UpL s s') {o : Option (Nat × Bool)} {b : Bool} (h : guardT s o = some b) : guardT s' o = some b := by
  cases o with
  | none => exact h
  | some p =>
    obtain ⟨t, want⟩ := p
    have hx := rho_up hs (.tmp t)
    unfold guardT at h ⊢
    try simp only at h ⊢
    split at h
    · rename_i c e; rw [e] at hx; rw [hx.bool]; exact h
    · rename_i e; rw [e] at hx; rw [hx.undef]; exact h
    · cases h
theorem setDst_up {s s' : List T} (hs : UpL s s') {v v' : T} (hv : UpT v v') (d : Option Nat) : UpL (setDst s d v) (setDst s' d v') := by
  cases d with
  | none => exact hs
  | some d => exact hs.set d hv
theorem evOp_up {AP : AProg} {a : Run} (ha : Up a) {fr : Nat} {o : AOper} {st st' : St} (hs : UpS st st') {r : St × Fp} (h : evOp AP a fr o st = some r) : ∃ q, evOp AP a fr o st' = some (q, r.2) ∧ UpS r.1 q := by
  obtain ⟨hs, hg, hn⟩ := hs
  unfold evOp at h
  split at h
  · rename_i q hq
    obtain rfl := Option.some.inj h
    have : ∃ q', evG AP a fr o st'.s st'.g = some q' ∧ UpR q q' := by
      unfold evG at hq ⊢
      split at hq
      · rename_i hgd
        rw [guardT_up hs hgd]
        exact evR_up ha hs hg hq
      · rename_i hgd
        rw [guardT_up hs hgd]
        obtain rfl := Option.some.inj hq
        exact ⟨_, rfl, UpT.refl _, rfl, UpE.refl _⟩
      · cases hq
    obtain ⟨q', h1, h2, h3, h4⟩ := this
    refine ⟨⟨setDst st'.s o.dst q'.v, putAll st'.g q'.ed, st'.nx⟩, by unfold evOp; rw [h1]; simp only [h3, h4.ids], setDst_up hs h2 _, hg.putAll h4, hn⟩
  · rename_i hq
    split at h
    · rename_i hgd
      split at h
      · rename_i v g nx hI
        obtain rfl := Option.some.inj h
        have h0 : evR AP a fr o.op st.s st.g = none := by
          unfold evG at hq
          rw [hgd] at hq
          exact hq
        obtain ⟨⟨v', m', h1, h2, h3⟩, h4⟩ := evI_up ha hs hg hI h0
        have h5 := guardT_up hs hgd
        refine ⟨⟨setDst st'.s o.dst v', m', nx⟩, ?_, setDst_up hs h2 _, h3, rfl⟩
        unfold evOp
        have h6 : evG AP a fr o st'.s st'.g = none := by unfold evG; rw [h5]; exact h4
        rw [h6]
        simp only [h5]
        rw [hn, h1]
      · cases h
    · cases h
theorem evOps_up {AP : AProg} {a : Run} (ha : Up a) : ∀ {ops : List AOper} {fr : Nat} {st st' : St} {r : St × List Fp}, UpS st st' → evOps AP a fr ops st = some r → ∃ q, evOps AP a fr ops st' = some (q, r.2) ∧ UpS r.1 q
  | [], fr, st, st', r, hs, h => by
    obtain rfl := Option.some.inj h
    exact ⟨st', rfl, hs⟩
  | o :: ops, fr, st, st', r, hs, h => by
    simp only [evOps] at h
    split at h
    · rename_i st1 fp h1
      split at h
      · rename_i st2 fps h2
        obtain rfl := Option.some.inj h
        obtain ⟨q, h3, h4⟩ := evOp_up ha hs h1
        obtain ⟨q2, h5, h6⟩ := evOps_up ha h4 h2
        exact ⟨q2, by simp only [evOps, h3, h5], h6⟩
      · cases h
    · cases h
theorem killAll_up : ∀ (l : List Nat) {s s' : List T}, UpL s s' → UpL (killAll s l) (killAll s' l)
  | [], _, _, h => h
  | t :: l, s, s', h => killAll_up l (h.set t (UpT.refl .junk))
theorem evStep_up {AP : AProg} {a : Run} (ha : Up a) : Up (evStep AP a) := by
  intro c st st' e r hs h
  cases c <;> simp only [evStep] at h ⊢
  case skip | label | exit | ret | goto =>
    simp only [Option.some.injEq, Prod.mk.injEq] at h
    obtain ⟨rfl, rfl⟩ := h
    exact ⟨st', rfl, hs⟩
  case region ops chk =>
    unfold evRegion at h ⊢
    split at h
    · rename_i st1 fps he
      obtain ⟨q, h1, h2⟩ := evOps_up ha (st := ⟨st.s, st.g, st.nx + ops.length⟩) (st' := ⟨st'.s, st'.g, st'.nx + ops.length⟩) ⟨hs.1, hs.2.1, by show st'.nx + ops.length = st.nx + ops.length; rw [hs.2.2]⟩ he
      rw [hs.2.2] at h1 ⊢
      rw [h1]
      simp only
      split at h
      · rename_i hc
        simp only [Option.some.injEq, Prod.mk.injEq] at h
        obtain ⟨rfl, rfl⟩ := h
        rw [if_pos hc]
        exact ⟨q, rfl, h2⟩
      · cases h
    · cases h
  case seq x y =>
    split at h
    · rename_i s1 h1
      obtain ⟨q, h2, h3⟩ := ha _ _ _ _ _ hs h1
      rw [h2]
      exact ha _ _ _ _ _ h3 h
    · rename_i hn
      obtain ⟨q, h2, h3⟩ := ha _ _ _ _ _ hs h
      rw [h2]
      refine ⟨q, ?_, h3⟩
      split
      · rename_i s2 e2
        simp only [Option.some.injEq, Prod.mk.injEq] at e2
        obtain ⟨rfl, rfl⟩ := e2
        exact absurd h (hn r)
      · rfl
  case cond x y z =>
    have hx := rho_up hs.1 x
    split at h
    · rename_i e1; rw [e1] at hx; rw [hx.bool]; exact ha _ _ _ _ _ hs h
    · rename_i e1; rw [e1] at hx; rw [hx.bool]; exact ha _ _ _ _ _ hs h
    · cases h
  case block i x =>
    split at h
    · rename_i j s1 h1
      obtain ⟨q, h2, h3⟩ := ha _ _ _ _ _ hs h1
      rw [h2]
      simp only
      split at h
      · rename_i hj
        simp only [Option.some.injEq, Prod.mk.injEq] at h
        obtain ⟨rfl, rfl⟩ := h
        rw [if_pos hj]
        exact ⟨q, rfl, h3⟩
      · rename_i hj
        simp only [Option.some.injEq, Prod.mk.injEq] at h
        obtain ⟨rfl, rfl⟩ := h
        rw [if_neg hj]
        exact ⟨q, rfl, h3⟩
    · rename_i hn
      obtain ⟨q, h2, h3⟩ := ha _ _ _ _ _ hs h
      rw [h2]
      refine ⟨q, ?_, h3⟩
      split
      · rename_i j s2 e2
        simp only [Option.some.injEq, Prod.mk.injEq] at e2
        obtain ⟨rfl, rfl⟩ := e2
        exact absurd h (hn j r)
      · rfl
  case loop x =>
    split at h
    · rename_i s1 h1
      obtain ⟨q, h2, h3⟩ := ha _ _ _ _ _ hs h1
      rw [h2]
      exact ha _ _ _ _ _ h3 h
    · rename_i hn
      obtain ⟨q, h2, h3⟩ := ha _ _ _ _ _ hs h
      rw [h2]
      refine ⟨q, ?_, h3⟩
      split
      · rename_i s2 e2
        simp only [Option.some.injEq, Prod.mk.injEq] at e2
        obtain ⟨rfl, rfl⟩ := e2
        exact absurd h (hn r)
      · rfl
  case scope x y =>
    split at h
    · rename_i l s1 h1
      obtain ⟨q, h2, h3⟩ := ha _ _ _ _ _ hs h1
      rw [h2]
      simp only
      split at h
      · rename_i w hw
        try simp only [hw]
        exact ha _ _ _ _ _ h3 h
      · cases h
    · rename_i hn
      obtain ⟨q, h2, h3⟩ := ha _ _ _ _ _ hs h
      rw [h2]
      refine ⟨q, ?_, h3⟩
      split
      · rename_i j s2 e2
        simp only [Option.some.injEq, Prod.mk.injEq] at e2
        obtain ⟨rfl, rfl⟩ := e2
        exact absurd h (hn j r)
      · rfl
  case kill l x => exact ha _ ⟨killAll st.s l, st.g, st.nx⟩ _ _ _ ⟨killAll_up l hs.1, hs.2⟩ h
theorem ev_up (AP : AProg) : ∀ k, Up (ev AP k)
  | 0 => fun _ _ _ _ _ _ h => by simp [ev] at h
  | k + 1 => evStep_up (ev_up AP k)
theorem E.up {AP : AProg} {f : Nat} {args args' : List T} {v : T} (h : E AP f args v) (ha : UpL args args') : ∃ v', E AP f args' v' ∧ UpT v v' := by
  obtain ⟨k, h⟩ := h.get
  unfold evF at h
  split at h
  · rename_i F hF
    split at h
    · rename_i hp
      obtain ⟨v', h1, h2⟩ := runPure_up (ev_up AP k) ha h
      refine ⟨v', E_of (k := k) ?_, h2⟩
      unfold evF
      rw [hF]
      simp only [hp, if_true, h1]
    · cases h
  · cases h
end Go.Proofs.Ytabfinhkoihhfaa.Abs
