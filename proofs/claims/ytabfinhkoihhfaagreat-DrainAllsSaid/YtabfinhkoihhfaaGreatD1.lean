/- Trees that tell of more room: what runs on one tree runs on each that says no less of its capacities. -/
import Derived.Test.YtabfinhkoihhfaaGreatC7
namespace Go.Proofs.YtabfinhkoihhfaaGreat.Abs
open Go Go.RowKit
set_option linter.unusedVariables false
set_option linter.unusedSimpArgs false
set_option linter.unnecessarySimpa false
set_option maxRecDepth 100000
set_option maxHeartbeats 1000000

mutual
/-- The second tells what the first tells, and no less of capacities. -/
def UpT : T → T → Prop
  | .imm f n c, y => ∃ f' c', y = .imm f' n c' ∧ (f = true → f' = true) ∧ UpL c c'
  | .iptr c o, y => ∃ c', y = .iptr c' o ∧ UpL c c'
  | .agg l, y => ∃ l', y = .agg l' ∧ UpL l l'
  | .tup l, y => ∃ l', y = .tup l' ∧ UpL l l'
  | .fn f a b, y => ∃ a' b', y = .fn f a' b' ∧ UpL a a' ∧ UpL b b'
  | .int k n, y => y = .int k n
  | .bool b, y => y = .bool b
  | .str s, y => y = .str s
  | .own t o n e, y => y = .own t o n e
  | .ptr t o, y => y = .ptr t o
  | .undef, y => y = .undef
  | .junk, y => y = .junk
def UpL : List T → List T → Prop
  | [], l => l = []
  | c :: cs, l => ∃ v vs, l = v :: vs ∧ UpT c v ∧ UpL cs vs
end
mutual
theorem UpT.refl : ∀ x : T, UpT x x
  | .imm f n c => by simp only [UpT]; exact ⟨f, c, rfl, id, UpL.refl c⟩
  | .iptr c o => by simp only [UpT]; exact ⟨c, rfl, UpL.refl c⟩
  | .agg l => by simp only [UpT]; exact ⟨l, rfl, UpL.refl l⟩
  | .tup l => by simp only [UpT]; exact ⟨l, rfl, UpL.refl l⟩
  | .fn f a b => by simp only [UpT]; exact ⟨a, b, rfl, UpL.refl a, UpL.refl b⟩
  | .int _ _ | .bool _ | .str _ | .own _ _ _ _ | .ptr _ _ | .undef | .junk => by simp only [UpT]
theorem UpL.refl : ∀ l : List T, UpL l l
  | [] => by simp only [UpL]
  | c :: cs => by simp only [UpL]; exact ⟨c, cs, rfl, UpT.refl c, UpL.refl cs⟩
end
mutual
theorem UpT.trans : ∀ {x y z : T}, UpT x y → UpT y z → UpT x z
  | .imm f n c, y, z, h, h' => by
    simp only [UpT] at h ⊢
    obtain ⟨f', c', rfl, h1, h2⟩ := h
    simp only [UpT] at h'
    obtain ⟨f'', c'', rfl, h3, h4⟩ := h'
    exact ⟨f'', c'', rfl, fun e => h3 (h1 e), UpL.trans h2 h4⟩
  | .iptr c o, y, z, h, h' => by
    simp only [UpT] at h ⊢
    obtain ⟨c', rfl, h2⟩ := h
    simp only [UpT] at h'
    obtain ⟨c'', rfl, h4⟩ := h'
    exact ⟨c'', rfl, UpL.trans h2 h4⟩
  | .agg c, y, z, h, h' => by
    simp only [UpT] at h ⊢
    obtain ⟨c', rfl, h2⟩ := h
    simp only [UpT] at h'
    obtain ⟨c'', rfl, h4⟩ := h'
    exact ⟨c'', rfl, UpL.trans h2 h4⟩
  | .tup c, y, z, h, h' => by
    simp only [UpT] at h ⊢
    obtain ⟨c', rfl, h2⟩ := h
    simp only [UpT] at h'
    obtain ⟨c'', rfl, h4⟩ := h'
    exact ⟨c'', rfl, UpL.trans h2 h4⟩
  | .fn f a b, y, z, h, h' => by
    simp only [UpT] at h ⊢
    obtain ⟨a', b', rfl, h1, h2⟩ := h
    simp only [UpT] at h'
    obtain ⟨a'', b'', rfl, h3, h4⟩ := h'
    exact ⟨a'', b'', rfl, UpL.trans h1 h3, UpL.trans h2 h4⟩
  | .int _ _, y, z, h, h' | .bool _, y, z, h, h' | .str _, y, z, h, h' | .own _ _ _ _, y, z, h, h' | .ptr _ _, y, z, h, h' | .undef, y, z, h, h' | .junk, y, z, h, h' => by
    simp only [UpT] at h
    rw [h] at h'
    exact h'
theorem UpL.trans : ∀ {x y z : List T}, UpL x y → UpL y z → UpL x z
  | [], y, z, h, h' => by
    simp only [UpL] at h
    rw [h] at h'
    exact h'
  | c :: cs, y, z, h, h' => by
    simp only [UpL] at h ⊢
    obtain ⟨v, vs, rfl, h1, h2⟩ := h
    simp only [UpL] at h'
    obtain ⟨w, ws, rfl, h3, h4⟩ := h'
    exact ⟨w, ws, rfl, UpT.trans h1 h3, UpL.trans h2 h4⟩
end
theorem UpL.nil : UpL [] [] := UpL.refl []
theorem UpL.cons {x y : T} {l l' : List T} (h : UpT x y) (hl : UpL l l') : UpL (x :: l) (y :: l') := by simp only [UpL]; exact ⟨y, l', rfl, h, hl⟩
theorem UpL.len : ∀ {l l' : List T}, UpL l l' → l'.length = l.length
  | [], l', h => by simp only [UpL] at h; rw [h]
  | x :: l, l', h => by
    simp only [UpL] at h
    obtain ⟨v, vs, rfl, _, h2⟩ := h
    rw [List.length_cons, List.length_cons, UpL.len h2]
theorem UpL.get : ∀ {l l' : List T}, UpL l l' → ∀ {i : Nat} {x : T}, l[i]? = some x → ∃ y, l'[i]? = some y ∧ UpT x y
  | [], l', h, i, x, hi => by simp at hi
  | c :: l, l', h, i, x, hi => by
    simp only [UpL] at h
    obtain ⟨v, vs, rfl, h1, h2⟩ := h
    cases i with
    | zero => rw [List.getElem?_cons_zero] at hi ⊢; obtain rfl := Option.some.inj hi; exact ⟨v, rfl, h1⟩
    | succ i => rw [List.getElem?_cons_succ] at hi ⊢; exact UpL.get h2 hi
theorem UpL.of_get : ∀ {l l' : List T}, l'.length = l.length → (∀ (i : Nat) (x : T), l[i]? = some x → ∃ y, l'[i]? = some y ∧ UpT x y) → UpL l l'
  | [], [], _, _ => UpL.nil
  | x :: l, y :: l', hl, h => by
    refine UpL.cons ?_ (UpL.of_get (by simpa using hl) (fun i z hz => ?_))
    · obtain ⟨w, h1, h2⟩ := h 0 x rfl
      rw [List.getElem?_cons_zero] at h1
      obtain rfl := Option.some.inj h1
      exact h2
    · obtain ⟨w, h1, h2⟩ := h (i + 1) z (by rw [List.getElem?_cons_succ]; exact hz)
      rw [List.getElem?_cons_succ] at h1
      exact ⟨w, h1, h2⟩
  | [], _ :: _, hl, _ => by simp at hl
  | _ :: _, [], hl, _ => by simp at hl
theorem UpL.append {a a' b b' : List T} (h : UpL a a') (h' : UpL b b') : UpL (a ++ b) (a' ++ b') := by
  refine UpL.of_get (by rw [List.length_append, List.length_append, h.len, h'.len]) (fun i x hx => ?_)
  by_cases hi : i < a.length
  · rw [List.getElem?_append_left hi] at hx
    rw [List.getElem?_append_left (by rw [h.len]; exact hi)]
    exact h.get hx
  · rw [List.getElem?_append_right (by omega)] at hx
    rw [List.getElem?_append_right (by rw [h.len]; omega), h.len]
    exact h'.get hx
theorem UpL.take {a a' : List T} (h : UpL a a') (n : Nat) : UpL (a.take n) (a'.take n) := by
  refine UpL.of_get (by rw [List.length_take, List.length_take, h.len]) (fun i x hx => ?_)
  rw [List.getElem?_take] at hx ⊢
  split
  · rename_i hi; rw [if_pos hi] at hx; exact h.get hx
  · rename_i hi; rw [if_neg hi] at hx; cases hx
theorem UpL.drop {a a' : List T} (h : UpL a a') (n : Nat) : UpL (a.drop n) (a'.drop n) := by
  refine UpL.of_get (by rw [List.length_drop, List.length_drop, h.len]) (fun i x hx => ?_)
  rw [List.getElem?_drop] at hx ⊢
  exact h.get hx
theorem UpL.cut {a a' : List T} (h : UpL a a') (o n : Nat) : UpL (cut a o n) (cut a' o n) := (h.drop o).take n
theorem UpL.set {a a' : List T} (h : UpL a a') (i : Nat) {x y : T} (hx : UpT x y) : UpL (a.set i x) (a'.set i y) := by
  refine UpL.of_get (by rw [List.length_set, List.length_set, h.len]) (fun j z hz => ?_)
  rw [List.getElem?_set] at hz ⊢
  split
  · rename_i hij
    rw [if_pos hij] at hz
    split at hz
    · rename_i hl
      rw [if_pos (by rw [h.len]; exact hl)]
      obtain rfl := Option.some.inj hz
      exact ⟨y, rfl, hx⟩
    · cases hz
  · rename_i hij
    rw [if_neg hij] at hz
    exact h.get hz
theorem UpL.splice : ∀ {l l' : List T} {c c' : List T} {o : Nat}, UpL c c' → UpL l l' → UpL (splice c o l) (splice c' o l')
  | [], l', c, c', o, h, hl => by simp only [UpL] at hl; rw [hl]; exact h
  | x :: l, l', c, c', o, h, hl => by
    simp only [UpL] at hl
    obtain ⟨v, vs, rfl, h1, h2⟩ := hl
    show UpL (Abs.splice (c.set o x) (o + 1) l) (Abs.splice (c'.set o v) (o + 1) vs)
    exact UpL.splice (h.set o h1) h2
theorem UpL.replicate_flat {z : List T} (n : Nat) : UpL (List.replicate n z).flatten (List.replicate n z).flatten := UpL.refl _
theorem UpT.leaf {x y : T} (h : UpT x y) : y.leaf = x.leaf := by
  cases x <;> simp only [UpT] at h
  case imm => obtain ⟨_, _, rfl, _⟩ := h; rfl
  case iptr => obtain ⟨_, rfl, _⟩ := h; rfl
  case agg => obtain ⟨_, rfl, _⟩ := h; rfl
  case tup => obtain ⟨_, rfl, _⟩ := h; rfl
  case fn => obtain ⟨_, _, rfl, _⟩ := h; rfl
  all_goals rw [h]
theorem UpL.allLeaf : ∀ {l l' : List T}, UpL l l' → l'.all T.leaf = l.all T.leaf
  | [], l', h => by simp only [UpL] at h; rw [h]
  | x :: l, l', h => by
    simp only [UpL] at h
    obtain ⟨v, vs, rfl, h1, h2⟩ := h
    rw [List.all_cons, List.all_cons, h1.leaf, UpL.allLeaf h2]
theorem UpT.cells {x y : T} (h : UpT x y) : UpL x.cells y.cells := by
  have h0 := h
  cases x <;> simp only [UpT] at h
  case agg => obtain ⟨_, rfl, h⟩ := h; exact h
  case imm => obtain ⟨_, _, rfl, _⟩ := h; exact UpL.cons h0 UpL.nil
  case iptr => obtain ⟨_, rfl, _⟩ := h; exact UpL.cons h0 UpL.nil
  case tup => obtain ⟨_, rfl, _⟩ := h; exact UpL.cons h0 UpL.nil
  case fn => obtain ⟨_, _, rfl, _⟩ := h; exact UpL.cons h0 UpL.nil
  all_goals (rw [h]; exact UpL.refl _)
theorem UpL.flatL : ∀ {l l' : List T}, UpL l l' → T.flatL l' = T.flatL l
  | [], l', h => by simp only [UpL] at h; rw [h]
  | x :: l, l', h => by
    simp only [UpL] at h
    obtain ⟨v, vs, rfl, h1, h2⟩ := h
    have ih := UpL.flatL h2
    cases x <;> simp only [UpT] at h1
    case imm f n c =>
      obtain ⟨f', c', rfl, _, hc⟩ := h1
      cases n with
      | zero =>
        cases c with
        | nil => simp only [UpL] at hc; subst hc; simp only [T.flatL, ih]
        | cons a b => simp only [UpL] at hc; obtain ⟨v, vs, rfl, _⟩ := hc; rfl
      | succ n => rfl
    case iptr => obtain ⟨_, rfl, _⟩ := h1; rfl
    case agg => obtain ⟨_, rfl, _⟩ := h1; rfl
    case tup => obtain ⟨_, rfl, _⟩ := h1; rfl
    case fn => obtain ⟨_, _, rfl, _⟩ := h1; rfl
    all_goals (subst h1; first | rfl | simp only [T.flatL, ih])
theorem UpT.flat {x y : T} (h : UpT x y) : y.flat = x.flat := by
  cases x <;> simp only [UpT] at h
  case imm f n c =>
    obtain ⟨f', c', rfl, _, hc⟩ := h
    cases n with
    | zero =>
      cases c with
      | nil => simp only [UpL] at hc; subst hc; rfl
      | cons a b => simp only [UpL] at hc; obtain ⟨v, vs, rfl, _⟩ := hc; rfl
    | succ n => rfl
  case iptr => obtain ⟨_, rfl, _⟩ := h; rfl
  case agg => obtain ⟨_, rfl, h⟩ := h; exact h.flatL
  case tup => obtain ⟨_, rfl, h⟩ := h; exact h.flatL
  case fn => obtain ⟨_, _, rfl, _⟩ := h; rfl
  all_goals rw [h]
/-! Memory. -/
def UpO : Option (List T) → Option (List T) → Prop
  | none, y => y = none
  | some c, y => ∃ c', y = some c' ∧ UpL c c'
def UpM (g g' : Mem) : Prop := ∀ t, UpO (g t) (g' t)
theorem UpO.refl (x : Option (List T)) : UpO x x := by
  cases x with
  | none => rfl
  | some c => exact ⟨c, rfl, UpL.refl c⟩
theorem UpM.refl (g : Mem) : UpM g g := fun t => UpO.refl _
theorem UpM.get {g g' : Mem} (h : UpM g g') {t : Nat} {c : List T} (hc : g t = some c) : ∃ c', g' t = some c' ∧ UpL c c' := by
  have := h t; rw [hc] at this; exact this
def UpE : List (Nat × Option (List T)) → List (Nat × Option (List T)) → Prop
  | [], l => l = []
  | e :: r, l => ∃ o r', l = (e.1, o) :: r' ∧ UpO e.2 o ∧ UpE r r'
theorem UpE.refl : ∀ l, UpE l l
  | [] => rfl
  | e :: r => ⟨e.2, r, rfl, UpO.refl _, UpE.refl r⟩
theorem UpM.put {g g' : Mem} (h : UpM g g') {t : Nat} {o o' : Option (List T)} (ho : UpO o o') : UpM (put1 g (t, o)) (put1 g' (t, o')) := by
  intro u
  unfold put1
  simp only
  split
  · exact ho
  · exact h u
theorem UpM.putAll : ∀ {l l' : List (Nat × Option (List T))} {g g' : Mem}, UpM g g' → UpE l l' → UpM (putAll g l) (putAll g' l')
  | [], l', g, g', h, he => by have he : l' = [] := he; rw [he]; exact h
  | (t, o) :: r, l', g, g', h, he => by
    obtain ⟨o', r', rfl, h1, h2⟩ := he
    show UpM (Abs.putAll (put1 g (t, o)) r) (Abs.putAll (put1 g' (t, o')) r')
    exact UpM.putAll (h.put h1) h2
theorem UpE.ids : ∀ {l l' : List (Nat × Option (List T))}, UpE l l' → l'.map (·.1) = l.map (·.1)
  | [], l', h => by have h : l' = [] := h; rw [h]
  | (t, o) :: r, l', h => by
    obtain ⟨o', r', rfl, _, h2⟩ := h
    rw [List.map_cons, List.map_cons, UpE.ids h2]
theorem frzAll_up {f f' : T → Option (T × List Nat)} (hf : ∀ x y u is, UpT x y → f x = some (u, is) → ∃ u', f' y = some (u', is) ∧ UpT u u') : ∀ {l l' : List T} {m : List T} {is : List Nat}, UpL l l' → frzAll f l = some (m, is) → ∃ m', frzAll f' l' = some (m', is) ∧ UpL m m'
  | [], l', m, is, h, he => by
    simp only [UpL] at h
    simp only [frzAll, Option.some.injEq, Prod.mk.injEq] at he
    obtain ⟨rfl, rfl⟩ := he
    rw [h]
    exact ⟨[], rfl, UpL.nil⟩
  | x :: l, l', m, is, h, he => by
    simp only [UpL] at h
    obtain ⟨v, vs, rfl, h1, h2⟩ := h
    simp only [frzAll] at he
    split at he
    · rename_i y us m1 ts e1 e2
      simp only [Option.some.injEq, Prod.mk.injEq] at he
      obtain ⟨rfl, rfl⟩ := he
      obtain ⟨u', h3, h4⟩ := hf _ _ _ _ h1 e1
      obtain ⟨m', h5, h6⟩ := frzAll_up hf h2 e2
      exact ⟨u' :: m', by simp only [frzAll, h3, h5], UpL.cons h4 h6⟩
    · cases he
theorem frz_up {h h' : Hp} (hh : UpM h.get h'.get) : ∀ (d : Nat) (x y u : T) (is : List Nat), UpT x y → frz h d x = some (u, is) → ∃ u', frz h' d y = some (u', is) ∧ UpT u u'
  | 0, _, _, _, _, _, he => by cases he
  | d + 1, x, y, u, is, hx, he => by
    have ih := frz_up hh d
    have hx0 := hx
    cases x <;> simp only [UpT] at hx <;> simp only [frz] at he
    case int => subst hx; simp only [Option.some.injEq, Prod.mk.injEq] at he; obtain ⟨rfl, rfl⟩ := he; exact ⟨_, rfl, UpT.refl _⟩
    case bool => subst hx; simp only [Option.some.injEq, Prod.mk.injEq] at he; obtain ⟨rfl, rfl⟩ := he; exact ⟨_, rfl, UpT.refl _⟩
    case str => subst hx; simp only [Option.some.injEq, Prod.mk.injEq] at he; obtain ⟨rfl, rfl⟩ := he; exact ⟨_, rfl, UpT.refl _⟩
    case imm => obtain ⟨_, _, rfl, _⟩ := hx; simp only [Option.some.injEq, Prod.mk.injEq] at he; obtain ⟨rfl, rfl⟩ := he; exact ⟨_, rfl, hx0⟩
    case iptr => obtain ⟨_, rfl, _⟩ := hx; simp only [Option.some.injEq, Prod.mk.injEq] at he; obtain ⟨rfl, rfl⟩ := he; exact ⟨_, rfl, hx0⟩
    case own t off len es =>
      subst hx
      split at he
      · cases he
      · rename_i c hc
        obtain ⟨c', hc', hcc⟩ := hh.get hc
        split at he
        · rename_i hl
          split at he
          · rename_i l ts hfz
            simp only [Option.some.injEq, Prod.mk.injEq] at he
            obtain ⟨rfl, rfl⟩ := he
            have hcu := (hcc.drop off).take (len * es)
            obtain ⟨m', h1, h2⟩ := frzAll_up ih hcu hfz
            refine ⟨.imm false len m', ?_, by simp only [UpT]; exact ⟨false, m', rfl, id, h2⟩⟩
            simp only [frz, hc', hcu.len, hl, if_true, h1]
          · cases he
        · cases he
    case agg =>
      obtain ⟨l', rfl, hl⟩ := hx
      split at he
      · rename_i l ts hfz
        simp only [Option.some.injEq, Prod.mk.injEq] at he
        obtain ⟨rfl, rfl⟩ := he
        obtain ⟨m', h1, h2⟩ := frzAll_up ih hl hfz
        exact ⟨.agg m', by simp only [frz, h1], by simp only [UpT]; exact ⟨m', rfl, h2⟩⟩
      · cases he
    case tup =>
      obtain ⟨l', rfl, hl⟩ := hx
      split at he
      · rename_i l ts hfz
        simp only [Option.some.injEq, Prod.mk.injEq] at he
        obtain ⟨rfl, rfl⟩ := he
        obtain ⟨m', h1, h2⟩ := frzAll_up ih hl hfz
        exact ⟨.tup m', by simp only [frz, h1], by simp only [UpT]; exact ⟨m', rfl, h2⟩⟩
      · cases he
    case fn fi fa fb =>
      obtain ⟨a', b', rfl, ha, hb⟩ := hx
      split at he
      · rename_i a ts b us hfa hfb
        simp only [Option.some.injEq, Prod.mk.injEq] at he
        obtain ⟨rfl, rfl⟩ := he
        obtain ⟨m', h1, h2⟩ := frzAll_up ih ha hfa
        obtain ⟨n', h3, h4⟩ := frzAll_up ih hb hfb
        exact ⟨.fn fi m' n', by simp only [frz, h1, h3], by simp only [UpT]; exact ⟨m', n', rfl, h2, h4⟩⟩
      · cases he
    all_goals cases he
end Go.Proofs.YtabfinhkoihhfaaGreat.Abs
