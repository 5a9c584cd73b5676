/- Trees that tell of more room: operations, code, calls. -/
import Derived.Test.YtabfinhkoihhfaaGreatD1
namespace Go.Proofs.YtabfinhkoihhfaaGreat.Abs
open Go Go.RowKit
set_option linter.unusedVariables false
set_option linter.unusedSimpArgs false
set_option linter.unnecessarySimpa false
set_option maxRecDepth 100000
set_option maxHeartbeats 2000000

theorem rho_up {s s' : List T} (hs : UpL s s') (x : Opd) : UpT (rho s x) (rho s' x) := by
  cases x with
  | con v => exact UpT.refl v
  | tmp t =>
    show UpT (s.getD t .undef) (s'.getD t .undef)
    rw [List.getD_eq_getElem?_getD, List.getD_eq_getElem?_getD]
    cases h : s[t]? with
    | none =>
      have : s.length ≤ t := List.getElem?_eq_none_iff.mp h
      rw [List.getElem?_eq_none (by rw [hs.len]; exact this)]
      exact UpT.refl _
    | some x =>
      obtain ⟨y, h1, h2⟩ := hs.get h
      rw [h1]; exact h2
theorem rhos_up {s s' : List T} (hs : UpL s s') : ∀ l : List Opd, UpL (l.map (rho s)) (l.map (rho s'))
  | [] => UpL.nil
  | x :: l => UpL.cons (rho_up hs x) (rhos_up hs l)
/-- Results, one that tells more. -/
def UpR (r r' : Res) : Prop := UpT r.v r'.v ∧ r'.rd = r.rd ∧ UpE r.ed r'.ed
theorem up_pure {v v' : T} {r : Res} (h : pureR v = some r) (hv : UpT v v') : ∃ r', pureR v' = some r' ∧ UpR r r' := by
  obtain rfl := Option.some.inj h
  exact ⟨_, rfl, hv, rfl, UpE.refl []⟩
theorem up_same {o : Option Res} {r : Res} (h : o = some r) : ∃ r', o = some r' ∧ UpR r r' := ⟨r, h, UpT.refl _, rfl, UpE.refl _⟩
theorem UpT.int {k : IntKind} {n : Int} {y : T} (h : UpT (.int k n) y) : y = .int k n := by simp only [UpT] at h; exact h
theorem UpT.bool {b : Bool} {y : T} (h : UpT (.bool b) y) : y = .bool b := by simp only [UpT] at h; exact h
theorem UpT.ptr {t o : Nat} {y : T} (h : UpT (.ptr t o) y) : y = .ptr t o := by simp only [UpT] at h; exact h
theorem UpT.own {t o n e : Nat} {y : T} (h : UpT (.own t o n e) y) : y = .own t o n e := by simp only [UpT] at h; exact h
theorem UpT.undef {y : T} (h : UpT .undef y) : y = .undef := by simp only [UpT] at h; exact h
theorem UpT.iptr {c : List T} {o : Nat} {y : T} (h : UpT (.iptr c o) y) : ∃ c', y = .iptr c' o ∧ UpL c c' := by simp only [UpT] at h; exact h
theorem UpT.imm {f : Bool} {n : Nat} {c : List T} {y : T} (h : UpT (.imm f n c) y) : ∃ f' c', y = .imm f' n c' ∧ (f = true → f' = true) ∧ UpL c c' := by simp only [UpT] at h; exact h
theorem UpT.agg {c : List T} {y : T} (h : UpT (.agg c) y) : ∃ c', y = .agg c' ∧ UpL c c' := by simp only [UpT] at h; exact h
theorem UpT.tup {c : List T} {y : T} (h : UpT (.tup c) y) : ∃ c', y = .tup c' ∧ UpL c c' := by simp only [UpT] at h; exact h
theorem UpT.fn {f : Nat} {a b : List T} {y : T} (h : UpT (.fn f a b) y) : ∃ a' b', y = .fn f a' b' ∧ UpL a a' ∧ UpL b b' := by simp only [UpT] at h; exact h
theorem up_nat {x y : T} {n : Nat} (h : UpT x y) (hx : natOf x = some n) : natOf y = some n := by
  unfold natOf at hx
  split at hx
  · rw [h.int]; exact hx
  · cases hx
theorem up_bnd {s s' : List T} (hs : UpL s s') {x : Option Opd} {d n : Nat} (hx : bnd (x.map (rho s)) d = some n) : bnd (x.map (rho s')) d = some n := by
  cases x with
  | none => exact hx
  | some x => exact up_nat (rho_up hs x) hx
theorem fill_up : ∀ {l : List (Nat × Nat × Opd)} {s s' : List T} {c c' r : List T}, UpL s s' → UpL c c' → fillT c (l.map fun p => (p.1, p.2.1, rho s p.2.2)) = some r → ∃ r', fillT c' (l.map fun p => (p.1, p.2.1, rho s' p.2.2)) = some r' ∧ UpL r r'
  | [], s, s', c, c', r, hs, hc, h => by
    obtain rfl := Option.some.inj h
    exact ⟨c', rfl, hc⟩
  | p :: l, s, s', c, c', r, hs, hc, h => by
    simp only [List.map_cons, fillT] at h ⊢
    have hp := (rho_up hs p.2.2).cells
    split at h
    · rename_i hcond
      rw [if_pos ⟨by rw [hp.len]; exact hcond.1, by rw [hc.len]; exact hcond.2.1, by rw [hp.allLeaf]; exact hcond.2.2⟩]
      exact fill_up hs (hc.splice hp) h
    · cases h
theorem cellsOf_up {g g' : Mem} (hg : UpM g g') {es n : Nat} {x y : T} {new : List T} {rd : List Nat} (hx : UpT x y) (h : cellsOf g es x = some (n, new, rd)) : ∃ new', cellsOf g' es y = some (n, new', rd) ∧ UpL new new' := by
  cases x <;> simp only [cellsOf] at h
  case imm f len c =>
    obtain ⟨f', c', rfl, _, hc⟩ := hx.imm
    simp only [Option.some.injEq, Prod.mk.injEq] at h
    obtain ⟨rfl, rfl, rfl⟩ := h
    exact ⟨c', rfl, hc⟩
  case own t off len es' =>
    obtain rfl := hx.own
    split at h
    · rename_i he
      split at h
      · rename_i c hc
        obtain ⟨c', hc', hcc⟩ := hg.get hc
        split at h
        · rename_i hb
          simp only [Option.some.injEq, Prod.mk.injEq] at h
          obtain ⟨rfl, rfl, rfl⟩ := h
          exact ⟨Abs.cut c' off (len * es), by simp only [cellsOf, he, if_true, hc', if_pos (show off + len * es ≤ c'.length by rw [hcc.len]; exact hb)], hcc.cut _ _⟩
        · cases h
      · cases h
    · cases h
  all_goals cases h
theorem bin_up {op : BinOp} {x x' y y' v : T} (hx : UpT x x') (hy : UpT y y') (h : binT op x y = some v) : binT op x' y' = some v := by
  unfold binT at h
  split at h
  · rw [hx.int, hy.int]; exact h
  · cases h
theorem un_up {op : UnOp} {x x' v : T} (hx : UpT x x') (h : unT op x = some v) : unT op x' = some v := by
  unfold unT at h
  split at h
  · rw [hx.int]; exact h
  · rw [hx.bool]; exact h
  · rw [hx.int]; exact h
  · cases h
theorem conf_up : ∀ {ks : List (Option IntKind)} {l l' : List T}, UpL l l' → conf ks l = true → l' = l
  | [], [], l', h, _ => by simp only [UpL] at h; exact h
  | k :: ks, x :: l, l', h, hc => by
    simp only [UpL] at h
    obtain ⟨v, vs, rfl, h1, h2⟩ := h
    rw [conf, Bool.and_eq_true] at hc
    rw [conf_up h2 hc.2]
    have : v = x := by
      have h3 := hc.1
      cases x <;> first | exact h1.int | exact h1.bool | (cases k <;> simp [conf1] at h3)
    rw [this]
  | [], _ :: _, _, _, h => by cases h
  | _ :: _, [], _, _, h => by cases h
theorem fold_int {f : T → T → Option T} (hf : ∀ x y v, f x y = some v → (∃ k n, y = .int k n)) : ∀ {l l' : List T} {x v : T}, UpL l l' → l.foldlM f x = some v → l' = l
  | [], l', x, v, h, _ => by simp only [UpL] at h; exact h
  | y :: l, l', x, v, h, he => by
    simp only [UpL] at h
    obtain ⟨w, ws, rfl, h1, h2⟩ := h
    rw [List.foldlM_cons] at he
    cases hxy : f x y with
    | none => rw [hxy] at he; cases he
    | some z =>
      rw [hxy] at he
      obtain ⟨k, n, rfl⟩ := hf _ _ _ hxy
      rw [h1.int, fold_int hf h2 he]
def minF (x y : T) : Option T := match x, y with | .int k a, .int k' b => some (.int k (if b < a then b else a)) | _, _ => none
theorem min_up {l l' : List T} {v : T} (h : UpL l l') (he : minL l = some v) : ∃ v', minL l' = some v' ∧ UpT v v' := by
  cases l with
  | nil => cases he
  | cons x l =>
    simp only [UpL] at h
    obtain ⟨y, ys, rfl, h1, h2⟩ := h
    have he : l.foldlM minF x = some v := he
    have e := fold_int (f := minF) (fun x y v h => by
      unfold minF at h
      split at h
      · exact ⟨_, _, rfl⟩
      · cases h) h2 he
    subst e
    show ∃ v', ys.foldlM minF y = some v' ∧ UpT v v'
    cases ys with
    | nil =>
      have he : some x = some v := he
      obtain rfl := Option.some.inj he
      exact ⟨y, rfl, h1⟩
    | cons z zs =>
      have : y = x := by
        rw [List.foldlM_cons] at he
        cases x <;> first | exact h1.int | (simp [minF] at he)
      rw [this]
      exact ⟨v, he, UpT.refl v⟩
def maxF (x y : T) : Option T := match x, y with | .int k a, .int k' b => some (.int k (if b > a then b else a)) | _, _ => none
theorem max_up {l l' : List T} {v : T} (h : UpL l l') (he : maxL l = some v) : ∃ v', maxL l' = some v' ∧ UpT v v' := by
  cases l with
  | nil => cases he
  | cons x l =>
    simp only [UpL] at h
    obtain ⟨y, ys, rfl, h1, h2⟩ := h
    have he : l.foldlM maxF x = some v := he
    have e := fold_int (f := maxF) (fun x y v h => by
      unfold maxF at h
      split at h
      · exact ⟨_, _, rfl⟩
      · cases h) h2 he
    subst e
    show ∃ v', ys.foldlM maxF y = some v' ∧ UpT v v'
    cases ys with
    | nil =>
      have he : some x = some v := he
      obtain rfl := Option.some.inj he
      exact ⟨y, rfl, h1⟩
    | cons z zs =>
      have : y = x := by
        rw [List.foldlM_cons] at he
        cases x <;> first | exact h1.int | (simp [maxF] at he)
      rw [this]
      exact ⟨v, he, UpT.refl v⟩
end Go.Proofs.YtabfinhkoihhfaaGreat.Abs
