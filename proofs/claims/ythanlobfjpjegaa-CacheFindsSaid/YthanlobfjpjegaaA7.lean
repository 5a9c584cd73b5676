/- The operations on memory. -/
import Derived.Test.YthanlobfjpjegaaA6
namespace Go.Proofs.Ythanlobfjpjegaa.Abs
open Go Go.RowKit
set_option linter.unusedVariables false
set_option linter.unusedSimpArgs false

theorem run_v {P : Program} {x : Sem Value} {w w' : World} {v : Value} (h : x.run P w = .ok v w') : (do pure (.value (← x)) : Sem Next).run P w = .ok (.value v) w' := by
  rw [Sem.run_bind, h]; rfl
theorem list_of {Q : Nat → Value → Prop} : ∀ (n : Nat), (∀ i, i < n → ∃ v, Q i v) → ∃ vs : List Value, vs.length = n ∧ ∀ i v, vs[i]? = some v → Q i v
  | 0, _ => ⟨[], rfl, by simp⟩
  | n + 1, h => by
    obtain ⟨vs, h1, h2⟩ := list_of n fun i hi => h i (by omega)
    obtain ⟨v, hv⟩ := h n (by omega)
    refine ⟨vs ++ [v], by simp [h1], fun i u hu => ?_⟩
    rcases Nat.lt_or_ge i vs.length with hlt | hge
    · rw [List.getElem?_append_left hlt] at hu; exact h2 i u hu
    · have hi : i = n := by have := (List.getElem?_eq_some_iff.1 hu).1; simp at this; omega
      subst hi
      rw [List.getElem?_append_right hge, h1] at hu
      simp at hu; subst hu; exact hv
theorem splice_len : ∀ (l c : List T) (o : Nat), (splice c o l).length = c.length
  | [], _, _ => rfl
  | v :: l, c, o => by rw [splice, splice_len l]; simp
theorem splice_get : ∀ (l c : List T) (o i : Nat), o + l.length ≤ c.length → (splice c o l)[i]? = if o ≤ i ∧ i < o + l.length then l[i - o]? else c[i]?
  | [], c, o, i, h => by rw [splice, if_neg (by rintro ⟨h1, h2⟩; simp at h2; omega)]
  | v :: l, c, o, i, h => by
    rw [splice, splice_get l _ _ _ (by simp at h ⊢; omega)]
    simp only [List.length_cons] at h ⊢
    by_cases h1 : o + 1 ≤ i ∧ i < o + 1 + l.length
    · rw [if_pos h1, if_pos (by omega), show i - o = (i - (o + 1)) + 1 by omega, List.getElem?_cons_succ]
    · rw [if_neg h1]
      by_cases h2 : i = o
      · subst h2
        rw [if_pos (by omega)]
        simp only [Nat.sub_self]
        rw [List.getElem?_set_self (by omega)]; rfl
      · rw [if_neg (by omega), List.getElem?_set_ne (by omega)]
theorem cut_get (c : List T) (o n i : Nat) : (cut c o n)[i]? = if i < n then c[o + i]? else none := by
  unfold cut; rw [List.getElem?_take]; split
  · rw [List.getElem?_drop]
  · rfl
theorem cut_len {c : List T} {o n : Nat} (h : o + n ≤ c.length) : (cut c o n).length = n := by unfold cut; simp; omega

section
variable {P : Program} {o : Oper} {a : Act} {B : Nat} {W0 w : World} {Z0 Z : Nat → Nat → Prop} {g : Mem} {μ : Nat → Option Loc} {fr : Nat} {r : Res} {s : List T}

theorem VD.range {b p : Nat} {c : List T} (h : VD w Z μ b p c) {off n : Nat} (hn : off + n ≤ c.length) : ∃ vs : List Value, vs.length = n ∧ VRL w Z μ (cut c off n) vs ∧ w.rangeAt b (p + off) vs ∧ ∀ v ∈ vs, v.oneCell' = true := by
  obtain ⟨vs, h1, h2⟩ := list_of (Q := fun i v => ∃ x, c[off + i]? = some x ∧ x.leaf = true ∧ w.cell? ⟨b, p + (off + i), none⟩ = some v ∧ VR w Z μ x v) n fun i hi => by
    have hx := List.getElem?_eq_getElem (l := c) (i := off + i) (by omega)
    obtain ⟨k1, v, k2, k3⟩ := h _ _ hx
    exact ⟨v, _, hx, k1, k2, k3⟩
  refine ⟨vs, h1, VRL.mk (by rw [cut_len hn, h1]) fun i x v hx hv => ?_, fun j v hv => ?_, fun v hv => ?_⟩
  · obtain ⟨y, k1, _, _, k4⟩ := h2 i v hv
    rw [cut_get] at hx
    split at hx
    · rw [k1] at hx; obtain rfl := Option.some.inj hx; exact k4
    · cases hx
  · obtain ⟨y, _, _, k3, _⟩ := h2 j v hv
    rw [Nat.add_assoc]; exact k3
  · obtain ⟨i, hi, rfl⟩ := List.getElem_of_mem hv
    obtain ⟨y, _, k2, _, k4⟩ := h2 i _ (List.getElem?_eq_getElem hi)
    exact k4.oneCell k2
theorem VC.vd {b p : Nat} {c : List T} (h : VC w Z b p c) : VD w Z μ b p c := fun i x hx => by
  obtain ⟨v, h1, h2, h3, h4⟩ := h.get hx
  exact ⟨h4, v, h1, VI.vr _ _ h3⟩
theorem VC.cut {b p : Nat} {c : List T} (h : VC w Z b p c) (off n : Nat) : VC w Z b (p + off) (cut c off n) := VC.mk fun i x hx => by
  rw [cut_get] at hx
  split at hx
  · rw [Nat.add_assoc]; exact h.get hx
  · cases hx

/-- Reading from cells. -/
theorem load_run {t : TypeId} {one : Bool} {n : Nat} (h1 : oneOf P t = some (one, n)) {b p off : Nat} {c : List T} (hd : VD w Z μ b p c) (hn : off + n ≤ c.length) :
    if one then ∃ x v, c[off]? = some x ∧ VR w Z μ x v ∧ (Instr.loadAt t (.pointer (some ⟨b, p + off, none⟩))).run P w = .ok v w
    else ∃ vs, VRL w Z μ (cut c off n) vs ∧ (Instr.loadAt t (.pointer (some ⟨b, p + off, none⟩))).run P w = .ok (.agg vs.toArray) w := by
  obtain ⟨d, i, k1, k2, k3, k4, k5, k6⟩ := one_ok h1
  cases one with
  | true =>
    have hn1 := k4 rfl
    have hx := List.getElem?_eq_getElem (l := c) (i := off) (by omega)
    obtain ⟨m1, v, m2, m3⟩ := hd _ _ hx
    refine ⟨_, v, hx, m3, ?_⟩
    simp [Instr.loadAt, Instr.sureAddr, loadVar, k5 w, load, Sem.run, m2]
  | false =>
    obtain ⟨vs, m1, m2, m3, _⟩ := hd.range hn
    exact ⟨vs, m2, run_loadAt_mid w b (p + off) t vs d m3 k1 (k6 rfl) (by rw [k2]; simp [k3, m1])⟩

theorem load_ok (hi : Inv B W0 Z0 g w Z μ) (hs : VRL w Z μ s a.tmps.toList) {t : TypeId} {x : Operand} {y : Opd} {one : Bool} {n : Nat} (ho : o.op = .load t x) (h1 : oneOf P t = some (one, n)) (hx : opd x = some y)
    (hr : opRes (.load one n y) fr s g = some r) : OpOk P o a B W0 Z0 g w Z μ fr r := by
  have hv := rho_ok hs hx
  simp only [opRes] at hr
  have fin : ∀ {b p off : Nat} {c : List T} {rd : List Nat}, VD w Z μ b p c → off + n ≤ c.length → a.eval x = .pointer (some ⟨b, p + off, none⟩) →
      (if one then (match c[off]? with | some x => some (Res.mk x rd []) | none => none) else some ⟨.agg (cut c off n), rd, []⟩) = some r → OpOk P o a B W0 Z0 g w Z μ fr r := by
    intro b p off c rd hd hn he hr
    have hl := load_run h1 hd hn
    cases one with
    | true =>
      obtain ⟨z, v, m1, m2, m3⟩ := hl
      simp only [if_true, m1] at hr
      obtain rfl := Option.some.inj hr
      refine opok_quiet hi (goes_value ?_) m2
      unfold execOp; rw [ho]; simp only [he]; exact run_v m3
    | false =>
      obtain ⟨vs, m1, m2⟩ := hl
      simp only [Bool.false_eq_true, if_false] at hr
      obtain rfl := Option.some.inj hr
      refine opok_quiet hi (v := .agg vs.toArray) (goes_value ?_) (by simp only [VR]; exact ⟨_, rfl, by simpa using m1⟩)
      unfold execOp; rw [ho]; simp only [he]; exact run_v m2
  split at hr
  · rename_i t' off e
    rw [e] at hv
    split at hr
    · rename_i c hc
      split at hr
      · rename_i hn
        obtain ⟨m, k1, k2, k3, k4, k5, k6, k7⟩ := hi.blk _ _ hc
        simp only [VR] at hv
        obtain ⟨m', j1, j2⟩ := hv
        obtain rfl : m' = m := by rw [k1] at j1; exact (Option.some.inj j1).symm
        exact fin k7 hn j2 hr
      · cases hr
    · cases hr
  · rename_i c off e
    rw [e] at hv
    split at hr
    · rename_i hn
      simp only [VR, VI] at hv
      obtain ⟨b, p, j1, j2⟩ := hv
      exact fin (VC.vd j2) hn j1 hr
    · cases hr
  · cases hr

theorem sz_ok {t : TypeId} {n : Nat} (h : szOf P t = some n) : ∃ i, P.info? t = some i ∧ i.size = n ∧ 0 < n := by
  unfold szOf at h
  split at h
  · rename_i i hi
    split at h
    · rename_i hp; obtain rfl := Option.some.inj h; exact ⟨i, hi, rfl, hp⟩
    · cases h
  · cases h

/-- Cells of one block are written. -/
theorem Inv.splice (hi : Inv B W0 Z0 g w Z μ) {t : Nat} {c : List T} {m : Loc} (hc : g t = some c) (hm : μ t = some m) {off : Nat} {l : List T} {vs : List Value} (hl : VRL w Z μ l vs) (hf : allLeaf l = true) (hn : off + l.length ≤ c.length) :
    Inv B W0 Z0 (put1 g (t, some (splice c off l))) (w.setCells m.1 (m.2.1 + off) vs) Z μ ∧ ZLe w (w.setCells m.1 (m.2.1 + off) vs) Z Z := by
  obtain ⟨m', k1, k2, k3, k4, k5, k6, k7⟩ := hi.blk _ _ hc
  obtain rfl : m' = m := by rw [hm] at k1; exact (Option.some.inj k1).symm
  have hlen := hl.len
  obtain ⟨h1, h2⟩ := hi.write hc hm off vs (by omega)
  refine ⟨?_, h2⟩
  have h3 := h1.put (t := t) (c := Abs.splice c off l) hm k2 (by rw [setCells_size]; exact k3) (by rw [splice_len]; exact k4) (World.there_setCells k5 _ _ _) k6 ?_ ?_
  · have : put1 (put1 g (t, none)) (t, some (Abs.splice c off l)) = put1 g (t, some (Abs.splice c off l)) := by funext u; simp only [put1]; split <;> rfl
    rwa [this] at h3
  · intro i x hx
    rw [splice_get _ _ _ _ hn] at hx
    split at hx
    · rename_i hr
      obtain ⟨v, j1, j2⟩ := hl.get hx
      refine ⟨List.all_eq_true.1 hf x (List.mem_of_getElem? hx), v, ?_, VR.mono h2 MLe.refl x v j2⟩
      have hiv : i - off < vs.length := by omega
      have := World.cell?_setCells_in m'.1 vs (m'.2.1 + off) w (fun j hj => by have := (k5 (off + j) (by omega)).1; rwa [← Nat.add_assoc] at this) (i - off) hiv
      rw [show m'.2.1 + off + (i - off) = m'.2.1 + i by omega] at this
      rw [this, ← List.getElem?_eq_getElem hiv, j1]
    · rename_i hr
      obtain ⟨j0, v, j1, j2⟩ := k7 i x hx
      refine ⟨j0, v, ?_, VR.mono h2 MLe.refl x v j2⟩
      rw [World.cell?_setCells_out]
      · exact j1
      · intro _ _; simp only; omega
  · intro u cu m1 hne hu hm1
    have hu' : g u = some cu := by simpa [put1, hne] using hu
    exact hi.dis t u c cu m' m1 (fun e => hne e.symm) hc hu' hm hm1

theorem store_run {t : TypeId} {n : Nat} (h1 : szOf P t = some n) {b p : Nat} {v : Value} (hn : v.cells.size = n) (ht : w.there b p n) (ho : ∀ u ∈ v.cells.toList, u.oneCell' = true) :
    (Instr.storeAt t (.pointer (some ⟨b, p, none⟩)) v).run P w = .ok () (w.setCells b p v.cells.toList) := by
  obtain ⟨i, k1, k2, k3⟩ := sz_ok h1
  have := run_storeCells_cells (P := P) b p v.cells.toList 0 w (fun j hj => by simpa using (ht j (by simp at hj; omega)).1) (fun j hj => by simpa using (ht j (by simp at hj; omega)).2) ho
  simp only [Nat.add_zero] at this
  simp [Instr.storeAt, Instr.sureAddr, storeVar, sizeOf, typeInfo, k1, hn, k2, this]

theorem store_ok (hi : Inv B W0 Z0 g w Z μ) (hs : VRL w Z μ s a.tmps.toList) {t : TypeId} {x y : Operand} {x' y' : Opd} {n : Nat} (ho : o.op = .store t x y) (h1 : szOf P t = some n) (hx : opd x = some x') (hy : opd y = some y')
    (hr : opRes (.store n x' y') fr s g = some r) : OpOk P o a B W0 Z0 g w Z μ fr r := by
  have hv := rho_ok hs hx
  have hu := rho_ok hs hy
  simp only [opRes] at hr
  split at hr
  · rename_i t' off e
    rw [e] at hv
    split at hr
    · rename_i c hc
      split at hr
      · rename_i hn
        obtain ⟨hn1, hn2, hn3⟩ := hn
        obtain rfl := Option.some.inj hr
        simp only [VR] at hv
        obtain ⟨m, j1, j2⟩ := hv
        obtain ⟨m', k1, k2, k3, k4, k5, k6, k7⟩ := hi.blk _ _ hc
        obtain rfl : m' = m := by rw [j1] at k1; exact (Option.some.inj k1).symm
        obtain ⟨n1, n2, n3⟩ := leaf_cells hn3
        have hl := hu.cells n1 n2 n3
        have hlen := hl.len
        simp only [Array.length_toList] at hlen
        have hone : ∀ u ∈ (a.eval y).cells.toList, u.oneCell' = true := fun u hm => by
          obtain ⟨i, hil, rfl⟩ := List.getElem_of_mem hm
          have hb : i < (rho s y').cells.length := by simp at hil; omega
          obtain ⟨v, q1, q2⟩ := hl.get (List.getElem?_eq_getElem hb)
          rw [List.getElem?_eq_getElem hil] at q1
          rw [Option.some.inj q1]
          exact q2.oneCell (List.all_eq_true.1 hn3 _ (List.getElem_mem hb))
        have hrun := store_run (P := P) (w := w) h1 (b := m'.1) (p := m'.2.1 + off) (v := a.eval y) (by omega) (fun j hj => by have := k5 (off + j) (by omega); rwa [← Nat.add_assoc] at this) hone
        obtain ⟨q1, q2⟩ := hi.splice hc j1 (off := off) hl hn3 (by omega)
        refine ⟨Go.undef, _, μ, goes_skip ?_, by simp only [VR, VI], q1, q2, MLe.refl, fun _ _ => rfl⟩
        unfold execOp; rw [ho]; simp only [j2, Sem.run_bind, hrun]; rfl
      · cases hr
    · cases hr
  · cases hr
end
end Go.Proofs.Ythanlobfjpjegaa.Abs
