/- The call's own memory: what is known of it, and how each kind of write keeps that. -/
import Derived.Test.YthanlobfjpjegaaA3
namespace Go.Proofs.Ythanlobfjpjegaa.Abs
open Go Go.RowKit
set_option linter.unusedVariables false
set_option linter.unusedSimpArgs false

/-- The cells of a block of the call's own. -/
def VD (w : World) (Z : Nat → Nat → Prop) (μ : Nat → Option Loc) (b o : Nat) (c : List T) : Prop :=
  ∀ (i : Nat) (x : T), c[i]? = some x → x.leaf = true ∧ ∃ v, w.cell? ⟨b, o + i, none⟩ = some v ∧ VR w Z μ x v

structure Inv (B : Nat) (W0 : World) (Z0 : Nat → Nat → Prop) (g : Mem) (w : World) (Z : Nat → Nat → Prop) (μ : Nat → Option Loc) : Prop where
  bel : Below B W0 w
  base : B ≤ w.heap.size
  zin : ∀ b o, Z b o → b < w.heap.size
  zold : ∀ b o, Z b o → Z0 b o ∨ B ≤ b
  blk : ∀ (t : Nat) c, g t = some c → ∃ m, μ t = some m ∧ B ≤ m.1 ∧ m.1 < w.heap.size ∧ c.length ≤ m.2.2 ∧ w.there m.1 m.2.1 m.2.2 ∧ (∀ i, i < m.2.2 → ¬ Z m.1 (m.2.1 + i)) ∧ VD w Z μ m.1 m.2.1 c
  dis : ∀ (t u : Nat) ct cu m m', t ≠ u → g t = some ct → g u = some cu → μ t = some m → μ u = some m' → m.1 ≠ m'.1 ∨ m.2.1 + m.2.2 ≤ m'.2.1 ∨ m'.2.1 + m'.2.2 ≤ m.2.1

section
variable {B : Nat} {W0 w w' : World} {Z0 Z Z' : Nat → Nat → Prop} {g g' : Mem} {μ μ' : Nat → Option Loc}

theorem VD.mono {b o : Nat} {c : List T} (h : VD w Z μ b o c) (hz : ZLe w w' Z Z') (hm : MLe μ μ') (hc : ∀ i, i < c.length → w'.cell? ⟨b, o + i, none⟩ = w.cell? ⟨b, o + i, none⟩) : VD w' Z' μ' b o c := by
  intro i x hx
  obtain ⟨h1, v, h2, h3⟩ := h i x hx
  exact ⟨h1, v, (hc i (List.getElem?_eq_some_iff.1 hx).1).trans h2, VR.mono hz hm x v h3⟩

theorem Inv.zsome (h : Inv B W0 Z0 g w Z μ) : True := trivial

theorem setCells_size (b : Nat) : ∀ (vs : List Value) (o : Nat) (w : World), (w.setCells b o vs).heap.size = w.heap.size
  | [], _, _ => rfl
  | v :: vs, o, w => by
    rw [World.setCells, setCells_size b vs]
    simp [World.setCell]
theorem setCells_below {b : Nat} (hb : B ≤ b) : ∀ (vs : List Value) (o : Nat) (w a : World), Below B a w → Below B a (w.setCells b o vs)
  | [], _, _, _, h => h
  | v :: vs, o, w, a, h => by
    rw [World.setCells]
    exact setCells_below hb vs _ _ _ (h.setCell hb v)
theorem ZLe.setCells {b o : Nat} {vs : List Value} (h : ∀ i, i < vs.length → ¬ Z b (o + i)) : ZLe w (w.setCells b o vs) Z Z := by
  intro b' o' hz
  refine ⟨hz, World.cell?_setCells_out b vs o w _ fun hb _ => ?_⟩
  simp only at hb
  subst hb
  by_cases h1 : o' < o
  · exact .inl h1
  · by_cases h2 : o + vs.length ≤ o'
    · exact .inr h2
    · exact absurd hz (by have := h (o' - o) (by omega); rwa [show o + (o' - o) = o' by omega] at this)
theorem ZLe.alloc (h : ∀ b o, Z b o → b < w.heap.size) (ob : Obj) : ZLe w (w.alloc ob) Z Z := fun b o hz => ⟨hz, World.cell?_alloc_lt _ _ _ (h b o hz)⟩
theorem ZLe.drew : ZLe w w.drew Z Z := fun b o hz => ⟨hz, rfl⟩

/-- A block less. -/
theorem Inv.del (h : Inv B W0 Z0 g w Z μ) (t : Nat) : Inv B W0 Z0 (put1 g (t, none)) w Z μ where
  bel := h.bel
  base := h.base
  zin := h.zin
  zold := h.zold
  blk u c hu := by
    simp only [put1] at hu
    split at hu
    · cases hu
    · exact h.blk u c hu
  dis u v cu cv m m' hn hu hv := by
    simp only [put1] at hu hv
    split at hu
    · cases hu
    · split at hv
      · cases hv
      · exact h.dis u v cu cv m m' hn hu hv

theorem Inv.drew (h : Inv B W0 Z0 g w Z μ) : Inv B W0 Z0 g w.drew Z μ where
  bel := h.bel.drew
  base := h.base
  zin := h.zin
  zold := h.zold
  blk t c ht := by
    obtain ⟨m, h1, h2, h3, h4, h5, h6, h7⟩ := h.blk t c ht
    exact ⟨m, h1, h2, h3, h4, by simpa using h5, h6, h7.mono ZLe.drew MLe.refl fun _ _ => rfl⟩
  dis := h.dis

/-- Cells are written in the extent of block t, which is given up. -/
theorem Inv.write (h : Inv B W0 Z0 g w Z μ) {t : Nat} {c : List T} {m : Loc} (ht : g t = some c) (hm : μ t = some m) (k : Nat) (vs : List Value) (hk : k + vs.length ≤ m.2.2) :
    Inv B W0 Z0 (put1 g (t, none)) (w.setCells m.1 (m.2.1 + k) vs) Z μ ∧ ZLe w (w.setCells m.1 (m.2.1 + k) vs) Z Z := by
  obtain ⟨m', h1, h2, h3, h4, h5, h6, h7⟩ := h.blk t c ht
  obtain rfl : m' = m := by rw [hm] at h1; exact (Option.some.inj h1).symm
  have hz : ZLe w (w.setCells m'.1 (m'.2.1 + k) vs) Z Z := ZLe.setCells fun i hi => by
    have := h6 (k + i) (by omega); rwa [← Nat.add_assoc] at this
  refine ⟨⟨setCells_below h2 _ _ _ _ h.bel, by rw [setCells_size]; exact h.base, by rw [setCells_size]; exact h.zin, h.zold, fun u cu hu => ?_, (h.del t).dis⟩, hz⟩
  have hne : u ≠ t := fun e => by simp [put1, e] at hu
  have hu' : g u = some cu := by simpa [put1, hne] using hu
  obtain ⟨mu, k1, k2, k3, k4, k5, k6, k7⟩ := h.blk u cu hu'
  refine ⟨mu, k1, k2, by rw [setCells_size]; exact k3, k4, World.there_setCells k5 _ _ _, k6, k7.mono hz MLe.refl fun i hi => ?_⟩
  refine World.cell?_setCells_out _ _ _ _ _ fun hb _ => ?_
  simp only at hb ⊢
  rcases h.dis u t cu c mu m' hne hu' ht k1 h1 with hd | hd | hd
  · exact absurd hb.symm (fun e => hd e.symm)
  · left; omega
  · right; omega

/-- A block more: cells that are there and that nobody else has. -/
theorem Inv.put (h : Inv B W0 Z0 g w Z μ) {t : Nat} {c : List T} {m : Loc} (hm : μ t = some m) (hB : B ≤ m.1) (hs : m.1 < w.heap.size) (hc : c.length ≤ m.2.2) (hth : w.there m.1 m.2.1 m.2.2)
    (hZ : ∀ i, i < m.2.2 → ¬ Z m.1 (m.2.1 + i)) (hD : VD w Z μ m.1 m.2.1 c)
    (hd : ∀ (u : Nat) cu m', u ≠ t → g u = some cu → μ u = some m' → m.1 ≠ m'.1 ∨ m.2.1 + m.2.2 ≤ m'.2.1 ∨ m'.2.1 + m'.2.2 ≤ m.2.1) : Inv B W0 Z0 (put1 g (t, some c)) w Z μ where
  bel := h.bel
  base := h.base
  zin := h.zin
  zold := h.zold
  blk u cu hu := by
    simp only [put1] at hu
    split at hu
    · rename_i e; subst e; obtain rfl := Option.some.inj hu; exact ⟨m, hm, hB, hs, hc, hth, hZ, hD⟩
    · exact h.blk u cu hu
  dis u v cu cv mu mv hn hu hv k1 k2 := by
    simp only [put1] at hu hv
    split at hu
    · rename_i e; subst e
      rw [if_neg (fun e => hn e.symm)] at hv
      rw [hm] at k1; obtain rfl := Option.some.inj k1
      exact hd v cv mv (fun e => hn e.symm) hv k2
    · rename_i hne
      split at hv
      · rename_i e; subst e
        rw [hm] at k2; obtain rfl := Option.some.inj k2
        rcases hd u cu mu hne hu k1 with h1 | h1 | h1
        · exact .inl fun e => h1 e.symm
        · exact .inr (.inr h1)
        · exact .inr (.inl h1)
      · exact h.dis u v cu cv mu mv hn hu hv k1 k2

def upd (μ : Nat → Option Loc) (t : Nat) (m : Loc) : Nat → Option Loc := fun u => if u = t then some m else μ u
theorem MLe.upd {t : Nat} {m : Loc} (h : μ t = none) : MLe μ (upd μ t m) := fun u k hu => by
  have : u ≠ t := fun e => by subst e; rw [h] at hu; cases hu
  simp [Abs.upd, this, hu]

/-- A name more for blocks. -/
theorem Inv.name (h : Inv B W0 Z0 g w Z μ) {t : Nat} {m : Loc} (hn : μ t = none) : Inv B W0 Z0 g w Z (upd μ t m) where
  bel := h.bel
  base := h.base
  zin := h.zin
  zold := h.zold
  blk u c hu := by
    obtain ⟨mu, h1, h2, h3, h4, h5, h6, h7⟩ := h.blk u c hu
    exact ⟨mu, MLe.upd hn u mu h1, h2, h3, h4, h5, h6, h7.mono ZLe.refl (MLe.upd hn) fun _ _ => rfl⟩
  dis u v cu cv mu mv hne hu hv k1 k2 := by
    obtain ⟨m1, h1, _⟩ := h.blk u cu hu
    obtain ⟨m2, h2, _⟩ := h.blk v cv hv
    have e1 := MLe.upd (m := m) hn u m1 h1
    have e2 := MLe.upd (m := m) hn v m2 h2
    rw [e1] at k1; rw [e2] at k2
    obtain rfl := Option.some.inj k1
    obtain rfl := Option.some.inj k2
    exact h.dis u v cu cv _ _ hne hu hv h1 h2

/-- A block of memory is made. -/
theorem Inv.alloc (h : Inv B W0 Z0 g w Z μ) {t : Nat} {c : List T} (arr : Array Value) (e : TypeId) (hn : μ t = none) (hl : allLeaf c = true) (hc : c.length ≤ arr.size)
    (hv : ∀ (i : Nat) x, c[i]? = some x → ∃ v, arr[i]? = some v ∧ VR w Z μ x v) :
    Inv B W0 Z0 (put1 g (t, some c)) (w.alloc (.cells arr e)) Z (upd μ t (w.heap.size, 0, arr.size)) ∧ ZLe w (w.alloc (.cells arr e)) Z Z := by
  have hz : ZLe w (w.alloc (.cells arr e)) Z Z := ZLe.alloc h.zin _
  have hsz : (w.alloc (.cells arr e)).heap.size = w.heap.size + 1 := by simp
  have h0 := h.name (t := t) (m := (w.heap.size, 0, arr.size)) hn
  have h1 : Inv B W0 Z0 g (w.alloc (.cells arr e)) Z (upd μ t (w.heap.size, 0, arr.size)) :=
    ⟨h.bel.alloc h.base _, by rw [hsz]; have := h.base; omega, fun b o hb => by rw [hsz]; have := h.zin b o hb; omega, h.zold, fun u cu hu => by
      obtain ⟨mu, k1, k2, k3, k4, k5, k6, k7⟩ := h0.blk u cu hu
      exact ⟨mu, k1, k2, by rw [hsz]; omega, k4, World.there_alloc k5 _, k6, k7.mono hz MLe.refl fun i hi => World.cell?_alloc_lt _ _ _ k3⟩, h0.dis⟩
  refine ⟨h1.put (m := (w.heap.size, 0, arr.size)) (by simp [upd]) h.base (by rw [hsz]; omega) hc ?_ ?_ ?_ ?_, hz⟩
  · intro j hj
    simp only [Nat.zero_add]
    refine ⟨?_, ?_⟩
    · rw [World.cell?_alloc_new]; simp at hj; simp [hj]
    · rw [World.frozen?_alloc_new]
  · intro i hi hzz
    have := h.zin _ _ hzz
    simp at this
  · intro i x hx
    obtain ⟨v, k1, k2⟩ := hv i x hx
    refine ⟨List.all_eq_true.1 hl x (List.mem_of_getElem? hx), v, ?_, VR.mono hz (MLe.upd hn) x v k2⟩
    simp only [Nat.zero_add]
    rw [World.cell?_alloc_new]; exact k1
  · intro u cu m' hne hu hm'
    obtain ⟨mu, k1, k2, k3, _⟩ := h.blk u cu hu
    rw [MLe.upd hn u mu k1] at hm'
    obtain rfl := Option.some.inj hm'
    left; simp only; omega
end
end Go.Proofs.Ythanlobfjpjegaa.Abs
