/- From the reading of an argument as data to the plain machine's trees. -/
import Derived.Test.YtabfinhkoihhfaaGreatC3
import Derived.ChangeArms
import Derived.OpenShut
import Derived.Deep.Slices
namespace Go.Proofs.YtabfinhkoihhfaaGreat.Abs
open Go Go.RowKit
set_option linter.unusedVariables false
set_option linter.unusedSimpArgs false
set_option linter.unnecessarySimpa false

/-- All memory that is there. -/
def ZAll (w : World) (b o : Nat) : Prop := b < w.heap.size
/-- Whatever reads as data at type t is some a, told by enc, and fits. -/
def OpensT {α : Type} (P : Program) (t : TypeId) (sz : Nat) (enc : α → List T) (wf : α → Prop) : Prop :=
  (∀ a, wf a → (enc a).length = sz) ∧ ∀ (H : Type) (en : TypeId × Value → H) (w : World) (base : Nat) (spare : Nat → Bool) (held : Bool) (fuel : Nat) (cs : List Value) (x : DataW H × List MemPlace),
    DataW.trod en P w base spare held fuel t cs = some x → ∃ a, VIL w (ZAll w) (enc a) cs ∧ allLeaf (enc a) = true ∧ wf a

theorem VIL.app {w : World} {Z : Nat → Nat → Prop} : ∀ {l l' : List T} {vs vs' : List Value}, VIL w Z l vs → VIL w Z l' vs' → VIL w Z (l ++ l') (vs ++ vs')
  | [], _, _, _, h, h' => by simp only [VIL] at h; subst h; simpa using h'
  | x :: l, l', vs, vs', h, h' => by
    simp only [VIL] at h
    obtain ⟨v, r, rfl, h1, h2⟩ := h
    simp only [List.cons_append, VIL]
    exact ⟨v, r ++ vs', rfl, h1, VIL.app h2 h'⟩

section
variable {P : Program} {t : TypeId}
theorem opens_int {k : IntKind} (ht : P.underlying t = some (.int k)) : OpensT P t 1 (fun n => [T.int k n]) (fun n => (Lit.int k n).wf = true) := by
  refine ⟨fun _ _ => rfl, fun H en w base spare held fuel cs x h => ?_⟩
  cases fuel with
  | zero => simp [DataW.trod] at h
  | succ m =>
    unfold DataW.trod at h
    rw [ht] at h
    split at h <;> simp_all
    obtain ⟨⟨rfl, hw⟩, _⟩ := h
    exact ⟨_, by simp only [VIL, VI]; exact ⟨_, [], rfl, rfl, rfl⟩, rfl, hw⟩
theorem opens_bool (ht : P.underlying t = some .bool) : OpensT P t 1 (fun b => [T.bool b]) (fun _ => True) := by
  refine ⟨fun _ _ => rfl, fun H en w base spare held fuel cs x h => ?_⟩
  cases fuel with
  | zero => simp [DataW.trod] at h
  | succ m =>
    unfold DataW.trod at h
    rw [ht] at h
    split at h <;> first | exact ⟨_, by simp only [VIL, VI]; exact ⟨_, [], rfl, rfl, rfl⟩, rfl, trivial⟩ | simp_all
theorem cells_get {w : World} {base : Nat} {a : Addr} {n : Nat} {cs : List Value} (h : w.cells? base a n = some cs) : cs.length = n ∧ ∀ i u, cs[i]? = some u → w.cell? (a.add i) = some u := by
  unfold World.cells? at h
  split at h
  · have hl := mapM_some_length h
    refine ⟨by simpa using hl, fun i u hu => ?_⟩
    have hi : i < n := by
      have := (List.getElem?_eq_some_iff.1 hu).1
      simp at hl; omega
    have := mapM_some_get h i i (by simp [hi])
    rw [this, hu]
  · cases h
theorem cell_lt {w : World} {b o : Nat} {v : Value} (h : w.cell? ⟨b, o, none⟩ = some v) : b < w.heap.size := by
  unfold World.cell? at h
  split at h
  · rename_i hb; exact (Array.getElem?_eq_some_iff.1 hb).1
  · cases h
theorem cell_spot {w : World} {a : Addr} {v : Value} (h : w.cell? a = some v) : a.spot = none := by
  unfold World.cell? at h
  split at h
  · split at h
    · cases h
    · rename_i hs; simpa using hs
  · cases h
/-- Cells that are told lie so in memory. -/
theorem vil_vc {w : World} {l : List T} {cs : List Value} (h : VIL w (ZAll w) l cs) (hf : allLeaf l = true) {b o : Nat} (hc : ∀ i u, cs[i]? = some u → w.cell? ⟨b, o + i, none⟩ = some u) : VC w (ZAll w) b o l := by
  refine VC.mk fun i x hx => ?_
  obtain ⟨v, h1, h2⟩ := h.get hx
  have := hc i v h1
  exact ⟨v, this, cell_lt this, h2, List.all_eq_true.1 hf x (List.mem_of_getElem? hx)⟩
theorem vc_app {w : World} {Z : Nat → Nat → Prop} : ∀ {l l' : List T} {b o : Nat}, VC w Z b o l → VC w Z b (o + l.length) l' → VC w Z b o (l ++ l')
  | [], _, _, _, _, h' => by simpa using h'
  | x :: l, l', b, o, h, h' => by
    simp only [VC, List.cons_append] at h ⊢
    exact ⟨h.1, vc_app h.2 (by rwa [show o + 1 + l.length = o + (x :: l).length by simp; omega])⟩
theorem leaf_app {l l' : List T} (h : allLeaf l = true) (h' : allLeaf l' = true) : allLeaf (l ++ l') = true := leaf_append h h'

theorem opens_slice {α : Type} {e : TypeId} {sz : Nat} {enc : α → List T} {wf : α → Prop} (ht : P.underlying t = some (.slice e)) (hd : OpensT P e sz enc wf) (hsz : P.cellsOf e = sz) (hpos : 0 < sz) :
    OpensT P t 1 (fun l : List α => [T.imm false l.length (l.flatMap enc)]) (fun l => l.length ≤ maxLen ∧ ∀ x ∈ l, wf x) := by
  refine ⟨fun _ _ => rfl, fun H en w base spare held fuel cs x h => ?_⟩
  rcases DataW.trod_slice ht h with ⟨rfl, _⟩ | ⟨a, len, cap, elems, rest, n, rfl, rfl, _, _, hl, hc, hel, he, _, _⟩
  · exact ⟨[], by simp only [VIL, VI]; exact ⟨_, [], rfl, ⟨none, 0, rfl, Nat.le_refl _, by simp, .inl rfl⟩, rfl⟩, rfl, by simp, by simp⟩
  · have key : ∀ i, i < len → ∃ y c, c.length = sz ∧ VIL w (ZAll w) (enc y) c ∧ allLeaf (enc y) = true ∧ wf y ∧ ∀ j u, c[j]? = some u → w.cell? (a.add (i * sz + j)) = some u := by
      intro i hi
      have h1 := he i hi
      rw [List.getElem?_eq_getElem (by omega), Option.bind_eq_some_iff] at h1
      obtain ⟨c, hc1, hc2⟩ := h1
      obtain ⟨y, hy, hyl, hw⟩ := hd.2 H en w base spare held n c _ hc2
      obtain ⟨hcl, hcg⟩ := cells_get hc1
      rw [hsz] at hcl hcg
      refine ⟨y, c, hcl, hy, hyl, hw, fun j u hj => ?_⟩
      have := hcg j u hj
      rwa [Deep.add_add] at this
    have hspot : 0 < len → a.spot = none := fun hp => by
      obtain ⟨y, c, k1, _, _, _, k5⟩ := key 0 hp
      have hc0 : 0 < c.length := by omega
      have := k5 0 c[0] (List.getElem?_eq_getElem hc0)
      simp [Addr.add] at this
      exact cell_spot this
    have all : ∀ m, m ≤ len → ∃ l : List α, l.length = m ∧ (∀ x ∈ l, wf x) ∧ allLeaf (l.flatMap enc) = true ∧ (0 < m → VC w (ZAll w) a.block a.off (l.flatMap enc)) ∧ (l.flatMap enc).length = m * sz := by
      intro m
      induction m with
      | zero => exact fun _ => ⟨[], rfl, by simp, rfl, by simp, by simp⟩
      | succ m ih =>
        intro hm
        obtain ⟨l, hl1, hl2, hl3, hl4, hl5⟩ := ih (by omega)
        obtain ⟨y, c, hc1, hc2, hc3, hc4, hc5⟩ := key m (by omega)
        have hs := hspot (by omega)
        refine ⟨l ++ [y], by simp [hl1], ?_, ?_, fun _ => ?_, ?_⟩
        · intro z hz
          rcases List.mem_append.1 hz with hz | hz
          · exact hl2 z hz
          · rw [List.mem_singleton.1 hz]; exact hc4
        · rw [List.flatMap_append]; exact leaf_app hl3 (by simpa using hc3)
        · rw [List.flatMap_append]
          have hone : VC w (ZAll w) a.block (a.off + (l.flatMap enc).length) ([y].flatMap enc) := by
            rw [show [y].flatMap enc = enc y by simp, hl5]
            refine vil_vc hc2 hc3 fun i u hu => ?_
            have := hc5 i u hu
            have e : a.add (m * sz + i) = ⟨a.block, a.off + m * sz + i, none⟩ := by
              have : a = ⟨a.block, a.off, none⟩ := by cases a; simp at hs; subst hs; rfl
              rw [this, add_at, Nat.add_assoc]
            rwa [e] at this
          rcases Nat.eq_zero_or_pos m with h0 | h0
          · have : l = [] := List.eq_nil_of_length_eq_zero (by omega)
            subst this
            simpa using hone
          · exact vc_app (hl4 h0) hone
        · rw [List.flatMap_append, List.length_append, hl5]
          simp [hd.1 y hc4, Nat.add_mul]
    obtain ⟨l, hl1, hl2, hl3, hl4, hl5⟩ := all len (Nat.le_refl _)
    subst hl1
    refine ⟨l, ?_, rfl, by omega, hl2⟩
    simp only [VIL, VI]
    refine ⟨_, [], rfl, ⟨some a, cap, rfl, hl, by simp, ?_⟩, rfl⟩
    rcases Nat.eq_zero_or_pos l.length with h0 | h0
    · left; rw [List.eq_nil_of_length_eq_zero h0]; rfl
    · right
      refine ⟨a.block, a.off, ?_, hl4 h0⟩
      have := hspot h0
      cases a; simp at this; subst this; rfl

/-- The same for fields that stand one behind the other, from off on. -/
def OpensF {α : Type} (P : Program) (fs : List Field) (off sz : Nat) (enc : α → List T) (wf : α → Prop) : Prop :=
  (∀ a, wf a → (enc a).length = sz) ∧ ∀ (H : Type) (en : TypeId × Value → H) (w : World) (base : Nat) (spare : Nat → Bool) (held : Bool) (fuel : Nat) (cs : List Value),
    cs.length = off + sz → (∀ f ∈ fs, ∃ x, DataW.trod en P w base spare held fuel f.type ((cs.drop f.offset).take (P.cellsOf f.type)) = some x) → ∃ a, VIL w (ZAll w) (enc a) (cs.drop off) ∧ allLeaf (enc a) = true ∧ wf a
theorem opensF_one {α : Type} {f : Field} {off sz : Nat} {enc : α → List T} {wf : α → Prop} (hd : OpensT P f.type sz enc wf) (ho : f.offset = off) (hsz : P.cellsOf f.type = sz) : OpensF P [f] off sz enc wf := by
  refine ⟨hd.1, fun H en w base spare held fuel cs hl h => ?_⟩
  obtain ⟨x, hx⟩ := h f (by simp)
  rw [ho, List.take_of_length_le (by simp; omega)] at hx
  exact hd.2 H en w base spare held fuel _ _ hx
theorem opensF_cons {α β : Type} {f : Field} {fs : List Field} {off s1 s2 : Nat} {e1 : α → List T} {e2 : β → List T} {wf1 : α → Prop} {wf2 : β → Prop}
    (hd : OpensT P f.type s1 e1 wf1) (ho : f.offset = off) (hsz : P.cellsOf f.type = s1) (hr : OpensF P fs (off + s1) s2 e2 wf2) : OpensF P (f :: fs) off (s1 + s2) (fun p : α × β => e1 p.1 ++ e2 p.2) (fun p => wf1 p.1 ∧ wf2 p.2) := by
  refine ⟨fun a ha => by simp [hd.1 _ ha.1, hr.1 _ ha.2], fun H en w base spare held fuel cs hl h => ?_⟩
  obtain ⟨x, hx⟩ := h f (by simp)
  obtain ⟨b, hb, hbl, hwb⟩ := hr.2 H en w base spare held fuel cs (by omega) (fun g hg => h g (List.mem_cons_of_mem _ hg))
  rw [ho, hsz] at hx
  obtain ⟨a, ha, hal, hwa⟩ := hd.2 H en w base spare held fuel _ _ hx
  refine ⟨(a, b), ?_, leaf_app hal hbl, hwa, hwb⟩
  have := ha.app hb
  rwa [← List.drop_drop, List.take_append_drop] at this
theorem opens_struct {α β : Type} {fs : Array Field} {sz : Nat} {enc : α → List T} {wf : α → Prop} (mk : α → β) (enc' : β → List T) (wf' : β → Prop) (he : ∀ a, enc' (mk a) = enc a) (hw : ∀ a, wf a → wf' (mk a)) (hl : ∀ b, wf' b → (enc' b).length = sz)
    (ht : P.underlying t = some (.struct fs)) (hf : OpensF P fs.toList 0 sz enc wf) (hsz : P.cellsOf t = sz) : OpensT P t sz enc' wf' := by
  refine ⟨hl, fun H en w base spare held fuel cs x h => ?_⟩
  obtain ⟨xs, n, rfl, rfl, hlen, hxl, hg⟩ := DataW.trod_struct ht h
  obtain ⟨a, ha, hal, hwa⟩ := hf.2 H en w base spare held n cs (by omega) (fun f hm => by
    obtain ⟨i, hi, he⟩ := List.getElem_of_mem hm
    have hi' : i < fs.size := by simpa using hi
    have := hg i f (by rw [Array.getElem?_eq_getElem hi', ← he]; simp)
    rw [List.getElem?_eq_getElem (by omega)] at this
    exact ⟨_, this⟩)
  exact ⟨mk a, by rw [he]; simpa using ha, by rw [he]; exact hal, hw a hwa⟩
theorem opens_array {α : Type} {n : Nat} {e : TypeId} {sz : Nat} {enc : α → List T} {wf : α → Prop} (ht : P.underlying t = some (.array n e)) (hd : OpensT P e sz enc wf) (hes : P.cellsOf e = sz) (hsz : P.cellsOf t = n * sz) :
    OpensT P t (n * sz) (fun l : List α => l.flatMap enc) (fun l => l.length = n ∧ ∀ x ∈ l, wf x) := by
  have hlen : ∀ l : List α, (∀ x ∈ l, wf x) → (l.flatMap enc).length = l.length * sz := by
    intro l
    induction l with
    | nil => intro _; simp
    | cons x l ih => intro h; rw [List.flatMap_cons, List.length_append, ih fun y hy => h y (by simp [hy]), hd.1 x (h x (by simp)), List.length_cons, Nat.add_mul, Nat.one_mul, Nat.add_comm]
  refine ⟨fun l h => by rw [hlen l h.2, h.1], fun H en w base spare held fuel cs x h => ?_⟩
  obtain ⟨xs, m, rfl, rfl, hl, hxl, hg⟩ := DataW.trod_array ht h
  have all : ∀ k, k ≤ n → ∃ l : List α, l.length = k ∧ (∀ x ∈ l, wf x) ∧ allLeaf (l.flatMap enc) = true ∧ VIL w (ZAll w) (l.flatMap enc) (cs.take (k * sz)) := by
    intro k
    induction k with
    | zero => exact fun _ => ⟨[], rfl, by simp, rfl, by simp [VIL]⟩
    | succ k ih =>
      intro hk
      obtain ⟨l, l1, l2, l3, l4⟩ := ih (by omega)
      have := hg k (by omega)
      rw [List.getElem?_eq_getElem (by omega), hes] at this
      obtain ⟨y, hy, hyl, hw⟩ := hd.2 H en w base spare held m _ _ this
      refine ⟨l ++ [y], by simp [l1], ?_, ?_, ?_⟩
      · intro z hz
        rcases List.mem_append.1 hz with hz | hz
        · exact l2 z hz
        · rw [List.mem_singleton.1 hz]; exact hw
      · rw [List.flatMap_append]; exact leaf_app l3 (by simpa using hyl)
      · rw [List.flatMap_append, Nat.add_mul, Nat.one_mul, List.take_add]
        exact l4.app (by simpa using hy)
  obtain ⟨l, l1, l2, l3, l4⟩ := all n (Nat.le_refl _)
  refine ⟨l, ?_, l3, l1, l2⟩
  rwa [List.take_of_length_le (by omega)] at l4
theorem okWide_struct {fs : Array Field} {W : World} {r : Reach} {base : Nat} {v : Value} (ht : P.underlying t = some (.struct fs)) (h : Value.okWide P W r base t v) : ∃ cs, v = .agg cs := by
  unfold Value.okWide at h
  rw [ht] at h
  obtain ⟨cs, h, _⟩ := h
  exact ⟨cs, h⟩
theorem okWide_array {n : Nat} {e : TypeId} {W : World} {r : Reach} {base : Nat} {v : Value} (ht : P.underlying t = some (.array n e)) (h : Value.okWide P W r base t v) : ∃ cs, v = .agg cs := by
  unfold Value.okWide at h
  rw [ht] at h
  obtain ⟨cs, h, _⟩ := h
  exact ⟨cs, h⟩
/-- One value. -/
theorem vil_one {w : World} {Z : Nat → Nat → Prop} {x : T} {v : Value} (h : VIL w Z [x] [v]) : VI w Z x v := by
  simp only [VIL] at h
  obtain ⟨v', vs, e, h1, rfl⟩ := h
  simp at e; subst e; exact h1
theorem vil_agg {w : World} {Z : Nat → Nat → Prop} {l : List T} {cs : Array Value} (h : VIL w Z l (Value.agg cs).cells.toList) : VI w Z (.agg l) (.agg cs) := by
  simp only [VI]; exact ⟨cs, rfl, h⟩
end
end Go.Proofs.YtabfinhkoihhfaaGreat.Abs
