/- From the reading of an argument as data to what its kind says of its cells: whole numbers, bools, strings, slices, structs and arrays, one inside the other. -/
import Derived.Test.YtkcncghdpjoodaaWWords
import Derived.ChangeArms
import Derived.OpenShut
import Derived.Deep.Slices
namespace Go.Proofs.Ytkcncghdpjoodaa.Opn
open Go.RowKit Go.Proofs.YtkcncghdpjoodaaW.PrintWords
set_option linter.unusedVariables false

/-- Whatever reads as data at type t is told by kind d, and its numbers fit. -/
def Opens {α : Type} (P : Program) (t : TypeId) (d : Kd α) (wf : α → Prop) : Prop :=
  ∀ (H : Type) (enc : TypeId × Value → H) (w : World) (base : Nat) (spare : Nat → Bool) (held : Bool) (fuel : Nat) (cs : List Value) (x : DataW H × List MemPlace),
    DataW.trod enc P w base spare held fuel t cs = some x → ∃ a, d.K w a cs ∧ wf a

section
variable {P : Program} {t : TypeId}
theorem opens_int {k : IntKind} (ht : P.underlying t = some (.int k)) : Opens P t (Kd.int k) (fun n => (Lit.int k n).wf = true) := by
  intro H enc w base spare held fuel cs x h
  cases fuel with
  | zero => simp [DataW.trod] at h
  | succ m =>
    unfold DataW.trod at h
    rw [ht] at h
    split at h <;> simp_all
    obtain ⟨⟨rfl, hw⟩, _⟩ := h
    exact ⟨_, rfl, hw⟩
theorem opens_bool (ht : P.underlying t = some .bool) : Opens P t Kd.bool (fun _ => True) := by
  intro H enc w base spare held fuel cs x h
  cases fuel with
  | zero => simp [DataW.trod] at h
  | succ m =>
    unfold DataW.trod at h
    rw [ht] at h
    split at h <;> first | exact ⟨_, rfl, trivial⟩ | simp_all
theorem cells_get {w : World} {base : Nat} {a : Addr} {n : Nat} {cs : List Value} (h : w.cells? base a n = some cs) : cs.length = n ∧ ∀ i u, cs[i]? = some u → w.cell? (a.add i) = some u := by
  unfold World.cells? at h
  split at h
  · have hl := mapM_some_length h
    refine ⟨by simpa using hl, fun i u hu => ?_⟩
    have hi : i < n := by
      have := (List.getElem?_eq_some_iff.1 hu).1
      simp at hl; omega
    have := mapM_some_get h i i (by simp [hi])
    rw [this, hu]
  · cases h
theorem opens_slice {α : Type} {e : TypeId} {d : Kd α} {wf : α → Prop} (ht : P.underlying t = some (.slice e)) (hd : Opens P e d wf) (hsz : P.cellsOf e = d.sz) :
    Opens P t (Kd.slice e d) (fun l => l.length ≤ maxLen ∧ ∀ x ∈ l, wf x) := by
  intro H enc w base spare held fuel cs x h
  rcases DataW.trod_slice ht h with ⟨rfl, _⟩ | ⟨a, len, cap, elems, rest, n, rfl, rfl, _, _, hl, hc, hel, he, _, _⟩
  · exact ⟨[], ⟨none, 0, rfl, Nat.le_refl _, ⟨rfl, by simp, fun h => absurd h (by simp)⟩⟩, by simp, by simp⟩
  · have key : ∀ i, i < len → ∃ y c, c.length = d.sz ∧ d.K w y c ∧ wf y ∧ ∀ j u, c[j]? = some u → w.cell? (a.add (i * d.sz + j)) = some u := by
      intro i hi
      have h1 := he i hi
      rw [List.getElem?_eq_getElem (by omega), Option.bind_eq_some_iff] at h1
      obtain ⟨c, hc1, hc2⟩ := h1
      obtain ⟨y, hy, hw⟩ := hd H enc w base spare held n c _ hc2
      obtain ⟨hcl, hcg⟩ := cells_get hc1
      rw [hsz] at hcl hcg
      refine ⟨y, c, hcl, hy, hw, fun j u hj => ?_⟩
      have := hcg j u hj
      rwa [Deep.add_add] at this
    have all : ∀ m, m ≤ len → ∃ l : List α, l.length = m ∧ (∀ x ∈ l, wf x) ∧ ∀ j p, l[j]? = some p → ∃ c, c.length = d.sz ∧ d.K w p c ∧ ∀ i u, c[i]? = some u → w.cell? (a.add (j * d.sz + i)) = some u := by
      intro m
      induction m with
      | zero => exact fun _ => ⟨[], rfl, by simp, by simp⟩
      | succ m ih =>
        intro hm
        obtain ⟨l, hl1, hl2, hl3⟩ := ih (by omega)
        obtain ⟨y, c, hc1, hc2, hc3, hc4⟩ := key m (by omega)
        refine ⟨l ++ [y], by simp [hl1], ?_, ?_⟩
        · intro z hz
          rcases List.mem_append.1 hz with hz | hz
          · exact hl2 z hz
          · rw [List.mem_singleton.1 hz]; exact hc3
        · intro j p hj
          rcases Nat.lt_or_ge j l.length with hlt | hge
          · rw [List.getElem?_append_left hlt] at hj
            exact hl3 j p hj
          · have : j = m := by
              have := (List.getElem?_eq_some_iff.1 hj).1
              simp at this; omega
            subst this
            rw [List.getElem?_append_right hge, hl1] at hj
            simp at hj
            subst hj
            exact ⟨c, hc1, hc2, hc4⟩
    obtain ⟨l, hl1, hl2, hl3⟩ := all len (Nat.le_refl _)
    subst hl1
    refine ⟨l, ⟨some a, cap, rfl, hl, ⟨rfl, by unfold maxLen at hc; omega, fun _ => ⟨a, rfl, hl3⟩⟩⟩, by omega, hl2⟩

/-- The same for fields that stand one behind the other, from off on. -/
def OpensF {α : Type} (P : Program) (fs : List Field) (off : Nat) (d : Kd α) (wf : α → Prop) : Prop :=
  ∀ (H : Type) (enc : TypeId × Value → H) (w : World) (base : Nat) (spare : Nat → Bool) (held : Bool) (fuel : Nat) (cs : List Value),
    cs.length = off + d.sz → (∀ f ∈ fs, ∃ x, DataW.trod enc P w base spare held fuel f.type ((cs.drop f.offset).take (P.cellsOf f.type)) = some x) → ∃ a, d.K w a (cs.drop off) ∧ wf a
theorem opensF_one {α : Type} {f : Field} {off : Nat} {d : Kd α} {wf : α → Prop} (hd : Opens P f.type d wf) (ho : f.offset = off) (hsz : P.cellsOf f.type = d.sz) : OpensF P [f] off d wf := by
  intro H enc w base spare held fuel cs hl h
  obtain ⟨x, hx⟩ := h f (by simp)
  rw [ho, List.take_of_length_le (by simp; omega)] at hx
  exact hd H enc w base spare held fuel _ _ hx
theorem opensF_cons {α β : Type} {f : Field} {fs : List Field} {off : Nat} {d1 : Kd α} {d2 : Kd β} {wf1 : α → Prop} {wf2 : β → Prop}
    (hd : Opens P f.type d1 wf1) (ho : f.offset = off) (hsz : P.cellsOf f.type = d1.sz) (hr : OpensF P fs (off + d1.sz) d2 wf2) : OpensF P (f :: fs) off (Kd.pair d1 d2) (fun p => wf1 p.1 ∧ wf2 p.2) := by
  intro H enc w base spare held fuel cs hl h
  have hs : (Kd.pair d1 d2).sz = d1.sz + d2.sz := rfl
  obtain ⟨x, hx⟩ := h f (by simp)
  obtain ⟨b, hb, hwb⟩ := hr H enc w base spare held fuel cs (by omega) (fun g hg => h g (List.mem_cons_of_mem _ hg))
  rw [ho, hsz] at hx
  obtain ⟨a, ha, hwa⟩ := hd H enc w base spare held fuel _ _ hx
  refine ⟨(a, b), ⟨_, _, ?_, ha, hb⟩, hwa, hwb⟩
  rw [← List.drop_drop, List.take_append_drop]
theorem opens_struct {α β : Type} {fs : Array Field} {d : Kd α} {wf : α → Prop} (proj : β → α) (mk : α → β) (hp : ∀ a, proj (mk a) = a)
    (ht : P.underlying t = some (.struct fs)) (hf : OpensF P fs.toList 0 d wf) (hsz : P.cellsOf t = d.sz) : Opens P t (Kd.iso d proj) (fun s => wf (proj s)) := by
  intro H enc w base spare held fuel cs x h
  obtain ⟨xs, n, rfl, rfl, hl, hxl, hg⟩ := DataW.trod_struct ht h
  obtain ⟨a, ha, hw⟩ := hf H enc w base spare held n cs (by omega) (fun f hm => by
    obtain ⟨i, hi, he⟩ := List.getElem_of_mem hm
    have hi' : i < fs.size := by simpa using hi
    have := hg i f (by rw [Array.getElem?_eq_getElem hi', ← he]; simp)
    rw [List.getElem?_eq_getElem (by omega)] at this
    exact ⟨_, this⟩)
  refine ⟨mk a, ?_, ?_⟩
  · show d.K w (proj (mk a)) cs
    rw [hp]; exact ha
  · show wf (proj (mk a))
    rw [hp]; exact hw
/-- An array, told as so many fields. -/
def arrF (e : TypeId) (sz : Nat) : Nat → Nat → List Field
  | 0, _ => []
  | n + 1, i => { name := "", type := e, offset := i * sz, embedded := false, tag := "", pkgPath := "", byteOffset := 0 } :: arrF e sz n (i + 1)
theorem arrF_mem {e : TypeId} {sz : Nat} {f : Field} : ∀ {n i : Nat}, f ∈ arrF e sz n i → ∃ j, j < n ∧ f.type = e ∧ f.offset = (i + j) * sz
  | 0, i, h => by simp [arrF] at h
  | n + 1, i, h => by
    simp only [arrF, List.mem_cons] at h
    rcases h with rfl | h
    · exact ⟨0, by omega, rfl, rfl⟩
    · obtain ⟨j, hj, h1, h2⟩ := arrF_mem h
      exact ⟨j + 1, by omega, h1, by rw [h2]; congr 1; omega⟩
theorem opens_array {α β : Type} {n : Nat} {e : TypeId} {sz : Nat} {d : Kd α} {wf : α → Prop} (hes : P.cellsOf e = sz) (proj : β → α) (mk : α → β) (hp : ∀ a, proj (mk a) = a)
    (ht : P.underlying t = some (.array n e)) (hf : OpensF P (arrF e sz n 0) 0 d wf) (hsz : P.cellsOf t = d.sz) : Opens P t (Kd.iso d proj) (fun s => wf (proj s)) := by
  intro H enc w base spare held fuel cs x h
  obtain ⟨xs, m, rfl, rfl, hl, hxl, hg⟩ := DataW.trod_array ht h
  obtain ⟨a, ha, hw⟩ := hf H enc w base spare held m cs (by omega) (fun f hm => by
    obtain ⟨j, hj, h1, h2⟩ := arrF_mem hm
    have := hg j hj
    rw [List.getElem?_eq_getElem (by omega)] at this
    rw [h1, h2, Nat.zero_add, ← hes]
    exact ⟨_, this⟩)
  refine ⟨mk a, ?_, ?_⟩
  · show d.K w (proj (mk a)) cs
    rw [hp]; exact ha
  · show wf (proj (mk a))
    rw [hp]; exact hw
theorem okWide_struct {fs : Array Field} {W : World} {r : Reach} {base : Nat} {v : Value} (ht : P.underlying t = some (.struct fs)) (h : Value.okWide P W r base t v) : ∃ cs, v = .agg cs := by
  unfold Value.okWide at h
  rw [ht] at h
  obtain ⟨cs, h, _⟩ := h
  exact ⟨cs, h⟩
/-- A struct's value, by its cells. -/
theorem agg_arr {cs : Array Value} {l : List Value} (h : (Value.agg cs).cells.toList = l) : cs = l.toArray := by
  have e : (Value.agg cs).cells = cs := rfl
  rw [e] at h
  rw [← h]
end
end Go.Proofs.Ytkcncghdpjoodaa.Opn

