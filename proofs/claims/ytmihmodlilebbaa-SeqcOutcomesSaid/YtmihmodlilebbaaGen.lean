/- Words as trees, frozen lists, what a function gives of which something holds. -/
import Derived.Test.YtmihmodlilebbaaC7
import Derived.Test.YtmihmodlilebbaaFn
import Derived.Test.YtmihmodlilebbaaTy
namespace Go.Proofs.Ytmihmodlilebbaa.Abs
open Go Go.RowKit Fn
set_option linter.unusedVariables false
set_option linter.unusedSimpArgs false
set_option linter.unnecessarySimpa false
set_option maxRecDepth 100000

theorem cut_all {c : List T} {n : Nat} (h : c.length = n) : cut c 0 n = c := by
  unfold cut; rw [List.drop_zero, List.take_of_length_le (by omega)]
theorem splice_all {c l : List T} (h : l.length = c.length) : splice c 0 l = l := by
  apply List.ext_getElem?
  intro i
  rw [splice_get l c 0 i (by omega)]
  split
  · rw [Nat.sub_zero]
  · rw [List.getElem?_eq_none (by omega), List.getElem?_eq_none (by omega)]
theorem W_cut {AP : AProg} {a b : ACode} {st : St} {Q : AExit → St → Prop} (P : St → Prop) (ha : W AP a st (fun e s => e = .normal ∧ P s)) (hb : ∀ s, P s → W AP b s Q) : W AP (.seq a b) st Q := W_seqn (ha.mono fun _ s h => ⟨h.1, hb s h.2⟩)
theorem E_bodyV {AP : AProg} {f : Nat} {F : AFun} (hF : AP f = some F) (hp : F.pure = true) (hn : F.nat = none) {args : List T} {P : T → Prop} (h : W AP F.body ⟨args ++ List.replicate (F.ntmps - args.length) .undef, fun _ => none, 0⟩ (fun e st => e.leaves = true ∧ ∃ v, P v ∧ ∃ u ids, resT st.s st.g F.res = some u ∧ frz ⟨st.g, st.nx⟩ frzDepth u = some (v, ids))) : ∃ v, E AP f args v ∧ P v := by
  obtain ⟨k, e, st, h1, h2, v, hv, u, ids, h3, h4⟩ := h
  exact ⟨v, E_body hF hp hn ⟨k, e, st, h1, h2, u, ids, h3, h4⟩, hv⟩
theorem frzAll_pt {f : T → Option (T × List Nat)} : ∀ (l l' : List T), l.length = l'.length → (∀ j (h : j < l.length) (h' : j < l'.length), ∃ ids, f l[j] = some (l'[j], ids)) → ∃ ids, frzAll f l = some (l', ids)
  | [], [], _, _ => ⟨[], rfl⟩
  | x :: l, y :: l', hl, h => by
    obtain ⟨is, h1⟩ := h 0 (by simp) (by simp)
    obtain ⟨js, h2⟩ := frzAll_pt l l' (by simpa using hl) (fun j hj hj' => h (j + 1) (by simp; omega) (by simp; omega))
    simp only [List.getElem_cons_zero] at h1
    exact ⟨is ++ js, by simp only [frzAll, h1, h2]⟩
  | [], _ :: _, hl, _ => by simp at hl
  | _ :: _, [], hl, _ => by simp at hl
theorem frzAll_app {f : T → Option (T × List Nat)} : ∀ {a a' b b' : List T}, (∃ i, frzAll f a = some (a', i)) → (∃ i, frzAll f b = some (b', i)) → ∃ i, frzAll f (a ++ b) = some (a' ++ b', i)
  | [], a', b, b', ⟨i, h⟩, h' => by
    simp only [frzAll, Option.some.injEq, Prod.mk.injEq] at h
    rw [← h.1]; exact h'
  | x :: a, a', b, b', ⟨i, h⟩, h' => by
    simp only [frzAll] at h
    split at h
    · rename_i y us l' ts hx ha
      simp only [Option.some.injEq, Prod.mk.injEq] at h
      obtain ⟨j, hj⟩ := frzAll_app (a := a) ⟨_, ha⟩ h'
      refine ⟨us ++ j, ?_⟩
      rw [← h.1]
      simp only [List.cons_append, frzAll, hx, hj]
    · cases h
theorem frz_own {h : Hp} {d t n es : Nat} {c c' : List T} (hg : h.get t = some c) (hl : c.length = n * es) (hf : ∃ ids, frzAll (frz h d) c = some (c', ids)) : ∃ ids, frz h (d + 1) (.own t 0 n es) = some (.imm false n c', ids) := by
  obtain ⟨ids, hf⟩ := hf
  have e : ((c.drop 0).take (n * es)) = c := by rw [List.drop_zero, List.take_of_length_le (by omega)]
  exact ⟨t :: ids, by simp only [frz, hg, e, hl, if_true, hf]⟩
theorem frz_agg {h : Hp} {d : Nat} {x y : List T} (hf : ∃ ids, frzAll (frz h d) x = some (y, ids)) : ∃ ids, frz h (d + 1) (.agg x) = some (.agg y, ids) := by
  obtain ⟨ids, hf⟩ := hf
  exact ⟨ids, by simp only [frz, hf]⟩
theorem frz_tup {h : Hp} {d : Nat} {x y : List T} (hf : ∃ ids, frzAll (frz h d) x = some (y, ids)) : ∃ ids, frz h (d + 1) (.tup x) = some (.tup y, ids) := by
  obtain ⟨ids, hf⟩ := hf
  exact ⟨ids, by simp only [frz, hf]⟩
theorem frz_one {h : Hp} {d : Nat} {x y : T} (hf : ∃ ids, frz h d x = some (y, ids)) : ∃ ids, frzAll (frz h d) [x] = some ([y], ids) := by
  obtain ⟨ids, hf⟩ := hf
  exact ⟨ids ++ [], by simp only [frzAll, hf]⟩
/-- Nothing of one's own: what is so is frozen as it is. -/
def Still : T → Prop
  | .int _ _ | .bool _ | .str _ | .imm _ _ _ => True
  | _ => False
theorem frz_still {h : Hp} {d : Nat} {x : T} (hx : Still x) : ∃ ids, frz h (d + 1) x = some (x, ids) := by
  cases x <;> first | exact ⟨[], rfl⟩ | exact absurd hx (by simp [Still])
theorem frzAll_still {h : Hp} {d : Nat} {l : List T} (hl : ∀ x ∈ l, Still x) : ∃ ids, frzAll (frz h (d + 1)) l = some (l, ids) :=
  frzAll_pt l l rfl (fun j hj _ => frz_still (hl _ (List.getElem_mem hj)))
theorem leaf_still {l : List T} (hl : ∀ x ∈ l, Still x) : allLeaf l = true := by
  unfold allLeaf
  rw [List.all_eq_true]
  intro x hx
  have := hl x hx
  cases x <;> first | rfl | exact absurd this (by simp [Still])
theorem frzL_still : ∀ {l : List T} {h : Hp} {d : Nat}, (∀ x ∈ l, Still x) → frzAll (frz h (d + 1)) l = some (l, [])
  | [], _, _, _ => rfl
  | x :: l, h, d, hl => by
    have hx := hl x (List.mem_cons_self ..)
    have ih := frzL_still (h := h) (d := d) (fun y hy => hl y (List.mem_cons_of_mem _ hy))
    have e : frz h (d + 1) x = some (x, []) := by cases x <;> first | rfl | exact absurd hx (by simp [Still])
    simp only [frzAll, e, ih, List.append_nil]
/-! Words. -/
def wordsT (l : List Int) : List T := l.map fun x => .int .u32 x
def intsT (l : List Nat) : List T := l.map fun (x : Nat) => .int .i64 (x : Int)
theorem words_len (l : List Int) : (wordsT l).length = l.length := by unfold wordsT; rw [List.length_map]
theorem words_get (l : List Int) (i : Nat) (h : i < l.length) : (wordsT l)[i]? = some (.int .u32 l[i]) := by unfold wordsT; rw [List.getElem?_map, List.getElem?_eq_getElem h]; rfl
theorem words_still (l : List Int) : ∀ x ∈ wordsT l, Still x := by
  intro x hx
  unfold wordsT at hx
  rw [List.mem_map] at hx
  obtain ⟨a, _, rfl⟩ := hx
  trivial
theorem words_app (a b : List Int) : wordsT (a ++ b) = wordsT a ++ wordsT b := by unfold wordsT; rw [List.map_append]
theorem words_set (l : List Int) (i : Nat) (v : Int) : wordsT (l.set i v) = (wordsT l).set i (.int .u32 v) := by unfold wordsT; rw [List.map_set]
theorem ints_len (l : List Nat) : (intsT l).length = l.length := by unfold intsT; rw [List.length_map]
theorem ints_get (l : List Nat) (i : Nat) (h : i < l.length) : (intsT l)[i]? = some (.int .i64 (l[i] : Int)) := by unfold intsT; rw [List.getElem?_map, List.getElem?_eq_getElem h]; rfl
theorem ints_still (l : List Nat) : ∀ x ∈ intsT l, Still x := by
  intro x hx
  unfold intsT at hx
  rw [List.mem_map] at hx
  obtain ⟨a, _, rfl⟩ := hx
  trivial
theorem ints_app (a b : List Nat) : intsT (a ++ b) = intsT a ++ intsT b := by unfold intsT; rw [List.map_append]
theorem ints_set (l : List Nat) (i v : Nat) : intsT (l.set i v) = (intsT l).set i (.int .i64 (v : Int)) := by unfold intsT; rw [List.map_set]

/-! Threads. -/
def rowT (l : List Op) : T := .imm false l.length (l.flatMap Op.enc)
def pT (p : List (List Op)) : T := .imm false p.length (p.flatMap (fun l => [rowT l]))
theorem p_len (p : List (List Op)) : (p.flatMap (fun l => [rowT l])).length = p.length := by
  rw [flat_len (f := fun l => [rowT l]) (k := 1) (fun _ => rfl), Nat.mul_one]
theorem p_row (p : List (List Op)) (i : Nat) (h : i < p.length) : (p.flatMap (fun l => [rowT l]))[i * 1]? = some (rowT p[i]) := by
  have := flat_get (f := fun l => [rowT l]) (k := 1) (fun _ => rfl) p i h 0 (by omega)
  rw [Nat.add_zero] at this
  rw [this]; rfl
theorem op_len (o : Op) : o.enc.length = 3 := rfl
theorem op_leaf (o : Op) : allLeaf o.enc = true := rfl
theorem ops_len (l : List Op) : (l.flatMap Op.enc).length = l.length * 3 := flat_len op_len l
theorem op_cut (l : List Op) (k : Nat) (h : k < l.length) : cut (l.flatMap Op.enc) (k * 3) 3 = (l[k]).enc := by
  have := flat_cut op_len l k h 0 3 (by omega)
  rw [Nat.add_zero] at this
  rw [this, cut_all (op_len _)]
theorem max_small : maxLen ≤ 9223372036854775807 := by decide
theorem awake_runs : evF ap 400 7 [] = some (.bool true) := by kernel_rfl
/-- What is seen: trees of lists of words, whatever is known of their capacities. -/
def SeenT (cs : List T) (S : List (List Int)) : Prop := cs.length = S.length ∧ ∀ j (h : j < S.length), ∃ f, cs[j]? = some (.imm f S[j].length (wordsT S[j]))
theorem seen_still {cs : List T} {S : List (List Int)} (h : SeenT cs S) : ∀ x ∈ cs, Still x := by
  intro x hx
  obtain ⟨i, hi, rfl⟩ := List.getElem_of_mem hx
  obtain ⟨f, hf⟩ := h.2 i (by rw [← h.1]; exact hi)
  rw [List.getElem?_eq_getElem hi] at hf
  rw [Option.some.inj hf]; trivial
end Go.Proofs.Ytmihmodlilebbaa.Abs
