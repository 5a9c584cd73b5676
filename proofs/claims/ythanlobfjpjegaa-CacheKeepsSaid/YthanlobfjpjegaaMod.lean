/- Caches of which one way is changed: frozen arguments that are of one's own, cells of one way. -/
import Derived.Test.YthanlobfjpjegaaLaw
namespace Go.Proofs.Ythanlobfjpjegaa.Abs
open Go Go.RowKit Fn
set_option linter.unusedVariables false
set_option linter.unusedSimpArgs false
set_option linter.unnecessarySimpa false
set_option maxRecDepth 100000

def FrzP (h : Hp) (d : Nat) (P : Nat → Prop) (x y : T) : Prop := ∃ ids, frz h d x = some (y, ids) ∧ ∀ t ∈ ids, P t
def FrzLP (h : Hp) (d : Nat) (P : Nat → Prop) (x y : List T) : Prop := ∃ ids, frzAll (frz h d) x = some (y, ids) ∧ ∀ t ∈ ids, P t
theorem frzLP_pt {h : Hp} {d : Nat} {P : Nat → Prop} : ∀ (l l' : List T), l.length = l'.length → (∀ j (h1 : j < l.length) (h2 : j < l'.length), FrzP h d P l[j] l'[j]) → FrzLP h d P l l'
  | [], [], _, _ => ⟨[], rfl, fun t ht => by simp at ht⟩
  | x :: l, y :: l', hl, h => by
    obtain ⟨is, h1, p1⟩ := h 0 (by simp) (by simp)
    obtain ⟨js, h2, p2⟩ := frzLP_pt l l' (by simpa using hl) (fun j hj hj' => h (j + 1) (by simp; omega) (by simp; omega))
    simp only [List.getElem_cons_zero] at h1
    refine ⟨is ++ js, by simp only [frzAll, h1, h2], fun t ht => ?_⟩
    rcases List.mem_append.mp ht with h | h
    · exact p1 t h
    · exact p2 t h
  | [], _ :: _, hl, _ => by simp at hl
  | _ :: _, [], hl, _ => by simp at hl
theorem frzP_own {h : Hp} {d t n es : Nat} {P : Nat → Prop} {c c' : List T} (hg : h.get t = some c) (hl : c.length = n * es) (hP : P t) (hf : FrzLP h d P c c') : FrzP h (d + 1) P (.own t 0 n es) (.imm false n c') := by
  obtain ⟨ids, hf, hp⟩ := hf
  have e : ((c.drop 0).take (n * es)) = c := by rw [List.drop_zero, List.take_of_length_le (by omega)]
  refine ⟨t :: ids, by simp only [frz, hg, e, hl, if_true, hf], fun u hu => ?_⟩
  rcases List.mem_cons.mp hu with rfl | h
  · exact hP
  · exact hp u h
theorem frzP_agg1 {h : Hp} {d : Nat} {P : Nat → Prop} {x y : T} (hf : FrzP h d P x y) : FrzP h (d + 1) P (.agg [x]) (.agg [y]) := by
  obtain ⟨ids, hf, hp⟩ := hf
  exact ⟨ids ++ [], by simp only [frz, frzAll, hf], fun t ht => hp t (by simpa using ht)⟩
theorem frzLP_ints {h : Hp} {d : Nat} {P : Nat → Prop} (l : List Way) : FrzLP h (d + 1) P (l.flatMap Way.enc) (l.flatMap Way.enc) := ⟨[], frzAll_int _ (enc_ints l), fun t ht => by simp at ht⟩
theorem frzP_with {h : Hp} {d A B n : Nat} {P : Nat → Prop} {xs : List T} {R : List (List Way)} (hx : Tells xs R) (hn : n = R.length) (i : Nat) (hi : i < R.length) (l : List Way) (hw : ∀ w ∈ l, w.wf) (hA : h.get A = some (xs.set i (.own B 0 l.length 19))) (hB : h.get B = some (l.flatMap Way.enc)) (pA : P A) (pB : P B) : FrzP h (d + 4) P (.agg [.own A 0 n 1]) (.agg [.imm false n (xs.set i (.imm false l.length (l.flatMap Way.enc)))]) := by
  refine frzP_agg1 (frzP_own hA (by rw [List.length_set, hx.1]; omega) pA (frzLP_pt _ _ (by rw [List.length_set, List.length_set]) (fun j hj hj' => ?_)))
  rw [List.length_set] at hj
  by_cases hij : i = j
  · subst hij
    rw [List.getElem_set_self, List.getElem_set_self]
    exact frzP_own hB (enc_len l hw) pB (frzLP_ints l)
  · rw [List.getElem_set_ne hij, List.getElem_set_ne hij]
    obtain ⟨f, hf⟩ := hx.2 j (by rw [← hx.1]; exact hj)
    rw [Nat.mul_one, List.getElem?_eq_getElem hj] at hf
    rw [Option.some.inj hf]
    exact ⟨[], rfl, fun t ht => by simp at ht⟩
/-- Slices, each in a block of its own, of which P holds. -/
def RowsAtP (P : Nat → Prop) (g : Mem) (els : List T) (L : List (List Way)) : Prop := els.length = L.length ∧ ∀ j (h : j < L.length), ∃ b, P b ∧ els[j]? = some (.own b 0 L[j].length 19) ∧ g b = some (L[j].flatMap Way.enc)
theorem frzP_rows {g : Mem} {nx d A n : Nat} {P : Nat → Prop} {els : List T} {L : List (List Way)} (hn : n = L.length) (hL : ∀ l ∈ L, ∀ w ∈ l, w.wf) (hA : g A = some els) (pA : P A) (hr : RowsAtP P g els L) : FrzP ⟨g, nx⟩ (d + 4) P (.agg [.own A 0 n 1]) (.agg [.imm false n (rowsT L)]) := by
  subst hn
  refine frzP_agg1 (frzP_own (h := ⟨g, nx⟩) hA (by rw [hr.1]; omega) pA (frzLP_pt _ _ (by rw [hr.1]; unfold rowsT; rw [List.length_map]) (fun j hj hj' => ?_)))
  have hj2 : j < L.length := by rw [← hr.1]; exact hj
  obtain ⟨b, hb, h1, h2⟩ := hr.2 j hj2
  rw [List.getElem?_eq_getElem hj] at h1
  rw [Option.some.inj h1]
  have e : (rowsT L)[j] = .imm false L[j].length (L[j].flatMap Way.enc) := by simp [rowsT]
  rw [e]
  exact frzP_own h2 (enc_len _ (hL _ (List.getElem_mem hj2))) hb (frzLP_ints _)
theorem frzL_two2 {h : Hp} {P : Nat → Prop} {u u' : T} {k k' : IntKind} {a b : Int} (hu : FrzP h frzDepth P u u') : ∃ ids, frzL h frzDepth [u, .int k a, .int k' b] = some ([u', .int k a, .int k' b], ids) ∧ ∀ t ∈ ids, P t := by
  obtain ⟨ids, h1, h2⟩ := hu
  have e1 : frz h frzDepth (.int k a) = some (.int k a, []) := rfl
  have e2 : frz h frzDepth (.int k' b) = some (.int k' b, []) := rfl
  refine ⟨ids ++ ([] ++ ([] ++ [])), by unfold frzL; simp only [frzAll, h1, e1, e2], fun t ht => h2 t (by simpa using ht)⟩
/-- A call with arguments of one's own: what it reads, and what is lost by it, is among them. -/
theorem E.callI {AP : AProg} {f : Nat} {F : AFun} {args' : List T} {v : T} (h : E AP f args' v) (hF : AP f = some F) : ∃ N, ∀ k, N ≤ k → ∀ (g : Mem) (args : List T) (P : Nat → Prop), (∃ ids, frzL ⟨g, 0⟩ frzDepth args = some (args', ids) ∧ ∀ t ∈ ids, P t) → ∃ ids ed, callPure (ev AP k) F args g = some ⟨v, ids, ed⟩ ∧ (∀ t ∈ ids, P t) ∧ (∀ e ∈ ed, P e.1) := by
  obtain ⟨N, hN⟩ := h.run hF
  refine ⟨N, fun k hk g args P ⟨ids, h1, h2⟩ => ?_⟩
  have hr := hN (k - N)
  rw [Nat.sub_add_cancel hk] at hr
  refine ⟨ids, if v.flat then [] else ids.map fun t => (t, none), ?_, h2, fun e he => ?_⟩
  · unfold callPure
    rw [h1]
    simp only [hr]
  · split at he
    · simp at he
    · rw [List.mem_map] at he
      obtain ⟨t, ht, rfl⟩ := he
      exact h2 t ht
theorem putAll_off : ∀ (ed : List (Nat × Option (List T))) (g : Mem) (p : Nat), (∀ e ∈ ed, p ≠ e.1) → putAll g ed p = g p
  | [], _, _, _ => rfl
  | e :: ed, g, p, h => by
    have := putAll_off ed (put1 g e) p (fun e' he => h e' (List.mem_cons_of_mem _ he))
    have h0 := h e (List.mem_cons_self ..)
    show putAll (put1 g e) ed p = g p
    rw [this]
    simp [put1, h0]
theorem disj_off {ed : List (Nat × Option (List T))} {p : Nat} (h : ∀ e ∈ ed, p ≠ e.1) : disj (List.map (fun x => x.1) ed) [p] = true := by
  unfold disj
  rw [List.all_eq_true]
  intro x hx
  rw [List.mem_map] at hx
  obtain ⟨e, he, rfl⟩ := hx
  have := h e he
  simp only [List.contains_cons, List.contains_nil, Bool.or_false, Bool.not_eq_true', beq_eq_false_iff_ne]
  exact fun h => this h.symm
theorem has_off {ids : List Nat} {p : Nat} (h : ∀ t ∈ ids, p ≠ t) : List.contains ids p = false := by
  rw [Bool.eq_false_iff]
  intro hc
  rw [List.contains_iff_mem] at hc
  exact h p hc rfl

/-! One way's cells, set. -/
theorem splice_mid : ∀ (b' a b c : List T), b.length = b'.length → splice (a ++ (b ++ c)) a.length b' = a ++ (b' ++ c)
  | [], a, b, c, h => by
    obtain rfl : b = [] := List.length_eq_zero_iff.mp h
    rfl
  | y :: b', a, x :: b, c, h => by
    rw [splice, List.cons_append, List.set_append_right _ _ (by omega), Nat.sub_self, List.set_cons_zero]
    have := splice_mid b' (a ++ [y]) b c (by simpa using h)
    rw [List.length_append, List.length_singleton, List.append_assoc, List.append_assoc] at this
    exact this
  | _ :: _, _, [], _, h => by simp at h
theorem set_way (l : List Way) (hw : ∀ w ∈ l, w.wf) (k : Nat) (h : k < l.length) (y : Way) (hy : y.wf) (o : Nat) (v : List T) (pre post old : List T) (hp : pre.length = o) (hov : old.length = v.length) (h1 : (wayN l k).enc = pre ++ (old ++ post)) (h2 : y.enc = pre ++ (v ++ post)) : (l.set k y).flatMap Way.enc = splice (l.flatMap Way.enc) (k * 19 + o) v := by
  have hl : l = l.take k ++ wayN l k :: l.drop (k + 1) := by rw [wayN_eq h, List.getElem_cons_drop, List.take_append_drop]
  have hk : (l.take k).length = k := by rw [List.length_take]; omega
  have hf : ((l.take k).flatMap Way.enc).length = k * 19 := by
    rw [flat_lenM (f := Way.enc) (l.take k) (fun w h => way_len (hw w (List.mem_of_mem_take h))), hk]
  have e1 : l.set k y = l.take k ++ y :: l.drop (k + 1) := by rw [List.set_eq_take_append_cons_drop, if_pos h]
  have e2 : l.flatMap Way.enc = (l.take k).flatMap Way.enc ++ ((wayN l k).enc ++ (l.drop (k + 1)).flatMap Way.enc) := by
    conv => lhs; rw [hl]
    exact enc_app _ _ _
  rw [e1, enc_app, e2, h1, h2]
  generalize (l.take k).flatMap Way.enc = a at *
  generalize (l.drop (k + 1)).flatMap Way.enc = c at *
  have := splice_mid v (a ++ pre) old (post ++ c) hov
  rw [List.length_append, hf, hp] at this
  simp only [List.append_assoc] at this ⊢
  exact this.symm
theorem set_whole (l : List Way) (hw : ∀ w ∈ l, w.wf) (k : Nat) (h : k < l.length) (y : Way) (hy : y.wf) : (l.set k y).flatMap Way.enc = splice (l.flatMap Way.enc) (k * 19) y.enc := by
  have := set_way l hw k h y hy 0 y.enc [] [] (wayN l k).enc rfl (by rw [way_len hy, way_len (wayN_wf hw h)]) (by simp) (by simp)
  rw [Nat.add_zero] at this
  exact this
end Go.Proofs.Ythanlobfjpjegaa.Abs
