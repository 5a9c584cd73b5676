/- append, copy, min, max. -/
import Derived.Test.YthanlobfjpjegaaB1
namespace Go.Proofs.Ythanlobfjpjegaa.Abs
open Go Go.RowKit
set_option linter.unusedVariables false
set_option linter.unusedSimpArgs false
section
variable {P : Program} {o : Oper} {a : Act} {B : Nat} {W0 w : World} {Z0 Z : Nat → Nat → Prop} {g : Mem} {μ : Nat → Option Loc} {fr : Nat} {r : Res} {s : List T}

theorem Inv.forget (hi : Inv B W0 Z0 g w Z μ) (t : Nat) : put1 (put1 g (t, none)) (t, none) = put1 g (t, none) := by funext u; simp only [put1]; split <;> rfl

theorem VRL.append : ∀ {l l' : List T} {vs vs' : List Value}, VRL w Z μ l vs → VRL w Z μ l' vs' → VRL w Z μ (l ++ l') (vs ++ vs')
  | [], _, _, _, h, h' => by simp only [VRL] at h; subst h; simpa using h'
  | x :: l, l', vs, vs', h, h' => by
    simp only [VRL] at h
    obtain ⟨v, r, rfl, h1, h2⟩ := h
    simp only [List.cons_append, VRL]
    exact ⟨v, r ++ vs', rfl, h1, VRL.append h2 h'⟩
theorem leaf_append {l l' : List T} (h : allLeaf l = true) (h' : allLeaf l' = true) : allLeaf (l ++ l') = true := by
  unfold allLeaf at *; rw [List.all_append, h, h']; rfl
theorem leaf_cut {c : List T} (h : allLeaf c = true) (o n : Nat) : allLeaf (cut c o n) = true := by
  unfold allLeaf at *
  rw [List.all_eq_true] at *
  exact fun x hx => h x (List.mem_of_mem_drop (List.mem_of_mem_take hx))

/-- A new row: what was, what comes, and the rest. -/
theorem grow_ok (hi : Inv B W0 Z0 g w Z μ) (hn : μ fr = none) {olds news : List Value} {c c' : List T} (h1 : VRL w Z μ c olds) (h2 : VRL w Z μ c' news) (hl : allLeaf (c ++ c') = true) {e : TypeId} {rest : Array Value} {v : Value} {x : T} {rd : List Nat}
    (hg : Goes P o a w v (w.drew.alloc (.cells ((olds ++ news).toArray ++ rest) e))) (hv : VR (w.drew.alloc (.cells ((olds ++ news).toArray ++ rest) e)) Z (upd μ fr (w.heap.size, 0, ((olds ++ news).toArray ++ rest).size)) x v)
    {dels : List (Nat × Option (List T))} (hd : ∀ p ∈ dels, p.2 = none) : OpOk P o a B W0 Z0 g w Z μ fr ⟨x, rd, dels ++ [(fr, some (c ++ c'))]⟩ := by
  have hi' : Inv B W0 Z0 (putAll g dels) w Z μ := by
    clear hg hv hl
    induction dels generalizing g with
    | nil => exact hi
    | cons p q ih =>
      obtain ⟨t, y⟩ := p
      have : y = none := hd (t, y) (by simp)
      subst this
      exact ih (hi.del t) fun p hp => hd p (by simp [hp])
  have happ := (h1.append h2)
  have hlen := happ.len
  obtain ⟨k1, k2⟩ := hi'.drew.alloc (t := fr) (c := c ++ c') ((olds ++ news).toArray ++ rest) e hn hl (by simp at hlen ⊢; omega) fun i y hy => by
    obtain ⟨u, j1, j2⟩ := happ.get hy
    refine ⟨u, ?_, VR.mono ZLe.drew MLe.refl _ _ j2⟩
    rw [Array.getElem?_append_left (by have := (List.getElem?_eq_some_iff.1 j1).1; simpa using this)]
    simpa using j1
  refine ⟨v, _, _, hg, hv, ?_, ZLe.trans ZLe.drew k2, MLe.upd hn, fun u hu => by simp [upd, hu]⟩
  have : putAll g (dels ++ [(fr, some (c ++ c'))]) = put1 (putAll g dels) (fr, some (c ++ c')) := by simp [putAll]
  rw [this]; exact k1

theorem append_ok (hi : Inv B W0 Z0 g w Z μ) (hn : μ fr = none) (hs : VRL w Z μ s a.tmps.toList) {t tx e ex : TypeId} {z : List T} {i : TypeInfo} {sl x : Operand} {sl' x' : Opd} {ats : Array TypeId} {xs : Array Operand}
    (ho : o.op = .call { callee := .builtin .append, args := xs, argTypes := ats }) (hat : ats.toList = [t, tx]) (hxs : xs.toList = [sl, x]) (ht : P.underlying t = some (.slice e)) (htx : P.underlying tx = some (.slice ex))
    (hz : zc P e = some z) (he : P.info? e = some i) (hsl : opd sl = some sl') (hx : opd x = some x') (hr : opRes (.append i.size i.bytes sl' x') fr s g = some r) : OpOk P o a B W0 Z0 g w Z μ fr r := by
  obtain rfl : xs = #[sl, x] := by cases xs; simp_all
  obtain rfl : ats = #[t, tx] := by cases ats; simp_all
  obtain ⟨i', zv, h1, h2, h3, h4, h5⟩ := zc_ok hz
  obtain rfl : i' = i := by rw [he] at h1; exact (Option.some.inj h1).symm
  have hrun : ∀ {v w'}, (Builtin.append_ #[t, tx] o.type #[a.eval sl, a.eval x]).run P w = .ok v w' → (execOp a.eval o).run P w = .ok (.value v) w' := fun {v w'} h => by
    unfold execOp; rw [ho]
    simp [resolve, invoke, builtin, h]
  have hvs := rho_ok hs hsl
  have hvx := rho_ok hs hx
  simp only [opRes] at hr
  split at hr
  · rename_i n new rd hc
    split at hr
    · rename_i h0; subst h0
      split at hr
      · rename_i hnl
        have hnil : new = [] := List.eq_nil_of_length_eq_zero hnl
        obtain ⟨ad, cap, news, k1, k2, k3, k4, k5, k6⟩ := src_ok hi hc hvx h4 (by simp [hnil]) (by simp [hnil, allLeaf])
        have hsrc := src_mk (P := P) (w := w) htx (n := 0) (cap := cap) k6 k3 k4 k5
        simp at k6; subst k6
        rw [← k1] at hsrc
        split at hr
        · rename_i f l c e'
          obtain rfl := Option.some.inj hr
          rw [e'] at hvs
          have hvs' := hvs
          simp only [VR, VI] at hvs'
          obtain ⟨ad', cap', j1, j2, _⟩ := hvs'
          have := run_append_nothing w t tx o.type e i' ht he ad' l cap' j2 _ hsrc
          rw [← j1] at this
          exact opok_quiet hi (goes_value (hrun this)) hvs
        · rename_i t' p l es e'
          obtain rfl := Option.some.inj hr
          rw [e'] at hvs
          have hvs' := hvs
          simp only [VR] at hvs'
          obtain ⟨ad', cap', m, j1, j2, _⟩ := hvs'
          have := run_append_nothing w t tx o.type e i' ht he ad' l cap' j2 _ hsrc
          rw [← j1] at this
          exact opok_quiet hi (goes_value (hrun this)) hvs
        · cases hr
      · cases hr
    · rename_i h0
      split at hr
      · rename_i hnl
        obtain ⟨hnl1, hnl2⟩ := hnl
        obtain ⟨ad, cap, news, k1, k2, k3, k4, k5, k6⟩ := src_ok hi hc hvx h4 hnl1 hnl2
        have hsrc := src_mk (P := P) (w := w) htx (n := n) (cap := cap) k6 k3 k4 k5
        rw [← k1] at hsrc
        split at hr
        · rename_i len c e'
          rw [e'] at hvs
          simp only [VR, VI] at hvs
          obtain ⟨ad', cap', j1, j2, j3, j4⟩ := hvs
          obtain rfl := j3 trivial
          split at hr
          · rename_i hb
            obtain ⟨hb1, hb2, hb3, hb4⟩ := hb
            obtain rfl := Option.some.inj hr
            -- the old cells
            obtain ⟨ad2, cap2, olds, q1, q2, q3, q4, q5, q6⟩ := src_ok (g := g) hi (es := i'.size) (y := .imm true cap' c) (n := cap') (new := c) (rd := []) (v := a.eval sl) rfl (by simp only [VR, VI]; exact ⟨ad', cap', j1, j2, fun _ => rfl, j4⟩) h4 hb3 hb4
            obtain ⟨rfl, rfl⟩ : ad2 = ad' ∧ cap2 = cap' := by rw [j1] at q1; simpa using q1.symm
            have hold := first_run (P := P) (w := w.drew) (k := cap2) (cap := cap2) (Nat.le_refl _) q6 (by simpa using q3) q4
            rw [List.take_of_length_le (by omega)] at hold
            have := run_append_grow_src w t tx o.type e i' zv ht he h2 ad2 cap2 cap2 olds hold _ n news hsrc (by omega) (by unfold room at hb2; omega) (nextcap_fit (by omega) hb1)
            rw [← j1] at this
            refine grow_ok hi hn q2 k2 (leaf_append hb4 hnl2) (dels := []) (goes_value (hrun this)) ?_ (by simp)
            simp only [VR]
            refine ⟨_, _, _, rfl, grownCap_ge _ _ _ _, by simp [upd]; rfl, fun _ => by simp, ?_⟩
            have e1 := q2.len
            have e2 := k2.len
            have hgc := grownCap_ge w (cap2 + n) cap2 e
            simp [Builtin.zeroCells, h3]
            rw [q6, k6, ← Nat.add_mul, ← Nat.add_mul, show cap2 + n + (grownCap w (cap2 + n) cap2 e - (cap2 + n)) = grownCap w (cap2 + n) cap2 e by omega]
            exact Nat.le_refl _
          · cases hr
        · rename_i t' off len es' e'
          split at hr
          · rename_i hb
            obtain ⟨hb0, hb1, hb2⟩ := hb
            subst hb0
            split at hr
            · rename_i c hcg
              split at hr
              · rename_i hle
                obtain rfl := Option.some.inj hr
                rw [e'] at hvs
                have hvs0 := hvs
                simp only [VR] at hvs
                obtain ⟨ad', cap', m, j1, j2, j3, j4, j5⟩ := hvs
                obtain ⟨m', p1, p2, p3, p4, p5, p6, p7⟩ := hi.blk _ _ hcg
                obtain rfl : m' = m := by rw [j3] at p1; exact (Option.some.inj p1).symm
                have hcl : allLeaf (cut c off (len * i'.size)) = true := by
                  unfold allLeaf; rw [List.all_eq_true]
                  intro y hy
                  obtain ⟨q, hq, rfl⟩ := List.getElem_of_mem hy
                  have hq2 := List.getElem?_eq_getElem hq
                  rw [cut_get] at hq2
                  split at hq2
                  · exact (p7 _ _ hq2).1
                  · cases hq2
                by_cases hroom : len + n ≤ cap'
                · -- there is room
                  have hcap : 0 < cap' := by omega
                  have had := j4 hcap
                  subst had
                  have hsz : len * i'.size + n * i'.size ≤ cap' * i'.size := by rw [← Nat.add_mul]; exact Nat.mul_le_mul_right _ hroom
                  have hnl := k2.len
                  have hrun' := run_append_room_src w t tx o.type e i' ht he m'.1 (m'.2.1 + off) len cap' _ n news hsrc hroom
                    (fun j hj => by have := (p5 (off + len * i'.size + j) (by omega)).1; rwa [show m'.2.1 + (off + len * i'.size + j) = m'.2.1 + off + len * i'.size + j by omega] at this)
                    (fun j hj => by have := (p5 (off + len * i'.size + j) (by omega)).2; rwa [show m'.2.1 + (off + len * i'.size + j) = m'.2.1 + off + len * i'.size + j by omega] at this)
                  rw [← j1] at hrun'
                  obtain ⟨w1, w2⟩ := hi.write hcg j3 (off + len * i'.size) news (by omega)
                  rw [show m'.2.1 + (off + len * i'.size) = m'.2.1 + off + len * i'.size by omega] at w1 w2
                  have hfree : ∀ (u : Nat) cu m1, u ≠ fr → put1 g (t', none) u = some cu → upd μ fr (m'.1, m'.2.1 + off, cap' * i'.size) u = some m1 → m'.1 ≠ m1.1 ∨ m'.2.1 + off + cap' * i'.size ≤ m1.2.1 ∨ m1.2.1 + m1.2.2 ≤ m'.2.1 + off := by
                    intro u cu m1 hne hu hm1
                    have hut : u ≠ t' := fun e => by simp [put1, e] at hu
                    have hu' : g u = some cu := by simpa [put1, hut] using hu
                    have hm1' : μ u = some m1 := by simpa [upd, hne] using hm1
                    rcases hi.dis u t' cu c m1 m' hut hu' hcg hm1' j3 with hd | hd | hd
                    · exact .inl fun e => hd e.symm
                    · right; right; omega
                    · right; left; omega
                  refine ⟨_, _, upd μ fr (m'.1, m'.2.1 + off, cap' * i'.size), goes_value (hrun hrun'), ?_, ?_, w2, MLe.upd hn, fun u hu => by simp [upd, hu]⟩
                  · simp only [VR]
                    exact ⟨_, _, _, rfl, by omega, by simp [upd]; rfl, fun _ => by simp, by simp⟩
                  · have h3 := w1.name (t := fr) (m := (m'.1, m'.2.1 + off, cap' * i'.size)) hn
                    have h4 := h3.put (t := fr) (c := cut c off (len * i'.size) ++ new) (m := (m'.1, m'.2.1 + off, cap' * i'.size)) (by simp [upd]) p2 (by rw [setCells_size]; exact p3)
                      (by simp only [List.length_append, cut_len hle]; omega)
                      (fun j hj => by
                        have := (World.there_setCells p5 m'.1 (m'.2.1 + off + len * i'.size) news) (off + j) (by simp only at hj; omega)
                        rwa [← Nat.add_assoc] at this)
                      (fun q hq => by have := p6 (off + q) (by simp only at hq; omega); rwa [← Nat.add_assoc] at this)
                      (fun q y hy => by
                        refine ⟨List.all_eq_true.1 (leaf_append hcl hnl2) y (List.mem_of_getElem? hy), ?_⟩
                        simp only
                        rcases Nat.lt_or_ge q (len * i'.size) with hlt | hge
                        · rw [List.getElem?_append_left (by rw [cut_len hle]; exact hlt), cut_get, if_pos hlt] at hy
                          obtain ⟨_, v, d1, d2⟩ := p7 _ _ hy
                          refine ⟨v, ?_, VR.mono w2 (MLe.upd hn) _ _ d2⟩
                          rw [World.cell?_setCells_out]
                          · rwa [Nat.add_assoc]
                          · intro _ _; simp only; omega
                        · rw [List.getElem?_append_right (by rw [cut_len hle]; exact hge), cut_len hle] at hy
                          obtain ⟨v, d1, d2⟩ := k2.get hy
                          refine ⟨v, ?_, VR.mono w2 (MLe.upd hn) _ _ d2⟩
                          have hq : q - len * i'.size < news.length := (List.getElem?_eq_some_iff.1 d1).1
                          have := World.cell?_setCells_in m'.1 news (m'.2.1 + off + len * i'.size) w (fun j hj => by have := (p5 (off + len * i'.size + j) (by omega)).1; rwa [show m'.2.1 + (off + len * i'.size + j) = m'.2.1 + off + len * i'.size + j by omega] at this) _ hq
                          rw [show m'.2.1 + off + len * i'.size + (q - len * i'.size) = m'.2.1 + off + q by omega] at this
                          rw [this, ← List.getElem?_eq_getElem hq, d1])
                      hfree
                    exact h4
                · -- there is none
                  obtain ⟨ad2, cap2, olds, q1, q2, q3, q4, q5, q6⟩ := src_ok hi (es := i'.size) (y := .own t' off len i'.size) (n := len) (new := cut c off (len * i'.size)) (rd := [t']) (v := a.eval sl) (by simp [cellsOf, hcg, hle]) hvs0 h4 (cut_len hle) hcl
                  obtain ⟨rfl, rfl⟩ : ad2 = ad' ∧ cap2 = cap' := by rw [j1] at q1; simpa using q1.symm
                  have hold := first_run (P := P) (w := w.drew) (k := len) (cap := cap2) (Nat.le_refl _) q6 (by simpa using q3) q4
                  rw [List.take_of_length_le (by omega)] at hold
                  have := run_append_grow_src w t tx o.type e i' zv ht he h2 ad2 len cap2 olds hold _ n news hsrc (by omega) (by unfold room at hb2; omega) (nextcap_fit (by omega) hb1)
                  rw [← j1] at this
                  refine grow_ok hi hn q2 k2 (leaf_append hcl hnl2) (dels := [(t', none)]) (goes_value (hrun this)) ?_ (by simp)
                  simp only [VR]
                  refine ⟨_, _, _, rfl, grownCap_ge _ _ _ _, by simp [upd]; rfl, fun _ => by simp, ?_⟩
                  have hgc := grownCap_ge w (len + n) cap2 e
                  simp [Builtin.zeroCells, h3]
                  rw [q6, k6, ← Nat.add_mul, ← Nat.add_mul, show len + n + (grownCap w (len + n) cap2 e - (len + n)) = grownCap w (len + n) cap2 e by omega]
                  exact Nat.le_refl _
              · cases hr
            · cases hr
          · cases hr
        · cases hr
      · cases hr
  · cases hr
end
end Go.Proofs.Ythanlobfjpjegaa.Abs
