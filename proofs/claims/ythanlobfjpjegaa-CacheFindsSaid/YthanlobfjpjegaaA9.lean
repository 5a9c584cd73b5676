/- Structs, arrays and slices that are made. -/
import Derived.Test.YthanlobfjpjegaaA8
import Derived.Laws.MakeOwn
namespace Go.Proofs.Ythanlobfjpjegaa.Abs
open Go Go.RowKit
set_option linter.unusedVariables false
set_option linter.unusedSimpArgs false

theorem fill_list {w : World} {Z : Nat → Nat → Prop} {μ : Nat → Option Loc} (off : Nat) : ∀ (l : List T) (vs : List Value) (k : Nat) (c : List T) (cs : Array Value), VRL w Z μ l vs → VRL w Z μ c cs.toList →
    VRL w Z μ (splice c (off + k) l) ((vs.zipIdx k).foldl (fun (cs : Array Value) (p : Value × Nat) => cs.setIfInBounds (off + p.2) p.1) cs).toList
  | [], vs, k, c, cs, h, hc => by
    simp only [VRL] at h; subst h
    simpa [splice] using hc
  | x :: l, vs, k, c, cs, h, hc => by
    simp only [VRL] at h
    obtain ⟨v, vs', rfl, h1, h2⟩ := h
    rw [splice, List.zipIdx_cons, List.foldl_cons]
    have := fill_list off l vs' (k + 1) (c.set (off + k) x) (cs.setIfInBounds (off + k) v) h2 (by rw [Array.toList_setIfInBounds]; exact hc.set h1)
    rwa [show off + (k + 1) = off + k + 1 by omega] at this

section
variable {P : Program} {o : Oper} {a : Act} {B : Nat} {W0 w : World} {Z0 Z : Nat → Nat → Prop} {g : Mem} {μ : Nat → Option Loc} {fr : Nat} {r : Res} {s : List T}

theorem fill_ok (hs : VRL w Z μ s a.tmps.toList) {pl : Nat → Option (Nat × Nat)} : ∀ (ps : List (Nat × Operand)) (q : List (Nat × Nat × Opd)) (z c : List T) (cs : Array Value), partsOf pl ps = some q → VRL w Z μ z cs.toList →
    fillT z (q.map fun p => (p.1, p.2.1, rho s p.2.2)) = some c → ∃ cs', Instr.fill pl cs (ps.map fun p => (p.1, a.eval p.2)) = some cs' ∧ VRL w Z μ c cs'.toList
  | [], q, z, c, cs, hp, hz, hf => by
    simp [partsOf] at hp; subst hp
    simp [fillT] at hf; subst hf
    exact ⟨cs, by simp [Instr.fill], hz⟩
  | (i, x) :: ps, q, z, c, cs, hp, hz, hf => by
    simp only [partsOf] at hp
    split at hp
    · rename_i off n y q' h1 h2 h3
      obtain rfl := Option.some.inj hp
      simp only [List.map_cons, fillT] at hf
      split at hf
      · rename_i hc
        obtain ⟨hc1, hc2, hc3⟩ := hc
        have hv := rho_ok hs h2
        obtain ⟨n1, n2, n3⟩ := leaf_cells (x := rho s y) hc3
        have hcl := hv.cells n1 n2 n3
        have hl1 := hcl.len
        have hl2 := hz.len
        have hnew := fill_list off _ _ 0 z cs hcl hz
        simp only [Nat.add_zero] at hnew
        obtain ⟨cs', k1, k2⟩ := fill_ok hs ps q' _ c _ h3 hnew hf
        refine ⟨cs', ?_, k2⟩
        simp only [List.map_cons, Instr.fill, h1]
        have e1 : ¬ ((a.eval x).cells.size ≠ n ∨ off + (a.eval x).cells.size > cs.size) := by simp at hl1 hl2; omega
        have e2 : ((a.eval x).cells.size ≠ n || off + (a.eval x).cells.size > cs.size : Bool) = false := by simp at hl1 hl2 ⊢; omega
        simp only [e2, Bool.false_eq_true, if_false]
        rw [← Array.foldl_toList, Array.toList_zipIdx]
        exact k1
      · cases hf
    · cases hp

theorem fplaces_run (w : World) : ∀ (fs : List Field) (pl : List (Nat × Nat)), fplaces P fs = some pl → (fs.mapM (fun f => do pure (f.offset, ← sizeOf f.type)) : Sem (List (Nat × Nat))).run P w = .ok pl w
  | [], pl, h => by simp [fplaces] at h; subst h; simp
  | f :: fs, pl, h => by
    simp only [fplaces] at h
    split at h
    · rename_i i q h1 h2
      obtain rfl := Option.some.inj h
      have := fplaces_run w fs q h2
      simp only [List.mapM_cons, Sem.run_bind]
      simp [sizeOf, typeInfo, h1]
      simp [sizeOf, typeInfo] at this
      simp [this]
    · cases h

theorem build_ok (hi : Inv B W0 Z0 g w Z μ) (hs : VRL w Z μ s a.tmps.toList) {t : TypeId} {ps : Array (Nat × Operand)} {op : AOp} (ho : o.op = .build t ps) (hcomp : compOp P (.build t ps) = some op)
    (hr : opRes op fr s g = some r) : OpOk P o a B W0 Z0 g w Z μ fr r := by
  simp only [compOp] at hcomp
  split at hcomp
  · rename_i fs z ht hz
    split at hcomp
    · rename_i pl hpl
      split at hcomp
      · rename_i q hq
        obtain rfl := Option.some.inj hcomp
        simp only [opRes] at hr
        split at hr
        · rename_i c hc
          obtain rfl := Option.some.inj hr
          obtain ⟨i, zv, h1, h2, h3, h4, h5⟩ := zc_ok hz
          obtain ⟨k1, k2⟩ := ofVL_ok (w := w) (Z := Z) h5
          obtain ⟨cs', m1, m2⟩ := fill_ok hs _ q z c _ hq (VIL.vr _ _ k1) hc
          refine opok_quiet hi (v := .agg cs') (goes_value ?_) (by simp only [VR]; exact ⟨_, rfl, m2⟩)
          have hpl' := fplaces_run (P := P) w fs.toList pl hpl
          have hmap : (fs.mapM (fun f => do pure (f.offset, ← sizeOf f.type)) : Sem (Array (Nat × Nat))).run P w = .ok pl.toArray w := by
            rw [← Array.toArray_toList (xs := fs), List.mapM_toArray]
            rw [map_eq_pure_bind, Sem.run_bind, hpl']; rfl
          unfold execOp; rw [ho]
          refine run_v ?_
          have hfun : (fun x : Nat => pl.toArray[x]?) = (fun x : Nat => pl[x]?) := by funext x; simp
          have hmp : (ps.map fun x => (x.1, a.eval x.2)).toList = ps.toList.map fun p => (p.1, a.eval p.2) := by simp
          simp only [Instr.build, Sem.run_bind, zeroValue, typeInfo, run_program, Result.andThen_ok, h1, h2, Sem.run_pure, run_underlying ht, hmap, hfun]
          rw [hmp, m1]
          rfl
        · cases hr
      · cases hcomp
    · cases hcomp
  · rename_i m e z ht hz
    split at hcomp
    · rename_i ei he
      split at hcomp
      · rename_i q hq
        obtain rfl := Option.some.inj hcomp
        simp only [opRes] at hr
        split at hr
        · rename_i c hc
          obtain rfl := Option.some.inj hr
          obtain ⟨i, zv, h1, h2, h3, h4, h5⟩ := zc_ok hz
          obtain ⟨k1, k2⟩ := ofVL_ok (w := w) (Z := Z) h5
          obtain ⟨cs', m1, m2⟩ := fill_ok hs _ q z c _ hq (VIL.vr _ _ k1) hc
          refine opok_quiet hi (v := .agg cs') (goes_value ?_) (by simp only [VR]; exact ⟨_, rfl, m2⟩)
          unfold execOp; rw [ho]
          refine run_v ?_
          have hmp : (ps.map fun x => (x.1, a.eval x.2)).toList = ps.toList.map fun p => (p.1, a.eval p.2) := by simp
          simp only [Instr.build, Sem.run_bind, zeroValue, sizeOf, typeInfo, run_program, Result.andThen_ok, h1, h2, he, Sem.run_pure, run_underlying ht]
          rw [hmp, m1]
          rfl
        · cases hr
      · cases hcomp
    · cases hcomp
  · cases hcomp

theorem rep_get {α : Type} (z : List α) (n : Nat) (i : Nat) : (List.replicate n z).flatten[i]? = if i < n * z.length then z[i % z.length]? else none := by
  induction n generalizing i with
  | zero => simp
  | succ n ih =>
    rw [List.replicate_succ, List.flatten_cons]
    have h3 : (n + 1) * z.length = n * z.length + z.length := by rw [Nat.add_mul, Nat.one_mul]
    rcases Nat.lt_or_ge i z.length with h | h
    · have h4 : i < (n + 1) * z.length := by omega
      rw [List.getElem?_append_left h, Nat.mod_eq_of_lt h, if_pos h4]
    · rw [List.getElem?_append_right h, ih]
      have h2 : i % z.length = (i - z.length) % z.length := Nat.mod_eq_sub_mod h
      rw [h2]
      by_cases hc : i - z.length < n * z.length
      · have h4 : i < (n + 1) * z.length := by omega
        rw [if_pos hc, if_pos h4]
      · have h4 : ¬ i < (n + 1) * z.length := by omega
        rw [if_neg hc, if_neg h4]
theorem rep_len {α : Type} (z : List α) (n : Nat) : (List.replicate n z).flatten.length = n * z.length := by simp
theorem rep_leaf {z : List T} (h : allLeaf z = true) (n : Nat) : allLeaf (List.replicate n z).flatten = true := by
  unfold allLeaf at *
  rw [List.all_eq_true] at *
  intro x hx
  obtain ⟨l, h1, h2⟩ := List.mem_flatten.1 hx
  rw [(List.mem_replicate.1 h1).2] at h2
  exact h x h2
theorem made_vr {z : List T} {zs : Array Value} (h : VRL w Z μ z zs.toList) (n : Nat) : VRL w Z μ (List.replicate n z).flatten ((Array.range (n * zs.size)).map (zs[· % zs.size]!)).toList := by
  have hl := h.len
  simp at hl
  refine VRL.mk (by simp [hl]) fun i x v hx hv => ?_
  rw [rep_get] at hx
  split at hx
  · rename_i hi
    obtain ⟨u, h1, h2⟩ := h.get hx
    have hz : 0 < zs.size := by
      rcases Nat.eq_zero_or_pos zs.size with e | e
      · rw [hl] at e; rw [e] at hi; simp at hi
      · exact e
    have : v = u := by
      simp only [Array.toList_map, List.getElem?_map, Array.getElem?_toList] at hv h1
      have hi' : i < n * zs.size := by rw [hl]; exact hi
      have hr : (Array.range (n * zs.size))[i]? = some i := by simp [hi']
      rw [hr] at hv
      simp only [Option.map_some] at hv
      obtain rfl := Option.some.inj hv
      rw [← hl] at h1
      have hm : i % zs.size < zs.size := Nat.mod_lt _ hz
      rw [Array.getElem?_eq_getElem hm] at h1
      simpa [hm] using (Option.some.inj h1)
    rw [this]; exact h2
  · cases hx

theorem bsl_ok (hi : Inv B W0 Z0 g w Z μ) (hn : μ fr = none) (hs : VRL w Z μ s a.tmps.toList) {t : TypeId} {len : Nat} {ps : Array (Nat × Operand)} {op : AOp} (ho : o.op = .buildSlice t len ps) (hcomp : compOp P (.buildSlice t len ps) = some op)
    (hr : opRes op fr s g = some r) : OpOk P o a B W0 Z0 g w Z μ fr r := by
  simp only [compOp] at hcomp
  split at hcomp
  · rename_i e ht
    split at hcomp
    · rename_i z i hz he
      split at hcomp
      · rename_i hlen
        split at hcomp
        · rename_i q hq
          obtain rfl := Option.some.inj hcomp
          simp only [opRes] at hr
          split at hr
          · rename_i c hc
            split at hr
            · rename_i hcl
              obtain rfl := Option.some.inj hr
              obtain ⟨i', zv, h1, h2, h3, h4, h5⟩ := zc_ok hz
              obtain rfl : i' = i := by rw [he] at h1; exact (Option.some.inj h1).symm
              obtain ⟨k1, k2⟩ := ofVL_ok (w := w) (Z := Z) h5
              have hmade := made_vr (VIL.vr (μ := μ) _ _ k1) len
              rw [h3] at hmade
              obtain ⟨cs', m1, m2⟩ := fill_ok hs _ q _ c _ hq hmade hc
              have hsz : cs'.size = c.length := by have := m2.len; simpa using this
              refine new_ok hi hn e hcl.1 m2 (v := .slice (some ⟨w.heap.size, 0, none⟩) len len) (goes_value ?_) ?_
              · unfold execOp; rw [ho]
                refine run_v ?_
                have hmp : (ps.map fun x => (x.1, a.eval x.2)).toList = ps.toList.map fun p => (p.1, a.eval p.2) := by simp
                have hlen' : ¬ (len * i'.size > 2 ^ 24) := by omega
                by_cases h0 : len * i'.size = 0
                · have hl0 : len = 0 := by
                    rcases Nat.mul_eq_zero.1 h0 with h | h
                    · exact h
                    · omega
                  subst hl0
                  have hr0 : Array.range 0 = #[] := rfl
                  simp only [Nat.zero_mul, hr0, Array.map_empty] at m1
                  simp [Instr.buildSlice, Sem.run_bind, sizeOf, typeInfo, he, run_underlying ht, newRow, hr0]
                  simp [m1]
                · simp only [Instr.buildSlice, Sem.run_bind, zeroValue, sizeOf, typeInfo, run_program, Result.andThen_ok, he, h2, Sem.run_pure, run_underlying ht, hlen', if_false, h0, h3]
                  rw [hmp, m1]
                  simp [newRow]
              · simp only [VR]
                refine ⟨_, len, (w.heap.size, 0, cs'.size), rfl, Nat.le_refl _, by simp [upd], fun _ => by simp, ?_⟩
                simp only [Nat.zero_add, hsz, hcl.2]; exact Nat.le_refl _
            · cases hr
          · cases hr
        · cases hcomp
      · cases hcomp
    · cases hcomp
  · cases hcomp

theorem mksl_ok (hi : Inv B W0 Z0 g w Z μ) (hn : μ fr = none) (hs : VRL w Z μ s a.tmps.toList) {t : TypeId} {l c : Operand} {op : AOp} (ho : o.op = .makeSlice t l c) (hcomp : compOp P (.makeSlice t l c) = some op)
    (hr : opRes op fr s g = some r) : OpOk P o a B W0 Z0 g w Z μ fr r := by
  simp only [compOp] at hcomp
  split at hcomp
  · rename_i e ht
    split at hcomp
    · rename_i z i l' c' hz he hl hc
      obtain rfl := Option.some.inj hcomp
      simp only [opRes] at hr
      split at hr
      · rename_i nn cc hn1 hc1
        split at hr
        · rename_i hcd
          obtain ⟨d1, d2, d3, d4, d5⟩ := hcd
          obtain rfl := Option.some.inj hr
          obtain ⟨i', zv, h1, h2, h3, h4, h5⟩ := zc_ok hz
          obtain rfl : i' = i := by rw [he] at h1; exact (Option.some.inj h1).symm
          obtain ⟨k1, k2⟩ := ofVL_ok (w := w) (Z := Z) h5
          obtain ⟨kl, e1⟩ := natOf_ok hn1
          obtain ⟨kc, e2⟩ := natOf_ok hc1
          have v1 := vr_int (rho_ok hs hl) e1
          have v2 := vr_int (rho_ok hs hc) e2
          have hmade := made_vr (VIL.vr (μ := μ) _ _ k1) cc
          have hb : (i'.bytes : Int) * (cc : Int) ≤ 281474976710656 := by
            have h : ((i'.bytes * cc : Nat) : Int) ≤ 281474976710656 := by
              have : i'.bytes * cc ≤ room := by rw [Nat.mul_comm]; exact d2
              unfold room at this; omega
            rwa [Int.natCast_mul] at h
          have hrun := run_make (P := P) w t e i' zv ht he h2 kl kc nn cc (by omega) (by omega) hb (by unfold room at d5; omega)
          simp only [Int.toNat_natCast] at hrun
          have hmc : madeCells zv.cells (cc * i'.size) = (Array.range (cc * zv.cells.size)).map (zv.cells[· % zv.cells.size]!) := by rw [← h3]; rfl
          rw [hmc] at hrun
          refine new_ok hi hn e (rep_leaf d4 cc) hmade (v := .slice (some ⟨w.heap.size, 0, none⟩) nn cc) (goes_value ?_) ?_
          · unfold execOp; rw [ho]; simp only [v1, v2]
            exact run_v hrun
          · simp only [VR]
            refine ⟨_, cc, (w.heap.size, 0, _), rfl, d1, by simp [upd]; rfl, fun _ => by simp, ?_⟩
            simp [h3]
        · cases hr
      · cases hr
    · cases hcomp
  · cases hcomp
end
end Go.Proofs.Ythanlobfjpjegaa.Abs
