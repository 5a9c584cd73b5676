/- The plain machine, part B9: texts B1 B2 B3 B3A B4 B5 B6 B7 B8 B9 in one. -/
import Derived.Test.YtabfinhkoihhfaaGreatA9
import Derived.Deep.Upon
import Derived.Laws.StructEq
import Derived.DeepKeys
/- Cuts of slices; append and copy; the least and the greatest. -/
namespace Go.Proofs.YtabfinhkoihhfaaGreat.Abs
open Go Go.RowKit
set_option linter.unusedVariables false
set_option linter.unusedSimpArgs false

def IsB (v : Option Value) (d n : Nat) : Prop := (v = none ∧ n = d) ∨ ∃ k, v = some (.int k (n : Int))
theorem bounds1 {P : Program} {w : World} {isS : Bool} {len cap l h : Nat} {lo hi : Option Value} (hl : IsB lo 0 l) (hh : IsB hi len h) (h1 : l ≤ h) (h2 : h ≤ cap) : (Instr.sliceBounds isS len cap lo hi none).run P w = .ok (l, h, cap) w := by
  have e1 : (0 : Int) ≤ (h : Int) ∧ (h : Int) ≤ (cap : Int) := by omega
  have e2 : (0 : Int) ≤ (l : Int) ∧ (l : Int) ≤ (h : Int) := by omega
  rcases hl with ⟨rfl, rfl⟩ | ⟨k, rfl⟩ <;> rcases hh with ⟨rfl, rfl⟩ | ⟨k', rfl⟩ <;> simp [Instr.sliceBounds, Instr.sliceBound, asIntOf, h1, h2]
theorem bounds2 {P : Program} {w : World} {isS : Bool} {len cap l h m : Nat} {lo hi mx : Option Value} (hl : IsB lo 0 l) (hh : ∃ k, hi = some (.int k (h : Int))) (hm : ∃ k, mx = some (.int k (m : Int))) (h1 : l ≤ h) (h2 : h ≤ m) (h3 : m ≤ cap) :
    (Instr.sliceBounds isS len cap lo hi mx).run P w = .ok (l, h, m) w := by
  obtain ⟨k', rfl⟩ := hh
  obtain ⟨k'', rfl⟩ := hm
  rcases hl with ⟨rfl, rfl⟩ | ⟨k, rfl⟩ <;> simp [Instr.sliceBounds, Instr.sliceBound, asIntOf, h1, h2, h3]

section
variable {P : Program} {o : Oper} {a : Act} {B : Nat} {W0 w : World} {Z0 Z : Nat → Nat → Prop} {g : Mem} {μ : Nat → Option Loc} {fr : Nat} {r : Res} {s : List T}

theorem bnd_ok (hs : VRL w Z μ s a.tmps.toList) {x : Option Operand} {y : Option Opd} (h : opdo x = some y) {d n : Nat} (hb : bnd (y.map (rho s)) d = some n) : IsB (x.map a.eval) d n ∧ (y.isSome = true → ∃ k, x.map a.eval = some (.int k (n : Int))) ∧ y.isSome = x.isSome := by
  cases x with
  | none =>
    simp [opdo] at h; subst h
    simp [bnd] at hb; subst hb
    exact ⟨.inl ⟨rfl, rfl⟩, by simp, rfl⟩
  | some x =>
    simp only [opdo] at h
    split at h
    · rename_i y' hy
      obtain rfl := Option.some.inj h
      simp only [Option.map_some, bnd] at hb
      obtain ⟨k, hk⟩ := natOf_ok hb
      have hv := vr_int (rho_ok hs hy) hk
      have : (some x).map a.eval = some (.int k (n : Int)) := by simp [hv]
      exact ⟨.inr ⟨k, this⟩, fun _ => ⟨k, this⟩, rfl⟩
    · cases h

/-- A slice of a slice. -/
theorem slsl_ok (hi : Inv B W0 Z0 g w Z μ) (hs : VRL w Z μ s a.tmps.toList) {t e : TypeId} {x : Operand} {lo hh mx : Option Operand} {n : Nat} {x' : Opd} {lo' hh' mx' : Option Opd} (ho : o.op = .slice t x lo hh mx) (ht : P.underlying t = some (.slice e))
    (h1 : szOf P e = some n) (hx : opd x = some x') (hlo : opdo lo = some lo') (hhi : opdo hh = some hh') (hmx : opdo mx = some mx') (hmh : (mx'.isNone || hh'.isSome) = true) (hr : opRes (.slSl n x' lo' hh' mx') fr s g = some r) : OpOk P o a B W0 Z0 g w Z μ fr r := by
  have hv := rho_ok hs hx
  obtain ⟨ti, q1, q2, q3⟩ := sz_ok h1
  have core : ∀ {ad : Option Addr} {len cap l h m : Nat}, a.eval x = .slice ad len cap → len ≤ cap → bnd (lo'.map (rho s)) 0 = some l → bnd (hh'.map (rho s)) len = some h → bnd (mx'.map (rho s)) len = some m → l ≤ h → h ≤ m → m ≤ len →
      ∃ M, (M = if mx'.isSome then m else cap) ∧ (execOp a.eval o).run P w = .ok (.value (.slice (if M = l then ad else ad.map (·.add (l * n))) (h - l) (M - l))) w := by
    intro ad len cap l h m he hc b1 b2 b3 c1 c2 c3
    obtain ⟨p1, p2, p3⟩ := bnd_ok hs hlo b1
    obtain ⟨r1, r2, r3⟩ := bnd_ok hs hhi b2
    obtain ⟨s1, s2, s3⟩ := bnd_ok hs hmx b3
    refine ⟨if mx'.isSome then m else cap, rfl, ?_⟩
    have hb : (Instr.sliceBounds true len cap (lo.map a.eval) (hh.map a.eval) (mx.map a.eval)).run P w = .ok (l, h, if mx'.isSome then m else cap) w := by
      cases hm : mx' with
      | none =>
        have : mx = none := by have := s3; rw [hm] at this; simpa using this.symm
        subst this
        simp only [Option.map_none, Option.isSome_none, Bool.false_eq_true, if_false]
        exact bounds1 p1 r1 c1 (by omega)
      | some q =>
        rw [hm] at hmh
        simp only [Option.isNone_some, Bool.false_or] at hmh
        simp only [Option.isSome_some, if_true]
        exact bounds2 p1 (r2 hmh) (s2 (by rw [hm]; rfl)) c1 c2 (by omega)
    unfold execOp; rw [ho]; simp only [he]
    refine run_v ?_
    simp [Instr.sliceAt, run_underlying ht, Instr.slice, hb, sizeOf, typeInfo, q1, q2]
  simp only [opRes] at hr
  split at hr
  · rename_i full len c e'
    rw [e'] at hv
    split at hr
    · rename_i l h m b1 b2 b3
      split at hr
      · rename_i hc
        obtain ⟨c1, c2, c3⟩ := hc
        obtain rfl := Option.some.inj hr
        simp only [VR, VI] at hv
        obtain ⟨ad, cap, j1, j2, j3, j4⟩ := hv
        obtain ⟨M, hM, hrun⟩ := core j1 j2 b1 b2 b3 c1 c2 c3
        refine opok_quiet hi (goes_value hrun) ?_
        have hMh : h ≤ M := by rw [hM]; split <;> omega
        simp only [VR, VI]
        refine ⟨_, M - l, rfl, by omega, ?_, ?_⟩
        · intro hf
          split at hf
          · rename_i hms; rw [hM, if_pos hms]; have := beq_iff_eq.1 hf; omega
          · rename_i hms
            rw [hM, if_neg hms]
            simp only [Bool.and_eq_true, beq_iff_eq] at hf
            have := j3 hf.1; omega
        · by_cases h0 : cut c (l * n) ((h - l) * n) = []
          · exact .inl h0
          · right
            have hpos : l < h := by
              rcases Nat.lt_or_ge l h with hlt | hge
              · exact hlt
              · exfalso; apply h0; unfold cut; rw [show h - l = 0 by omega]; simp
            rcases j4 with j4 | ⟨b, p, rfl, j5⟩
            · subst j4; exact absurd (by simp [cut]) h0
            · rw [if_neg (by omega)]
              exact ⟨b, p + l * n, by simp [add_at], j5.cut _ _⟩
      · cases hr
    · cases hr
  · rename_i t' off len es' e'
    rw [e'] at hv
    split at hr
    · rename_i l h m b1 b2 b3
      split at hr
      · rename_i hc
        obtain ⟨c1, c2, c3, c4⟩ := hc
        subst c4
        obtain rfl := Option.some.inj hr
        simp only [VR] at hv
        obtain ⟨ad, cap, mm, j1, j2, j3, j4, j5⟩ := hv
        obtain ⟨M, hM, hrun⟩ := core j1 j2 b1 b2 b3 c1 c2 c3
        refine opok_quiet hi (goes_value hrun) ?_
        have hMh : h ≤ M := by rw [hM]; split <;> omega
        have hMc : M ≤ cap := by rw [hM]; split <;> omega
        simp only [VR]
        refine ⟨_, M - l, mm, rfl, by omega, j3, fun hp => ?_, ?_⟩
        · rw [if_neg (by omega), j4 (by omega)]
          simp [add_at, Nat.add_assoc]
        · have : off + l * es' + (M - l) * es' = off + M * es' := by rw [Nat.add_assoc, ← Nat.add_mul, show l + (M - l) = M by omega]
          rw [this]
          have := Nat.mul_le_mul_right es' hMc
          omega
      · cases hr
    · cases hr
  · cases hr

/-- A slice of an array. -/
theorem slarr_ok (hi : Inv B W0 Z0 g w Z μ) (hs : VRL w Z μ s a.tmps.toList) {t e : TypeId} {x : Operand} {lo hh mx : Option Operand} {N n : Nat} {x' : Opd} {lo' hh' mx' : Option Opd} (ho : o.op = .slice t x lo hh mx) (ht : P.underlying t = some (.array N e))
    (h1 : szOf P e = some n) (hx : opd x = some x') (hlo : opdo lo = some lo') (hhi : opdo hh = some hh') (hmx : opdo mx = some mx') (hmh : (mx'.isNone || hh'.isSome) = true) (hr : opRes (.slArr N n x' lo' hh' mx') fr s g = some r) : OpOk P o a B W0 Z0 g w Z μ fr r := by
  have hv := rho_ok hs hx
  obtain ⟨ti, q1, q2, q3⟩ := sz_ok h1
  simp only [opRes] at hr
  split at hr
  · rename_i l h m b1 b2 b3
    split at hr
    · rename_i hc
      obtain ⟨c1, c2, c3⟩ := hc
      obtain ⟨p1, p2, p3⟩ := bnd_ok hs hlo b1
      obtain ⟨r1, r2, r3⟩ := bnd_ok hs hhi b2
      obtain ⟨s1, s2, s3⟩ := bnd_ok hs hmx b3
      have hb : (Instr.sliceBounds false N N (lo.map a.eval) (hh.map a.eval) (mx.map a.eval)).run P w = .ok (l, h, m) w := by
        cases hm : mx' with
        | none =>
          have : mx = none := by have := s3; rw [hm] at this; simpa using this.symm
          subst this
          have : m = N := by rw [hm] at b3; simpa [bnd] using b3.symm
          subst this
          exact bounds1 p1 r1 c1 c2
        | some q =>
          rw [hm] at hmh
          simp only [Option.isNone_some, Bool.false_or] at hmh
          exact bounds2 p1 (r2 hmh) (s2 (by rw [hm]; rfl)) c1 c2 c3
      have hrun : ∀ b p, a.eval x = .pointer (some ⟨b, p, none⟩) → (execOp a.eval o).run P w = .ok (.value (.slice (some (if m = l then ⟨b, p, none⟩ else ⟨b, p + l * n, none⟩)) (h - l) (m - l))) w := fun b p he => by
        unfold execOp; rw [ho]; simp only [he]
        refine run_v ?_
        simp [Instr.sliceAt, run_underlying ht, Instr.sureAddr, hb, sizeOf, typeInfo, q1, q2, add_at]
      split at hr
      · rename_i t' off e'
        rw [e'] at hv; simp only [VR] at hv
        obtain ⟨mm, j1, j2⟩ := hv
        split at hr
        · rename_i c hcg
          split at hr
          · rename_i hn
            obtain rfl := Option.some.inj hr
            obtain ⟨m', k1, k2, k3, k4, k5, k6, k7⟩ := hi.blk _ _ hcg
            obtain rfl : m' = mm := by rw [j1] at k1; exact (Option.some.inj k1).symm
            refine opok_quiet hi (goes_value (hrun _ _ j2)) ?_
            simp only [VR]
            refine ⟨_, m - l, m', rfl, by omega, j1, fun hp => ?_, ?_⟩
            · rw [if_neg (by omega)]; simp [Nat.add_assoc]
            · have : off + l * n + (m - l) * n = off + m * n := by rw [Nat.add_assoc, ← Nat.add_mul, show l + (m - l) = m by omega]
              rw [this]
              have := Nat.mul_le_mul_right n c3
              omega
          · cases hr
        · cases hr
      · rename_i c off e'
        rw [e'] at hv; simp only [VR, VI] at hv
        obtain ⟨b, p, j1, j2⟩ := hv
        split at hr
        · obtain rfl := Option.some.inj hr
          refine opok_quiet hi (goes_value (hrun _ _ j1)) ?_
          simp only [VR, VI]
          refine ⟨_, m - l, rfl, by omega, fun hf => by have := beq_iff_eq.1 hf; omega, ?_⟩
          by_cases h0 : cut c (off + l * n) ((h - l) * n) = []
          · exact .inl h0
          · right
            have hpos : l < h := by
              rcases Nat.lt_or_ge l h with hlt | hge
              · exact hlt
              · exfalso; apply h0; unfold cut; rw [show h - l = 0 by omega]; simp
            rw [if_neg (by omega)]
            exact ⟨b, p + (off + l * n), by simp [Nat.add_assoc], j2.cut _ _⟩
        · cases hr
      · cases hr
    · cases hr
  · cases hr

/-- What append and copy read. -/
theorem src_ok (hi : Inv B W0 Z0 g w Z μ) {es : Nat} {y : T} {v : Value} {n : Nat} {new : List T} {rd : List Nat} (h : cellsOf g es y = some (n, new, rd)) (hv : VR w Z μ y v) (hes : 0 < es) (hn : new.length = n * es) (hf : allLeaf new = true) :
    ∃ ad cap news, v = .slice ad n cap ∧ VRL w Z μ new news ∧ (∀ j u, news[j]? = some u → ∀ b p, ad = some ⟨b, p, none⟩ → w.cell? ⟨b, p + j, none⟩ = some u) ∧ (0 < n → ∃ b p, ad = some ⟨b, p, none⟩) ∧ (∀ u ∈ news, u.oneCell' = true) ∧ news.length = n * es := by
  have one : ∀ news : List Value, VRL w Z μ new news → ∀ u ∈ news, u.oneCell' = true := fun news hl u hm => by
    obtain ⟨i, hil, rfl⟩ := List.getElem_of_mem hm
    have hb : i < new.length := by have := hl.len; omega
    obtain ⟨v, q1, q2⟩ := hl.get (List.getElem?_eq_getElem hb)
    rw [List.getElem?_eq_getElem hil] at q1
    rw [Option.some.inj q1]
    exact q2.oneCell (List.all_eq_true.1 hf _ (List.getElem_mem hb))
  unfold cellsOf at h
  split at h
  · rename_i full len c
    simp at h; obtain ⟨rfl, rfl, rfl⟩ := h
    simp only [VR, VI] at hv
    obtain ⟨ad, cap, j1, j2, j3, j4⟩ := hv
    rcases j4 with j4 | ⟨b, p, rfl, j5⟩
    · subst j4
      have : len = 0 := by
        rcases Nat.eq_zero_or_pos len with h | h
        · exact h
        · have := Nat.mul_pos h hes; simp at hn; omega
      subst this
      exact ⟨ad, cap, [], j1, by simp [VRL], by simp, by simp, by simp, by simp⟩
    · obtain ⟨vs, k1, k2, k3, k4⟩ := (VC.vd (μ := μ) j5).range (off := 0) (n := c.length) (by omega)
      have hcut : cut c 0 c.length = c := by simp [cut]
      rw [hcut] at k2
      refine ⟨_, cap, vs, j1, k2, fun j u hu b' p' e => ?_, fun _ => ⟨b, p, rfl⟩, one vs k2, by rw [k1, hn]⟩
      simp at e; obtain ⟨rfl, rfl⟩ := e
      exact k3 j u hu
  · rename_i t off len es'
    split at h
    · rename_i he; subst he
      split at h
      · rename_i c hc
        split at h
        · rename_i hle
          simp at h; obtain ⟨rfl, rfl, rfl⟩ := h
          simp only [VR] at hv
          obtain ⟨ad, cap, m, j1, j2, j3, j4, j5⟩ := hv
          obtain ⟨m', k1, k2, k3, k4, k5, k6, k7⟩ := hi.blk _ _ hc
          obtain rfl : m' = m := by rw [j3] at k1; exact (Option.some.inj k1).symm
          obtain ⟨vs, p1, p2, p3, p4⟩ := k7.range hle
          refine ⟨ad, cap, vs, j1, p2, fun j u hu b' p' e => ?_, fun hp => ⟨_, _, j4 (by omega)⟩, one vs p2, p1⟩
          have hcap : 0 < cap := by
            rcases Nat.eq_zero_or_pos len with h0 | h0
            · subst h0; simp at p1; subst p1; simp at hu
            · omega
          rw [j4 hcap] at e
          simp at e; obtain ⟨rfl, rfl⟩ := e
          exact p3 j u hu
        · cases h
      · cases h
    · cases h
  · cases h
theorem first_run {es n k : Nat} {ad : Option Addr} {cap : Nat} {news : List Value} (hk : k ≤ n) (hl : news.length = n * es) (h1 : ∀ j u, news[j]? = some u → ∀ b p, ad = some ⟨b, p, none⟩ → w.cell? ⟨b, p + j, none⟩ = some u) (h2 : 0 < n → ∃ b p, ad = some ⟨b, p, none⟩) :
    (Builtin.firstCells es k (.slice ad n cap)).run P w = .ok (news.take (k * es)).toArray w := by
  rcases Nat.eq_zero_or_pos n with h0 | h0
  · subst h0
    obtain rfl : k = 0 := by omega
    simp at hl; subst hl
    cases ad <;> simp [Builtin.firstCells, loadCells, loadCellsFrom]
  · obtain ⟨b, p, rfl⟩ := h2 h0
    have hke : k * es ≤ n * es := Nat.mul_le_mul_right es hk
    refine run_firstCells_some w es k _ n cap _ (by simp; omega) fun j v hv => ?_
    rw [add_at]
    rw [List.getElem?_take] at hv
    split at hv
    · exact h1 j v hv b p rfl
    · cases hv
theorem src_mk {es : Nat} {tx e' : TypeId} (hk : P.underlying tx = some (.slice e')) {n cap : Nat} {ad : Option Addr} {news : List Value} (hl : news.length = n * es) (h1 : ∀ j u, news[j]? = some u → ∀ b p, ad = some ⟨b, p, none⟩ → w.cell? ⟨b, p + j, none⟩ = some u)
    (h2 : 0 < n → ∃ b p, ad = some ⟨b, p, none⟩) (h3 : ∀ u ∈ news, u.oneCell' = true) : Src P es tx (.slice ad n cap) n news w := by
  have f1 := first_run (P := P) (w := w) (es := es) (n := n) (k := n) (cap := cap) (Nat.le_refl _) hl h1 h2
  have f2 := first_run (P := P) (w := w.drew) (es := es) (n := n) (k := n) (cap := cap) (Nat.le_refl _) hl (by simpa using h1) h2
  rw [List.take_of_length_le (by omega)] at f1 f2
  exact ⟨.inl ⟨e', hk⟩, fun _ => rfl, f1, f2, hl, h3⟩
theorem growBy_le (need : Nat) : ∀ (r c : Nat), c ≤ 2 * need + 256 → Builtin.growBy need r c ≤ 2 * need + 256
  | 0, c, h => h
  | r + 1, c, h => by
    rw [Builtin.growBy]
    split
    · exact h
    · exact growBy_le need r _ (by omega)
theorem nextcap_le (need old : Nat) (h : old < need) : Builtin.nextslicecap need old ≤ 2 * need + 256 := by
  unfold Builtin.nextslicecap
  split
  · omega
  · split
    · omega
    · exact growBy_le need 4 old (by omega)
theorem nextcap_fit {need old bytes : Nat} (h : old < need) (hb : need * bytes ≤ room) : Builtin.nextslicecap need old * bytes ≤ 281474976710656 := by
  have h1 := Nat.mul_le_mul_right bytes (nextcap_le need old h)
  have h2 : (2 * need + 256) * bytes = 2 * (need * bytes) + 256 * bytes := by rw [Nat.add_mul, Nat.mul_assoc]
  have h3 : bytes ≤ need * bytes := Nat.le_mul_of_pos_left bytes (by omega)
  unfold room at hb
  omega
end
end Go.Proofs.YtabfinhkoihhfaaGreat.Abs

/- append, copy, min, max. -/
namespace Go.Proofs.YtabfinhkoihhfaaGreat.Abs
open Go Go.RowKit
set_option linter.unusedVariables false
set_option linter.unusedSimpArgs false
section
variable {P : Program} {o : Oper} {a : Act} {B : Nat} {W0 w : World} {Z0 Z : Nat → Nat → Prop} {g : Mem} {μ : Nat → Option Loc} {fr : Nat} {r : Res} {s : List T}

theorem Inv.forget (hi : Inv B W0 Z0 g w Z μ) (t : Nat) : put1 (put1 g (t, none)) (t, none) = put1 g (t, none) := by funext u; simp only [put1]; split <;> rfl

theorem VRL.append : ∀ {l l' : List T} {vs vs' : List Value}, VRL w Z μ l vs → VRL w Z μ l' vs' → VRL w Z μ (l ++ l') (vs ++ vs')
  | [], _, _, _, h, h' => by simp only [VRL] at h; subst h; simpa using h'
  | x :: l, l', vs, vs', h, h' => by
    simp only [VRL] at h
    obtain ⟨v, r, rfl, h1, h2⟩ := h
    simp only [List.cons_append, VRL]
    exact ⟨v, r ++ vs', rfl, h1, VRL.append h2 h'⟩
theorem leaf_append {l l' : List T} (h : allLeaf l = true) (h' : allLeaf l' = true) : allLeaf (l ++ l') = true := by
  unfold allLeaf at *; rw [List.all_append, h, h']; rfl
theorem leaf_cut {c : List T} (h : allLeaf c = true) (o n : Nat) : allLeaf (cut c o n) = true := by
  unfold allLeaf at *
  rw [List.all_eq_true] at *
  exact fun x hx => h x (List.mem_of_mem_drop (List.mem_of_mem_take hx))

/-- A new row: what was, what comes, and the rest. -/
theorem grow_ok (hi : Inv B W0 Z0 g w Z μ) (hn : μ fr = none) {olds news : List Value} {c c' : List T} (h1 : VRL w Z μ c olds) (h2 : VRL w Z μ c' news) (hl : allLeaf (c ++ c') = true) {e : TypeId} {rest : Array Value} {v : Value} {x : T} {rd : List Nat}
    (hg : Goes P o a w v (w.drew.alloc (.cells ((olds ++ news).toArray ++ rest) e))) (hv : VR (w.drew.alloc (.cells ((olds ++ news).toArray ++ rest) e)) Z (upd μ fr (w.heap.size, 0, ((olds ++ news).toArray ++ rest).size)) x v)
    {dels : List (Nat × Option (List T))} (hd : ∀ p ∈ dels, p.2 = none) : OpOk P o a B W0 Z0 g w Z μ fr ⟨x, rd, dels ++ [(fr, some (c ++ c'))]⟩ := by
  have hi' : Inv B W0 Z0 (putAll g dels) w Z μ := by
    clear hg hv hl
    induction dels generalizing g with
    | nil => exact hi
    | cons p q ih =>
      obtain ⟨t, y⟩ := p
      have : y = none := hd (t, y) (by simp)
      subst this
      exact ih (hi.del t) fun p hp => hd p (by simp [hp])
  have happ := (h1.append h2)
  have hlen := happ.len
  obtain ⟨k1, k2⟩ := hi'.drew.alloc (t := fr) (c := c ++ c') ((olds ++ news).toArray ++ rest) e hn hl (by simp at hlen ⊢; omega) fun i y hy => by
    obtain ⟨u, j1, j2⟩ := happ.get hy
    refine ⟨u, ?_, VR.mono ZLe.drew MLe.refl _ _ j2⟩
    rw [Array.getElem?_append_left (by have := (List.getElem?_eq_some_iff.1 j1).1; simpa using this)]
    simpa using j1
  refine ⟨v, _, _, hg, hv, ?_, ZLe.trans ZLe.drew k2, MLe.upd hn, fun u hu => by simp [upd, hu]⟩
  have : putAll g (dels ++ [(fr, some (c ++ c'))]) = put1 (putAll g dels) (fr, some (c ++ c')) := by simp [putAll]
  rw [this]; exact k1

theorem append_ok (hi : Inv B W0 Z0 g w Z μ) (hn : μ fr = none) (hs : VRL w Z μ s a.tmps.toList) {t tx e ex : TypeId} {z : List T} {i : TypeInfo} {sl x : Operand} {sl' x' : Opd} {ats : Array TypeId} {xs : Array Operand}
    (ho : o.op = .call { callee := .builtin .append, args := xs, argTypes := ats }) (hat : ats.toList = [t, tx]) (hxs : xs.toList = [sl, x]) (ht : P.underlying t = some (.slice e)) (htx : P.underlying tx = some (.slice ex))
    (hz : zc P e = some z) (he : P.info? e = some i) (hsl : opd sl = some sl') (hx : opd x = some x') (hr : opRes (.append i.size i.bytes sl' x') fr s g = some r) : OpOk P o a B W0 Z0 g w Z μ fr r := by
  obtain rfl : xs = #[sl, x] := by cases xs; simp_all
  obtain rfl : ats = #[t, tx] := by cases ats; simp_all
  obtain ⟨i', zv, h1, h2, h3, h4, h5⟩ := zc_ok hz
  obtain rfl : i' = i := by rw [he] at h1; exact (Option.some.inj h1).symm
  have hrun : ∀ {v w'}, (Builtin.append_ #[t, tx] o.type #[a.eval sl, a.eval x]).run P w = .ok v w' → (execOp a.eval o).run P w = .ok (.value v) w' := fun {v w'} h => by
    unfold execOp; rw [ho]
    simp [resolve, invoke, builtin, h]
  have hvs := rho_ok hs hsl
  have hvx := rho_ok hs hx
  simp only [opRes] at hr
  split at hr
  · rename_i n new rd hc
    split at hr
    · rename_i h0; subst h0
      split at hr
      · rename_i hnl
        have hnil : new = [] := List.eq_nil_of_length_eq_zero hnl
        obtain ⟨ad, cap, news, k1, k2, k3, k4, k5, k6⟩ := src_ok hi hc hvx h4 (by simp [hnil]) (by simp [hnil, allLeaf])
        have hsrc := src_mk (P := P) (w := w) htx (n := 0) (cap := cap) k6 k3 k4 k5
        simp at k6; subst k6
        rw [← k1] at hsrc
        split at hr
        · rename_i f l c e'
          obtain rfl := Option.some.inj hr
          rw [e'] at hvs
          have hvs' := hvs
          simp only [VR, VI] at hvs'
          obtain ⟨ad', cap', j1, j2, _⟩ := hvs'
          have := run_append_nothing w t tx o.type e i' ht he ad' l cap' j2 _ hsrc
          rw [← j1] at this
          exact opok_quiet hi (goes_value (hrun this)) hvs
        · rename_i t' p l es e'
          obtain rfl := Option.some.inj hr
          rw [e'] at hvs
          have hvs' := hvs
          simp only [VR] at hvs'
          obtain ⟨ad', cap', m, j1, j2, _⟩ := hvs'
          have := run_append_nothing w t tx o.type e i' ht he ad' l cap' j2 _ hsrc
          rw [← j1] at this
          exact opok_quiet hi (goes_value (hrun this)) hvs
        · cases hr
      · cases hr
    · rename_i h0
      split at hr
      · rename_i hnl
        obtain ⟨hnl1, hnl2⟩ := hnl
        obtain ⟨ad, cap, news, k1, k2, k3, k4, k5, k6⟩ := src_ok hi hc hvx h4 hnl1 hnl2
        have hsrc := src_mk (P := P) (w := w) htx (n := n) (cap := cap) k6 k3 k4 k5
        rw [← k1] at hsrc
        split at hr
        · rename_i len c e'
          rw [e'] at hvs
          simp only [VR, VI] at hvs
          obtain ⟨ad', cap', j1, j2, j3, j4⟩ := hvs
          obtain rfl := j3 trivial
          split at hr
          · rename_i hb
            obtain ⟨hb1, hb2, hb3, hb4⟩ := hb
            obtain rfl := Option.some.inj hr
            -- the old cells
            obtain ⟨ad2, cap2, olds, q1, q2, q3, q4, q5, q6⟩ := src_ok (g := g) hi (es := i'.size) (y := .imm true cap' c) (n := cap') (new := c) (rd := []) (v := a.eval sl) rfl (by simp only [VR, VI]; exact ⟨ad', cap', j1, j2, fun _ => rfl, j4⟩) h4 hb3 hb4
            obtain ⟨rfl, rfl⟩ : ad2 = ad' ∧ cap2 = cap' := by rw [j1] at q1; simpa using q1.symm
            have hold := first_run (P := P) (w := w.drew) (k := cap2) (cap := cap2) (Nat.le_refl _) q6 (by simpa using q3) q4
            rw [List.take_of_length_le (by omega)] at hold
            have := run_append_grow_src w t tx o.type e i' zv ht he h2 ad2 cap2 cap2 olds hold _ n news hsrc (by omega) (by unfold room at hb2; omega) (nextcap_fit (by omega) hb1)
            rw [← j1] at this
            refine grow_ok hi hn q2 k2 (leaf_append hb4 hnl2) (dels := []) (goes_value (hrun this)) ?_ (by simp)
            simp only [VR]
            refine ⟨_, _, _, rfl, grownCap_ge _ _ _ _, by simp [upd]; rfl, fun _ => by simp, ?_⟩
            have e1 := q2.len
            have e2 := k2.len
            have hgc := grownCap_ge w (cap2 + n) cap2 e
            simp [Builtin.zeroCells, h3]
            rw [q6, k6, ← Nat.add_mul, ← Nat.add_mul, show cap2 + n + (grownCap w (cap2 + n) cap2 e - (cap2 + n)) = grownCap w (cap2 + n) cap2 e by omega]
            exact Nat.le_refl _
          · cases hr
        · rename_i t' off len es' e'
          split at hr
          · rename_i hb
            obtain ⟨hb0, hb1, hb2⟩ := hb
            subst hb0
            split at hr
            · rename_i c hcg
              split at hr
              · rename_i hle
                obtain rfl := Option.some.inj hr
                rw [e'] at hvs
                have hvs0 := hvs
                simp only [VR] at hvs
                obtain ⟨ad', cap', m, j1, j2, j3, j4, j5⟩ := hvs
                obtain ⟨m', p1, p2, p3, p4, p5, p6, p7⟩ := hi.blk _ _ hcg
                obtain rfl : m' = m := by rw [j3] at p1; exact (Option.some.inj p1).symm
                have hcl : allLeaf (cut c off (len * i'.size)) = true := by
                  unfold allLeaf; rw [List.all_eq_true]
                  intro y hy
                  obtain ⟨q, hq, rfl⟩ := List.getElem_of_mem hy
                  have hq2 := List.getElem?_eq_getElem hq
                  rw [cut_get] at hq2
                  split at hq2
                  · exact (p7 _ _ hq2).1
                  · cases hq2
                by_cases hroom : len + n ≤ cap'
                · -- there is room
                  have hcap : 0 < cap' := by omega
                  have had := j4 hcap
                  subst had
                  have hsz : len * i'.size + n * i'.size ≤ cap' * i'.size := by rw [← Nat.add_mul]; exact Nat.mul_le_mul_right _ hroom
                  have hnl := k2.len
                  have hrun' := run_append_room_src w t tx o.type e i' ht he m'.1 (m'.2.1 + off) len cap' _ n news hsrc hroom
                    (fun j hj => by have := (p5 (off + len * i'.size + j) (by omega)).1; rwa [show m'.2.1 + (off + len * i'.size + j) = m'.2.1 + off + len * i'.size + j by omega] at this)
                    (fun j hj => by have := (p5 (off + len * i'.size + j) (by omega)).2; rwa [show m'.2.1 + (off + len * i'.size + j) = m'.2.1 + off + len * i'.size + j by omega] at this)
                  rw [← j1] at hrun'
                  obtain ⟨w1, w2⟩ := hi.write hcg j3 (off + len * i'.size) news (by omega)
                  rw [show m'.2.1 + (off + len * i'.size) = m'.2.1 + off + len * i'.size by omega] at w1 w2
                  have hfree : ∀ (u : Nat) cu m1, u ≠ fr → put1 g (t', none) u = some cu → upd μ fr (m'.1, m'.2.1 + off, cap' * i'.size) u = some m1 → m'.1 ≠ m1.1 ∨ m'.2.1 + off + cap' * i'.size ≤ m1.2.1 ∨ m1.2.1 + m1.2.2 ≤ m'.2.1 + off := by
                    intro u cu m1 hne hu hm1
                    have hut : u ≠ t' := fun e => by simp [put1, e] at hu
                    have hu' : g u = some cu := by simpa [put1, hut] using hu
                    have hm1' : μ u = some m1 := by simpa [upd, hne] using hm1
                    rcases hi.dis u t' cu c m1 m' hut hu' hcg hm1' j3 with hd | hd | hd
                    · exact .inl fun e => hd e.symm
                    · right; right; omega
                    · right; left; omega
                  refine ⟨_, _, upd μ fr (m'.1, m'.2.1 + off, cap' * i'.size), goes_value (hrun hrun'), ?_, ?_, w2, MLe.upd hn, fun u hu => by simp [upd, hu]⟩
                  · simp only [VR]
                    exact ⟨_, _, _, rfl, by omega, by simp [upd]; rfl, fun _ => by simp, by simp⟩
                  · have h3 := w1.name (t := fr) (m := (m'.1, m'.2.1 + off, cap' * i'.size)) hn
                    have h4 := h3.put (t := fr) (c := cut c off (len * i'.size) ++ new) (m := (m'.1, m'.2.1 + off, cap' * i'.size)) (by simp [upd]) p2 (by rw [setCells_size]; exact p3)
                      (by simp only [List.length_append, cut_len hle]; omega)
                      (fun j hj => by
                        have := (World.there_setCells p5 m'.1 (m'.2.1 + off + len * i'.size) news) (off + j) (by simp only at hj; omega)
                        rwa [← Nat.add_assoc] at this)
                      (fun q hq => by have := p6 (off + q) (by simp only at hq; omega); rwa [← Nat.add_assoc] at this)
                      (fun q y hy => by
                        refine ⟨List.all_eq_true.1 (leaf_append hcl hnl2) y (List.mem_of_getElem? hy), ?_⟩
                        simp only
                        rcases Nat.lt_or_ge q (len * i'.size) with hlt | hge
                        · rw [List.getElem?_append_left (by rw [cut_len hle]; exact hlt), cut_get, if_pos hlt] at hy
                          obtain ⟨_, v, d1, d2⟩ := p7 _ _ hy
                          refine ⟨v, ?_, VR.mono w2 (MLe.upd hn) _ _ d2⟩
                          rw [World.cell?_setCells_out]
                          · rwa [Nat.add_assoc]
                          · intro _ _; simp only; omega
                        · rw [List.getElem?_append_right (by rw [cut_len hle]; exact hge), cut_len hle] at hy
                          obtain ⟨v, d1, d2⟩ := k2.get hy
                          refine ⟨v, ?_, VR.mono w2 (MLe.upd hn) _ _ d2⟩
                          have hq : q - len * i'.size < news.length := (List.getElem?_eq_some_iff.1 d1).1
                          have := World.cell?_setCells_in m'.1 news (m'.2.1 + off + len * i'.size) w (fun j hj => by have := (p5 (off + len * i'.size + j) (by omega)).1; rwa [show m'.2.1 + (off + len * i'.size + j) = m'.2.1 + off + len * i'.size + j by omega] at this) _ hq
                          rw [show m'.2.1 + off + len * i'.size + (q - len * i'.size) = m'.2.1 + off + q by omega] at this
                          rw [this, ← List.getElem?_eq_getElem hq, d1])
                      hfree
                    exact h4
                · -- there is none
                  obtain ⟨ad2, cap2, olds, q1, q2, q3, q4, q5, q6⟩ := src_ok hi (es := i'.size) (y := .own t' off len i'.size) (n := len) (new := cut c off (len * i'.size)) (rd := [t']) (v := a.eval sl) (by simp [cellsOf, hcg, hle]) hvs0 h4 (cut_len hle) hcl
                  obtain ⟨rfl, rfl⟩ : ad2 = ad' ∧ cap2 = cap' := by rw [j1] at q1; simpa using q1.symm
                  have hold := first_run (P := P) (w := w.drew) (k := len) (cap := cap2) (Nat.le_refl _) q6 (by simpa using q3) q4
                  rw [List.take_of_length_le (by omega)] at hold
                  have := run_append_grow_src w t tx o.type e i' zv ht he h2 ad2 len cap2 olds hold _ n news hsrc (by omega) (by unfold room at hb2; omega) (nextcap_fit (by omega) hb1)
                  rw [← j1] at this
                  refine grow_ok hi hn q2 k2 (leaf_append hcl hnl2) (dels := [(t', none)]) (goes_value (hrun this)) ?_ (by simp)
                  simp only [VR]
                  refine ⟨_, _, _, rfl, grownCap_ge _ _ _ _, by simp [upd]; rfl, fun _ => by simp, ?_⟩
                  have hgc := grownCap_ge w (len + n) cap2 e
                  simp [Builtin.zeroCells, h3]
                  rw [q6, k6, ← Nat.add_mul, ← Nat.add_mul, show len + n + (grownCap w (len + n) cap2 e - (len + n)) = grownCap w (len + n) cap2 e by omega]
                  exact Nat.le_refl _
              · cases hr
            · cases hr
          · cases hr
        · cases hr
      · cases hr
  · cases hr
end
end Go.Proofs.YtabfinhkoihhfaaGreat.Abs

/- copy, min, max; what is equal cell by cell. -/
namespace Go.Proofs.YtabfinhkoihhfaaGreat.Abs
open Go Go.RowKit
set_option linter.unusedVariables false
set_option linter.unusedSimpArgs false
section
variable {P : Program} {o : Oper} {a : Act} {B : Nat} {W0 w : World} {Z0 Z : Nat → Nat → Prop} {g : Mem} {μ : Nat → Option Loc} {fr : Nat} {r : Res} {s : List T}

theorem VRL.take {l : List T} {vs : List Value} (h : VRL w Z μ l vs) (n : Nat) : VRL w Z μ (l.take n) (vs.take n) := by
  refine VRL.mk (by simp [h.len]) fun i x v hx hv => ?_
  rw [List.getElem?_take] at hx hv
  split at hx
  · rename_i hi
    rw [if_pos hi] at hv
    obtain ⟨u, h1, h2⟩ := h.get hx
    rw [hv] at h1; obtain rfl := Option.some.inj h1; exact h2
  · cases hx

theorem copy_ok (hi : Inv B W0 Z0 g w Z μ) (hs : VRL w Z μ s a.tmps.toList) {t tx e : TypeId} {n : Nat} {d x : Operand} {d' x' : Opd} {ats : Array TypeId} {xs : Array Operand}
    (ho : o.op = .call { callee := .builtin .copy, args := xs, argTypes := ats }) (hat : ats.toList = [t, tx]) (hxs : xs.toList = [d, x]) (ht : P.underlying t = some (.slice e))
    (h1 : szOf P e = some n) (hd : opd d = some d') (hx : opd x = some x') (hr : opRes (.copy n d' x') fr s g = some r) : OpOk P o a B W0 Z0 g w Z μ fr r := by
  obtain rfl : xs = #[d, x] := by cases xs; simp_all
  obtain rfl : ats = #[t, tx] := by cases ats; simp_all
  obtain ⟨ti, q1, q2, q3⟩ := sz_ok h1
  have hvd := rho_ok hs hd
  have hvx := rho_ok hs hx
  simp only [opRes] at hr
  split at hr
  · rename_i ns new rd t' off len es' hc e'
    split at hr
    · rename_i c hcg
      split at hr
      · rename_i hb
        obtain ⟨hb1, hb2, hb3, hb4⟩ := hb
        subst hb1
        obtain rfl := Option.some.inj hr
        obtain ⟨ad, cap, news, k1, k2, k3, k4, k5, k6⟩ := src_ok hi hc hvx q3 hb3 hb4
        rw [e'] at hvd
        simp only [VR] at hvd
        obtain ⟨ad', cap', m, j1, j2, j3, j4, j5⟩ := hvd
        obtain ⟨m', p1, p2, p3, p4, p5, p6, p7⟩ := hi.blk _ _ hcg
        obtain rfl : m' = m := by rw [j3] at p1; exact (Option.some.inj p1).symm
        have hf := first_run (P := P) (w := w) (k := min ns len) (cap := cap) (Nat.min_le_left _ _) k6 k3 k4
        have hrun : ∀ w', (∀ b, ad' = some b → (storeCells b (news.take (min ns len * es'))).run P w = .ok () w') → (ad' = none → w' = w) → (execOp a.eval o).run P w = .ok (.value (.int .i64 ((min ns len : Nat) : Int))) w' := fun w' hst hnone => by
          unfold execOp; rw [ho]
          have hmin : Nat.min ns len = min ns len := rfl
          cases ad' with
          | none =>
            obtain rfl := hnone rfl
            simp [resolve, invoke, builtin, Builtin.copy_, j1, k1, run_underlying ht, Builtin.lenOf, sizeOf, typeInfo, q1, q2, hmin, hf, goInt]
          | some b =>
            have := hst b rfl
            simp [resolve, invoke, builtin, Builtin.copy_, j1, k1, run_underlying ht, Builtin.lenOf, sizeOf, typeInfo, q1, q2, hmin, hf, goInt, this]
        rcases Nat.eq_zero_or_pos (min ns len) with h0 | h0
        · have h0' : min ns len * es' = 0 := by rw [h0]; simp
          have hr2 := hrun w (fun b _ => by rw [h0', List.take_zero]; rfl) (fun _ => rfl)
          refine ⟨_, w, μ, goes_value hr2, by simp only [VR, VI], ?_, ZLe.refl, MLe.refl, fun _ _ => rfl⟩
          have : putAll g [(t', some (splice c off (new.take (min ns len * es'))))] = g := by
            rw [h0', List.take_zero]
            funext u
            simp only [putAll, List.foldl_cons, List.foldl_nil, put1, splice]
            split
            · rename_i e; rw [e, hcg]
            · rfl
          rw [this]; exact hi
        · have hlen : 0 < len := by omega
          have had := j4 (by omega)
          subst had
          have hle : min ns len * es' ≤ len * es' := Nat.mul_le_mul_right _ (Nat.min_le_right _ _)
          have hle2 : min ns len * es' ≤ ns * es' := Nat.mul_le_mul_right _ (Nat.min_le_left _ _)
          have hnl := k2.len
          have htl : (news.take (min ns len * es')).length = min ns len * es' := by simp; omega
          have hst := run_storeCells_cells (P := P) m'.1 (m'.2.1 + off) (news.take (min ns len * es')) 0 w
            (fun j hj => by have := (p5 (off + j) (by omega)).1; simpa [Nat.add_assoc] using this)
            (fun j hj => by have := (p5 (off + j) (by omega)).2; simpa [Nat.add_assoc] using this)
            (fun u hu => k5 u (List.mem_of_mem_take hu))
          simp only [Nat.add_zero] at hst
          have hr2 := hrun _ (fun b hb => by obtain rfl := Option.some.inj hb; exact hst) (fun h => by cases h)
          obtain ⟨w1, w2⟩ := hi.splice hcg j3 (off := off) (k2.take (min ns len * es')) (by
            unfold allLeaf at *; rw [List.all_eq_true] at *; exact fun y hy => hb4 y (List.mem_of_mem_take hy)) (by simp; omega)
          exact ⟨_, _, μ, goes_value hr2, by simp only [VR, VI], w1, w2, MLe.refl, fun _ _ => rfl⟩
      · cases hr
    · cases hr
  · cases hr

theorem minmax_run {f : T → T → Option T} {F : Value → Value → Sem Value} (hF : ∀ x y z u v, f x y = some z → VR w Z μ x u → VR w Z μ y v → ∃ q, VR w Z μ z q ∧ (F u v).run P w = .ok q w) :
    ∀ (l : List T) (vs : List Value) (x z : T) (u : Value), VRL w Z μ l vs → VR w Z μ x u → l.foldlM f x = some z → ∃ q, VR w Z μ z q ∧ (vs.foldlM F u).run P w = .ok q w
  | [], vs, x, z, u, hl, hx, h => by
    simp only [VRL] at hl; subst hl
    simp at h; subst h
    exact ⟨u, hx, by simp⟩
  | y :: l, vs, x, z, u, hl, hx, h => by
    simp only [VRL] at hl
    obtain ⟨v, vs', rfl, h1, h2⟩ := hl
    simp only [List.foldlM_cons] at h ⊢
    cases hf : f x y with
    | none => rw [hf] at h; simp at h
    | some p =>
      rw [hf] at h
      simp only [Option.bind_eq_bind, Option.bind_some] at h
      obtain ⟨q, k1, k2⟩ := hF x y p u v hf hx h1
      obtain ⟨q', j1, j2⟩ := minmax_run hF l vs' p z q h2 k1 h
      exact ⟨q', j1, by rw [Sem.run_bind, k2]; exact j2⟩

theorem mn_ok (hi : Inv B W0 Z0 g w Z μ) (hs : VRL w Z μ s a.tmps.toList) {l : List Opd} {ats : Array TypeId} {xs : Array Operand}
    (ho : o.op = .call { callee := .builtin .min, args := xs, argTypes := ats }) (hl : opds xs.toList = some l) (hr : opRes (.mn l) fr s g = some r) : OpOk P o a B W0 Z0 g w Z μ fr r := by
  have hv := rhos_ok hs hl
  simp only [opRes] at hr
  split at hr
  · rename_i z hz
    obtain rfl := Option.some.inj hr
    generalize hm : l.map (rho s) = ts at hz hv
    cases ts with
    | nil => simp [minL] at hz
    | cons x ts =>
      simp only [VRL] at hv
      obtain ⟨u, us, e1, h1, h2⟩ := hv
      simp only [minL] at hz
      obtain ⟨q, k1, k2⟩ := minmax_run (P := P) (F := Builtin.min2) (fun x y z u v hf hx hy => by
        split at hf
        · rename_i k p k' p'
          obtain rfl := Option.some.inj hf
          simp only [VR, VI] at hx hy
          subst hx; subst hy
          exact ⟨_, by simp only [VR, VI]; rfl, by simp [Builtin.min2]⟩
        · cases hf) ts us x z u h2 h1 hz
      refine opok_quiet hi (goes_value ?_) k1
      have e2 : (xs.map a.eval).toList = u :: us := by rw [Array.toList_map]; exact e1
      unfold execOp; rw [ho]
      have e3 : (Builtin.min_ ats o.type (xs.map a.eval)).run P w = .ok q w := by unfold Builtin.min_; rw [e2]; exact k2
      simp [resolve, invoke, builtin, e3]
  · cases hr
theorem mx_ok (hi : Inv B W0 Z0 g w Z μ) (hs : VRL w Z μ s a.tmps.toList) {l : List Opd} {ats : Array TypeId} {xs : Array Operand}
    (ho : o.op = .call { callee := .builtin .max, args := xs, argTypes := ats }) (hl : opds xs.toList = some l) (hr : opRes (.mx l) fr s g = some r) : OpOk P o a B W0 Z0 g w Z μ fr r := by
  have hv := rhos_ok hs hl
  simp only [opRes] at hr
  split at hr
  · rename_i z hz
    obtain rfl := Option.some.inj hr
    generalize hm : l.map (rho s) = ts at hz hv
    cases ts with
    | nil => simp [maxL] at hz
    | cons x ts =>
      simp only [VRL] at hv
      obtain ⟨u, us, e1, h1, h2⟩ := hv
      simp only [maxL] at hz
      obtain ⟨q, k1, k2⟩ := minmax_run (P := P) (F := Builtin.max2) (fun x y z u v hf hx hy => by
        split at hf
        · rename_i k p k' p'
          obtain rfl := Option.some.inj hf
          simp only [VR, VI] at hx hy
          subst hx; subst hy
          exact ⟨_, by simp only [VR, VI]; rfl, by simp [Builtin.max2]⟩
        · cases hf) ts us x z u h2 h1 hz
      refine opok_quiet hi (goes_value ?_) k1
      have e2 : (xs.map a.eval).toList = u :: us := by rw [Array.toList_map]; exact e1
      unfold execOp; rw [ho]
      have e3 : (Builtin.max_ ats o.type (xs.map a.eval)).run P w = .ok q w := by unfold Builtin.max_; rw [e2]; exact k2
      simp [resolve, invoke, builtin, e3]
  · cases hr
end
end Go.Proofs.YtabfinhkoihhfaaGreat.Abs

/- Structs and arrays, compared cell by cell. -/
namespace Go.Proofs.YtabfinhkoihhfaaGreat.Abs
open Go Go.RowKit
set_option linter.unusedVariables false
set_option linter.unusedSimpArgs false

def litOf : T → Lit
  | .int k n => .int k n
  | .bool b => .bool b
  | _ => .bool false
section
variable {P : Program} {w : World} {Z : Nat → Nat → Prop} {μ : Nat → Option Loc}

theorem conf_len : ∀ {ks : List (Option IntKind)} {xs : List T}, conf ks xs = true → xs.length = ks.length
  | [], [], _ => rfl
  | [], _ :: _, h => by simp [conf] at h
  | _ :: _, [], h => by simp [conf] at h
  | k :: ks, x :: xs, h => by simp only [conf, Bool.and_eq_true] at h; simp [conf_len h.2]
theorem conf_append : ∀ {k1 k2 : List (Option IntKind)} {xs : List T}, conf (k1 ++ k2) xs = true → conf k1 (xs.take k1.length) = true ∧ conf k2 (xs.drop k1.length) = true
  | [], k2, xs, h => by simpa [conf] using h
  | k :: k1, k2, [], h => by simp [conf] at h
  | k :: k1, k2, x :: xs, h => by
    simp only [List.cons_append, conf, Bool.and_eq_true] at h
    obtain ⟨h1, h2⟩ := conf_append h.2
    exact ⟨by simp only [List.length_cons, List.take_succ_cons, conf, h.1, h1, Bool.and_self], by simpa using h2⟩
/-- The values of cells that are numbers and bools. -/
def valOf : T → Value
  | .int k n => .int k n
  | .bool b => .bool b
  | _ => Go.undef
theorem conf_val {k : Option IntKind} {x : T} (h : conf1 k x = true) {v : Value} (hv : VR w Z μ x v) : v = valOf x := by
  cases x <;> cases k <;> simp [conf1] at h <;> simp only [VR, VI] at hv <;> exact hv
theorem conf_vals : ∀ {ks : List (Option IntKind)} {xs : List T} {vs : List Value}, conf ks xs = true → VRL w Z μ xs vs → vs = xs.map valOf
  | [], [], vs, _, hv => by simp only [VRL] at hv; subst hv; rfl
  | [], _ :: _, _, h, _ => by simp [conf] at h
  | _ :: _, [], _, h, _ => by simp [conf] at h
  | k :: ks, x :: xs, vs, h, hv => by
    simp only [conf, Bool.and_eq_true] at h
    simp only [VRL] at hv
    obtain ⟨v, vs', rfl, h1, h2⟩ := hv
    rw [conf_val h.1 h1, conf_vals h.2 h2]; rfl

theorem rep_lits {d : Nat} {e : TypeId} {ks : List (Option IntKind)} (ih : ∀ xs : List T, conf ks xs = true → P.keyLits d e (xs.map valOf) = some (xs.map litOf)) (he : P.cellsOf e = ks.length) :
    ∀ (n i0 : Nat) (xs : List T), conf (List.replicate n ks).flatten xs = true → ∀ pre : List T, pre.length = i0 * ks.length →
      ((List.range' i0 n).mapM fun i => P.keyLits d e ((((pre ++ xs).map valOf).drop (i * P.cellsOf e)).take (P.cellsOf e))).map List.flatten = some (xs.map litOf)
  | 0, i0, xs, h, pre, hp => by
    cases xs with
    | nil => simp
    | cons x xs => simp [conf] at h
  | n + 1, i0, xs, h, pre, hp => by
    rw [List.replicate_succ, List.flatten_cons] at h
    obtain ⟨h1, h2⟩ := conf_append h
    have hl := conf_len h
    simp only [List.length_append] at hl
    have hr := rep_lits ih he n (i0 + 1) (xs.drop ks.length) h2 (pre ++ xs.take ks.length) (by simp [hp, Nat.add_mul]; omega)
    rw [List.append_assoc, List.take_append_drop] at hr
    rw [List.range'_succ, List.mapM_cons]
    have hfirst : (((pre ++ xs).map valOf).drop (i0 * P.cellsOf e)).take (P.cellsOf e) = (xs.take ks.length).map valOf := by
      rw [he, List.map_append, List.drop_append_of_le_length (by simp [hp]), List.drop_of_length_le (by simp [hp]), List.nil_append, List.map_take]
    rw [hfirst, ih _ h1]
    simp only [Option.bind_eq_bind, Option.bind_some, Option.pure_def]
    cases hm : ((List.range' (i0 + 1) n).mapM fun i => P.keyLits d e ((((pre ++ xs).map valOf).drop (i * P.cellsOf e)).take (P.cellsOf e))) with
    | none => rw [hm] at hr; simp at hr
    | some q =>
      rw [hm] at hr
      simp only [Option.map_some, Option.some.injEq] at hr
      simp only [Option.bind_some, Option.map_some, List.flatten_cons, hr, Option.some.injEq]
      rw [← List.map_append, List.take_append_drop]
theorem field_lits {d : Nat} (ih : ∀ (t : TypeId) (ks : List (Option IntKind)) (xs : List T), kindsOf P d t = some ks → conf ks xs = true → P.keyLits d t (xs.map valOf) = some (xs.map litOf)) :
    ∀ (fs : List Field) (o : Nat) (ks : List (Option IntKind)) (xs pre : List T), fieldsK P (kindsOf P d) fs o = some ks → conf ks xs = true → pre.length = o →
      (fs.mapM fun f => P.keyLits d f.type ((((pre ++ xs).map valOf).drop f.offset).take (P.cellsOf f.type))).map List.flatten = some (xs.map litOf)
  | [], o, ks, xs, pre, h, hc, hp => by
    simp [fieldsK] at h; subst h
    cases xs with
    | nil => simp
    | cons x xs => simp [conf] at hc
  | f :: fs, o, ks, xs, pre, h, hc, hp => by
    simp only [fieldsK] at h
    split at h
    · rename_i k1 hk
      split at h
      · rename_i ho
        split at h
        · rename_i k2 h2
          obtain rfl := Option.some.inj h
          obtain ⟨c1, c2⟩ := conf_append hc
          have hl := conf_len hc
          simp only [List.length_append] at hl
          have hr := field_lits ih fs (o + k1.length) k2 (xs.drop k1.length) (pre ++ xs.take k1.length) h2 c2 (by simp [hp]; omega)
          rw [List.append_assoc, List.take_append_drop] at hr
          rw [List.mapM_cons]
          have hfirst : (((pre ++ xs).map valOf).drop f.offset).take (P.cellsOf f.type) = (xs.take k1.length).map valOf := by
            rw [ho.1, ho.2, List.map_append, List.drop_append_of_le_length (by simp [hp]), List.drop_of_length_le (by simp [hp]), List.nil_append, List.map_take]
          rw [hfirst, ih _ _ _ hk c1]
          simp only [Option.bind_eq_bind, Option.bind_some, Option.pure_def]
          cases hm : (fs.mapM fun f => P.keyLits d f.type ((((pre ++ xs).map valOf).drop f.offset).take (P.cellsOf f.type))) with
          | none => rw [hm] at hr; simp at hr
          | some q =>
            rw [hm] at hr
            simp only [Option.map_some, Option.some.injEq] at hr
            simp only [Option.bind_some, Option.map_some, List.flatten_cons, hr, Option.some.injEq]
            rw [← List.map_append, List.take_append_drop]
        · cases h
      · cases h
    · cases h
theorem kinds_lits : ∀ (d : Nat) (t : TypeId) (ks : List (Option IntKind)) (xs : List T), kindsOf P d t = some ks → conf ks xs = true → P.keyLits d t (xs.map valOf) = some (xs.map litOf)
  | 0, _, _, _, h, _ => by simp [kindsOf] at h
  | d + 1, t, ks, xs, h, hc => by
    simp only [kindsOf] at h
    split at h
    · rename_i hu
      obtain rfl := Option.some.inj h
      match xs, hc with
      | [x], hc =>
        simp only [conf, Bool.and_true] at hc
        cases x <;> simp [conf1] at hc
        simp [Program.keyLits, hu, valOf, litOf]
      | [], hc => simp [conf] at hc
      | _ :: _ :: _, hc => simp [conf] at hc
    · rename_i k hu
      obtain rfl := Option.some.inj h
      match xs, hc with
      | [x], hc =>
        simp only [conf, Bool.and_true] at hc
        cases x <;> simp only [conf1, Bool.false_eq_true] at hc
        rename_i k' n
        simp only [Bool.and_eq_true, beq_iff_eq] at hc
        obtain ⟨rfl, h2⟩ := hc
        have hwf : (Lit.int k' n).wf = true := by simp only [Lit.wf, Bool.and_eq_true]; exact h2
        simp [Program.keyLits, hu, valOf, litOf, hwf]
      | [], hc => simp [conf] at hc
      | _ :: _ :: _, hc => simp [conf] at hc
    · rename_i n e hu
      split at h
      · rename_i k1 hk
        split at h
        · rename_i hl
          obtain rfl := Option.some.inj h
          have hlen := conf_len hc
          simp at hlen
          have := rep_lits (P := P) (fun xs hx => kinds_lits d e k1 xs hk hx) hl.2 n 0 xs hc [] (by simp)
          simp only [List.nil_append, ← List.range_eq_range'] at this
          simp only [Program.keyLits, hu]
          rw [if_pos (by simp [hlen, hl.1])]
          exact this
        · cases h
      · cases h
    · rename_i fs hu
      split at h
      · rename_i hn
        split at h
        · rename_i k1 hk
          split at h
          · rename_i hl
            obtain rfl := Option.some.inj h
            have hlen := conf_len hc
            have := field_lits (P := P) (d := d) (fun t ks xs h1 h2 => kinds_lits d t ks xs h1 h2) fs.toList 0 k1 xs [] hk hc rfl
            simp only [List.nil_append] at this
            simp only [Program.keyLits, hu]
            rw [if_pos ⟨by simp [hlen, hl], hn⟩]
            exact this
          · cases h
        · cases h
      · cases h
    · cases h
theorem eq1_lit {k : Option IntKind} {x y : T} (h : conf1 k x = true) (h' : conf1 k y = true) : eq1 x y = true ↔ litOf x = litOf y := by
  cases x <;> cases k <;> simp only [conf1, Bool.false_eq_true] at h <;> cases y <;> simp only [conf1, Bool.false_eq_true] at h'
  · simp only [Bool.and_eq_true, beq_iff_eq] at h h'
    obtain ⟨rfl, _⟩ := h
    obtain ⟨rfl, _⟩ := h'
    simp [eq1, litOf]
  · simp [eq1, litOf]
theorem eqL_lit : ∀ {ks : List (Option IntKind)} {xs ys : List T}, conf ks xs = true → conf ks ys = true → (eqL xs ys = true ↔ xs.map litOf = ys.map litOf)
  | [], [], [], _, _ => by simp [eqL]
  | [], _ :: _, _, h, _ => by simp [conf] at h
  | [], [], _ :: _, _, h => by simp [conf] at h
  | _ :: _, [], _, h, _ => by simp [conf] at h
  | _ :: _, _ :: _, [], _, h => by simp [conf] at h
  | k :: ks, x :: xs, y :: ys, h, h' => by
    simp only [conf, Bool.and_eq_true] at h h'
    simp only [eqL, Bool.and_eq_true, List.map_cons, List.cons.injEq, eq1_lit h.1 h'.1, eqL_lit h.2 h'.2]

theorem aeq_ok {o : Oper} {a : Act} {B : Nat} {W0 : World} {Z0 : Nat → Nat → Prop} {g : Mem} {fr : Nat} {r : Res} {s : List T} (hi : Inv B W0 Z0 g w Z μ) (hs : VRL w Z μ s a.tmps.toList) {op : BinOp} {t u : TypeId} {x y : Operand} {x' y' : Opd} {neg : Bool} {ks : List (Option IntKind)} (ho : o.op = .binOp op t x y u) (hop : op = if neg then .neq else .eql)
    (hk : eqKinds P t = some ks) (hx : opd x = some x') (hy : opd y = some y') (hr : opRes (.aeq neg ks x' y') fr s g = some r) : OpOk P o a B W0 Z0 g w Z μ fr r := by
  simp only [opRes] at hr
  split at hr
  · rename_i c1 c2 e1 e2
    split at hr
    · rename_i hc
      simp only [Bool.and_eq_true] at hc
      obtain rfl := Option.some.inj hr
      have hv1 := rho_ok hs hx
      have hv2 := rho_ok hs hy
      rw [e1] at hv1; rw [e2] at hv2
      simp only [VR] at hv1 hv2
      obtain ⟨xs, j1, l1⟩ := hv1
      obtain ⟨ys, j2, l2⟩ := hv2
      have q1 := conf_vals hc.1 l1
      have q2 := conf_vals hc.2 l2
      have hkt : P.keyTypeAt 9 t = true ∧ P.eqGuardType P.depth t = false ∧ kindsOf P 9 t = some ks ∧ ∃ d, P.underlying t = some d ∧ (match d with | .struct _ | .array _ _ => True | _ => False) := by
        unfold eqKinds at hk
        split at hk
        · rename_i fs hu
          split at hk
          · rename_i hg; simp at hg; exact ⟨hg.1, hg.2, hk, _, hu, trivial⟩
          · cases hk
        · rename_i n e hu
          split at hk
          · rename_i hg; simp at hg; exact ⟨hg.1, hg.2, hk, _, hu, trivial⟩
          · cases hk
        · cases hk
      obtain ⟨k1, k2, k3, d, k4, k5⟩ := hkt
      have len := conf_len hc.1
      have len2 := conf_len hc.2
      have m1 := kinds_lits (P := P) 9 t ks c1 k3 hc.1
      have m2 := kinds_lits (P := P) 9 t ks c2 k3 hc.2
      have hsz : P.cellsOf t = ks.length := by
        have k3' : kindsOf P (8 + 1) t = some ks := k3
        generalize (8 : Nat) = dd at k3'
        simp only [kindsOf, k4] at k3'
        cases d <;> simp only at k5
        case array n e =>
          simp only at k3'
          split at k3'
          · split at k3'
            · rename_i h; obtain rfl := Option.some.inj k3'; simp [h.1]
            · cases k3'
          · cases k3'
        case struct fs =>
          simp only at k3'
          split at k3'
          · split at k3'
            · split at k3'
              · rename_i h; obtain rfl := Option.some.inj k3'; exact h
              · cases k3'
            · cases k3'
          · cases k3'
      have hf : ∀ zs : Array Value, zs.size = ks.length → (Value.agg zs).formed P t = true := fun zs hz => by
        cases d <;> simp only at k5 <;> simp [Value.formed, k4, hz, hsz]
      have hxs : xs.size = ks.length := by have := l1.len; simp at this; omega
      have hys : ys.size = ks.length := by have := l2.len; simp at this; omega
      obtain ⟨b, hb, hiff⟩ := run_equalIn_deep (P := P) 9991 9 t k1 w 9 9 (.agg xs) (.agg ys) _ _ (hf xs hxs) (hf ys hys) (by show P.keyLits 9 t xs.toList = _; rw [q1]; exact m1) (by show P.keyLits 9 t ys.toList = _; rw [q2]; exact m2)
      have hbe : b = eqL c1 c2 := by
        have := eqL_lit hc.1 hc.2
        rw [Bool.eq_iff_iff, hiff, this]
      subst hbe
      have hb' : (Op.equalIn 10000 t (.agg xs) (.agg ys)).run P w = .ok (eqL c1 c2) w := hb
      refine opok_quiet hi (v := .bool (if neg then !eqL c1 c2 else eqL c1 c2)) (goes_value ?_) (by simp only [VR, VI])
      have hgd := run_eqGuard_agg (P := P) w op t x y xs ys k2
      unfold execOp; rw [ho]
      simp only [j1, j2]
      cases neg <;> simp only [Bool.false_eq_true, if_false, if_true] at hop <;> subst hop
      · have h4 : (do eqGuard .eql t x y (.agg xs) (.agg ys); binOp .eql t (.agg xs) (.agg ys) : Sem Value).run P w = .ok (.bool (eqL c1 c2)) w := by
          rw [Sem.run_bind, hgd, Result.andThen_ok, run_eql_struct, hb']; rfl
        rw [Sem.run_bind, h4]; rfl
      · have h4 : (do eqGuard .neq t x y (.agg xs) (.agg ys); binOp .neq t (.agg xs) (.agg ys) : Sem Value).run P w = .ok (.bool (!eqL c1 c2)) w := by
          rw [Sem.run_bind, hgd, Result.andThen_ok, run_neq_struct, hb']; rfl
        rw [Sem.run_bind, h4]; rfl
    · cases hr
  · cases hr
end
end Go.Proofs.YtabfinhkoihhfaaGreat.Abs

/- Every operation that calls nothing. -/
namespace Go.Proofs.YtabfinhkoihhfaaGreat.Abs
open Go Go.RowKit
set_option linter.unusedVariables false
set_option linter.unusedSimpArgs false
section
variable {P : Program} {o : Oper} {a : Act} {B : Nat} {W0 w : World} {Z0 Z : Nat → Nat → Prop} {g : Mem} {μ : Nat → Option Loc} {fr : Nat} {r : Res} {s : List T}

theorem call_ok (hi : Inv B W0 Z0 g w Z μ) (hn : μ fr = none) (hs : VRL w Z μ s a.tmps.toList) {c : Call} {op : AOp} (ho : o.op = .call c) (hc : compOp P (.call c) = some op) (hr : opRes op fr s g = some r) : OpOk P o a B W0 Z0 g w Z μ fr r := by
  obtain ⟨cal, args, ats⟩ := c
  unfold compOp at hc
  split at hc
  all_goals (rename_i heq; try (cases heq))
  · -- a function
    split at hc
    · obtain rfl := Option.some.inj hc; simp [opRes] at hr
    · cases hc
  · split at hc
    · obtain rfl := Option.some.inj hc; simp [opRes] at hr
    · cases hc
  · split at hc
    · rename_i t x hat hxs
      split at hc
      · rename_i e y ht hx
        obtain rfl := Option.some.inj hc
        exact len_ok hi hs ho hat hxs ht hx hr
      · rename_i n e y ht hx
        obtain rfl := Option.some.inj hc
        simp only [opRes, rho, pureR] at hr
        obtain rfl := Option.some.inj hr
        exact lenarr_ok hi hs ho hat hxs ht
      · cases hc
    · cases hc
  · split at hc
    · rename_i t u s' x hat hxs
      split at hc
      · rename_i e ex ht hu
        split at hc
        · rename_i z i sl x' hz he hsl hx
          obtain rfl := Option.some.inj hc
          exact append_ok hi hn hs ho hat hxs ht hu hz he hsl hx hr
        · cases hc
      · cases hc
    · cases hc
  · split at hc
    · rename_i t u s' x hat hxs
      split at hc
      · rename_i e ht
        split at hc
        · rename_i n d' x' h1 hd hx
          obtain rfl := Option.some.inj hc
          exact copy_ok hi hs ho hat hxs ht h1 hd hx hr
        · cases hc
      · cases hc
    · cases hc
  · split at hc
    · rename_i l hl
      obtain rfl := Option.some.inj hc
      exact mn_ok hi hs ho hl hr
    · cases hc
  · split at hc
    · rename_i l hl
      obtain rfl := Option.some.inj hc
      exact mx_ok hi hs ho hl hr
    · cases hc
  · cases hc

theorem opRes_sound (hi : Inv B W0 Z0 g w Z μ) (hn : μ fr = none) (hs : VRL w Z μ s a.tmps.toList) {op : AOp} (hc : compOp P o.op = some op) (hr : opRes op fr s g = some r) : OpOk P o a B W0 Z0 g w Z μ fr r := by
  generalize ho : o.op = q at hc
  cases q with
  | call c => exact call_ok hi hn hs ho hc hr
  | build t ps => exact build_ok hi hs ho hc hr
  | buildSlice t n ps => exact bsl_ok hi hn hs ho hc hr
  | makeSlice t l c => exact mksl_ok hi hn hs ho hc hr
  | move x =>
    simp only [compOp] at hc
    split at hc
    · rename_i y hy; obtain rfl := Option.some.inj hc; simp only [opRes, pureR] at hr; obtain rfl := Option.some.inj hr; exact asg_ok hi hs (.inl ho) hy
    · cases hc
  | assign x =>
    simp only [compOp] at hc
    split at hc
    · rename_i y hy; obtain rfl := Option.some.inj hc; simp only [opRes, pureR] at hr; obtain rfl := Option.some.inj hr; exact asg_ok hi hs (.inr ho) hy
    · cases hc
  | pick c x y =>
    simp only [compOp] at hc
    split at hc
    · rename_i c' x' y' h1 h2 h3; obtain rfl := Option.some.inj hc; exact pick_ok hi hs ho h1 h2 h3 hr
    · cases hc
  | alloc e =>
    simp only [compOp] at hc
    split at hc
    · rename_i z hz; obtain rfl := Option.some.inj hc; exact alloc_ok hi hn ho hz hr
    · cases hc
  | box e x =>
    simp only [compOp] at hc
    split at hc
    · rename_i y hy; obtain rfl := Option.some.inj hc; exact box_ok hi hn hs ho hy hr
    · cases hc
  | load t x =>
    simp only [compOp] at hc
    split at hc
    · rename_i one n y h1 hy; obtain rfl := Option.some.inj hc; exact load_ok hi hs ho h1 hy hr
    · cases hc
  | store t x y =>
    simp only [compOp] at hc
    split at hc
    · rename_i n x' y' h1 hx hy; obtain rfl := Option.some.inj hc; exact store_ok hi hs ho h1 hx hy hr
    · cases hc
  | nilCheck x =>
    simp only [compOp] at hc
    split at hc
    · rename_i y hy; obtain rfl := Option.some.inj hc; exact nilchk_ok hi hs ho hy hr
    · cases hc
  | binOp op t x y u =>
    simp only [compOp] at hc
    split at hc
    · rename_i x' y' hx hy
      split at hc
      · obtain rfl := Option.some.inj hc; exact bin_ok hi hs ho hx hy hr
      · rename_i ht
        split at hc
        · obtain rfl := Option.some.inj hc; exact beq_ok hi hs ho rfl ht hx hy hr
        · obtain rfl := Option.some.inj hc; exact beq_ok hi hs ho rfl ht hx hy hr
        · cases hc
      · split at hc
        · rename_i ks hks
          split at hc
          · obtain rfl := Option.some.inj hc; exact aeq_ok hi hs ho rfl hks hx hy hr
          · obtain rfl := Option.some.inj hc; exact aeq_ok hi hs ho rfl hks hx hy hr
          · cases hc
        · cases hc
    · cases hc
  | unOp op t x =>
    simp only [compOp] at hc
    split at hc
    · rename_i y hy; obtain rfl := Option.some.inj hc; exact un_ok hi hs ho hy hr
    · cases hc
  | convert t u x =>
    simp only [compOp] at hc
    split at hc
    · rename_i d k y ht hu hy; obtain rfl := Option.some.inj hc; exact conv_ok hi hs ho ht hu hy hr
    · cases hc
  | makeFunc f fs cs =>
    cases f <;> simp only [compOp] at hc
    case func f =>
      split at hc
      · rename_i fs' cs' h1 h2; obtain rfl := Option.some.inj hc; simp only [opRes, pureR] at hr; obtain rfl := Option.some.inj hr; exact mkfn_ok hi hs ho h1 h2
      · cases hc
    all_goals cases hc
  | slice t x lo hh mx =>
    simp only [compOp] at hc
    split at hc
    · rename_i n e ht
      split at hc
      · rename_i es x' lo' hh' mx' h1 h2 h3 h4 h5
        split at hc
        · rename_i h6; obtain rfl := Option.some.inj hc; exact slarr_ok hi hs ho ht h1 h2 h3 h4 h5 h6 hr
        · cases hc
      · cases hc
    · rename_i e ht
      split at hc
      · rename_i es x' lo' hh' mx' h1 h2 h3 h4 h5
        split at hc
        · rename_i h6; obtain rfl := Option.some.inj hc; exact slsl_ok hi hs ho ht h1 h2 h3 h4 h5 h6 hr
        · cases hc
      · cases hc
    · cases hc
  | fieldAddr t x f =>
    simp only [compOp] at hc
    split at hc
    · rename_i fs ht
      split at hc
      · rename_i fd hf
        split at hc
        · rename_i n x' h1 hx; obtain rfl := Option.some.inj hc; exact faddr_ok hi hs ho ht hf h1 hx hr
        · cases hc
      · cases hc
    · cases hc
  | field t x f =>
    simp only [compOp] at hc
    split at hc
    · rename_i fs ht
      split at hc
      · rename_i fd hf
        split at hc
        · rename_i one n x' h1 hx; obtain rfl := Option.some.inj hc; exact field_ok hi hs ho ht hf h1 hx hr
        · cases hc
      · cases hc
    · cases hc
  | indexAddr t x i =>
    simp only [compOp] at hc
    split at hc
    · rename_i n e ht
      split at hc
      · rename_i es x' i' h1 hx hi'; obtain rfl := Option.some.inj hc; exact iarr_ok hi hs ho ht h1 hx hi' hr
      · cases hc
    · rename_i e ht
      split at hc
      · rename_i es x' i' h1 hx hi'; obtain rfl := Option.some.inj hc; exact isl_ok hi hs ho ht h1 hx hi' hr
      · cases hc
    · cases hc
  | index t x i =>
    simp only [compOp] at hc
    split at hc
    · rename_i n e ht
      split at hc
      · rename_i one es x' i' h1 hx hi'; obtain rfl := Option.some.inj hc; exact index_ok hi hs ho ht h1 hx hi' hr
      · cases hc
    · cases hc
  | extract x i =>
    simp only [compOp] at hc
    split at hc
    · rename_i y hy; obtain rfl := Option.some.inj hc; exact extract_ok hi hs ho hy hr
    · cases hc
  | _ => simp [compOp] at hc
end
end Go.Proofs.YtabfinhkoihhfaaGreat.Abs

/- Operations that do not touch one another may change places. -/
namespace Go.Proofs.YtabfinhkoihhfaaGreat.Abs
open Go Go.RowKit
set_option linter.unusedVariables false
set_option linter.unusedSimpArgs false

def Opd.tmps : Opd → List Nat
  | .tmp t => [t]
  | .con _ => []
def Opd.tmpsL (l : List Opd) : List Nat := l.flatMap Opd.tmps
def Opd.tmpsO : Option Opd → List Nat
  | some x => x.tmps
  | none => []
def AOp.tmps : AOp → List Nat
  | .mv x | .box x | .nilchk x | .un _ x | .conv _ x | .faddr x _ | .field _ _ _ x | .extract x _ | .len x | .load _ _ x => x.tmps
  | .pick c a b => c.tmps ++ (a.tmps ++ b.tmps)
  | .alloc _ => []
  | .build _ ps => Opd.tmpsL (ps.map (·.2.2))
  | .bsl _ _ _ ps => Opd.tmpsL (ps.map (·.2.2))
  | .store _ a x | .bin _ a x | .beq _ a x | .aeq _ _ a x | .mksl _ _ _ a x | .iarr _ _ a x | .isl _ a x | .index _ _ _ a x | .append _ _ a x | .copy _ a x => a.tmps ++ x.tmps
  | .mkfn _ fs cs => Opd.tmpsL fs ++ Opd.tmpsL cs
  | .slArr _ _ x a b c | .slSl _ x a b c => x.tmps ++ (Opd.tmpsO a ++ (Opd.tmpsO b ++ Opd.tmpsO c))
  | .mn l | .mx l => Opd.tmpsL l
  | .call _ l => Opd.tmpsL l
  | .callv x l => x.tmps ++ Opd.tmpsL l

/-- The slots t have the same values. -/
def SameAt (s s' : List T) (l : List Nat) : Prop := ∀ t ∈ l, s'.getD t .undef = s.getD t .undef
theorem SameAt.left {s s' : List T} {l l' : List Nat} (h : SameAt s s' (l ++ l')) : SameAt s s' l := fun t ht => h t (List.mem_append_left _ ht)
theorem SameAt.right {s s' : List T} {l l' : List Nat} (h : SameAt s s' (l ++ l')) : SameAt s s' l' := fun t ht => h t (List.mem_append_right _ ht)
theorem rho_same {s s' : List T} {x : Opd} (h : SameAt s s' x.tmps) : rho s' x = rho s x := by
  cases x with
  | tmp t => exact h t (by simp [Opd.tmps])
  | con v => rfl
theorem rho_sameL {s s' : List T} : ∀ {l : List Opd}, SameAt s s' (Opd.tmpsL l) → l.map (rho s') = l.map (rho s)
  | [], _ => rfl
  | x :: l, h => by
    simp only [Opd.tmpsL, List.flatMap_cons] at h
    rw [List.map_cons, List.map_cons, rho_same h.left, rho_sameL (l := l) h.right]
theorem rho_sameO {s s' : List T} {x : Option Opd} (h : SameAt s s' (Opd.tmpsO x)) : x.map (rho s') = x.map (rho s) := by
  cases x with
  | none => rfl
  | some x => simp only [Option.map_some]; rw [rho_same h]
theorem rho_sameP {s s' : List T} : ∀ {l : List (Nat × Nat × Opd)}, SameAt s s' (Opd.tmpsL (l.map (·.2.2))) → l.map (fun p => (p.1, p.2.1, rho s' p.2.2)) = l.map (fun p => (p.1, p.2.1, rho s p.2.2))
  | [], _ => rfl
  | x :: l, h => by
    simp only [Opd.tmpsL, List.map_cons, List.flatMap_cons] at h
    rw [List.map_cons, List.map_cons, rho_same h.left, rho_sameP (l := l) h.right]

theorem opRes_slots {op : AOp} {fr : Nat} {s s' : List T} {g : Mem} (h : SameAt s s' op.tmps) : opRes op fr s' g = opRes op fr s g := by
  cases op <;> simp only [AOp.tmps] at h <;> simp only [opRes]
  case pick => rw [rho_same h.left, rho_same h.right.left, rho_same h.right.right]
  case build => rw [rho_sameP h]
  case bsl => rw [rho_sameP h]
  case mkfn => rw [rho_sameL h.left, rho_sameL h.right]
  case slArr => rw [rho_same h.left, rho_sameO h.right.left, rho_sameO h.right.right.left, rho_sameO h.right.right.right]
  case slSl => rw [rho_same h.left, rho_sameO h.right.left, rho_sameO h.right.right.left, rho_sameO h.right.right.right]
  case mn => rw [rho_sameL h]
  case mx => rw [rho_sameL h]
  all_goals first
    | rfl
    | rw [rho_same h]
    | rw [rho_same h.left, rho_same h.right]
theorem callee_slots {op : AOp} {s s' : List T} (h : SameAt s s' op.tmps) : callee s' op = callee s op := by
  cases op <;> simp only [AOp.tmps] at h <;> simp only [callee]
  case call => rw [rho_sameL h]
  case callv => rw [rho_same h.left, rho_sameL h.right]

/-- What is read of memory decides. -/
theorem cellsOf_mem {g g' : Mem} {es : Nat} {y : T} {n : Nat} {c : List T} {rd : List Nat} (h : cellsOf g es y = some (n, c, rd)) (hg : ∀ t ∈ rd, g' t = g t) : cellsOf g' es y = some (n, c, rd) := by
  unfold cellsOf at h ⊢
  split at h
  · exact h
  · rename_i t off len es'
    split at h
    · rename_i he
      simp only [if_pos he]
      cases hc : g t with
      | none => rw [hc] at h; simp at h
      | some c' =>
        rw [hc] at h
        simp only at h
        split at h
        · rename_i hle
          simp at h
          obtain ⟨rfl, rfl, rfl⟩ := h
          rw [hg t (by simp), hc]
          simp [hle]
        · cases h
    · cases h
  · cases h

theorem opRes_mem {op : AOp} {fr : Nat} {s : List T} {g g' : Mem} {r : Res} (h : opRes op fr s g = some r) (hg : ∀ t ∈ r.rd, g' t = g t) : opRes op fr s g' = some r := by
  cases op <;> try exact h
  case load one n x =>
    simp only [opRes] at h ⊢
    split at h
    · rename_i t off e
      cases hc : g t with
      | none => rw [hc] at h; simp at h
      | some c =>
        rw [hc] at h
        have : t ∈ r.rd := by
          simp only at h
          split at h
          · split at h
            · split at h
              · obtain rfl := Option.some.inj h; simp
              · cases h
            · obtain rfl := Option.some.inj h; simp
          · cases h
        rw [hg t this, hc]; exact h
    · exact h
    · cases h
  case store n x y =>
    simp only [opRes] at h ⊢
    split at h
    · rename_i t off e
      cases hc : g t with
      | none => rw [hc] at h; simp at h
      | some c =>
        rw [hc] at h
        have : t ∈ r.rd := by
          simp only at h
          split at h
          · obtain rfl := Option.some.inj h; simp
          · cases h
        rw [hg t this, hc]; exact h
    · cases h
  case slArr n es x lo hi mx =>
    simp only [opRes] at h ⊢
    split at h
    · split at h
      · rename_i hc
        simp only [if_pos hc]
        split at h
        · rename_i t off e
          cases hc : g t with
          | none => rw [hc] at h; simp at h
          | some c =>
            rw [hc] at h
            have : t ∈ r.rd := by
              simp only at h
              split at h
              · obtain rfl := Option.some.inj h; simp
              · cases h
            rw [hg t this, hc]; exact h
        · exact h
        · cases h
      · cases h
    · cases h
  case append es bytes sl x =>
    simp only [opRes] at h ⊢
    split at h
    · rename_i n new rd hc
      have hrd : ∀ t ∈ rd, t ∈ r.rd := by
        split at h
        · split at h
          · split at h
            · obtain rfl := Option.some.inj h; exact fun t ht => ht
            · obtain rfl := Option.some.inj h; exact fun t ht => ht
            · cases h
          · cases h
        · split at h
          · split at h
            · split at h
              · obtain rfl := Option.some.inj h; exact fun t ht => ht
              · cases h
            · split at h
              · split at h
                · split at h
                  · obtain rfl := Option.some.inj h; exact fun t ht => List.mem_cons_of_mem _ ht
                  · cases h
                · cases h
              · cases h
            · cases h
          · cases h
      rw [cellsOf_mem hc fun t ht => hg t (hrd t ht)]
      simp only
      split at h
      · rename_i h0
        simp only [if_pos h0]
        exact h
      · rename_i h0
        simp only [if_neg h0]
        split at h
        · rename_i h1
          simp only [if_pos h1]
          split at h
          · exact h
          · rename_i t off len es' e
            split at h
            · rename_i h2
              simp only [if_pos h2]
              cases hc2 : g t with
              | none => rw [hc2] at h; simp at h
              | some c =>
                rw [hc2] at h
                have : t ∈ r.rd := by
                  simp only at h
                  split at h
                  · obtain rfl := Option.some.inj h; simp
                  · cases h
                rw [hg t this, hc2]; exact h
            · cases h
          · cases h
        · cases h
    · cases h
  case copy es d x =>
    simp only [opRes] at h ⊢
    split at h
    · rename_i n new rd t off len es' hc e
      cases hc2 : g t with
      | none => rw [hc2] at h; simp at h
      | some c =>
        rw [hc2] at h
        simp only at h
        split at h
        · rename_i hb
          obtain rfl := Option.some.inj h
          rw [cellsOf_mem hc fun t ht => hg t (by simp [ht]), e]
          have h2 : g' t = some c := by rw [hg t (by simp), hc2]
          simp [h2, hb]
        · cases h
    · cases h

theorem frzAll_mem {f f' : T → Option (T × List Nat)} {g g' : Mem} (hf : ∀ x y us, f x = some (y, us) → (∀ t ∈ us, g' t = g t) → f' x = some (y, us)) : ∀ (l l' : List T) (ts : List Nat), frzAll f l = some (l', ts) → (∀ t ∈ ts, g' t = g t) → frzAll f' l = some (l', ts)
  | [], l', ts, h, _ => h
  | x :: l, l', ts, h, hg => by
    simp only [frzAll] at h ⊢
    split at h
    · rename_i y us l1 ts1 h1 h2
      simp at h
      obtain ⟨rfl, rfl⟩ := h
      rw [hf x y us h1 fun t ht => hg t (List.mem_append_left _ ht), frzAll_mem hf l l1 ts1 h2 fun t ht => hg t (List.mem_append_right _ ht)]
    · cases h
theorem frz_mem {g g' : Mem} {nx nx' : Nat} : ∀ (d : Nat) (v : T) (v' : T) (ids : List Nat), frz ⟨g, nx⟩ d v = some (v', ids) → (∀ t ∈ ids, g' t = g t) → frz ⟨g', nx'⟩ d v = some (v', ids)
  | 0, v, v', ids, h, _ => by simp [frz] at h
  | d + 1, v, v', ids, h, hg => by
    have hL := frzAll_mem (g := g) (g' := g') (f := frz ⟨g, nx⟩ d) (f' := frz ⟨g', nx'⟩ d) (fun x y us h1 h2 => frz_mem d x y us h1 h2)
    cases v <;> simp only [frz] at h ⊢ <;> try exact h
    case own t off len es =>
      cases hc : g t with
      | none => rw [hc] at h; simp at h
      | some c =>
        rw [hc] at h
        simp only at h
        split at h
        · rename_i hl
          split at h
          · rename_i l ts h1
            simp at h
            obtain ⟨rfl, rfl⟩ := h
            rw [hg t (by simp), hc]
            simp only [hl, if_true]
            rw [hL _ _ _ h1 fun t ht => hg t (by simp [ht])]
          · cases h
        · cases h
    case agg l =>
      split at h
      · rename_i l1 ts h1
        simp at h; obtain ⟨rfl, rfl⟩ := h
        rw [hL _ _ _ h1 hg]
      · cases h
    case tup l =>
      split at h
      · rename_i l1 ts h1
        simp at h; obtain ⟨rfl, rfl⟩ := h
        rw [hL _ _ _ h1 hg]
      · cases h
    case fn f a b =>
      split at h
      · rename_i l1 ts l2 us h1 h2
        simp at h; obtain ⟨rfl, rfl⟩ := h
        rw [hL _ _ _ h1 fun t ht => hg t (by simp [ht]), hL _ _ _ h2 fun t ht => hg t (by simp [ht])]
      · cases h
theorem frzL_mem {g g' : Mem} {nx nx' : Nat} {d : Nat} (l : List T) (l' : List T) (ts : List Nat) (h : frzL ⟨g, nx⟩ d l = some (l', ts)) (hg : ∀ t ∈ ts, g' t = g t) : frzL ⟨g', nx'⟩ d l = some (l', ts) :=
  frzAll_mem (g := g) (g' := g') (fun x y us h1 h2 => frz_mem d x y us h1 h2) l l' ts h hg
theorem callPure_mem {ih : Run} {F : AFun} {args : List T} {g g' : Mem} {r : Res} (h : callPure ih F args g = some r) (hg : ∀ t ∈ r.rd, g' t = g t) : callPure ih F args g' = some r := by
  unfold callPure at h ⊢
  split at h
  · rename_i args' ids h1
    have : r.rd = ids := by
      split at h
      · obtain rfl := Option.some.inj h; rfl
      · cases h
    rw [frzL_mem _ _ _ h1 fun t ht => hg t (by rw [this]; exact ht)]
    exact h
  · cases h
end Go.Proofs.YtabfinhkoihhfaaGreat.Abs

/- One operation, in the plain machine, and in the model; two that may change places. -/
namespace Go.Proofs.YtabfinhkoihhfaaGreat.Abs
open Go Go.RowKit
set_option linter.unusedVariables false
set_option linter.unusedSimpArgs false

def AOper.looks (o : AOper) : List Nat := o.op.tmps ++ (match o.guard with | some (t, _) => [t] | none => [])
def AOper.apart (x y : AOper) : Bool :=
  (match x.dst with | some d => !y.looks.contains d && y.dst != some d | none => true) && (match y.dst with | some d => !x.looks.contains d | none => true)
def Ind : Fp → Fp → Prop
  | some (r1, w1), some (r2, w2) => (∀ t ∈ w1, t ∉ r2) ∧ (∀ t ∈ w1, t ∉ w2) ∧ (∀ t ∈ w2, t ∉ r1)
  | some (r, w), none => r = [] ∧ w = []
  | none, some (r, w) => r = [] ∧ w = []
  | none, none => False

theorem apart_spec {x y : AOper} (h : x.apart y = true) : (∀ d, x.dst = some d → d ∉ y.looks) ∧ (∀ d, x.dst = some d → y.dst ≠ some d) ∧ (∀ d, y.dst = some d → d ∉ x.looks) := by
  refine ⟨fun d hd => ?_, fun d hd => ?_, fun d hd => ?_⟩ <;> simp [AOper.apart, hd] at h
  · exact h.1.1
  · exact h.1.2
  · exact h.2
theorem same_set {s : List T} {d : Option Nat} {v : T} {l : List Nat} (h : ∀ t, d = some t → t ∉ l) : SameAt s (setDst s d v) l := by
  intro t ht
  cases d with
  | none => rfl
  | some d =>
    have : d ≠ t := fun e => h d rfl (e ▸ ht)
    simp [setDst, List.getD_eq_getElem?_getD, List.getElem?_set_ne this]
theorem SameAt.symm {s s' : List T} {l : List Nat} (h : SameAt s s' l) : SameAt s' s l := fun t ht => (h t ht).symm
theorem guard_same {s s' : List T} {o : AOper} (h : SameAt s s' o.looks) : guardT s' o.guard = guardT s o.guard := by
  unfold AOper.looks at h
  cases hg : o.guard with
  | none => rfl
  | some p =>
    obtain ⟨t, b⟩ := p
    rw [hg] at h
    have := h.right t (by simp)
    simp only [guardT, rho]
    rw [this]
theorem evR_same {AP : AProg} {ih : Run} {fr : Nat} {op : AOp} {s s' : List T} {g : Mem} (h : SameAt s s' op.tmps) : evR AP ih fr op s' g = evR AP ih fr op s g := by
  unfold evR; rw [callee_slots h, opRes_slots h]
theorem evI_same {AP : AProg} {ih : Run} {op : AOp} {s s' : List T} {g : Mem} {nx : Nat} (h : SameAt s s' op.tmps) : evI AP ih op s' g nx = evI AP ih op s g nx := by
  unfold evI; rw [callee_slots h]
theorem evG_same {AP : AProg} {ih : Run} {fr : Nat} {o : AOper} {s s' : List T} {g : Mem} (h : SameAt s s' o.looks) : evG AP ih fr o s' g = evG AP ih fr o s g := by
  unfold evG; rw [guard_same h, evR_same (show SameAt s s' o.op.tmps from h.left)]
theorem evR_mem {AP : AProg} {ih : Run} {fr : Nat} {op : AOp} {s : List T} {g g' : Mem} {r : Res} (h : evR AP ih fr op s g = some r) (hg : ∀ t ∈ r.rd, g' t = g t) : evR AP ih fr op s g' = some r := by
  unfold evR at h ⊢
  split at h
  · split at h
    · split at h
      · unfold cloneRes at h ⊢
        split at h
        · split at h
          · rename_i n c rd hc
            have : r.rd = rd := by
              split at h
              · split at h <;> (obtain rfl := Option.some.inj h; rfl)
              · cases h
            rw [cellsOf_mem hc fun t ht => hg t (by rw [this]; exact ht)]
            exact h
          · cases h
        · cases h
      · split at h
        · rename_i hp; simp only [hp, if_true]; exact callPure_mem h hg
        · cases h
    · cases h
  · exact opRes_mem h hg
theorem evG_mem {AP : AProg} {ih : Run} {fr : Nat} {o : AOper} {s : List T} {g g' : Mem} {r : Res} (h : evG AP ih fr o s g = some r) (hg : ∀ t ∈ r.rd, g' t = g t) : evG AP ih fr o s g' = some r := by
  unfold evG at h ⊢
  split at h
  · exact evR_mem h hg
  · exact h
  · cases h
theorem putAll_get (t : Nat) : ∀ (es : List (Nat × Option (List T))) (g : Mem), (∀ e ∈ es, e.1 ≠ t) → putAll g es t = g t
  | [], _, _ => rfl
  | e :: es, g, h => by
    show putAll (put1 g e) es t = g t
    rw [putAll_get t es _ fun e' he => h e' (by simp [he])]
    have := h e (by simp)
    simp only [put1]
    rw [if_neg (fun h => this h.symm)]
theorem putAll_hit (t : Nat) : ∀ (es : List (Nat × Option (List T))) (g g' : Mem), g t = g' t → putAll g es t = putAll g' es t
  | [], _, _, h => h
  | e :: es, g, g', h => by
    show putAll (put1 g e) es t = putAll (put1 g' e) es t
    refine putAll_hit t es _ _ ?_
    simp only [put1]; split
    · rfl
    · exact h
theorem putAll_comm {a b : List (Nat × Option (List T))} (h : ∀ t ∈ a.map (·.1), t ∉ b.map (·.1)) (g : Mem) : putAll (putAll g a) b = putAll (putAll g b) a := by
  funext t
  by_cases hb : t ∈ b.map (·.1)
  · have ha : ∀ e ∈ a, e.1 ≠ t := fun e he e1 => h t (e1 ▸ List.mem_map_of_mem he) hb
    rw [putAll_get t a _ ha]
    exact putAll_hit t b _ _ (putAll_get t a _ ha)
  · have hb' : ∀ e ∈ b, e.1 ≠ t := fun e he e1 => hb (e1 ▸ List.mem_map_of_mem he)
    rw [putAll_get t b _ hb']
    exact (putAll_hit t a _ _ (putAll_get t b _ hb')).symm
theorem setDst_comm {s : List T} {d e : Option Nat} {u v : T} (h : ∀ t, d = some t → e ≠ some t) : setDst (setDst s d u) e v = setDst (setDst s e v) d u := by
  cases d with
  | none => rfl
  | some d =>
    cases e with
    | none => rfl
    | some e =>
      have : d ≠ e := fun e' => h d rfl (e' ▸ rfl)
      simp [setDst, List.set_comm _ _ this]
theorem rd_free {r : Res} {ed : List (Nat × Option (List T))} {g : Mem} (h : ∀ t ∈ ed.map (·.1), t ∉ r.rd) : ∀ t ∈ r.rd, putAll g ed t = g t := fun t ht =>
  putAll_get t ed g fun e he e1 => h t (e1 ▸ List.mem_map_of_mem he) ht
theorem nil_ed {r : Res} (h : r.ed.map (·.1) = []) : r.ed = [] := by
  cases he : r.ed with
  | nil => rfl
  | cons a l => rw [he] at h; simp at h

theorem evOp_swap {AP : AProg} {ih : Run} {fj fi : Nat} {oj oi : AOper} {st st1 st2 : St} {pj pi : Fp} (hap : oj.apart oi = true) (h1 : evOp AP ih fj oj st = some (st1, pj)) (h2 : evOp AP ih fi oi st1 = some (st2, pi)) (hind : Ind pj pi) :
    ∃ st', evOp AP ih fi oi st = some (st', pi) ∧ evOp AP ih fj oj st' = some (st2, pj) := by
  obtain ⟨a1, a2, a3⟩ := apart_spec hap
  unfold evOp at h1
  split at h1
  · rename_i rj hj
    simp at h1
    obtain ⟨rfl, rfl⟩ := h1
    unfold evOp at h2
    split at h2
    · rename_i ri hi
      simp at h2
      obtain ⟨rfl, rfl⟩ := h2
      simp only [Ind] at hind
      obtain ⟨i1, i2, i3⟩ := hind
      simp only at hi
      rw [evG_same (same_set a1)] at hi
      have hi' : evG AP ih fi oi st.s st.g = some ri := evG_mem hi fun t ht => (rd_free i1 t ht).symm
      refine ⟨⟨setDst st.s oi.dst ri.v, putAll st.g ri.ed, st.nx⟩, by unfold evOp; rw [hi'], ?_⟩
      have hj' : evG AP ih fj oj (setDst st.s oi.dst ri.v) (putAll st.g ri.ed) = some rj := by
        rw [evG_same (same_set a3)]
        exact evG_mem hj (rd_free i3)
      unfold evOp
      simp only [hj']
      rw [setDst_comm a2, putAll_comm i2]
    · rename_i hi
      split at h2
      · rename_i hg
        split at h2
        · rename_i v g nx hI
          simp at h2
          obtain ⟨rfl, rfl⟩ := h2
          simp only [Ind] at hind
          have hed := nil_ed hind.2
          simp only [hed, putAll, List.foldl_nil] at hi hI hg ⊢
          rw [evG_same (same_set a1)] at hi
          rw [guard_same (same_set a1)] at hg
          rw [evI_same (same_set fun d hd hm => a1 d hd (List.mem_append_left _ hm))] at hI
          refine ⟨⟨setDst st.s oi.dst v, g, nx⟩, by unfold evOp; simp only [hi, hg, hI], ?_⟩
          have hj' : evG AP ih fj oj (setDst st.s oi.dst v) g = some rj := by
            rw [evG_same (same_set a3)]
            exact evG_mem hj fun t ht => by rw [hind.1] at ht; cases ht
          unfold evOp
          simp only [hj', hed, putAll, List.foldl_nil]
          rw [setDst_comm a2]
        · cases h2
      · cases h2
  · rename_i hj
    split at h1
    · rename_i hg
      split at h1
      · rename_i v g nx hI
        simp at h1
        obtain ⟨rfl, rfl⟩ := h1
        unfold evOp at h2
        split at h2
        · rename_i ri hi
          simp at h2
          obtain ⟨rfl, rfl⟩ := h2
          simp only [Ind] at hind
          have hed := nil_ed hind.2
          simp only at hi
          rw [evG_same (same_set a1)] at hi
          have hi' : evG AP ih fi oi st.s st.g = some ri := evG_mem hi fun t ht => by rw [hind.1] at ht; cases ht
          refine ⟨⟨setDst st.s oi.dst ri.v, st.g, st.nx⟩, by unfold evOp; rw [hi']; simp [hed, putAll], ?_⟩
          unfold evOp
          have e1 : evG AP ih fj oj (setDst st.s oi.dst ri.v) st.g = none := by rw [evG_same (same_set a3)]; exact hj
          have e2 : guardT (setDst st.s oi.dst ri.v) oj.guard = some true := by rw [guard_same (same_set a3)]; exact hg
          have e3 : evI AP ih oj.op (setDst st.s oi.dst ri.v) st.g st.nx = some (v, g, nx) := by rw [evI_same (same_set fun d hd hm => a3 d hd (List.mem_append_left _ hm))]; exact hI
          simp only [e1, e2, e3, hed, putAll, List.foldl_nil]
          rw [setDst_comm a2]
        · split at h2
          · split at h2
            · simp at h2
              obtain ⟨rfl, rfl⟩ := h2
              exact hind.elim
            · cases h2
          · cases h2
      · cases h1
    · cases h1

/-! ### A list of operations, each with its number -/
def evL (AP : AProg) (ih : Run) (base : Nat) : List (AOper × Nat) → St → Option (St × List (Nat × Fp))
  | [], st => some (st, [])
  | (o, i) :: r, st => match evOp AP ih (base + i) o st with
    | some (st, fp) => match evL AP ih base r st with
      | some (st, tr) => some (st, (i, fp) :: tr)
      | none => none
    | none => none
theorem evOps_evL {AP : AProg} {ih : Run} {base : Nat} : ∀ (ops : List AOper) (i : Nat) (st st' : St) (fps : List Fp), evOps AP ih (base + i) ops st = some (st', fps) →
    evL AP ih base (ops.zipIdx i) st = some (st', (fps.zipIdx i).map fun p => (p.2, p.1)) ∧ fps.length = ops.length
  | [], i, st, st', fps, h => by simp [evOps] at h; obtain ⟨rfl, rfl⟩ := h; simp [evL]
  | o :: ops, i, st, st', fps, h => by
    simp only [evOps] at h
    split at h
    · rename_i st1 fp h1
      split at h
      · rename_i st2 fps2 h2
        simp at h
        obtain ⟨rfl, rfl⟩ := h
        obtain ⟨k1, k2⟩ := evOps_evL ops (i + 1) st1 st2 fps2 h2
        simp only [List.zipIdx_cons, evL, h1, k1, List.map_cons, List.length_cons, k2, and_self]
      · cases h
    · cases h

theorem move_front {AP : AProg} {ih : Run} {base : Nat} {ord : Nat → Nat → Bool} {o : AOper} {i : Nat} {l2 : List (AOper × Nat)} : ∀ (l1 : List (AOper × Nat)) (st st' : St) (tr : List (Nat × Fp)),
    evL AP ih base (l1 ++ (o, i) :: l2) st = some (st', tr) → (∀ x ∈ l1, ord x.2 i = false) → (∀ x ∈ l1, ord x.2 i = false → x.1.apart o = true) → tr.Pairwise (fun x y => ord x.1 y.1 = false → Ind x.2 y.2) →
    ∃ st1 fp tr', evOp AP ih (base + i) o st = some (st1, fp) ∧ evL AP ih base (l1 ++ l2) st1 = some (st', tr') ∧ (i, fp) ∈ tr ∧ tr'.Sublist tr
  | [], st, st', tr, h, _, _, hp => by
    simp only [List.nil_append, evL] at h ⊢
    split at h
    · rename_i st1 fp h1
      split at h
      · rename_i st2 tr2 h2
        simp at h
        obtain ⟨rfl, rfl⟩ := h
        exact ⟨st1, fp, tr2, h1, h2, by simp, List.sublist_cons_self _ _⟩
      · cases h
    · cases h
  | (x, j) :: l1, st, st', tr, h, ho, hn, hp => by
    simp only [List.cons_append, evL] at h ⊢
    split at h
    · rename_i sx px h1
      split at h
      · rename_i st2 tr2 h2
        simp at h
        obtain ⟨rfl, rfl⟩ := h
        obtain ⟨st1, fp, tr', k1, k2, k3, k4⟩ := move_front l1 sx st2 tr2 h2 (fun y hy => ho y (by simp [hy])) (fun y hy => hn y (by simp [hy])) (List.pairwise_cons.1 hp).2
        have hord := ho (x, j) (by simp)
        have hind := (List.pairwise_cons.1 hp).1 (i, fp) k3 hord
        obtain ⟨s', q1, q2⟩ := evOp_swap (hn (x, j) (by simp) hord) h1 k1 hind
        exact ⟨s', fp, (j, px) :: tr', q1, by simp only [q2, k2], by simp [k3], k4.cons_cons _⟩
      · cases h
    · cases h
end Go.Proofs.YtabfinhkoihhfaaGreat.Abs

/- Calls; one operation of a region, in the model. -/
namespace Go.Proofs.YtabfinhkoihhfaaGreat.Abs
open Go Go.RowKit
set_option linter.unusedVariables false
set_option linter.unusedSimpArgs false

/-- What the blocks ids cover. -/
def Owned (g : Mem) (μ : Nat → Option Loc) (ids : List Nat) (b o : Nat) : Prop := ∃ t ∈ ids, ∃ c m, g t = some c ∧ μ t = some m ∧ b = m.1 ∧ m.2.1 ≤ o ∧ o < m.2.1 + m.2.2
def ZOf (Z : Nat → Nat → Prop) (g : Mem) (μ : Nat → Option Loc) (ids : List Nat) (b o : Nat) : Prop := Z b o ∨ Owned g μ ids b o

section
variable {P : Program} {o : Oper} {a : Act} {B : Nat} {W0 w : World} {Z0 Z : Nat → Nat → Prop} {g : Mem} {μ : Nat → Option Loc} {s : List T}

theorem zof_le {ids ids' : List Nat} (h : ∀ t ∈ ids, t ∈ ids') : ZLe w w (ZOf Z g μ ids) (ZOf Z g μ ids') := fun b o hz => ⟨hz.imp id fun ⟨t, ht, r⟩ => ⟨t, h t ht, r⟩, rfl⟩
theorem z_zof {ids : List Nat} : ZLe w w Z (ZOf Z g μ ids) := fun b o hz => ⟨.inl hz, rfl⟩

theorem frz_leaf {h : Hp} {d : Nat} {v v' : T} {ids : List Nat} (hf : frz h d v = some (v', ids)) (hl : v.leaf = true) : v'.leaf = true := by
  cases d with
  | zero => simp [frz] at hf
  | succ d =>
    cases v <;> simp [T.leaf] at hl <;> simp only [frz] at hf
    case own =>
      split at hf
      · cases hf
      · split at hf
        · split at hf
          · simp at hf; obtain ⟨rfl, _⟩ := hf; rfl
          · cases hf
        · cases hf
    case fn =>
      split at hf
      · simp at hf; obtain ⟨rfl, _⟩ := hf; rfl
      · cases hf
    all_goals first | (cases hf; done) | (simp at hf; obtain ⟨rfl, _⟩ := hf; rfl)

theorem frzAll_ok {f : T → Option (T × List Nat)} (hf : ∀ x y us v, f x = some (y, us) → VR w Z μ x v → VI w (ZOf Z g μ us) y v) : ∀ (l l' : List T) (ts : List Nat) (vs : List Value), frzAll f l = some (l', ts) → VRL w Z μ l vs → VIL w (ZOf Z g μ ts) l' vs
  | [], l', ts, vs, h, hv => by
    simp [frzAll] at h; obtain ⟨rfl, rfl⟩ := h
    simpa only [VRL, VIL] using hv
  | x :: l, l', ts, vs, h, hv => by
    simp only [frzAll] at h
    split at h
    · rename_i y us l1 ts1 h1 h2
      simp at h; obtain ⟨rfl, rfl⟩ := h
      simp only [VRL] at hv
      obtain ⟨v, vs', rfl, k1, k2⟩ := hv
      simp only [VIL]
      exact ⟨v, vs', rfl, VI.mono (zof_le fun t ht => List.mem_append_left _ ht) _ _ (hf x y us v h1 k1), VIL.mono (zof_le fun t ht => List.mem_append_right _ ht) _ _ (frzAll_ok hf l l1 ts1 vs' h2 k2)⟩
    · cases h
theorem frzAll_leaf {f : T → Option (T × List Nat)} (hf : ∀ x y us, f x = some (y, us) → x.leaf = true → y.leaf = true) : ∀ (l l' : List T) (ts : List Nat), frzAll f l = some (l', ts) → allLeaf l = true → allLeaf l' = true
  | [], l', ts, h, hv => by simp [frzAll] at h; obtain ⟨rfl, rfl⟩ := h; rfl
  | x :: l, l', ts, h, hv => by
    simp only [frzAll] at h
    split at h
    · rename_i y us l1 ts1 h1 h2
      simp at h; obtain ⟨rfl, rfl⟩ := h
      simp only [allLeaf, List.all_cons, Bool.and_eq_true] at hv ⊢
      exact ⟨hf x y us h1 hv.1, frzAll_leaf hf l l1 ts1 h2 hv.2⟩
    · cases h
theorem frzAll_len {f : T → Option (T × List Nat)} : ∀ (l l' : List T) (ts : List Nat), frzAll f l = some (l', ts) → l'.length = l.length
  | [], l', ts, h => by simp [frzAll] at h; obtain ⟨rfl, rfl⟩ := h; rfl
  | x :: l, l', ts, h => by
    simp only [frzAll] at h
    split at h
    · rename_i y us l1 ts1 h1 h2
      simp at h; obtain ⟨rfl, rfl⟩ := h
      simp [frzAll_len l l1 ts1 h2]
    · cases h

theorem frz_ok (hi : Inv B W0 Z0 g w Z μ) {nx : Nat} : ∀ (d : Nat) (x y : T) (us : List Nat) (v : Value), frz ⟨g, nx⟩ d x = some (y, us) → VR w Z μ x v → VI w (ZOf Z g μ us) y v
  | 0, _, _, _, _, h, _ => by simp [frz] at h
  | d + 1, x, y, us, v, h, hv => by
    have ih := frz_ok hi (nx := nx) d
    cases x <;> simp only [frz] at h
    case own t off len es =>
      split at h
      · cases h
      · rename_i c hc
        split at h
        · rename_i hl
          split at h
          · rename_i l ts h1
            simp at h
            obtain ⟨rfl, rfl⟩ := h
            have hle : off + len * es ≤ c.length ∨ len * es = 0 := by
              simp at hl; omega
            simp only [VR] at hv
            obtain ⟨ad, cap, m, j1, j2, j3, j4, j5⟩ := hv
            obtain ⟨m', p1, p2, p3, p4, p5, p6, p7⟩ := hi.blk _ _ hc
            obtain rfl : m' = m := by rw [j3] at p1; exact (Option.some.inj p1).symm
            simp only [VI]
            refine ⟨ad, cap, j1, j2, by simp, ?_⟩
            have hll := frzAll_len _ _ _ h1
            rw [hl] at hll
            rcases Nat.eq_zero_or_pos (len * es) with h0 | h0
            · left; exact List.eq_nil_of_length_eq_zero (by rw [hll]; exact h0)
            · right
              have hle' : off + len * es ≤ c.length := by omega
              have hlen : 0 < len := Nat.pos_of_mul_pos_right h0
              refine ⟨m'.1, m'.2.1 + off, j4 (by omega), ?_⟩
              obtain ⟨vs, q1, q2, q3, q4⟩ := p7.range (off := off) (n := len * es) hle'
              have hlf : allLeaf (cut c off (len * es)) = true := by
                unfold allLeaf; rw [List.all_eq_true]
                intro y hy
                obtain ⟨q, hq, rfl⟩ := List.getElem_of_mem hy
                have hq2 := List.getElem?_eq_getElem hq
                rw [cut_get] at hq2
                split at hq2
                · exact (p7 _ _ hq2).1
                · cases hq2
              have hvi := frzAll_ok (Z := Z) (g := g) ih _ _ _ _ h1 q2
              have hvl := frzAll_leaf (fun x y us h hl => frz_leaf h hl) _ _ _ h1 hlf
              have hlenm := Nat.mul_le_mul_right es j2
              refine VC.mk fun i z hz => ?_
              obtain ⟨u, r1, r2⟩ := hvi.get hz
              have hil : i < len * es := by have := (List.getElem?_eq_some_iff.1 hz).1; omega
              refine ⟨u, q3 i u r1, .inr ⟨t, by simp, c, m', hc, j3, rfl, by omega, by omega⟩, VI.mono (zof_le fun t ht => by simp [ht]) _ _ r2, List.all_eq_true.1 hvl z (List.mem_of_getElem? hz)⟩
          · cases h
        · cases h
    case agg l =>
      split at h
      · rename_i l1 ts h1
        simp at h; obtain ⟨rfl, rfl⟩ := h
        simp only [VR] at hv
        obtain ⟨vs, rfl, k1⟩ := hv
        simp only [VI]
        exact ⟨vs, rfl, frzAll_ok ih _ _ _ _ h1 k1⟩
      · cases h
    case tup l =>
      split at h
      · rename_i l1 ts h1
        simp at h; obtain ⟨rfl, rfl⟩ := h
        simp only [VR] at hv
        obtain ⟨vs, rfl, k1⟩ := hv
        simp only [VI]
        exact ⟨vs, rfl, frzAll_ok ih _ _ _ _ h1 k1⟩
      · cases h
    case fn f p q =>
      split at h
      · rename_i l1 ts l2 us2 h1 h2
        simp at h; obtain ⟨rfl, rfl⟩ := h
        simp only [VR] at hv
        obtain ⟨va, vb, rfl, k1, k2⟩ := hv
        simp only [VI]
        exact ⟨va, vb, rfl, VIL.mono (zof_le fun t ht => List.mem_append_left _ ht) _ _ (frzAll_ok ih _ _ _ _ h1 k1), VIL.mono (zof_le fun t ht => List.mem_append_right _ ht) _ _ (frzAll_ok ih _ _ _ _ h2 k2)⟩
      · cases h
    all_goals first
      | (cases h; done)
      | (simp at h; obtain ⟨rfl, rfl⟩ := h; simp only [VR] at hv; exact VI.mono z_zof _ _ hv)

/-- Flat values lead nowhere. -/
theorem flatL_any {w' : World} {Z' : Nat → Nat → Prop} : ∀ (l : List T) (vs : List Value), T.flatL l = true → VIL w Z l vs → VIL w' Z' l vs
  | [], vs, _, h => by simpa only [VIL] using h
  | x :: l, vs, hf, h => by
    simp only [VIL] at h ⊢
    obtain ⟨v, vs', rfl, h1, h2⟩ := h
    cases x
    case int => simp only [T.flatL] at hf; exact ⟨v, vs', rfl, by simpa only [VI] using h1, flatL_any l vs' hf h2⟩
    case bool => simp only [T.flatL] at hf; exact ⟨v, vs', rfl, by simpa only [VI] using h1, flatL_any l vs' hf h2⟩
    case str => simp only [T.flatL] at hf; exact ⟨v, vs', rfl, by simpa only [VI] using h1, flatL_any l vs' hf h2⟩
    case imm f n c =>
      have : n = 0 ∧ c = [] ∧ T.flatL l = true := by
        cases n <;> cases c <;> simp_all [T.flatL]
      obtain ⟨rfl, rfl, hl⟩ := this
      refine ⟨v, vs', rfl, ?_, flatL_any l vs' hl h2⟩
      simp only [VI] at h1 ⊢
      obtain ⟨a, cap, k1, k2, k3, _⟩ := h1
      exact ⟨a, cap, k1, k2, k3, .inl trivial⟩
    all_goals (simp [T.flatL] at hf)
theorem flat_any {w' : World} {Z' : Nat → Nat → Prop} {x : T} {v : Value} (hf : x.flat = true) (h : VI w Z x v) : VI w' Z' x v := by
  cases x
  case int => simpa only [VI] using h
  case bool => simpa only [VI] using h
  case str => simpa only [VI] using h
  case imm f n c =>
    have : n = 0 ∧ c = [] := by cases n <;> cases c <;> simp_all [T.flat]
    obtain ⟨rfl, rfl⟩ := this
    simp only [VI] at h ⊢
    obtain ⟨a, cap, k1, k2, k3, _⟩ := h
    exact ⟨a, cap, k1, k2, k3, .inl trivial⟩
  case agg l =>
    simp only [VI] at h ⊢
    obtain ⟨vs, rfl, hl⟩ := h
    exact ⟨vs, rfl, flatL_any l _ (by simpa [T.flat] using hf) hl⟩
  case tup l =>
    simp only [VI] at h ⊢
    obtain ⟨vs, rfl, hl⟩ := h
    exact ⟨vs, rfl, flatL_any l _ (by simpa [T.flat] using hf) hl⟩
  all_goals (simp [T.flat] at hf)

/-- A call that leaves all that was there as it was. -/
theorem Inv.below (hi : Inv B W0 Z0 g w Z μ) {w' : World} (hb : Below w.heap.size w w') {Z' : Nat → Nat → Prop} (hz : ZLe w w' Z Z') (hin : ∀ b o, Z' b o → b < w'.heap.size) {ids : List Nat}
    (hnew : ∀ b o, Z' b o → ZOf Z g μ ids b o ∨ w.heap.size ≤ b) : Inv B W0 Z0 (putAll g (ids.map fun t => (t, none))) w' Z' μ := by
  have hdel : ∀ (t : Nat) c, putAll g (ids.map fun t => (t, none)) t = some c → t ∉ ids ∧ g t = some c := by
    intro t c ht
    have : ∀ (l : List Nat) (g : Mem), putAll g (l.map fun t => (t, none)) t = some c → t ∉ l ∧ g t = some c := by
      intro l
      induction l with
      | nil => intro g h; exact ⟨by simp, h⟩
      | cons x l ih =>
        intro g h
        obtain ⟨h1, h2⟩ := ih (put1 g (x, none)) h
        simp only [put1] at h2
        split at h2
        · cases h2
        · rename_i hx; exact ⟨by simp [hx, h1], h2⟩
    exact this ids g ht
  refine ⟨hi.bel.trans (hb.mono hi.base), Nat.le_trans hi.base hb.size, hin, fun b o hbo => ?_, fun t c ht => ?_, fun t u ct cu m m' hne ht hu hm hm' => hi.dis t u ct cu m m' hne (hdel t ct ht).2 (hdel u cu hu).2 hm hm'⟩
  · rcases hnew b o hbo with h | h
    · rcases h with h | ⟨t, ht, c, m, h1, h2, h3, _, _⟩
      · exact hi.zold b o h
      · right
        obtain ⟨m', k1, k2, _⟩ := hi.blk t c h1
        rw [h2] at k1; obtain rfl := Option.some.inj k1
        omega
    · right; have := hi.base; omega
  · obtain ⟨hnt, hg⟩ := hdel t c ht
    obtain ⟨m, k1, k2, k3, k4, k5, k6, k7⟩ := hi.blk t c hg
    have hcell : ∀ i, w'.cell? ⟨m.1, m.2.1 + i, none⟩ = w.cell? ⟨m.1, m.2.1 + i, none⟩ := fun i => hb.cell k3
    refine ⟨m, k1, k2, Nat.lt_of_lt_of_le k3 hb.size, k4, fun j hj => ?_, fun i hil hzz => ?_, k7.mono hz MLe.refl fun i _ => hcell i⟩
    · have := k5 j hj
      rw [hcell j]
      exact ⟨this.1, by rw [hb.frozen (p := ⟨m.1, m.2.1 + j, none⟩) k3]; exact this.2⟩
    · rcases hnew _ _ hzz with h | h
      · rcases h with h | ⟨t', ht', c', m', h1, h2, h3, h4, h5⟩
        · exact k6 i hil h
        · have hne : t ≠ t' := fun e => hnt (e ▸ ht')
          rcases hi.dis t t' c c' m m' hne hg h1 k1 h2 with hd | hd | hd
          · exact hd h3
          · omega
          · omega
      · omega
theorem zle_below {w' : World} (hin : ∀ b o, Z b o → b < w.heap.size) (hb : Below w.heap.size w w') : ZLe w w' Z Z := fun b o hz => ⟨hz, hb.cell (p := ⟨b, o, none⟩) (hin b o hz)⟩
end

/-! ### Calls -/
def CloneOk (P : Program) (f es bytes : Nat) : Prop :=
  ∀ (B : Nat) (W0 : World) (Z0 : Nat → Nat → Prop) (g : Mem) (w : World) (Z : Nat → Nat → Prop) (μ : Nat → Option Loc) (fr : Nat) (x : T) (v : Value) (n : Nat) (c : List T) (rd : List Nat), Inv B W0 Z0 g w Z μ → μ fr = none → VR w Z μ x v →
    cellsOf g es x = some (n, c, rd) → c.length = n * es → allLeaf c = true → n * bytes ≤ room → n ≤ room →
    Calls P f #[v] w (fun e w' => ∃ u μ', e = .returned u ∧ VR w' Z μ' (if n = 0 then .imm true 0 [] else .own fr 0 n es) u ∧ Inv B W0 Z0 (if n = 0 then g else put1 g (fr, some c)) w' Z μ' ∧ ZLe w w' Z Z ∧ MLe μ μ' ∧ ∀ u, u ≠ fr → μ' u = μ u)
def ClonesOk (P : Program) (AP : AProg) : Prop := ∀ (f : Nat) (F : AFun) (es bytes : Nat), AP f = some F → F.nat = some (es, bytes) → CloneOk P f es bytes
def PureOk (P : Program) (AP : AProg) (ih : Run) : Prop :=
  ∀ (f : Nat) (F : AFun) (args : List T) (v : T), AP f = some F → F.nat = none → runPure ih F args = some v → ∀ (w : World) (Z : Nat → Nat → Prop) (vs : List Value), VIL w Z args vs → (∀ b o, Z b o → b < w.heap.size) →
    Calls P f vs.toArray w (fun e w' => ∃ u Z', e = .returned u ∧ Below w.heap.size w w' ∧ ZLe w w' Z Z' ∧ (∀ b o, Z' b o → b < w'.heap.size) ∧ (∀ b o, Z' b o → Z b o ∨ w.heap.size ≤ b) ∧ VI w' Z' v u)
/-- How memory goes on. -/
structure Pr (w : World) (Z : Nat → Nat → Prop) (μ : Nat → Option Loc) (nx : Nat) (w' : World) (Z' : Nat → Nat → Prop) (μ' : Nat → Option Loc) (nx' : Nat) : Prop where
  z : ZLe w w' Z Z'
  m : MLe μ μ'
  n : nx ≤ nx'
  old : ∀ t, t < nx → μ' t = μ t
  new : ∀ t, nx' ≤ t → μ' t = none
def ImpOk (P : Program) (AP : AProg) (ih : Run) : Prop :=
  ∀ (f : Nat) (F : AFun) (args : List T) (g : Mem) (nx : Nat) (v : T) (g' : Mem) (nx' : Nat), AP f = some F → F.pure = false → runBody ih F args g nx = some (v, g', nx') →
    ∀ (B : Nat) (W0 : World) (Z0 : Nat → Nat → Prop) (w : World) (Z : Nat → Nat → Prop) (μ : Nat → Option Loc) (vs : List Value), VRL w Z μ args vs → Inv B W0 Z0 g w Z μ → (∀ t, nx ≤ t → μ t = none) →
    Calls P f vs.toArray w (fun e w' => ∃ u Z' μ', e = .returned u ∧ VR w' Z' μ' v u ∧ Inv B W0 Z0 g' w' Z' μ' ∧ Pr w Z μ nx w' Z' μ' nx')
/-- A function of the plain program stands for one of the program's that has a body. -/
def Enters (P : Program) (AP : AProg) : Prop := ∀ (f : Nat) (F : AFun), AP f = some F → ∃ fn, P.funcs[f]? = some fn ∧ (fn.name == "runtime.NumGoroutine") = false ∧ fn.body.isNone = false

section
variable {P : Program} {o : Oper} {a : Act} {B : Nat} {W0 w : World} {Z0 Z : Nat → Nat → Prop} {g : Mem} {μ : Nat → Option Loc} {s : List T} {AP : AProg} {ih : Run}

theorem callee_ok (hE : Enters P AP) (hs : VRL w Z μ s a.tmps.toList) {op : AOp} (hc : compOp P o.op = some op) {f : Nat} {args : List T} (hce : callee s op = some (f, args)) {F : AFun} (hF : AP f = some F) :
    ∃ vs : List Value, VRL w Z μ args vs ∧ (execOp a.eval o).run P w = .ok (.enter f vs.toArray) w := by
  obtain ⟨fn, e1, e2, e3⟩ := hE f F hF
  have hcf : ∀ vs : Array Value, (callFunc f vs).run P w = .ok (.enter f vs) w := fun vs => by
    have e2' : (fn.name = "runtime.NumGoroutine") = False := by simpa using e2
    have e3' : (fn.body = none) = False := by cases hb : fn.body <;> simp_all
    simp [callFunc, e1, e2', e3']
  generalize ho : o.op = q at hc
  cases q with
  | call c =>
    obtain ⟨cal, args', ats⟩ := c
    unfold compOp at hc
    split at hc
    all_goals (rename_i heq; try (cases heq))
    · split at hc
      · rename_i l hl
        obtain rfl := Option.some.inj hc
        simp [callee] at hce
        obtain ⟨rfl, rfl⟩ := hce
        refine ⟨(args'.map a.eval).toList, by rw [Array.toList_map]; exact rhos_ok hs hl, ?_⟩
        unfold execOp; rw [ho]
        have hta : ((args'.map a.eval).toList).toArray = args'.map a.eval := Array.toArray_toList
        rw [hta]
        simp [-Array.toList_map, resolve, Act.eval, Deferred.ofValue, invoke, hcf]
      · cases hc
    · split at hc
      · rename_i t _ l hl
        obtain rfl := Option.some.inj hc
        simp only [callee] at hce
        split at hce
        · rename_i f' fs cs e
          simp at hce
          obtain ⟨rfl, rfl⟩ := hce
          have hv := rho_ok hs (x := .tmp t) (y := .tmp t) rfl
          rw [e] at hv
          simp only [VR] at hv
          obtain ⟨va, vb, j1, j2, j3⟩ := hv
          refine ⟨(va ++ args'.map a.eval ++ vb).toList, ?_, ?_⟩
          · simp only [Array.toList_append, Array.toList_map, List.append_assoc]
            exact j2.append ((rhos_ok hs hl).append j3)
          · unfold execOp; rw [ho]
            simp [resolve, j1, Deferred.ofValue, invoke, hcf]
        · cases hce
      · cases hc
    all_goals
      first
        | (cases hc; done)
        | (split at hc
           · split at hc
             · split at hc
               · obtain rfl := Option.some.inj hc; simp [callee] at hce
               · cases hc
             · cases hc
           · cases hc)
        | (split at hc
           · split at hc
             · obtain rfl := Option.some.inj hc; simp [callee] at hce
             · obtain rfl := Option.some.inj hc; simp [callee] at hce
             · cases hc
           · cases hc)
        | (split at hc
           · obtain rfl := Option.some.inj hc; simp [callee] at hce
           · cases hc)
  | makeFunc fn fs cs =>
    exfalso
    cases fn <;> simp only [compOp] at hc
    case func q =>
      split at hc
      · obtain rfl := Option.some.inj hc; simp [callee] at hce
      · cases hc
    all_goals cases hc
  | _ =>
    exfalso
    simp only [compOp] at hc
    repeat' (split at hc)
    all_goals first | (cases hc; done) | (obtain rfl := Option.some.inj hc; simp [callee] at hce)

theorem enter_wp {f : Nat} {vs : Array Value} (h : (execOp a.eval o).run P w = .ok (.enter f vs) w) {K : Act → World → Prop} {Q : Exit → Act → World → Prop} {R : Ending → World → Prop} (hc : Calls P f vs w R)
    (hk : ∀ e w', R e w' → ∃ u, e = .returned u ∧ K (a.put o.dst u) w') : o.wp P a w K Q := by
  unfold Oper.wp
  rw [h]
  refine Calls.mono hc fun e w' hr => ?_
  obtain ⟨u, rfl, hK⟩ := hk e w' hr
  exact hK
end
end Go.Proofs.YtabfinhkoihhfaaGreat.Abs

/- Regions. -/
namespace Go.Proofs.YtabfinhkoihhfaaGreat.Abs
open Go Go.RowKit
set_option linter.unusedVariables false
set_option linter.unusedSimpArgs false

def compOper (P : Program) (ops : Array Oper) (o : Oper) : Option AOper :=
  match compOp P o.op with
  | some ao => match o.guard with
    | none => some ⟨o.dst, ao, none⟩
    | some (j, want) => match (ops[j]?).bind (·.dst) with
      | some t => some ⟨o.dst, ao, some (t, want)⟩
      | none => none
  | none => none
def compOpers (P : Program) (ops : Array Oper) : List Oper → Option (List AOper)
  | [] => some []
  | o :: r => match compOper P ops o, compOpers P ops r with | some x, some xs => some (x :: xs) | _, _ => none

section
variable {P : Program} {ops : Array Oper} {a : Act} {B : Nat} {W0 w : World} {Z0 Z : Nat → Nat → Prop} {μ : Nat → Option Loc} {AP : AProg} {ih : Run}

theorem guard_ok {o : Oper} {ao : AOper} (hc : compOper P ops o = some ao) {s : List T} (hs : VRL w Z μ s a.tmps.toList) {b : Bool} (hg : guardT s ao.guard = some b) : Region.wanted o (yielded ops a.tmps) = b := by
  unfold compOper at hc
  split at hc
  · rename_i op hop
    split at hc
    · rename_i hn
      obtain rfl := Option.some.inj hc
      simp [guardT] at hg
      simp [Region.wanted, hn, hg]
    · rename_i j want hn
      split at hc
      · rename_i t ht
        obtain rfl := Option.some.inj hc
        simp only [guardT] at hg
        have hv := rho_ok hs (x := .tmp t) (y := .tmp t) rfl
        simp only [Region.wanted, hn, yielded, ht, Option.bind_some]
        split at hg
        · rename_i b' e
          obtain rfl := Option.some.inj hg
          have := vr_bool hv e
          simp only [Act.eval] at this
          cases hx : a.tmps[t]? with
          | none => rw [Array.getD_eq_getD_getElem?, hx] at this; cases this
          | some v =>
            rw [Array.getD_eq_getD_getElem?, hx] at this
            simp only [Option.getD_some] at this
            subst this
            simp
        · rename_i e
          obtain rfl := Option.some.inj hg
          rw [e] at hv
          simp only [VR, VI, Act.eval] at hv
          cases hx : a.tmps[t]? with
          | none => simp
          | some v =>
            rw [Array.getD_eq_getD_getElem?, hx] at hv
            simp only [Option.getD_some] at hv
            subst hv
            simp [Go.undef]
        · cases hg
      · cases hc
  · cases hc
theorem compOper_op {o : Oper} {ao : AOper} (hc : compOper P ops o = some ao) : compOp P o.op = some ao.op ∧ ao.dst = o.dst := by
  unfold compOper at hc
  split at hc
  · rename_i op hop
    split at hc
    · obtain rfl := Option.some.inj hc; exact ⟨hop, rfl⟩
    · split at hc
      · obtain rfl := Option.some.inj hc; exact ⟨hop, rfl⟩
      · cases hc
  · cases hc

theorem evOp_sound (hE : Enters P AP) (HC : ClonesOk P AP) (HP : PureOk P AP ih) (HI : ImpOk P AP ih) {i : Nat} {o : Oper} (ho : ops[i]? = some o) {ao : AOper} (hc : compOper P ops o = some ao) {st st' : St} {fp : Fp} {fr : Nat} (h : evOp AP ih fr ao st = some (st', fp))
    (hs : VRL w Z μ st.s a.tmps.toList) (hi : Inv B W0 Z0 st.g w Z μ) (hfr : μ fr = none) (hfn : fr < st.nx) (hnx : ∀ t, st.nx ≤ t → μ t = none) {K : Act → World → Prop} {Q : Exit → Act → World → Prop}
    (hk : ∀ a' w' Z' μ', a'.defers = a.defers → VRL w' Z' μ' st'.s a'.tmps.toList → Inv B W0 Z0 st'.g w' Z' μ' → ZLe w w' Z Z' → MLe μ μ' → st.nx ≤ st'.nx → (∀ t, t < st.nx → t ≠ fr → μ' t = μ t) → (∀ t, st'.nx ≤ t → μ' t = none) → K a' w') :
    wpOp P ops Q i K a w := by
  obtain ⟨hcop, hdst⟩ := compOper_op hc
  have hdef : ∀ (d : Option Tmp) (v : Value), (a.put d v).defers = a.defers := fun d v => by cases d <;> rfl
  have enter : (Region.wanted o (yielded ops a.tmps) = true → o.wp P a w K Q) → Region.wanted o (yielded ops a.tmps) = true → wpOp P ops Q i K a w := fun h1 h2 => by
    unfold wpOp; simp only [ho, h2, if_true]; exact .inl (h1 h2)
  unfold evOp at h
  split at h
  · rename_i r hr
    simp at h
    obtain ⟨rfl, rfl⟩ := h
    unfold evG at hr
    split at hr
    · rename_i hg
      have hw := guard_ok hc hs hg
      refine enter (fun _ => ?_) hw
      unfold evR at hr
      split at hr
      · rename_i f args hce
        split at hr
        · rename_i F hF
          split at hr
          · rename_i es bytes hnat
            obtain ⟨vs, k1, k2⟩ := callee_ok hE hs hcop hce hF
            unfold cloneRes at hr
            split at hr
            · rename_i x
              simp only [VRL] at k1
              obtain ⟨v, vs', rfl, hvx, rfl⟩ := k1
              split at hr
              · rename_i n c rd hcl
                split at hr
                · rename_i hcc
                  obtain ⟨q1, q2, q3, q4⟩ := hcc
                  have hcall := HC f F es bytes hF hnat B W0 Z0 st.g w Z μ fr x v n c rd hi hfr hvx hcl q1 q2 q3 q4
                  refine enter_wp k2 hcall fun e w' ⟨u, μ', he, hu, hinv, hz, hm, hold⟩ => ⟨u, he, ?_⟩
                  refine hk _ w' Z μ' (hdef _ _) ?_ ?_ hz hm (Nat.le_refl _) (fun t _ ht => hold t ht) (fun t ht => by rw [hold t (by simp only at ht; omega)]; exact hnx t ht)
                  · rw [hdst]
                    refine put_ok (VRL.mono hz hm _ _ hs) ?_
                    split at hr
                    · rename_i h0; obtain rfl := Option.some.inj hr; rw [if_pos h0] at hu; exact hu
                    · rename_i h0; obtain rfl := Option.some.inj hr; rw [if_neg h0] at hu; exact hu
                  · split at hr
                    · rename_i h0; obtain rfl := Option.some.inj hr; rw [if_pos h0] at hinv; exact hinv
                    · rename_i h0; obtain rfl := Option.some.inj hr; rw [if_neg h0] at hinv; exact hinv
                · cases hr
              · cases hr
            · cases hr
          rename_i hnat
          split at hr
          · rename_i hp
            obtain ⟨vs, k1, k2⟩ := callee_ok hE hs hcop hce hF
            unfold callPure at hr
            split at hr
            · rename_i args' ids hfz
              split at hr
              · rename_i v hv
                obtain rfl := Option.some.inj hr
                have hvi := frzAll_ok (Z := Z) (g := st.g) (fun x y us u h1 h2 => frz_ok hi frzDepth x y us u h1 h2) _ _ _ _ hfz k1
                have hzin : ∀ b q, ZOf Z st.g μ ids b q → b < w.heap.size := fun b q hz => by
                  rcases hz with hz | ⟨t, ht, c, m, h1, h2, h3, _, _⟩
                  · exact hi.zin b q hz
                  · obtain ⟨m', j1, j2, j3, _⟩ := hi.blk t c h1
                    rw [h2] at j1; obtain rfl := Option.some.inj j1
                    omega
                have hcall := HP f F args' v hF hnat hv w (ZOf Z st.g μ ids) vs hvi hzin
                refine enter_wp k2 hcall fun e w' ⟨u, Z', he, hb, hz, hin, hnew, hvu⟩ => ⟨u, he, ?_⟩
                by_cases hfl : v.flat = true
                · have hz0 : ZLe w w' Z Z := zle_below hi.zin hb
                  have hinv := hi.below hb hz0 (fun b q hq => Nat.lt_of_lt_of_le (hi.zin b q hq) hb.size) (ids := []) (fun b q hq => .inl (.inl hq))
                  refine hk _ w' Z μ (hdef _ _) ?_ ?_ hz0 MLe.refl (Nat.le_refl _) (fun _ _ _ => rfl) hnx
                  · rw [hdst]
                    exact put_ok (VRL.mono hz0 MLe.refl _ _ hs) (VI.vr _ _ (flat_any hfl hvu))
                  · simp only [hfl, if_true, putAll, List.foldl_nil]
                    simpa [putAll] using hinv
                · have hz0 : ZLe w w' Z Z' := ZLe.trans z_zof hz
                  have hinv := hi.below hb hz0 hin (ids := ids) hnew
                  refine hk _ w' Z' μ (hdef _ _) ?_ ?_ hz0 MLe.refl (Nat.le_refl _) (fun _ _ _ => rfl) hnx
                  · rw [hdst]
                    exact put_ok (VRL.mono hz0 MLe.refl _ _ hs) (VI.vr _ _ hvu)
                  · simp only [hfl]; exact hinv
              · cases hr
            · cases hr
          · cases hr
        · cases hr
      · obtain ⟨v, w', μ', q1, q2, q3, q4, q5, q6⟩ := opRes_sound hi hfr hs hcop hr
        refine q1 K Q ?_
        refine hk _ w' Z μ' (hdef _ _) ?_ q3 q4 q5 (Nat.le_refl _) (fun t _ ht => q6 t ht) (fun t ht => by rw [q6 t (by simp only at ht; omega)]; exact hnx t ht)
        rw [hdst]
        exact put_ok (VRL.mono q4 q5 _ _ hs) q2
    · rename_i hg
      obtain rfl := Option.some.inj hr
      have hw := guard_ok hc hs hg
      unfold wpOp
      simp only [ho, hw, Bool.false_eq_true, if_false]
      refine hk _ w Z μ (hdef _ _) ?_ hi ZLe.refl MLe.refl (Nat.le_refl _) (fun _ _ _ => rfl) hnx
      rw [hdst]
      exact put_ok hs (by simp only [VR, VI])
    · cases hr
  · rename_i hr
    split at h
    · rename_i hg
      have hw := guard_ok hc hs hg
      refine enter (fun _ => ?_) hw
      split at h
      · rename_i v g nx hI
        simp at h
        obtain ⟨rfl, rfl⟩ := h
        unfold evI at hI
        split at hI
        · rename_i f args hce
          split at hI
          · rename_i F hF
            split at hI
            · cases hI
            · rename_i hp
              obtain ⟨vs, k1, k2⟩ := callee_ok hE hs hcop hce hF
              have hcall := HI f F args st.g st.nx v g nx hF (calm_not hp) hI B W0 Z0 w Z μ vs k1 hi hnx
              refine enter_wp k2 hcall fun e w' ⟨u, Z', μ', he, hvu, hinv, hpr⟩ => ⟨u, he, ?_⟩
              refine hk _ w' Z' μ' (hdef _ _) ?_ hinv hpr.z hpr.m hpr.n (fun t ht _ => hpr.old t ht) hpr.new
              rw [hdst]
              exact put_ok (VRL.mono hpr.z hpr.m _ _ hs) hvu
          · cases hI
        · cases hI
      · cases h
    · cases h

/-- All operations have been told. -/
theorem compOpers_get : ∀ (l : List Oper) (al : List AOper), compOpers P ops l = some al → al.length = l.length ∧ ∀ (i : Nat) o, l[i]? = some o → ∃ ao, al[i]? = some ao ∧ compOper P ops o = some ao
  | [], al, h => by simp [compOpers] at h; subst h; simp
  | o :: l, al, h => by
    simp only [compOpers] at h
    split at h
    · rename_i x xs h1 h2
      obtain rfl := Option.some.inj h
      obtain ⟨k1, k2⟩ := compOpers_get l xs h2
      refine ⟨by simp [k1], fun i o' ho => ?_⟩
      cases i with
      | zero => simp at ho; subst ho; exact ⟨x, by simp, h1⟩
      | succ i => simp at ho; obtain ⟨ao, j1, j2⟩ := k2 i o' ho; exact ⟨ao, by simpa using j1, j2⟩
    · cases h

/-- In the text's order. -/
theorem plain_sound (hE : Enters P AP) (HC : ClonesOk P AP) (HP : PureOk P AP ih) (HI : ImpOk P AP ih) {al : List AOper} (hal : compOpers P ops ops.toList = some al) {base : Nat} {st' : St} {Q : Exit → Act → World → Prop}
    {w0 : World} {Zs : Nat → Nat → Prop} {μ0 : Nat → Option Loc} {defs : List Deferred}
    (hQ : ∀ a' w' Z' μ', a'.defers = defs → VRL w' Z' μ' st'.s a'.tmps.toList → Inv B W0 Z0 st'.g w' Z' μ' → Pr w0 Zs μ0 base w' Z' μ' st'.nx → Q .normal a' w') :
    ∀ (n i : Nat) (a : Act) (w : World) (Z : Nat → Nat → Prop) (μ : Nat → Option Loc) (st : St) (fps : List Fp), i + n = al.length → evOps AP ih (base + i) (al.drop i) st = some (st', fps) → base + al.length ≤ st.nx → a.defers = defs →
      VRL w Z μ st.s a.tmps.toList → Inv B W0 Z0 st.g w Z μ → ZLe w0 w Zs Z → MLe μ0 μ → (∀ t, t < base → μ t = μ0 t) → (∀ j, i ≤ j → j < al.length → μ (base + j) = none) → (∀ t, st.nx ≤ t → μ t = none) →
      wpOps P ops Q (List.range' i n) a w
  | 0, i, a, w, Z, μ, st, fps, hn, h, hb, hd, hs, hi, hz, hm, ho, hf, hx => by
    have : al.drop i = [] := List.drop_eq_nil_of_le (by omega)
    rw [this] at h
    simp [evOps] at h
    obtain ⟨rfl, rfl⟩ := h
    exact hQ a w Z μ hd hs hi ⟨hz, hm, by omega, ho, hx⟩
  | n + 1, i, a, w, Z, μ, st, fps, hn, h, hb, hd, hs, hi, hz, hm, ho, hf, hx => by
    obtain ⟨c1, c2⟩ := compOpers_get _ _ hal
    have hil : i < ops.size := by simp at c1; omega
    obtain ⟨ao, k1, k2⟩ := c2 i ops[i] (by simp [hil])
    have hdrop : al.drop i = ao :: al.drop (i + 1) := by
      have hlt : i < al.length := by omega
      rw [List.drop_eq_getElem_cons hlt]
      congr 1
      exact Option.some.inj ((List.getElem?_eq_getElem hlt).symm.trans k1)
    rw [hdrop] at h
    simp only [evOps] at h
    split at h
    · rename_i st1 fp h1
      split at h
      · rename_i st2 fps2 h2
        simp at h
        obtain ⟨rfl, rfl⟩ := h
        rw [List.range'_succ, wpOps_cons]
        refine evOp_sound hE HC HP HI (by simp [hil]) k2 h1 hs hi (hf i (Nat.le_refl _) (by omega)) (by omega) hx fun a' w' Z' μ' d1 d2 d3 d4 d5 d6 d7 d8 => ?_
        exact plain_sound hE HC HP HI hal hQ n (i + 1) a' w' Z' μ' st1 fps2 (by omega) h2 (by omega) (d1.trans hd) d2 d3 (hz.trans d4) (hm.trans d5) (fun t ht => by rw [d7 t (by omega) (by omega)]; exact ho t ht)
          (fun j hj1 hj2 => by rw [d7 _ (by omega) (by omega)]; exact hf j (by omega) hj2) d8
      · cases h
    · cases h

/-! ### Regions that draw their order -/
def ordOf (ops : Array Oper) (i j : Nat) : Bool := ((Region.before ops).getD j 0).testBit i
end
end Go.Proofs.YtabfinhkoihhfaaGreat.Abs

/- Regions that draw their order. -/
namespace Go.Proofs.YtabfinhkoihhfaaGreat.Abs
open Go Go.RowKit
set_option linter.unusedVariables false
set_option linter.unusedSimpArgs false
set_option linter.unnecessarySimpa false

def befVal (acc : Array Nat) (o : Oper) : Nat := o.after.foldl (fun s e => if Region.binds .any e then s ||| 2 ^ e.on ||| acc.getD e.on 0 else s) 0
theorem befVal_bit (acc : Array Nat) (o : Oper) (i : Nat) (h : (befVal acc o).testBit i = true) : ∃ e ∈ o.after, Region.binds .any e = true ∧ (e.on = i ∨ (acc.getD e.on 0).testBit i = true) := by
  unfold befVal at h
  rw [← Array.foldl_toList] at h
  have key : ∀ (l : List Edge) (s : Nat), (l.foldl (fun s e => if Region.binds .any e then s ||| 2 ^ e.on ||| acc.getD e.on 0 else s) s).testBit i = true → s.testBit i = true ∨ ∃ e ∈ l, Region.binds .any e = true ∧ (e.on = i ∨ (acc.getD e.on 0).testBit i = true) := by
    intro l
    induction l with
    | nil => intro s h; exact .inl h
    | cons e l ih =>
      intro s h
      rw [List.foldl_cons] at h
      rcases ih _ h with h | ⟨e', h1, h2⟩
      · split at h
        · rename_i hb
          rw [Nat.testBit_or, Nat.testBit_or, Bool.or_eq_true, Bool.or_eq_true] at h
          rcases h with (h | h) | h
          · exact .inl h
          · right
            rw [Nat.testBit_two_pow] at h
            exact ⟨e, by simp, hb, .inl (by simpa using h)⟩
          · exact .inr ⟨e, by simp, hb, .inr h⟩
        · exact .inl h
      · exact .inr ⟨e', by simp [h1], h2⟩
  rcases key _ _ h with h | ⟨e, h1, h2⟩
  · simp at h
  · exact ⟨e, by simpa using h1, h2⟩
theorem before_fold : ∀ (l : List Oper) (acc : Array Nat), (l.foldl (fun acc o => acc.push (befVal acc o)) acc).size = acc.size + l.length ∧ (∀ k, k < acc.size → (l.foldl (fun acc o => acc.push (befVal acc o)) acc).getD k 0 = acc.getD k 0) ∧
    ∀ (j : Nat) o, l[j]? = some o → ∃ acc' : Array Nat, acc'.size = acc.size + j ∧ (l.foldl (fun acc o => acc.push (befVal acc o)) acc).getD (acc.size + j) 0 = befVal acc' o ∧ ∀ k, k < acc.size + j → acc'.getD k 0 = (l.foldl (fun acc o => acc.push (befVal acc o)) acc).getD k 0
  | [], acc => by simp
  | x :: l, acc => by
    obtain ⟨h1, h2, h3⟩ := before_fold l (acc.push (befVal acc x))
    simp only [List.foldl_cons, Array.size_push] at h1 h2 h3 ⊢
    have hp : ∀ k, k < acc.size → (acc.push (befVal acc x)).getD k 0 = acc.getD k 0 := fun k hk => by
      simp only [Array.getD_eq_getD_getElem?, Array.getElem?_push]
      rw [if_neg (by omega)]
    refine ⟨by rw [h1]; simp; omega, fun k hk => (h2 k (by omega)).trans (hp k hk), fun j o hj => ?_⟩
    cases j with
    | zero =>
      simp at hj; subst hj
      refine ⟨acc, rfl, ?_, fun k hk => ((h2 k (by omega)).trans (hp k hk)).symm⟩
      rw [Nat.add_zero, h2 _ (by omega)]
      simp [Array.getD_eq_getD_getElem?]
    | succ j =>
      simp at hj
      obtain ⟨acc', k1, k2, k3⟩ := h3 j o hj
      refine ⟨acc', by omega, ?_, fun k hk => k3 k (by omega)⟩
      rw [← k2]; congr 1; omega
theorem before_spec {ops : Array Oper} {j : Nat} {o : Oper} (ho : ops[j]? = some o) {i : Nat} (h : ordOf ops i j = true) : ∃ e ∈ o.after, Region.binds .any e = true ∧ (e.on = i ∨ (e.on < j ∧ ordOf ops i e.on = true)) := by
  have hb : Region.before ops = ops.toList.foldl (fun acc o => acc.push (befVal acc o)) #[] := by
    unfold Region.before; rw [← Array.foldl_toList]; rfl
  obtain ⟨_, _, h3⟩ := before_fold ops.toList #[]
  obtain ⟨acc', k1, k2, k3⟩ := h3 j o (by simpa using ho)
  simp only [Array.size_empty, Nat.zero_add] at k1 k2 k3
  unfold ordOf at h
  rw [hb, k2] at h
  obtain ⟨e, e1, e2, e3⟩ := befVal_bit acc' o i h
  refine ⟨e, e1, e2, e3.imp id fun hbit => ?_⟩
  have hlt : e.on < j := by
    rcases Nat.lt_or_ge e.on acc'.size with h | h
    · omega
    · rw [Array.getD_eq_getD_getElem?, Array.getElem?_eq_none h] at hbit; simp at hbit
  refine ⟨hlt, ?_⟩
  unfold ordOf
  rw [hb, ← k3 _ hlt]; exact hbit

/-- What has been done is closed under what must stand ahead. -/
def Closed (ops : Array Oper) (listed : Array Bool) : Prop := ∀ (k : Nat) o, listed.getD k false = true → ops[k]? = some o → ∀ e ∈ o.after, Region.binds .any e = true → listed.getD e.on false = true
theorem listed_preds {ops : Array Oper} {listed : Array Bool} (hc : Closed ops listed) : ∀ (j : Nat) (o : Oper), ops[j]? = some o → (∀ e ∈ o.after, Region.binds .any e = true → listed.getD e.on false = true) → ∀ i, ordOf ops i j = true → listed.getD i false = true := by
  intro j
  induction j using Nat.strongRecOn with
  | _ j ih =>
    intro o ho he i hi
    obtain ⟨e, e1, e2, e3⟩ := before_spec ho hi
    rcases e3 with rfl | ⟨hlt, hb⟩
    · exact he e e1 e2
    · have hl := he e e1 e2
      cases ho2 : ops[e.on]? with
      | none =>
        have : ops.size ≤ e.on := Array.getElem?_eq_none_iff.1 ho2
        have := (Array.getElem?_eq_some_iff.1 ho).1
        omega
      | some o2 => exact ih e.on hlt o2 ho2 (fun e' h1 h2 => hc e.on o2 hl ho2 e' h1 h2) i hb

def AOp.isS : AOp → Bool
  | .mv _ | .pick .. | .build .. | .bin .. | .beq .. | .aeq .. | .un .. | .conv .. | .mkfn .. | .slSl .. | .faddr .. | .field .. | .iarr .. | .isl .. | .index .. | .extract .. | .len _ | .mn _ | .mx _ | .nilchk _ => true
  | _ => false
def AOp.isR : AOp → Bool
  | .load .. | .slArr .. => true
  | _ => false
def quiet (x y : AOp) : Bool := x.isS || y.isS || (x.isR && y.isR)

theorem pureR_eq {v : T} {r : Res} (h : pureR v = some r) : r.rd = [] ∧ r.ed = [] := by
  unfold pureR at h; obtain rfl := Option.some.inj h; exact ⟨rfl, rfl⟩
theorem isS_ok {op : AOp} {fr : Nat} {s : List T} {g : Mem} {r : Res} (h : op.isS = true) (hr : opRes op fr s g = some r) : r.rd = [] ∧ r.ed = [] := by
  cases op <;> simp [AOp.isS] at h <;> simp only [opRes] at hr
  all_goals
    repeat' (split at hr)
    all_goals first | exact pureR_eq hr | (cases hr; done)
theorem isR_ok {op : AOp} {fr : Nat} {s : List T} {g : Mem} {r : Res} (h : op.isR = true) (hr : opRes op fr s g = some r) : r.ed = [] := by
  cases op <;> simp [AOp.isR] at h <;> simp only [opRes] at hr
  all_goals
    repeat' (split at hr)
    all_goals first | (exact (pureR_eq hr).2) | (cases hr; done) | (obtain rfl := Option.some.inj hr; rfl)
theorem callee_S {op : AOp} (h : op.isS = true ∨ op.isR = true) (s : List T) : callee s op = none := by
  cases op <;> simp [AOp.isS, AOp.isR] at h <;> rfl
theorem evOp_S {AP : AProg} {ih : Run} {fr : Nat} {o : AOper} {st st' : St} {fp : Fp} (h : evOp AP ih fr o st = some (st', fp)) : (o.op.isS = true → fp = some ([], [])) ∧ (o.op.isR = true → ∃ rd, fp = some (rd, [])) := by
  unfold evOp at h
  split at h
  · rename_i r hr
    simp at h
    obtain ⟨_, rfl⟩ := h
    unfold evG at hr
    split at hr
    · unfold evR at hr
      refine ⟨fun hs => ?_, fun hs => ?_⟩
      · rw [callee_S (.inl hs)] at hr
        obtain ⟨k1, k2⟩ := isS_ok hs hr
        rw [k1, k2]; rfl
      · rw [callee_S (.inr hs)] at hr
        have := isR_ok hs hr
        exact ⟨r.rd, by rw [this]; rfl⟩
    · obtain rfl := Option.some.inj hr
      exact ⟨fun _ => rfl, fun _ => ⟨[], rfl⟩⟩
    · cases hr
  · split at h
    · unfold evI at h
      refine ⟨fun hs => ?_, fun hs => ?_⟩
      · rw [callee_S (.inl hs)] at h; simp at h
      · rw [callee_S (.inr hs)] at h; simp at h
    · cases h
theorem quiet_ind {x y : AOp} {p q : Fp} (h : quiet x y = true) (hx : (x.isS = true → p = some ([], [])) ∧ (x.isR = true → ∃ rd, p = some (rd, []))) (hy : (y.isS = true → q = some ([], [])) ∧ (y.isR = true → ∃ rd, q = some (rd, []))) : Ind p q := by
  unfold quiet at h
  simp only [Bool.or_eq_true, Bool.and_eq_true] at h
  rcases h with (h | h) | ⟨h1, h2⟩
  · rw [hx.1 h]
    cases q with
    | none => exact ⟨rfl, rfl⟩
    | some q => exact ⟨by simp, by simp, by simp⟩
  · rw [hy.1 h]
    cases p with
    | none => exact ⟨rfl, rfl⟩
    | some q => exact ⟨by simp, by simp, by simp⟩
  · obtain ⟨r1, rfl⟩ := hx.2 h1
    obtain ⟨r2, rfl⟩ := hy.2 h2
    exact ⟨by simp, by simp, by simp⟩
theorem apart_ind {p q : Fp} (h : Fp.apart p q = true) : Ind p q := by
  unfold Fp.apart at h
  split at h
  · simp only [Bool.and_eq_true, disj, List.all_eq_true, Bool.not_eq_true', List.contains_eq_mem, decide_eq_false_iff_not] at h
    exact ⟨h.1.1, h.1.2, h.2⟩
  · cases h
theorem evOps_fp {AP : AProg} {ih : Run} : ∀ (al : List AOper) (fr : Nat) (st st' : St) (fps : List Fp), evOps AP ih fr al st = some (st', fps) →
    ∀ (i : Nat) ao, al[i]? = some ao → ∃ fp, fps[i]? = some fp ∧ (ao.op.isS = true → fp = some ([], [])) ∧ (ao.op.isR = true → ∃ rd, fp = some (rd, []))
  | [], fr, st, st', fps, h => by simp
  | o :: al, fr, st, st', fps, h => by
    simp only [evOps] at h
    split at h
    · rename_i st1 fp h1
      split at h
      · rename_i st2 fps2 h2
        simp at h
        obtain ⟨_, rfl⟩ := h
        intro i ao hi
        cases i with
        | zero => simp at hi; subst hi; exact ⟨fp, by simp, evOp_S h1⟩
        | succ i => simp at hi; obtain ⟨q, k1, k2⟩ := evOps_fp al _ st1 st2 fps2 h2 i ao hi; exact ⟨q, by simpa using k1, k2⟩
      · cases h
    · cases h

/-- The region's form is such that its order is of no matter, if the pairs chk don't touch one another. -/
def drawOk (ops : Array Oper) (al : List AOper) (chk : List (Nat × Nat)) : Bool :=
  (ops.toList.zipIdx.all fun (o, j) => o.after.toList.all fun e => !Region.binds .any e || decide (e.on < j)) &&
  (al.zipIdx.all fun (y, j) => al.zipIdx.all fun (x, i) => !decide (i < j) || ordOf ops i j || (x.apart y && (quiet x.op y.op || chk.contains (i, j))))
theorem drawOk_spec {ops : Array Oper} {al : List AOper} {chk : List (Nat × Nat)} (h : drawOk ops al chk = true) :
    (∀ (j : Nat) o, ops[j]? = some o → ∀ e ∈ o.after, Region.binds .any e = true → e.on < j) ∧
    (∀ (i j : Nat) x y, i < j → al[i]? = some x → al[j]? = some y → ordOf ops i j = false → x.apart y = true ∧ (quiet x.op y.op = true ∨ (i, j) ∈ chk)) := by
  unfold drawOk at h
  simp only [Bool.and_eq_true, List.all_eq_true] at h
  obtain ⟨h1, h2⟩ := h
  refine ⟨fun j o ho e he hb => ?_, fun i j x y hij hx hy ho => ?_⟩
  · have := h1 (o, j) (List.mem_zipIdx_iff_getElem?.2 (by simpa using ho)) e (by simpa using he)
    simp [hb] at this
    exact this
  · have := h2 (y, j) (List.mem_zipIdx_iff_getElem?.2 hy) (x, i) (List.mem_zipIdx_iff_getElem?.2 hx)
    simp [hij, ho] at this
    exact this

section
variable {P : Program} {ops : Array Oper} {B : Nat} {W0 : World} {Z0 : Nat → Nat → Prop} {AP : AProg} {ih : Run}
theorem draw_sound (hE : Enters P AP) (HC : ClonesOk P AP) (HP : PureOk P AP ih) (HI : ImpOk P AP ih) {al : List AOper} (hal : compOpers P ops ops.toList = some al) {chk : List (Nat × Nat)} (hok : drawOk ops al chk = true) {base : Nat} {st' : St} {Q : Exit → Act → World → Prop}
    {w0 : World} {Zs : Nat → Nat → Prop} {μ0 : Nat → Option Loc} {defs : List Deferred}
    (hQ : ∀ a' w' Z' μ', a'.defers = defs → VRL w' Z' μ' st'.s a'.tmps.toList → Inv B W0 Z0 st'.g w' Z' μ' → Pr w0 Zs μ0 base w' Z' μ' st'.nx → Q .normal a' w') :
    ∀ (n : Nat) (l : List (AOper × Nat)) (listed : Array Bool) (a : Act) (w : World) (Z : Nat → Nat → Prop) (μ : Nat → Option Loc) (st : St) (tr : List (Nat × Fp)), l.length = n → listed.size = ops.size → l.Pairwise (fun x y => x.2 < y.2) → (∀ x ∈ l, al[x.2]? = some x.1) →
      (∀ i, i < ops.size → (listed.getD i true = false ↔ ∃ x ∈ l, x.2 = i)) → Closed ops listed → evL AP ih base l st = some (st', tr) → tr.Pairwise (fun x y => ordOf ops x.1 y.1 = false → Ind x.2 y.2) →
      base + al.length ≤ st.nx → a.defers = defs → VRL w Z μ st.s a.tmps.toList → Inv B W0 Z0 st.g w Z μ → ZLe w0 w Zs Z → MLe μ0 μ → (∀ t, t < base → μ t = μ0 t) → (∀ x ∈ l, μ (base + x.2) = none) → (∀ t, st.nx ≤ t → μ t = none) →
      wpAny P .any ops Q n listed a w := by
  obtain ⟨d1, d2⟩ := drawOk_spec hok
  obtain ⟨c1, c2⟩ := compOpers_get _ _ hal
  have c1' : al.length = ops.size := by simpa using c1
  have dflt : ∀ {listed : Array Bool} {i : Nat} (b c : Bool), i < listed.size → listed.getD i b = listed.getD i c := fun {listed i} b c h => by
    simp [Array.getD_eq_getD_getElem?, h]
  intro n
  induction n with
  | zero =>
    intro l listed a w Z μ st tr hn hsz hp hl hli hc h htr hb hd hs hi hz hm ho hf hx
    obtain rfl := List.eq_nil_of_length_eq_zero hn
    simp [evL] at h
    obtain ⟨rfl, rfl⟩ := h
    refine ⟨?_, hQ a w Z μ hd hs hi ⟨hz, hm, by omega, ho, hx⟩⟩
    unfold Region.ready
    refine List.filter_eq_nil_iff.2 fun i hi' => ?_
    have := mt (hli i (by simpa using hi')).1 (by simp)
    simp at this
    simp [this]
  | succ n IH =>
    intro l listed a w Z μ st tr hn hsz hp hl hli hc h htr hb hd hs hi hz hm ho hf hx
    refine ⟨fun hr => ?_, fun i hir => ?_⟩
    · exfalso
      cases l with
      | nil => simp at hn
      | cons x l =>
        have hx1 := hl x (by simp)
        have hlt : x.2 < al.length := (List.getElem?_eq_some_iff.1 hx1).1
        have hmem : x.2 ∈ Region.ready .any ops listed := by
          unfold Region.ready
          refine List.mem_filter.2 ⟨by simp; omega, ?_⟩
          have h1 := (hli x.2 (by omega)).2 ⟨x, by simp, rfl⟩
          have h2 : ops[x.2]? = some (ops[x.2]'(by omega)) := Array.getElem?_eq_getElem (by omega)
          rw [h1, h2]
          simp only [Bool.not_false, Bool.true_and, Option.map_some, Option.getD_some]
          rw [Array.all_eq_true_iff_forall_mem]
          intro e he
          cases hbd : Region.binds .any e with
          | false => rfl
          | true =>
            have hlt2 := d1 x.2 _ h2 e he hbd
            have h3 : listed.getD e.on true = true := by
              cases h4 : listed.getD e.on true with
              | true => rfl
              | false =>
                obtain ⟨y, hy, hye⟩ := (hli e.on (by omega)).1 h4
                rcases List.mem_cons.1 hy with rfl | hy
                · omega
                · have := (List.pairwise_cons.1 hp).1 y hy; omega
            rw [dflt false true (by omega), h3]; rfl
        rw [hr] at hmem; cases hmem
    · unfold Region.ready at hir
      obtain ⟨hr1, hr2⟩ := List.mem_filter.1 hir
      have his : i < ops.size := by simpa using hr1
      have ho1 : ops[i]? = some ops[i] := Array.getElem?_eq_getElem his
      rw [ho1] at hr2
      simp only [Bool.and_eq_true, Bool.not_eq_true', Option.map_some, Option.getD_some, Array.all_eq_true_iff_forall_mem] at hr2
      obtain ⟨hr3, hr4⟩ := hr2
      have hedges : ∀ e ∈ ops[i].after, Region.binds .any e = true → listed.getD e.on false = true := fun e he hb => by
        have := hr4 e he
        rw [hb] at this
        simpa using this
      obtain ⟨x, hxl, hxi⟩ := (hli i his).1 hr3
      obtain ⟨ao, j⟩ := x
      simp only at hxi; subst hxi
      obtain ⟨l1, l2, rfl⟩ := List.append_of_mem hxl
      have hpred := listed_preds hc j ops[j] ho1 hedges
      rw [List.pairwise_append] at hp
      obtain ⟨hp1, hp2, hp3⟩ := hp
      have hp2' := List.pairwise_cons.1 hp2
      have hao := hl (ao, j) (by simp)
      have hlst : ∀ y ∈ l1 ++ (ao, j) :: l2, listed.getD y.2 false = false := fun y hy => by
        have h1 := hl y hy
        have h2 : y.2 < al.length := (List.getElem?_eq_some_iff.1 h1).1
        rw [dflt false true (by omega)]
        exact (hli y.2 (by omega)).2 ⟨y, hy, rfl⟩
      have hno : ∀ y ∈ l1, ordOf ops y.2 j = false := fun y hy => by
        cases hoo : ordOf ops y.2 j with
        | false => rfl
        | true => have := hpred _ hoo; rw [hlst y (by simp [hy])] at this; cases this
      have hna : ∀ y ∈ l1, ordOf ops y.2 j = false → y.1.apart ao = true := fun y hy hoo =>
        (d2 y.2 j y.1 ao (hp3 y hy (ao, j) (by simp)) (hl y (by simp [hy])) hao hoo).1
      obtain ⟨st1, fp, tr', q1, q2, q3, q4⟩ := move_front l1 st st' tr h hno hna htr
      obtain ⟨ao', k1, k2⟩ := c2 j ops[j] (by simpa using ho1)
      obtain rfl : ao' = ao := by rw [hao] at k1; exact (Option.some.inj k1).symm
      have hjal : j < al.length := by omega
      refine evOp_sound hE HC HP HI ho1 k2 q1 hs hi (hf (ao', j) (by simp)) (by omega) hx fun a' w' Z' μ' e1 e2 e3 e4 e5 e6 e7 e8 => ?_
      refine IH (l1 ++ l2) (listed.setIfInBounds j true) a' w' Z' μ' st1 tr' (by simp at hn ⊢; omega) (by simp [hsz]) ?_ (fun y hy => hl y (by rcases List.mem_append.1 hy with h | h <;> simp [h])) ?_ ?_ q2 (htr.sublist q4) (by omega) (e1.trans hd) e2 e3 (hz.trans e4) (hm.trans e5)
        (fun t ht => by rw [e7 t (by omega) (by omega)]; exact ho t ht) (fun y hy => ?_) e8
      · rw [List.pairwise_append]
        exact ⟨hp1, hp2'.2, fun y hy z hz => hp3 y hy z (by simp [hz])⟩
      · intro q hq
        have hget : (listed.setIfInBounds j true).getD q true = if q = j then true else listed.getD q true := by
          simp only [Array.getD_eq_getD_getElem?, Array.getElem?_setIfInBounds]
          split
          · rename_i e; subst e; simp [hsz, his]
          · rename_i e; rw [if_neg (fun h => e h.symm)]
        rw [hget]
        split
        · rename_i e; subst e
          simp only [Bool.true_eq_false, false_iff, not_exists, not_and]
          intro y hy hyq
          rcases List.mem_append.1 hy with hy | hy
          · have := hp3 y hy (ao', q) (by simp); omega
          · have := hp2'.1 y hy; simp only at this; omega
        · rename_i e
          rw [hli q hq]
          constructor
          · rintro ⟨y, hy, rfl⟩
            rcases List.mem_append.1 hy with hy | hy
            · exact ⟨y, by simp [hy], rfl⟩
            · rcases List.mem_cons.1 hy with rfl | hy
              · exact absurd rfl e
              · exact ⟨y, by simp [hy], rfl⟩
          · rintro ⟨y, hy, rfl⟩
            rcases List.mem_append.1 hy with hy | hy <;> exact ⟨y, by simp [hy], rfl⟩
      · intro k o hk hok' e he hb
        have hget : ∀ q, (listed.setIfInBounds j true).getD q false = if q = j then true else listed.getD q false := fun q => by
          simp only [Array.getD_eq_getD_getElem?, Array.getElem?_setIfInBounds]
          split
          · rename_i e; subst e; simp [hsz, his]
          · rename_i e; rw [if_neg (fun h => e h.symm)]
        rw [hget] at hk ⊢
        split
        · rfl
        · split at hk
          · rename_i e2; subst e2
            rw [ho1] at hok'; obtain rfl := Option.some.inj hok'
            exact hedges e he hb
          · exact hc k o hk hok' e he hb
      · have hne : y.2 ≠ j := by
          rcases List.mem_append.1 hy with hy | hy
          · have := hp3 y hy (ao', j) (by simp); simp only at this; omega
          · have := hp2'.1 y hy; simp only at this; omega
        have h1 := hl y (by rcases List.mem_append.1 hy with h | h <;> simp [h])
        have h2 : y.2 < al.length := (List.getElem?_eq_some_iff.1 h1).1
        rw [e7 _ (by omega) (by omega)]
        exact hf y (by rcases List.mem_append.1 hy with h | h <;> simp [h])
end
end Go.Proofs.YtabfinhkoihhfaaGreat.Abs
