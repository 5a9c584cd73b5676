/- Cuts of slices; append and copy; the least and the greatest. -/
import Derived.Test.YthanlobfjpjegaaA9
import Derived.Deep.Upon
namespace Go.Proofs.Ythanlobfjpjegaa.Abs
open Go Go.RowKit
set_option linter.unusedVariables false
set_option linter.unusedSimpArgs false

def IsB (v : Option Value) (d n : Nat) : Prop := (v = none ∧ n = d) ∨ ∃ k, v = some (.int k (n : Int))
theorem bounds1 {P : Program} {w : World} {isS : Bool} {len cap l h : Nat} {lo hi : Option Value} (hl : IsB lo 0 l) (hh : IsB hi len h) (h1 : l ≤ h) (h2 : h ≤ cap) : (Instr.sliceBounds isS len cap lo hi none).run P w = .ok (l, h, cap) w := by
  have e1 : (0 : Int) ≤ (h : Int) ∧ (h : Int) ≤ (cap : Int) := by omega
  have e2 : (0 : Int) ≤ (l : Int) ∧ (l : Int) ≤ (h : Int) := by omega
  rcases hl with ⟨rfl, rfl⟩ | ⟨k, rfl⟩ <;> rcases hh with ⟨rfl, rfl⟩ | ⟨k', rfl⟩ <;> simp [Instr.sliceBounds, Instr.sliceBound, asIntOf, h1, h2]
theorem bounds2 {P : Program} {w : World} {isS : Bool} {len cap l h m : Nat} {lo hi mx : Option Value} (hl : IsB lo 0 l) (hh : ∃ k, hi = some (.int k (h : Int))) (hm : ∃ k, mx = some (.int k (m : Int))) (h1 : l ≤ h) (h2 : h ≤ m) (h3 : m ≤ cap) :
    (Instr.sliceBounds isS len cap lo hi mx).run P w = .ok (l, h, m) w := by
  obtain ⟨k', rfl⟩ := hh
  obtain ⟨k'', rfl⟩ := hm
  rcases hl with ⟨rfl, rfl⟩ | ⟨k, rfl⟩ <;> simp [Instr.sliceBounds, Instr.sliceBound, asIntOf, h1, h2, h3]

section
variable {P : Program} {o : Oper} {a : Act} {B : Nat} {W0 w : World} {Z0 Z : Nat → Nat → Prop} {g : Mem} {μ : Nat → Option Loc} {fr : Nat} {r : Res} {s : List T}

theorem bnd_ok (hs : VRL w Z μ s a.tmps.toList) {x : Option Operand} {y : Option Opd} (h : opdo x = some y) {d n : Nat} (hb : bnd (y.map (rho s)) d = some n) : IsB (x.map a.eval) d n ∧ (y.isSome = true → ∃ k, x.map a.eval = some (.int k (n : Int))) ∧ y.isSome = x.isSome := by
  cases x with
  | none =>
    simp [opdo] at h; subst h
    simp [bnd] at hb; subst hb
    exact ⟨.inl ⟨rfl, rfl⟩, by simp, rfl⟩
  | some x =>
    simp only [opdo] at h
    split at h
    · rename_i y' hy
      obtain rfl := Option.some.inj h
      simp only [Option.map_some, bnd] at hb
      obtain ⟨k, hk⟩ := natOf_ok hb
      have hv := vr_int (rho_ok hs hy) hk
      have : (some x).map a.eval = some (.int k (n : Int)) := by simp [hv]
      exact ⟨.inr ⟨k, this⟩, fun _ => ⟨k, this⟩, rfl⟩
    · cases h

/-- A slice of a slice. -/
theorem slsl_ok (hi : Inv B W0 Z0 g w Z μ) (hs : VRL w Z μ s a.tmps.toList) {t e : TypeId} {x : Operand} {lo hh mx : Option Operand} {n : Nat} {x' : Opd} {lo' hh' mx' : Option Opd} (ho : o.op = .slice t x lo hh mx) (ht : P.underlying t = some (.slice e))
    (h1 : szOf P e = some n) (hx : opd x = some x') (hlo : opdo lo = some lo') (hhi : opdo hh = some hh') (hmx : opdo mx = some mx') (hmh : (mx'.isNone || hh'.isSome) = true) (hr : opRes (.slSl n x' lo' hh' mx') fr s g = some r) : OpOk P o a B W0 Z0 g w Z μ fr r := by
  have hv := rho_ok hs hx
  obtain ⟨ti, q1, q2, q3⟩ := sz_ok h1
  have core : ∀ {ad : Option Addr} {len cap l h m : Nat}, a.eval x = .slice ad len cap → len ≤ cap → bnd (lo'.map (rho s)) 0 = some l → bnd (hh'.map (rho s)) len = some h → bnd (mx'.map (rho s)) len = some m → l ≤ h → h ≤ m → m ≤ len →
      ∃ M, (M = if mx'.isSome then m else cap) ∧ (execOp a.eval o).run P w = .ok (.value (.slice (if M = l then ad else ad.map (·.add (l * n))) (h - l) (M - l))) w := by
    intro ad len cap l h m he hc b1 b2 b3 c1 c2 c3
    obtain ⟨p1, p2, p3⟩ := bnd_ok hs hlo b1
    obtain ⟨r1, r2, r3⟩ := bnd_ok hs hhi b2
    obtain ⟨s1, s2, s3⟩ := bnd_ok hs hmx b3
    refine ⟨if mx'.isSome then m else cap, rfl, ?_⟩
    have hb : (Instr.sliceBounds true len cap (lo.map a.eval) (hh.map a.eval) (mx.map a.eval)).run P w = .ok (l, h, if mx'.isSome then m else cap) w := by
      cases hm : mx' with
      | none =>
        have : mx = none := by have := s3; rw [hm] at this; simpa using this.symm
        subst this
        simp only [Option.map_none, Option.isSome_none, Bool.false_eq_true, if_false]
        exact bounds1 p1 r1 c1 (by omega)
      | some q =>
        rw [hm] at hmh
        simp only [Option.isNone_some, Bool.false_or] at hmh
        simp only [Option.isSome_some, if_true]
        exact bounds2 p1 (r2 hmh) (s2 (by rw [hm]; rfl)) c1 c2 (by omega)
    unfold execOp; rw [ho]; simp only [he]
    refine run_v ?_
    simp [Instr.sliceAt, run_underlying ht, Instr.slice, hb, sizeOf, typeInfo, q1, q2]
  simp only [opRes] at hr
  split at hr
  · rename_i full len c e'
    rw [e'] at hv
    split at hr
    · rename_i l h m b1 b2 b3
      split at hr
      · rename_i hc
        obtain ⟨c1, c2, c3⟩ := hc
        obtain rfl := Option.some.inj hr
        simp only [VR, VI] at hv
        obtain ⟨ad, cap, j1, j2, j3, j4⟩ := hv
        obtain ⟨M, hM, hrun⟩ := core j1 j2 b1 b2 b3 c1 c2 c3
        refine opok_quiet hi (goes_value hrun) ?_
        have hMh : h ≤ M := by rw [hM]; split <;> omega
        simp only [VR, VI]
        refine ⟨_, M - l, rfl, by omega, ?_, ?_⟩
        · intro hf
          split at hf
          · rename_i hms; rw [hM, if_pos hms]; have := beq_iff_eq.1 hf; omega
          · rename_i hms
            rw [hM, if_neg hms]
            simp only [Bool.and_eq_true, beq_iff_eq] at hf
            have := j3 hf.1; omega
        · by_cases h0 : cut c (l * n) ((h - l) * n) = []
          · exact .inl h0
          · right
            have hpos : l < h := by
              rcases Nat.lt_or_ge l h with hlt | hge
              · exact hlt
              · exfalso; apply h0; unfold cut; rw [show h - l = 0 by omega]; simp
            rcases j4 with j4 | ⟨b, p, rfl, j5⟩
            · subst j4; exact absurd (by simp [cut]) h0
            · rw [if_neg (by omega)]
              exact ⟨b, p + l * n, by simp [add_at], j5.cut _ _⟩
      · cases hr
    · cases hr
  · rename_i t' off len es' e'
    rw [e'] at hv
    split at hr
    · rename_i l h m b1 b2 b3
      split at hr
      · rename_i hc
        obtain ⟨c1, c2, c3, c4⟩ := hc
        subst c4
        obtain rfl := Option.some.inj hr
        simp only [VR] at hv
        obtain ⟨ad, cap, mm, j1, j2, j3, j4, j5⟩ := hv
        obtain ⟨M, hM, hrun⟩ := core j1 j2 b1 b2 b3 c1 c2 c3
        refine opok_quiet hi (goes_value hrun) ?_
        have hMh : h ≤ M := by rw [hM]; split <;> omega
        have hMc : M ≤ cap := by rw [hM]; split <;> omega
        simp only [VR]
        refine ⟨_, M - l, mm, rfl, by omega, j3, fun hp => ?_, ?_⟩
        · rw [if_neg (by omega), j4 (by omega)]
          simp [add_at, Nat.add_assoc]
        · have : off + l * es' + (M - l) * es' = off + M * es' := by rw [Nat.add_assoc, ← Nat.add_mul, show l + (M - l) = M by omega]
          rw [this]
          have := Nat.mul_le_mul_right es' hMc
          omega
      · cases hr
    · cases hr
  · cases hr

/-- A slice of an array. -/
theorem slarr_ok (hi : Inv B W0 Z0 g w Z μ) (hs : VRL w Z μ s a.tmps.toList) {t e : TypeId} {x : Operand} {lo hh mx : Option Operand} {N n : Nat} {x' : Opd} {lo' hh' mx' : Option Opd} (ho : o.op = .slice t x lo hh mx) (ht : P.underlying t = some (.array N e))
    (h1 : szOf P e = some n) (hx : opd x = some x') (hlo : opdo lo = some lo') (hhi : opdo hh = some hh') (hmx : opdo mx = some mx') (hmh : (mx'.isNone || hh'.isSome) = true) (hr : opRes (.slArr N n x' lo' hh' mx') fr s g = some r) : OpOk P o a B W0 Z0 g w Z μ fr r := by
  have hv := rho_ok hs hx
  obtain ⟨ti, q1, q2, q3⟩ := sz_ok h1
  simp only [opRes] at hr
  split at hr
  · rename_i l h m b1 b2 b3
    split at hr
    · rename_i hc
      obtain ⟨c1, c2, c3⟩ := hc
      obtain ⟨p1, p2, p3⟩ := bnd_ok hs hlo b1
      obtain ⟨r1, r2, r3⟩ := bnd_ok hs hhi b2
      obtain ⟨s1, s2, s3⟩ := bnd_ok hs hmx b3
      have hb : (Instr.sliceBounds false N N (lo.map a.eval) (hh.map a.eval) (mx.map a.eval)).run P w = .ok (l, h, m) w := by
        cases hm : mx' with
        | none =>
          have : mx = none := by have := s3; rw [hm] at this; simpa using this.symm
          subst this
          have : m = N := by rw [hm] at b3; simpa [bnd] using b3.symm
          subst this
          exact bounds1 p1 r1 c1 c2
        | some q =>
          rw [hm] at hmh
          simp only [Option.isNone_some, Bool.false_or] at hmh
          exact bounds2 p1 (r2 hmh) (s2 (by rw [hm]; rfl)) c1 c2 c3
      have hrun : ∀ b p, a.eval x = .pointer (some ⟨b, p, none⟩) → (execOp a.eval o).run P w = .ok (.value (.slice (some (if m = l then ⟨b, p, none⟩ else ⟨b, p + l * n, none⟩)) (h - l) (m - l))) w := fun b p he => by
        unfold execOp; rw [ho]; simp only [he]
        refine run_v ?_
        simp [Instr.sliceAt, run_underlying ht, Instr.sureAddr, hb, sizeOf, typeInfo, q1, q2, add_at]
      split at hr
      · rename_i t' off e'
        rw [e'] at hv; simp only [VR] at hv
        obtain ⟨mm, j1, j2⟩ := hv
        split at hr
        · rename_i c hcg
          split at hr
          · rename_i hn
            obtain rfl := Option.some.inj hr
            obtain ⟨m', k1, k2, k3, k4, k5, k6, k7⟩ := hi.blk _ _ hcg
            obtain rfl : m' = mm := by rw [j1] at k1; exact (Option.some.inj k1).symm
            refine opok_quiet hi (goes_value (hrun _ _ j2)) ?_
            simp only [VR]
            refine ⟨_, m - l, m', rfl, by omega, j1, fun hp => ?_, ?_⟩
            · rw [if_neg (by omega)]; simp [Nat.add_assoc]
            · have : off + l * n + (m - l) * n = off + m * n := by rw [Nat.add_assoc, ← Nat.add_mul, show l + (m - l) = m by omega]
              rw [this]
              have := Nat.mul_le_mul_right n c3
              omega
          · cases hr
        · cases hr
      · rename_i c off e'
        rw [e'] at hv; simp only [VR, VI] at hv
        obtain ⟨b, p, j1, j2⟩ := hv
        split at hr
        · obtain rfl := Option.some.inj hr
          refine opok_quiet hi (goes_value (hrun _ _ j1)) ?_
          simp only [VR, VI]
          refine ⟨_, m - l, rfl, by omega, fun hf => by have := beq_iff_eq.1 hf; omega, ?_⟩
          by_cases h0 : cut c (off + l * n) ((h - l) * n) = []
          · exact .inl h0
          · right
            have hpos : l < h := by
              rcases Nat.lt_or_ge l h with hlt | hge
              · exact hlt
              · exfalso; apply h0; unfold cut; rw [show h - l = 0 by omega]; simp
            rw [if_neg (by omega)]
            exact ⟨b, p + (off + l * n), by simp [Nat.add_assoc], j2.cut _ _⟩
        · cases hr
      · cases hr
    · cases hr
  · cases hr

/-- What append and copy read. -/
theorem src_ok (hi : Inv B W0 Z0 g w Z μ) {es : Nat} {y : T} {v : Value} {n : Nat} {new : List T} {rd : List Nat} (h : cellsOf g es y = some (n, new, rd)) (hv : VR w Z μ y v) (hes : 0 < es) (hn : new.length = n * es) (hf : allLeaf new = true) :
    ∃ ad cap news, v = .slice ad n cap ∧ VRL w Z μ new news ∧ (∀ j u, news[j]? = some u → ∀ b p, ad = some ⟨b, p, none⟩ → w.cell? ⟨b, p + j, none⟩ = some u) ∧ (0 < n → ∃ b p, ad = some ⟨b, p, none⟩) ∧ (∀ u ∈ news, u.oneCell' = true) ∧ news.length = n * es := by
  have one : ∀ news : List Value, VRL w Z μ new news → ∀ u ∈ news, u.oneCell' = true := fun news hl u hm => by
    obtain ⟨i, hil, rfl⟩ := List.getElem_of_mem hm
    have hb : i < new.length := by have := hl.len; omega
    obtain ⟨v, q1, q2⟩ := hl.get (List.getElem?_eq_getElem hb)
    rw [List.getElem?_eq_getElem hil] at q1
    rw [Option.some.inj q1]
    exact q2.oneCell (List.all_eq_true.1 hf _ (List.getElem_mem hb))
  unfold cellsOf at h
  split at h
  · rename_i full len c
    simp at h; obtain ⟨rfl, rfl, rfl⟩ := h
    simp only [VR, VI] at hv
    obtain ⟨ad, cap, j1, j2, j3, j4⟩ := hv
    rcases j4 with j4 | ⟨b, p, rfl, j5⟩
    · subst j4
      have : len = 0 := by
        rcases Nat.eq_zero_or_pos len with h | h
        · exact h
        · have := Nat.mul_pos h hes; simp at hn; omega
      subst this
      exact ⟨ad, cap, [], j1, by simp [VRL], by simp, by simp, by simp, by simp⟩
    · obtain ⟨vs, k1, k2, k3, k4⟩ := (VC.vd (μ := μ) j5).range (off := 0) (n := c.length) (by omega)
      have hcut : cut c 0 c.length = c := by simp [cut]
      rw [hcut] at k2
      refine ⟨_, cap, vs, j1, k2, fun j u hu b' p' e => ?_, fun _ => ⟨b, p, rfl⟩, one vs k2, by rw [k1, hn]⟩
      simp at e; obtain ⟨rfl, rfl⟩ := e
      exact k3 j u hu
  · rename_i t off len es'
    split at h
    · rename_i he; subst he
      split at h
      · rename_i c hc
        split at h
        · rename_i hle
          simp at h; obtain ⟨rfl, rfl, rfl⟩ := h
          simp only [VR] at hv
          obtain ⟨ad, cap, m, j1, j2, j3, j4, j5⟩ := hv
          obtain ⟨m', k1, k2, k3, k4, k5, k6, k7⟩ := hi.blk _ _ hc
          obtain rfl : m' = m := by rw [j3] at k1; exact (Option.some.inj k1).symm
          obtain ⟨vs, p1, p2, p3, p4⟩ := k7.range hle
          refine ⟨ad, cap, vs, j1, p2, fun j u hu b' p' e => ?_, fun hp => ⟨_, _, j4 (by omega)⟩, one vs p2, p1⟩
          have hcap : 0 < cap := by
            rcases Nat.eq_zero_or_pos len with h0 | h0
            · subst h0; simp at p1; subst p1; simp at hu
            · omega
          rw [j4 hcap] at e
          simp at e; obtain ⟨rfl, rfl⟩ := e
          exact p3 j u hu
        · cases h
      · cases h
    · cases h
  · cases h
theorem first_run {es n k : Nat} {ad : Option Addr} {cap : Nat} {news : List Value} (hk : k ≤ n) (hl : news.length = n * es) (h1 : ∀ j u, news[j]? = some u → ∀ b p, ad = some ⟨b, p, none⟩ → w.cell? ⟨b, p + j, none⟩ = some u) (h2 : 0 < n → ∃ b p, ad = some ⟨b, p, none⟩) :
    (Builtin.firstCells es k (.slice ad n cap)).run P w = .ok (news.take (k * es)).toArray w := by
  rcases Nat.eq_zero_or_pos n with h0 | h0
  · subst h0
    obtain rfl : k = 0 := by omega
    simp at hl; subst hl
    cases ad <;> simp [Builtin.firstCells, loadCells, loadCellsFrom]
  · obtain ⟨b, p, rfl⟩ := h2 h0
    have hke : k * es ≤ n * es := Nat.mul_le_mul_right es hk
    refine run_firstCells_some w es k _ n cap _ (by simp; omega) fun j v hv => ?_
    rw [add_at]
    rw [List.getElem?_take] at hv
    split at hv
    · exact h1 j v hv b p rfl
    · cases hv
theorem src_mk {es : Nat} {tx e' : TypeId} (hk : P.underlying tx = some (.slice e')) {n cap : Nat} {ad : Option Addr} {news : List Value} (hl : news.length = n * es) (h1 : ∀ j u, news[j]? = some u → ∀ b p, ad = some ⟨b, p, none⟩ → w.cell? ⟨b, p + j, none⟩ = some u)
    (h2 : 0 < n → ∃ b p, ad = some ⟨b, p, none⟩) (h3 : ∀ u ∈ news, u.oneCell' = true) : Src P es tx (.slice ad n cap) n news w := by
  have f1 := first_run (P := P) (w := w) (es := es) (n := n) (k := n) (cap := cap) (Nat.le_refl _) hl h1 h2
  have f2 := first_run (P := P) (w := w.drew) (es := es) (n := n) (k := n) (cap := cap) (Nat.le_refl _) hl (by simpa using h1) h2
  rw [List.take_of_length_le (by omega)] at f1 f2
  exact ⟨.inl ⟨e', hk⟩, fun _ => rfl, f1, f2, hl, h3⟩
theorem growBy_le (need : Nat) : ∀ (r c : Nat), c ≤ 2 * need + 256 → Builtin.growBy need r c ≤ 2 * need + 256
  | 0, c, h => h
  | r + 1, c, h => by
    rw [Builtin.growBy]
    split
    · exact h
    · exact growBy_le need r _ (by omega)
theorem nextcap_le (need old : Nat) (h : old < need) : Builtin.nextslicecap need old ≤ 2 * need + 256 := by
  unfold Builtin.nextslicecap
  split
  · omega
  · split
    · omega
    · exact growBy_le need 4 old (by omega)
theorem nextcap_fit {need old bytes : Nat} (h : old < need) (hb : need * bytes ≤ room) : Builtin.nextslicecap need old * bytes ≤ 281474976710656 := by
  have h1 := Nat.mul_le_mul_right bytes (nextcap_le need old h)
  have h2 : (2 * need + 256) * bytes = 2 * (need * bytes) + 256 * bytes := by rw [Nat.add_mul, Nat.mul_assoc]
  have h3 : bytes ≤ need * bytes := Nat.le_mul_of_pos_left bytes (by omega)
  unfold room at hb
  omega
end
end Go.Proofs.Ythanlobfjpjegaa.Abs
