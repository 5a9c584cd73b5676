/- Places, parts, lengths, the least and the greatest. -/
import Derived.Test.YthanlobfjpjegaaA7
namespace Go.Proofs.Ythanlobfjpjegaa.Abs
open Go Go.RowKit
set_option linter.unusedVariables false
set_option linter.unusedSimpArgs false
section
variable {P : Program} {o : Oper} {a : Act} {B : Nat} {W0 w : World} {Z0 Z : Nat → Nat → Prop} {g : Mem} {μ : Nat → Option Loc} {fr : Nat} {r : Res} {s : List T}

theorem natOf_ok {x : T} {n : Nat} (h : natOf x = some n) : ∃ k, x = .int k (n : Int) := by
  unfold natOf at h
  split at h
  · rename_i k m
    split at h
    · rename_i hm; obtain rfl := Option.some.inj h; exact ⟨k, by rw [Int.toNat_of_nonneg hm]⟩
    · cases h
  · cases h
theorem add_at (b p n : Nat) : (⟨b, p, none⟩ : Addr).add n = ⟨b, p + n, none⟩ := Addr.add_mid b p n

theorem part_run {t : TypeId} {one : Bool} {n : Nat} (h1 : oneOf P t = some (one, n)) {cs : Array Value} {c : List T} (hc : VRL w Z μ c cs.toList) {off : Nat} (hn : off + n ≤ c.length) :
    if one then ∃ x v, c[off]? = some x ∧ VR w Z μ x v ∧ (part t cs off).run P w = .ok v w
    else ∃ vs : Array Value, VRL w Z μ (cut c off n) vs.toList ∧ (part t cs off).run P w = .ok (.agg vs) w := by
  obtain ⟨d, i, k1, k2, k3, k4, k5, k6⟩ := one_ok h1
  cases one with
  | true =>
    have hn1 := k4 rfl
    have hx := List.getElem?_eq_getElem (l := c) (i := off) (by omega)
    obtain ⟨v, m1, m2⟩ := hc.get hx
    have m1' : cs[off]? = some v := by simpa using m1
    refine ⟨_, v, hx, m2, ?_⟩
    simp [part, k5 w, m1']
  | false =>
    refine ⟨cs.extract off (off + n), ?_, ?_⟩
    · have hl := hc.len
      refine VRL.mk (by rw [cut_len hn]; simp at hl ⊢; omega) fun i x v hx hv => ?_
      rw [cut_get] at hx
      split at hx
      · obtain ⟨u, q1, q2⟩ := hc.get hx
        have : (cs.extract off (off + n)).toList[i]? = some u := by
          simp only [Array.getElem?_toList] at q1 ⊢
          rw [Array.getElem?_extract, if_pos (by simp at hl; omega)]; exact q1
        rw [this] at hv; obtain rfl := Option.some.inj hv; exact q2
      · cases hx
    · simp [part, k5 w, sizeOf, typeInfo, k2, k3]

theorem field_ok (hi : Inv B W0 Z0 g w Z μ) (hs : VRL w Z μ s a.tmps.toList) {t : TypeId} {x : Operand} {y : Opd} {f : Nat} {fs : Array Field} {fd : Field} {one : Bool} {n : Nat} (ho : o.op = .field t x f) (ht : P.underlying t = some (.struct fs)) (hf : fs[f]? = some fd)
    (h1 : oneOf P fd.type = some (one, n)) (hx : opd x = some y) (hr : opRes (.field one fd.offset n y) fr s g = some r) : OpOk P o a B W0 Z0 g w Z μ fr r := by
  have hv := rho_ok hs hx
  simp only [opRes] at hr
  split at hr
  · rename_i c e
    rw [e] at hv
    simp only [VR] at hv
    obtain ⟨vs, j1, j2⟩ := hv
    split at hr
    · rename_i hn
      have hl := part_run h1 j2 hn
      have hrun : ∀ v, (part fd.type vs fd.offset).run P w = .ok v w → (execOp a.eval o).run P w = .ok (.value v) w := fun v hp => by
        unfold execOp; rw [ho]; simp only [j1]
        refine run_v ?_
        simp [Instr.field, run_underlying ht, hf, asAgg, hp]
      cases one with
      | true =>
        obtain ⟨z, v, m1, m2, m3⟩ := hl
        simp only [if_true, m1] at hr
        obtain rfl := Option.some.inj hr
        exact opok_quiet hi (goes_value (hrun _ m3)) m2
      | false =>
        obtain ⟨us, m1, m2⟩ := hl
        simp only [Bool.false_eq_true, if_false] at hr
        obtain rfl := Option.some.inj hr
        exact opok_quiet hi (goes_value (hrun _ m2)) (by simp only [VR]; exact ⟨_, rfl, m1⟩)
    · cases hr
  · cases hr

theorem index_ok (hi : Inv B W0 Z0 g w Z μ) (hs : VRL w Z μ s a.tmps.toList) {t e : TypeId} {x i : Operand} {y i' : Opd} {m : Nat} {one : Bool} {n : Nat} (ho : o.op = .index t x i) (ht : P.underlying t = some (.array m e))
    (h1 : oneOf P e = some (one, n)) (hx : opd x = some y) (hii : opd i = some i') (hr : opRes (.index one m n y i') fr s g = some r) : OpOk P o a B W0 Z0 g w Z μ fr r := by
  have hv := rho_ok hs hx
  have hw := rho_ok hs hii
  simp only [opRes] at hr
  split at hr
  · rename_i j hj
    obtain ⟨k, hk⟩ := natOf_ok hj
    have hw' := vr_int hw hk
    split at hr
    · rename_i c e'
      rw [e'] at hv
      simp only [VR] at hv
      obtain ⟨vs, j1, j2⟩ := hv
      split at hr
      · rename_i hn
        obtain ⟨d, ti, q1, q2, q3, q4, q5, q6⟩ := one_ok h1
        have hl := part_run h1 j2 hn.2
        have hrun : ∀ v, (part e vs (j * n)).run P w = .ok v w → (execOp a.eval o).run P w = .ok (.value v) w := fun v hp => by
          unfold execOp; rw [ho]; simp only [j1, hw']
          refine run_v ?_
          have hjm : (0 : Int) ≤ (j : Int) ∧ (j : Int) < (m : Int) := by omega
          simp [Instr.index, asIntOf, run_underlying ht, sizeOf, typeInfo, q2, q3, hn.1, hp]
        cases one with
        | true =>
          obtain ⟨z, v, m1, m2, m3⟩ := hl
          simp only [if_true, m1] at hr
          obtain rfl := Option.some.inj hr
          exact opok_quiet hi (goes_value (hrun _ m3)) m2
        | false =>
          obtain ⟨us, m1, m2⟩ := hl
          simp only [Bool.false_eq_true, if_false] at hr
          obtain rfl := Option.some.inj hr
          exact opok_quiet hi (goes_value (hrun _ m2)) (by simp only [VR]; exact ⟨_, rfl, m1⟩)
      · cases hr
    · cases hr
  · cases hr

/-- A pointer, moved. -/
theorem faddr_ok (hi : Inv B W0 Z0 g w Z μ) (hs : VRL w Z μ s a.tmps.toList) {t : TypeId} {x : Operand} {y : Opd} {f : Nat} {fs : Array Field} {fd : Field} {n : Nat} (ho : o.op = .fieldAddr t x f) (ht : P.underlying t = some (.struct fs)) (hf : fs[f]? = some fd)
    (h1 : szOf P fd.type = some n) (hx : opd x = some y) (hr : opRes (.faddr y fd.offset) fr s g = some r) : OpOk P o a B W0 Z0 g w Z μ fr r := by
  have hv := rho_ok hs hx
  obtain ⟨i, q1, q2, q3⟩ := sz_ok h1
  have hrun : ∀ b p, a.eval x = .pointer (some ⟨b, p, none⟩) → (execOp a.eval o).run P w = .ok (.value (.pointer (some ⟨b, p + fd.offset, none⟩))) w := fun b p he => by
    unfold execOp; rw [ho]; simp only [he]
    refine run_v ?_
    have : i.size ≠ 0 := by omega
    simp [Instr.fieldAt, run_underlying ht, hf, Instr.sureAddr, fieldPlace, sizeOf, typeInfo, q1, this, add_at]
  simp only [opRes] at hr
  split at hr
  · rename_i t' p e
    rw [e] at hv; simp only [VR] at hv
    obtain ⟨m, j1, j2⟩ := hv
    obtain rfl := Option.some.inj hr
    exact opok_quiet hi (goes_value (hrun _ _ j2)) (by simp only [VR]; exact ⟨m, j1, by rw [Nat.add_assoc]⟩)
  · rename_i c p e
    rw [e] at hv; simp only [VR, VI] at hv
    obtain ⟨b, q, j1, j2⟩ := hv
    obtain rfl := Option.some.inj hr
    exact opok_quiet hi (goes_value (hrun _ _ j1)) (by simp only [VR, VI]; exact ⟨b, q, by rw [Nat.add_assoc], j2⟩)
  · cases hr

theorem iarr_ok (hi : Inv B W0 Z0 g w Z μ) (hs : VRL w Z μ s a.tmps.toList) {t e : TypeId} {x i : Operand} {y i' : Opd} {m n : Nat} (ho : o.op = .indexAddr t x i) (ht : P.underlying t = some (.array m e))
    (h1 : szOf P e = some n) (hx : opd x = some y) (hii : opd i = some i') (hr : opRes (.iarr m n y i') fr s g = some r) : OpOk P o a B W0 Z0 g w Z μ fr r := by
  have hv := rho_ok hs hx
  have hw := rho_ok hs hii
  obtain ⟨ti, q1, q2, q3⟩ := sz_ok h1
  simp only [opRes] at hr
  split at hr
  · rename_i j hj
    obtain ⟨k, hk⟩ := natOf_ok hj
    have hw' := vr_int hw hk
    split at hr
    · rename_i hjm
      have hjm' : (0 : Int) ≤ (j : Int) ∧ (j : Int) < (m : Int) := by omega
      have hrun : ∀ b p, a.eval x = .pointer (some ⟨b, p, none⟩) → (execOp a.eval o).run P w = .ok (.value (.pointer (some ⟨b, p + j * n, none⟩))) w := fun b p he => by
        unfold execOp; rw [ho]; simp only [he, hw']
        refine run_v ?_
        simp [Instr.indexAt, asIntOf, run_underlying ht, Instr.sureAddr, sizeOf, typeInfo, q1, q2, hjm, add_at]
      split at hr
      · rename_i t' p e'
        rw [e'] at hv; simp only [VR] at hv
        obtain ⟨m, j1, j2⟩ := hv
        obtain rfl := Option.some.inj hr
        exact opok_quiet hi (goes_value (hrun _ _ j2)) (by simp only [VR]; exact ⟨m, j1, by rw [Nat.add_assoc]⟩)
      · rename_i c p e'
        rw [e'] at hv; simp only [VR, VI] at hv
        obtain ⟨b, q, j1, j2⟩ := hv
        obtain rfl := Option.some.inj hr
        exact opok_quiet hi (goes_value (hrun _ _ j1)) (by simp only [VR, VI]; exact ⟨b, q, by rw [Nat.add_assoc], j2⟩)
      · cases hr
    · cases hr
  · cases hr

theorem isl_ok (hi : Inv B W0 Z0 g w Z μ) (hs : VRL w Z μ s a.tmps.toList) {t e : TypeId} {x i : Operand} {y i' : Opd} {n : Nat} (ho : o.op = .indexAddr t x i) (ht : P.underlying t = some (.slice e))
    (h1 : szOf P e = some n) (hx : opd x = some y) (hii : opd i = some i') (hr : opRes (.isl n y i') fr s g = some r) : OpOk P o a B W0 Z0 g w Z μ fr r := by
  have hv := rho_ok hs hx
  have hw := rho_ok hs hii
  obtain ⟨ti, q1, q2, q3⟩ := sz_ok h1
  simp only [opRes] at hr
  split at hr
  · rename_i j hj
    obtain ⟨k, hk⟩ := natOf_ok hj
    have hw' := vr_int hw hk
    have hrun : ∀ b p len cap, a.eval x = .slice (some ⟨b, p, none⟩) len cap → j < len → (execOp a.eval o).run P w = .ok (.value (.pointer (some ⟨b, p + j * n, none⟩))) w := fun b p len cap he hjl => by
      have hjm' : (0 : Int) ≤ (j : Int) ∧ (j : Int) < (len : Int) := by omega
      unfold execOp; rw [ho]; simp only [he, hw']
      refine run_v ?_
      simp [Instr.indexAt, asIntOf, run_underlying ht, sizeOf, typeInfo, q1, q2, hjl, add_at]
    split at hr
    · rename_i f len c e'
      split at hr
      · rename_i hjl
        rw [e'] at hv; simp only [VR, VI] at hv
        obtain ⟨ad, cap, j1, j2, j3, j4⟩ := hv
        obtain rfl := Option.some.inj hr
        rcases j4 with j4 | ⟨b, p, rfl, j5⟩
        · subst j4; simp at hjl; omega
        · exact opok_quiet hi (goes_value (hrun _ _ _ _ j1 hjl.1)) (by simp only [VR, VI]; exact ⟨b, p, rfl, j5⟩)
      · cases hr
    · rename_i t' off len es e'
      split at hr
      · rename_i hjl
        rw [e'] at hv; simp only [VR] at hv
        obtain ⟨ad, cap, m, j1, j2, j3, j4, j5⟩ := hv
        obtain rfl := Option.some.inj hr
        have hcap : 0 < cap := by omega
        rw [j4 hcap] at j1
        exact opok_quiet hi (goes_value (hrun _ _ _ _ j1 hjl.1)) (by simp only [VR]; exact ⟨m, j3, by rw [Nat.add_assoc]⟩)
      · cases hr
    · cases hr
  · cases hr

theorem len_ok (hi : Inv B W0 Z0 g w Z μ) (hs : VRL w Z μ s a.tmps.toList) {t e : TypeId} {x : Operand} {y : Opd} {ats : Array TypeId} {xs : Array Operand} (ho : o.op = .call { callee := .builtin .len, args := xs, argTypes := ats }) (hat : ats[0]? = some t) (hxs : xs.toList = [x])
    (ht : P.underlying t = some (.slice e)) (hx : opd x = some y) (hr : opRes (.len y) fr s g = some r) : OpOk P o a B W0 Z0 g w Z μ fr r := by
  have hv := rho_ok hs hx
  obtain rfl : xs = #[x] := by cases xs; simp_all
  have hrun : ∀ ad len cap, a.eval x = .slice ad len cap → (execOp a.eval o).run P w = .ok (.value (.int .i64 len)) w := fun ad len cap he => by
    unfold execOp; rw [ho]
    simp [resolve, invoke, builtin, Builtin.len_, he, hat, run_underlying ht, goInt]
  simp only [opRes] at hr
  split at hr
  · rename_i f n c e'
    rw [e'] at hv; simp only [VR, VI] at hv
    obtain ⟨ad, cap, j1, _⟩ := hv
    obtain rfl := Option.some.inj hr
    exact opok_quiet hi (goes_value (hrun _ _ _ j1)) (by simp only [VR, VI])
  · rename_i t' off n es e'
    rw [e'] at hv; simp only [VR] at hv
    obtain ⟨ad, cap, m, j1, _⟩ := hv
    obtain rfl := Option.some.inj hr
    exact opok_quiet hi (goes_value (hrun _ _ _ j1)) (by simp only [VR, VI])
  · cases hr
theorem lenarr_ok (hi : Inv B W0 Z0 g w Z μ) (hs : VRL w Z μ s a.tmps.toList) {t e : TypeId} {x : Operand} {n : Nat} {ats : Array TypeId} {xs : Array Operand} (ho : o.op = .call { callee := .builtin .len, args := xs, argTypes := ats }) (hat : ats[0]? = some t) (hxs : xs.toList = [x])
    (ht : P.underlying t = some (.array n e)) : OpOk P o a B W0 Z0 g w Z μ fr ⟨.int .i64 n, [], []⟩ := by
  obtain rfl : xs = #[x] := by cases xs; simp_all
  refine opok_quiet hi (v := .int .i64 n) (goes_value ?_) (by simp only [VR, VI])
  unfold execOp; rw [ho]
  simp [resolve, invoke, builtin, Builtin.len_, hat, run_underlying ht, goInt]
end
end Go.Proofs.Ythanlobfjpjegaa.Abs
