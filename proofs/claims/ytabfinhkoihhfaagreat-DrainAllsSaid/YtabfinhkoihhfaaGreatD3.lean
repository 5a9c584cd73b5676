/- Trees that tell of more room: what an operation yields. -/
import Derived.Test.YtabfinhkoihhfaaGreatD2
namespace Go.Proofs.YtabfinhkoihhfaaGreat.Abs
open Go Go.RowKit
set_option linter.unusedVariables false
set_option linter.unusedSimpArgs false
set_option linter.unnecessarySimpa false
set_option maxRecDepth 100000
set_option maxHeartbeats 4000000

theorem upE_one {t : Nat} {o o' : Option (List T)} (h : UpO o o') : UpE [(t, o)] [(t, o')] := ⟨o', [], rfl, h, rfl⟩
theorem upE_two {t u : Nat} {o o' p p' : Option (List T)} (h : UpO o o') (h' : UpO p p') : UpE [(t, o), (u, p)] [(t, o'), (u, p')] := ⟨o', _, rfl, h, p', [], rfl, h', rfl⟩
theorem upO_some {c c' : List T} (h : UpL c c') : UpO (some c) (some c') := ⟨c', rfl, h⟩
theorem upT_agg {c c' : List T} (h : UpL c c') : UpT (.agg c) (.agg c') := by simp only [UpT]; exact ⟨c', rfl, h⟩
theorem upT_tup {c c' : List T} (h : UpL c c') : UpT (.tup c) (.tup c') := by simp only [UpT]; exact ⟨c', rfl, h⟩
theorem upT_iptr {c c' : List T} {o : Nat} (h : UpL c c') : UpT (.iptr c o) (.iptr c' o) := by simp only [UpT]; exact ⟨c', rfl, h⟩
theorem upT_imm {f f' : Bool} {n : Nat} {c c' : List T} (hf : f = true → f' = true) (h : UpL c c') : UpT (.imm f n c) (.imm f' n c') := by simp only [UpT]; exact ⟨f', c', rfl, hf, h⟩
theorem upT_fn {f : Nat} {a a' b b' : List T} (h : UpL a a') (h' : UpL b b') : UpT (.fn f a b) (.fn f a' b') := by simp only [UpT]; exact ⟨a', b', rfl, h, h'⟩
theorem allLeaf_up {c c' : List T} (h : UpL c c') (hl : allLeaf c = true) : allLeaf c' = true := by unfold allLeaf at hl ⊢; rw [h.allLeaf]; exact hl
theorem opRes_up {op : AOp} {fr : Nat} {s s' : List T} {g g' : Mem} (hs : UpL s s') (hg : UpM g g') {r : Res} (h : opRes op fr s g = some r) : ∃ r', opRes op fr s' g' = some r' ∧ UpR r r' := by
  have hr := rho_up hs
  cases op <;> simp only [opRes] at h ⊢
  case mv x => exact up_pure h (hr x)
  case pick c a b =>
    have hc := hr c
    generalize rho s c = C at *
    cases C <;> (try simp only at h)
    case bool t =>
      rw [hc.bool]
      cases t
      · exact up_pure h (hr b)
      · exact up_pure h (hr a)
    all_goals cases h
  case alloc z => exact up_same h
  case box x =>
    have hc := (hr x).cells
    split at h
    · rename_i hl
      obtain rfl := Option.some.inj h
      rw [if_pos (allLeaf_up hc hl)]
      exact ⟨_, rfl, UpT.refl _, rfl, upE_one (upO_some hc)⟩
    · cases h
  case build z ps =>
    split at h
    · rename_i c hc
      obtain ⟨c', h1, h2⟩ := fill_up hs (UpL.refl z) hc
      rw [h1]
      exact up_pure h (upT_agg h2)
    · cases h
  case bsl z len es ps =>
    split at h
    · rename_i c hc
      obtain ⟨c', h1, h2⟩ := fill_up hs (UpL.refl z) hc
      rw [h1]
      split at h
      · rename_i hl
        obtain rfl := Option.some.inj h
        simp only
        rw [if_pos ⟨allLeaf_up h2 hl.1, by rw [h2.len]; exact hl.2⟩]
        exact ⟨_, rfl, UpT.refl _, rfl, upE_one (upO_some h2)⟩
      · cases h
    · cases h
  case load one n a =>
    have ha := hr a
    generalize rho s a = A at *
    cases A <;> (try simp only at h)
    case ptr t off =>
      rw [ha.ptr]
      simp only
      cases hc : g t with
      | none => rw [hc] at h; cases h
      | some c =>
        obtain ⟨c', h1, h2⟩ := hg.get hc
        rw [hc] at h
        rw [h1]
        simp only at h ⊢
        split at h
        · rename_i hb
          rw [if_pos (by rw [h2.len]; exact hb)]
          cases one with
          | true =>
            simp only [if_true] at h ⊢
            cases hx : c[off]? with
            | none => rw [hx] at h; cases h
            | some x =>
              obtain ⟨y, h3, h4⟩ := h2.get hx
              rw [hx] at h
              rw [h3]
              obtain rfl := Option.some.inj h
              exact ⟨_, rfl, h4, rfl, UpE.refl []⟩
          | false =>
            simp only [Bool.false_eq_true, if_false] at h ⊢
            obtain rfl := Option.some.inj h
            exact ⟨_, rfl, upT_agg (h2.cut _ _), rfl, UpE.refl []⟩
        · cases h
    case iptr c off =>
      obtain ⟨c', e, h2⟩ := ha.iptr
      rw [e]
      simp only
      split at h
      · rename_i hb
        rw [if_pos (by rw [h2.len]; exact hb)]
        cases one with
        | true =>
          simp only [if_true] at h ⊢
          cases hx : c[off]? with
          | none => rw [hx] at h; cases h
          | some x =>
            obtain ⟨y, h3, h4⟩ := h2.get hx
            rw [hx] at h
            rw [h3]
            exact up_pure h h4
        | false =>
          simp only [Bool.false_eq_true, if_false] at h ⊢
          exact up_pure h (upT_agg (h2.cut _ _))
      · cases h
    all_goals cases h
  case store n a x =>
    have ha := hr a
    have hx := (hr x).cells
    generalize rho s a = A at *
    cases A <;> (try simp only at h)
    case ptr t off =>
      rw [ha.ptr]
      simp only
      cases hc : g t with
      | none => rw [hc] at h; cases h
      | some c =>
        obtain ⟨c', h1, h2⟩ := hg.get hc
        rw [hc] at h
        rw [h1]
        simp only at h ⊢
        split at h
        · rename_i hb
          rw [if_pos ⟨by rw [h2.len]; exact hb.1, by rw [hx.len]; exact hb.2.1, allLeaf_up hx hb.2.2⟩]
          obtain rfl := Option.some.inj h
          exact ⟨_, rfl, UpT.refl _, rfl, upE_one (upO_some (h2.splice hx))⟩
        · cases h
    all_goals cases h
  case nilchk x =>
    have hx := hr x
    generalize rho s x = X at *
    cases X <;> (try simp only at h)
    case ptr t o => rw [hx.ptr]; exact up_same h
    case iptr c o => obtain ⟨c', e, h2⟩ := hx.iptr; rw [e]; exact up_pure h (upT_iptr h2)
    case fn f a b => obtain ⟨a', b', e, h2, h3⟩ := hx.fn; rw [e]; exact up_pure h (upT_fn h2 h3)
    all_goals cases h
  case bin op x y =>
    split at h
    · rename_i v hv
      rw [bin_up (hr x) (hr y) hv]
      exact up_same h
    · cases h
  case beq neg x y =>
    have hx := hr x
    have hy := hr y
    generalize rho s x = X at *
    generalize rho s y = Y at *
    split at h
    · rw [hx.bool, hy.bool]; exact up_same h
    · cases h
  case aeq neg ks x y =>
    have hx := hr x
    have hy := hr y
    generalize rho s x = X at *
    generalize rho s y = Y at *
    split at h
    · rename_i a b
      obtain ⟨a', e1, h1⟩ := hx.agg
      obtain ⟨b', e2, h2⟩ := hy.agg
      rw [e1, e2]
      split at h
      · rename_i hc
        rw [Bool.and_eq_true] at hc
        rw [conf_up h1 hc.1, conf_up h2 hc.2]
        simp only [hc.1, hc.2, Bool.and_self, if_true]
        exact up_same h
      · cases h
    · cases h
  case un op x =>
    split at h
    · rename_i v hv
      rw [un_up (hr x) hv]
      exact up_same h
    · cases h
  case conv k x =>
    have hx := hr x
    generalize rho s x = X at *
    split at h
    · rw [hx.int]; exact up_same h
    · cases h
  case mkfn f fs cs => exact up_pure h (upT_fn (rhos_up hs fs) (rhos_up hs cs))
  case mksl z es bytes n c =>
    split at h
    · rename_i n1 c1 hn hc
      rw [up_nat (hr n) hn, up_nat (hr c) hc]
      exact up_same h
    · cases h
  case slArr n es x lo hi mx =>
    split at h
    · rename_i l1 h1 m1 e1 e2 e3
      rw [up_bnd hs e1, up_bnd hs e2, up_bnd hs e3]
      simp only
      split at h
      · rename_i hcond
        rw [if_pos hcond]
        have hx := hr x
        generalize rho s x = X at *
        cases X <;> (try simp only at h)
        case ptr t off =>
          rw [hx.ptr]
          simp only
          cases hc : g t with
          | none => rw [hc] at h; cases h
          | some c =>
            obtain ⟨c', k1, k2⟩ := hg.get hc
            rw [hc] at h
            rw [k1]
            simp only at h ⊢
            split at h
            · rename_i hb
              rw [if_pos (by rw [k2.len]; exact hb)]
              exact up_same h
            · cases h
        case iptr c off =>
          obtain ⟨c', e, k2⟩ := hx.iptr
          rw [e]
          simp only
          split at h
          · rename_i hb
            rw [if_pos (by rw [k2.len]; exact hb)]
            exact up_pure h (upT_imm id (k2.cut _ _))
          · cases h
        all_goals cases h
      · cases h
    · cases h
  case slSl es x lo hi mx =>
    have hx := hr x
    generalize rho s x = X at *
    cases X <;> (try simp only at h)
    case imm full len c =>
      obtain ⟨f', c', e, hf, hc⟩ := hx.imm
      rw [e]
      simp only
      split at h
      · rename_i l1 h1 m1 e1 e2 e3
        rw [up_bnd hs e1, up_bnd hs e2, up_bnd hs e3]
        simp only
        split at h
        · rename_i hcond
          rw [if_pos hcond]
          refine up_pure h (upT_imm ?_ (hc.cut _ _))
          cases mx with
          | none =>
            simp only [Option.isSome_none, Bool.false_eq_true, if_false, Bool.and_eq_true]
            exact fun ⟨a, b⟩ => ⟨hf a, b⟩
          | some m => exact id
        · cases h
      · cases h
    case own t off len es' =>
      rw [hx.own]
      simp only
      split at h
      · rename_i l1 h1 m1 e1 e2 e3
        rw [up_bnd hs e1, up_bnd hs e2, up_bnd hs e3]
        exact up_same h
      · cases h
    all_goals cases h
  case faddr x off =>
    have hx := hr x
    generalize rho s x = X at *
    cases X <;> (try simp only at h)
    case ptr t o => rw [hx.ptr]; exact up_same h
    case iptr c o => obtain ⟨c', e, h2⟩ := hx.iptr; rw [e]; exact up_pure h (upT_iptr h2)
    all_goals cases h
  case field one off n x =>
    have hx := hr x
    generalize rho s x = X at *
    cases X <;> (try simp only at h)
    case agg c =>
      obtain ⟨c', e, h2⟩ := hx.agg
      rw [e]
      simp only
      split at h
      · rename_i hb
        rw [if_pos (by rw [h2.len]; exact hb)]
        cases one with
        | true =>
          simp only [if_true] at h ⊢
          cases hx : c[off]? with
          | none => rw [hx] at h; cases h
          | some x =>
            obtain ⟨y, h3, h4⟩ := h2.get hx
            rw [hx] at h
            rw [h3]
            exact up_pure h h4
        | false =>
          simp only [Bool.false_eq_true, if_false] at h ⊢
          exact up_pure h (upT_agg (h2.cut _ _))
      · cases h
    all_goals cases h
  case iarr n es x i =>
    split at h
    · rename_i i1 hi
      rw [up_nat (hr i) hi]
      simp only
      split at h
      · rename_i hb
        rw [if_pos hb]
        have hx := hr x
        generalize rho s x = X at *
        cases X <;> (try simp only at h)
        case ptr t o => rw [hx.ptr]; exact up_same h
        case iptr c o => obtain ⟨c', e, h2⟩ := hx.iptr; rw [e]; exact up_pure h (upT_iptr h2)
        all_goals cases h
      · cases h
    · cases h
  case isl es x i =>
    split at h
    · rename_i i1 hi
      rw [up_nat (hr i) hi]
      simp only
      have hx := hr x
      generalize rho s x = X at *
      cases X <;> (try simp only at h)
      case imm f len c =>
        obtain ⟨f', c', e, hf, hc⟩ := hx.imm
        rw [e]
        simp only
        split at h
        · rename_i hb
          rw [if_pos (by rw [hc.len]; exact hb)]
          exact up_pure h (upT_iptr hc)
        · cases h
      case own t off len es' => rw [hx.own]; exact up_same h
      all_goals cases h
    · cases h
  case index one n es x i =>
    split at h
    · rename_i i1 hi
      rw [up_nat (hr i) hi]
      simp only
      have hx := hr x
      generalize rho s x = X at *
      cases X <;> (try simp only at h)
      case agg c =>
        obtain ⟨c', e, h2⟩ := hx.agg
        rw [e]
        simp only
        split at h
        · rename_i hb
          rw [if_pos (by rw [h2.len]; exact hb)]
          cases one with
          | true =>
            simp only [if_true] at h ⊢
            cases hx : c[i1 * es]? with
            | none => rw [hx] at h; cases h
            | some x =>
              obtain ⟨y, h3, h4⟩ := h2.get hx
              rw [hx] at h
              rw [h3]
              exact up_pure h h4
          | false =>
            simp only [Bool.false_eq_true, if_false] at h ⊢
            exact up_pure h (upT_agg (h2.cut _ _))
        · cases h
      all_goals cases h
    · cases h
  case extract x i =>
    have hx := hr x
    generalize rho s x = X at *
    cases X <;> (try simp only at h)
    case tup l =>
      obtain ⟨l', e, h2⟩ := hx.tup
      rw [e]
      simp only
      cases hx : l[i]? with
      | none => rw [hx] at h; cases h
      | some x =>
        obtain ⟨y, h3, h4⟩ := h2.get hx
        rw [hx] at h
        rw [h3]
        exact up_pure h h4
    all_goals cases h
  case len x =>
    have hx := hr x
    generalize rho s x = X at *
    cases X <;> (try simp only at h)
    case imm f len c => obtain ⟨f', c', e, hf, hc⟩ := hx.imm; rw [e]; exact up_same h
    case own t off len es' => rw [hx.own]; exact up_same h
    all_goals cases h
  case append es bytes sl x =>
    split at h
    · rename_i n new rd hcell
      obtain ⟨new', h1, h2⟩ := cellsOf_up hg (hr x) hcell
      rw [h1]
      simp only
      have hx := hr sl
      generalize rho s sl = X at *
      split at h
      · rename_i hn
        rw [if_pos hn]
        split at h
        · rename_i hnl
          rw [if_pos (by rw [h2.len]; exact hnl)]
          cases X <;> (try simp only at h)
          case imm f len c =>
            obtain ⟨f', c', e, hf, hc⟩ := hx.imm
            rw [e]
            obtain rfl := Option.some.inj h
            exact ⟨_, rfl, upT_imm hf hc, rfl, UpE.refl []⟩
          case own t off len es' => rw [hx.own]; exact up_same h
          all_goals cases h
        · cases h
      · rename_i hn
        rw [if_neg hn]
        split at h
        · rename_i hb
          rw [if_pos ⟨by rw [h2.len]; exact hb.1, allLeaf_up h2 hb.2⟩]
          cases X <;> (try simp only at h)
          case imm f len c =>
            cases f with
            | false => cases h
            | true =>
              obtain ⟨f', c', e, hf, hc⟩ := hx.imm
              have := hf rfl
              subst this
              rw [e]
              simp only at h ⊢
              split at h
              · rename_i hb2
                rw [if_pos ⟨hb2.1, hb2.2.1, by rw [hc.len]; exact hb2.2.2.1, allLeaf_up hc hb2.2.2.2⟩]
                obtain rfl := Option.some.inj h
                exact ⟨_, rfl, UpT.refl _, rfl, upE_one (upO_some (hc.append h2))⟩
              · cases h
          case own t off len es' =>
            rw [hx.own]
            simp only
            split at h
            · rename_i hb2
              rw [if_pos hb2]
              cases hc : g t with
              | none => rw [hc] at h; cases h
              | some c =>
                obtain ⟨c', k1, k2⟩ := hg.get hc
                rw [hc] at h
                rw [k1]
                simp only at h ⊢
                split at h
                · rename_i hb3
                  rw [if_pos (by rw [k2.len]; exact hb3)]
                  obtain rfl := Option.some.inj h
                  exact ⟨_, rfl, UpT.refl _, rfl, upE_two rfl (upO_some ((k2.cut _ _).append h2))⟩
                · cases h
            · cases h
          all_goals cases h
        · cases h
    · cases h
  case copy es d x =>
    split at h
    · rename_i n new rd t off len es' hcell hd
      obtain ⟨new', h1, h2⟩ := cellsOf_up hg (hr x) hcell
      have hx := hr d
      rw [hd] at hx
      rw [h1, hx.own]
      simp only
      cases hc : g t with
      | none => rw [hc] at h; cases h
      | some c =>
        obtain ⟨c', k1, k2⟩ := hg.get hc
        rw [hc] at h
        rw [k1]
        simp only at h ⊢
        split at h
        · rename_i hb
          rw [if_pos ⟨hb.1, by rw [k2.len]; exact hb.2.1, by rw [h2.len]; exact hb.2.2.1, allLeaf_up h2 hb.2.2.2⟩]
          obtain rfl := Option.some.inj h
          exact ⟨_, rfl, UpT.refl _, rfl, upE_one (upO_some (k2.splice (h2.take _)))⟩
        · cases h
    · cases h
  case mn args =>
    split at h
    · rename_i v hv
      obtain ⟨v', h1, h2⟩ := min_up (rhos_up hs args) hv
      rw [h1]
      exact up_pure h h2
    · cases h
  case mx args =>
    split at h
    · rename_i v hv
      obtain ⟨v', h1, h2⟩ := max_up (rhos_up hs args) hv
      rw [h1]
      exact up_pure h h2
    · cases h
  all_goals cases h
end Go.Proofs.YtabfinhkoihhfaaGreat.Abs
