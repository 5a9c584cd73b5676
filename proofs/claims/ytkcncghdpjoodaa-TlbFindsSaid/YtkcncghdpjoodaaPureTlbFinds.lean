/- What the functions of package bits and of its reference compute, in natural numbers. -/
import Derived.Test.YtkcncghdpjoodaaPTlbFindsx6
import Derived.Test.YtkcncghdpjoodaaM
import Derived.Test.YtkcncghdpjoodaaWfTlbFinds
namespace Go.Proofs.Ytkcncghdpjoodaa.PTlbFinds
open Go.RowKit Go.Proofs.YtkcncghdpjoodaaW.PrintWords Go.Proofs.YtkcncghdpjoodaaW.PrintMore Go.Proofs.Ytkcncghdpjoodaa.M
set_option linter.unusedVariables false
set_option linter.unusedSimpArgs false

/-! Buffers of translations: the first place that is so. -/
def atFrom (l : List S53) (pg : Int) : Nat → Nat → Int
  | _, 0 => -1
  | i, d + 1 => if (rd_T53 l (i : Int)).f0 = true ∧ (rd_T53 l (i : Int)).f1 = pg then (i : Int) else atFrom l pg (i + 1) d
theorem atFrom_bd (l : List S53) (pg : Int) : ∀ d i : Nat, atFrom l pg i d = -1 ∨ (0 ≤ atFrom l pg i d ∧ atFrom l pg i d < i + d)
  | 0, i => .inl rfl
  | d + 1, i => by
    unfold atFrom
    split
    · exact .inr ⟨by omega, by omega⟩
    · rcases atFrom_bd l pg d (i + 1) with h | h
      · exact .inl h
      · exact .inr ⟨h.1, by omega⟩
theorem first_l0 (l : List S53) (hl : l.length ≤ 4611686018427387904) (pg : Int) (d : Nat) : ∀ i : Nat, i + d = l.length → Ev (fun k => api_Tlb.l0 k l pg (l.length : Int) (i : Int)) (atFrom l pg i d) := by
  induction d with
  | zero =>
    intro i hi
    exact Ev.step (fun k => api_Tlb.l0.eq_2 ..) (Ev.ite_neg (by omega) (Ev.now _))
  | succ d ih =>
    intro i hi
    refine Ev.step (fun k => api_Tlb.l0.eq_2 ..) (Ev.ite_pos (by omega) (Ev.ite_pos (by omega) (Ev.ite_pos (by omega) ?_)))
    unfold tlb_at_1.f atFrom
    have ihn := ih (i + 1) (by omega)
    rw [w64 (by omega) (by omega)]
    by_cases h0 : (rd_T53 l (i : Int)).f0 = true
    · rw [if_pos h0]
      refine Ev.bind_some rfl ?_
      by_cases h1 : (rd_T53 l (i : Int)).f1 = pg
      · rw [if_pos ⟨h0, h1⟩]
        exact Ev.ite_pos (by simpa using h1) (Ev.now _)
      · rw [if_neg (fun h => h1 h.2)]
        exact Ev.ite_neg (by simpa using h1) ihn
    · rw [if_neg h0, if_neg (fun h => h0 h.1)]
      exact Ev.bind_some rfl (Ev.ite_neg (by decide) ihn)
def pageN (va : Int) : Int := (Int.tdiv va 64) % 4294967296
def atN (l : List S53) (va : Int) : Int := atFrom l (pageN va) 0 l.length
theorem atN_bd (l : List S53) (va : Int) : atN l va = -1 ∨ (0 ≤ atN l va ∧ atN l va < l.length) := by
  have h := atFrom_bd l (pageN va) l.length 0
  unfold atN
  omega
theorem at_ev (l : List S53) (hl : l.length ≤ 4611686018427387904) (va : Int) : Ev (fun k => tlb_at.f k l va) (atN l va) := first_l0 l hl (pageN va) l.length 0 (by omega)
theorem refat_l0 (l : List S53) (hl : l.length ≤ 4611686018427387904) (va : Int) (d : Nat) : ∀ i : Nat, i + d = l.length → Ev (fun k => cotterelref22_at.l0 k l va (i : Int)) (atFrom l (pageN va) i d) := by
  induction d with
  | zero =>
    intro i hi
    exact Ev.step (fun k => cotterelref22_at.l0.eq_2 ..) (Ev.ite_neg (by omega) (Ev.now _))
  | succ d ih =>
    intro i hi
    refine Ev.step (fun k => cotterelref22_at.l0.eq_2 ..) (Ev.ite_pos (by omega) (Ev.ite_pos (by omega) ?_))
    unfold atFrom
    have ihn := ih (i + 1) (by omega)
    rw [w64 (by omega) (by omega)]
    by_cases h0 : (rd_T53 l (i : Int)).f0 = true
    · refine Ev.ite_pos h0 ?_
      by_cases h1 : (rd_T53 l (i : Int)).f1 = pageN va
      · rw [if_pos ⟨h0, h1⟩]
        exact Ev.ite_pos h1 (Ev.now _)
      · rw [if_neg (fun h => h1 h.2)]
        exact Ev.ite_neg h1 ihn
    · rw [if_neg (fun h => h0 h.1)]
      exact Ev.ite_neg h0 ihn
theorem refat_ev (l : List S53) (hl : l.length ≤ 4611686018427387904) (va : Int) : Ev (fun k => cotterelref22_at.f k l va) (atN l va) := refat_l0 l hl va l.length 0 (by omega)
theorem within_f (n lo hi : Int) : cotterelref22_within.f n lo hi = some (cl n lo hi) := by
  unfold cotterelref22_within.f cl
  repeat' split
  all_goals rfl
theorem sameTlbs_l0 (a : List S53) (hl : a.length ≤ 4611686018427387904) (d : Nat) : ∀ i : Nat, i + d = a.length → Ev (fun k => cotterelsame_Tlbs.l0 k a a (i : Int)) true := by
  induction d with
  | zero =>
    intro i hi
    exact Ev.step (fun k => cotterelsame_Tlbs.l0.eq_2 ..) (Ev.ite_neg (by omega) (Ev.step (fun k => cotterelsame_Tlbs.j1.eq_2 ..) (Ev.ite_neg (by decide) (Ev.now _))))
  | succ d ih =>
    intro i hi
    refine Ev.step (fun k => cotterelsame_Tlbs.l0.eq_2 ..) (Ev.ite_pos (by omega) (Ev.step (fun k => cotterelsame_Tlbs.j1.eq_2 ..) (Ev.ite_pos (by simp; omega) (Ev.ite_pos (by omega) (Ev.ite_pos (by omega) (Ev.ite_pos (by omega) (Ev.ite_neg (by simp) ?_)))))))
    rw [w64 (by omega) (by omega)]
    exact ih (i + 1) (by omega)
theorem sameTlbs_ev (a : List S53) (hl : a.length ≤ 4611686018427387904) : Ev (fun k => cotterelsame_Tlbs.f k a a) true := by
  unfold cotterelsame_Tlbs.f
  exact Ev.ite_pos rfl (sameTlbs_l0 a hl a.length 0 (by omega))
def putN (l : List S53) (nx va b p : Int) : List S53 × Int :=
  if l.length = 0 then (l, nx)
  else if 0 ≤ atN l va then (l.set (atN l va).toNat ⟨true, pageN va, ⟨b, p⟩⟩, cl nx 0 ((l.length : Int) - 1))
  else (l.set (cl nx 0 ((l.length : Int) - 1)).toNat ⟨true, pageN va, ⟨b, p⟩⟩, Int.tmod (cl nx 0 ((l.length : Int) - 1) + 1) (l.length : Int))
theorem putN_length (l : List S53) (nx va b p : Int) : (putN l nx va b p).1.length = l.length := by
  unfold putN
  repeat' split
  all_goals simp
theorem Put_ev (l : List S53) (hl : l.length ≤ 1000000) (nx va b p : Int) : Ev (fun k => tlb_Put.f k l nx va b p) (putN l nx va b p) := by
  unfold tlb_Put.f
  by_cases h0 : l.length = 0
  · rw [show putN l nx va b p = (l, nx) from if_pos h0]
    exact Ev.ite_pos (by omega) (Ev.now _)
  refine Ev.ite_neg (by omega) (Ev.ite_pos (by simp; omega) (Ev.bind_some rfl (Ev.bind (at_ev l (by omega) va) ?_)))
  rw [List.nil_append, w64 (n := (l.length : Int) - 1) (by omega) (by omega), mnmx nx 0 ((l.length : Int) - 1) (by omega)]
  have hb := atN_bd l va
  have hc := cl_bd nx 0 ((l.length : Int) - 1) (by omega)
  by_cases h1 : 0 ≤ atN l va
  · rw [show putN l nx va b p = (l.set (atN l va).toNat ⟨true, pageN va, ⟨b, p⟩⟩, cl nx 0 ((l.length : Int) - 1)) from (if_neg h0).trans (if_pos h1)]
    exact Ev.ite_pos h1 (Ev.ite_pos h1 (Ev.ite_pos (by omega) (Ev.now _)))
  · rw [show putN l nx va b p = (l.set (cl nx 0 ((l.length : Int) - 1)).toNat ⟨true, pageN va, ⟨b, p⟩⟩, Int.tmod (cl nx 0 ((l.length : Int) - 1) + 1) (l.length : Int)) from (if_neg h0).trans (if_neg h1), w64 (n := cl nx 0 ((l.length : Int) - 1) + 1) (by omega) (by omega)]
    exact Ev.ite_neg h1 (Ev.ite_pos hc.1 (Ev.ite_pos (by omega) (Ev.now _)))
def findN (l : List S53) (va : Int) : Int × Int × Bool := if 0 ≤ atN l va then ((rd_T53 l (atN l va)).f2.f0, (rd_T53 l (atN l va)).f2.f1, true) else (0, 0, false)
theorem Find_ev (l : List S53) (hl : l.length ≤ 1000000) (va : Int) : Ev (fun k => tlb_Find.f k l va) (findN l va) := by
  unfold tlb_Find.f
  refine Ev.bind (at_ev l (by omega) va) ?_
  have hb := atN_bd l va
  by_cases h1 : 0 ≤ atN l va
  · rw [show findN l va = ((rd_T53 l (atN l va)).f2.f0, (rd_T53 l (atN l va)).f2.f1, true) from if_pos h1]
    exact Ev.ite_pos h1 (Ev.ite_pos h1 (Ev.ite_pos (by omega) (Ev.now _)))
  · rw [show findN l va = (0, 0, false) from if_neg h1]
    exact Ev.ite_neg h1 (Ev.now _)
theorem refFind_ev (l : List S53) (hl : l.length ≤ 1000000) (va : Int) : Ev (fun k => cotterelref22_Find.f k l va) (findN l va) := by
  unfold cotterelref22_Find.f
  refine Ev.bind (refat_ev l (by omega) va) ?_
  have hb := atN_bd l va
  by_cases h1 : 0 ≤ atN l va
  · rw [show findN l va = ((rd_T53 l (atN l va)).f2.f0, (rd_T53 l (atN l va)).f2.f1, true) from if_pos h1]
    exact Ev.ite_neg (by omega) (Ev.ite_pos h1 (Ev.ite_pos (by omega) (Ev.now _)))
  · rw [show findN l va = (0, 0, false) from if_neg h1]
    exact Ev.ite_pos (by omega) (Ev.now _)
theorem New_f (n : Int) : tlb_New.f n = some (List.replicate (cl n 0 8).toNat z53) := by
  unfold tlb_New.f
  have hc := cl_bd n 0 8 (by omega)
  rw [mnmx n 0 8 (by omega), if_pos hc.1, if_pos (by omega)]
theorem refNew_f (n : Int) : cotterelref22_New.f n = some (List.replicate (cl n 0 8).toNat z53) := by
  unfold cotterelref22_New.f
  have hc := cl_bd n 0 8 (by omega)
  rw [within_f, Option.bind_some, if_pos hc.1, if_pos (by omega)]
theorem Flush_f (l : List S53) (hl : l.length ≤ 1000000) : tlb_Flush.f l = some (List.replicate l.length z53) := by
  unfold tlb_Flush.f
  rw [if_pos (by omega), if_pos (by omega), Int.toNat_natCast]
theorem refFlush_f (l : List S53) (hl : l.length ≤ 1000000) : cotterelref22_Flush.f l = some (List.replicate l.length z53) := by
  unfold cotterelref22_Flush.f
  rw [if_pos (by omega), if_pos (by omega), Int.toNat_natCast]

theorem awake_ev : Ev (fun k => cotterellaw22_awake.f k) true := Ev.of (fun k => cotterellaw22_awake.mono k) (k := 40) (by decide +kernel)
end Go.Proofs.Ytkcncghdpjoodaa.PTlbFinds
namespace Go.Proofs.Ytkcncghdpjoodaa.Pure
set_option linter.unusedVariables false
set_option linter.unusedSimpArgs false
open Go.RowKit Go.Proofs.Ytkcncghdpjoodaa.PTlbFinds Go.Proofs.YtkcncghdpjoodaaW.PrintWords Go.Proofs.YtkcncghdpjoodaaW.PrintLast Go.Proofs.Ytkcncghdpjoodaa.M
theorem TlbFinds : ∀ (x0 : List S53) (x1 : Int) (x2 : Int) (x3 : Int), x0.length ≤ maxLen → (∀ y ∈ x0, W53 y) → (Lit.int .i64 x1).wf = true → (Lit.int .u32 x2).wf = true → (Lit.int .i64 x3).wf = true → ∃ k, cotterellaw22_TlbFinds.f k x0 x1 x2 x3 = some true := by
  intro l nx va n _ _ _ _ _
  refine Ev.rounds ?_
  unfold cotterellaw22_TlbFinds.f
  by_cases hc : (l.length : Int) > 40
  · exact Ev.ite_pos hc (Ev.bind awake_ev (Ev.now _))
  have hcl := cl_bd n 0 8 (by omega)
  refine Ev.ite_neg hc (Ev.bind (Find_ev l (by omega) va) (Ev.bind (refFind_ev l (by omega) va) (Ev.ite_pos (by simp) (Ev.ite_pos (by simp) ?_))))
  refine Ev.bind_some (New_f n) (Ev.bind_some (refNew_f n) (Ev.bind (sameTlbs_ev _ (by simp; omega)) (Ev.ite_pos rfl ?_)))
  exact Ev.bind_some (Flush_f l (by omega)) (Ev.bind_some (refFlush_f l (by omega)) (Ev.bind (sameTlbs_ev _ (by simp; omega)) (Ev.ite_pos rfl (Ev.bind awake_ev (Ev.now _)))))

