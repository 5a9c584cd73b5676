/- Every operation that calls nothing. -/
import Derived.Test.YthanlobfjpjegaaB3A
namespace Go.Proofs.Ythanlobfjpjegaa.Abs
open Go Go.RowKit
set_option linter.unusedVariables false
set_option linter.unusedSimpArgs false
section
variable {P : Program} {o : Oper} {a : Act} {B : Nat} {W0 w : World} {Z0 Z : Nat → Nat → Prop} {g : Mem} {μ : Nat → Option Loc} {fr : Nat} {r : Res} {s : List T}

theorem call_ok (hi : Inv B W0 Z0 g w Z μ) (hn : μ fr = none) (hs : VRL w Z μ s a.tmps.toList) {c : Call} {op : AOp} (ho : o.op = .call c) (hc : compOp P (.call c) = some op) (hr : opRes op fr s g = some r) : OpOk P o a B W0 Z0 g w Z μ fr r := by
  obtain ⟨cal, args, ats⟩ := c
  unfold compOp at hc
  split at hc
  all_goals (rename_i heq; try (cases heq))
  · -- a function
    split at hc
    · obtain rfl := Option.some.inj hc; simp [opRes] at hr
    · cases hc
  · split at hc
    · obtain rfl := Option.some.inj hc; simp [opRes] at hr
    · cases hc
  · split at hc
    · rename_i t x hat hxs
      split at hc
      · rename_i e y ht hx
        obtain rfl := Option.some.inj hc
        exact len_ok hi hs ho hat hxs ht hx hr
      · rename_i n e y ht hx
        obtain rfl := Option.some.inj hc
        simp only [opRes, rho, pureR] at hr
        obtain rfl := Option.some.inj hr
        exact lenarr_ok hi hs ho hat hxs ht
      · cases hc
    · cases hc
  · split at hc
    · rename_i t u s' x hat hxs
      split at hc
      · rename_i e ex ht hu
        split at hc
        · rename_i z i sl x' hz he hsl hx
          obtain rfl := Option.some.inj hc
          exact append_ok hi hn hs ho hat hxs ht hu hz he hsl hx hr
        · cases hc
      · cases hc
    · cases hc
  · split at hc
    · rename_i t u s' x hat hxs
      split at hc
      · rename_i e ht
        split at hc
        · rename_i n d' x' h1 hd hx
          obtain rfl := Option.some.inj hc
          exact copy_ok hi hs ho hat hxs ht h1 hd hx hr
        · cases hc
      · cases hc
    · cases hc
  · split at hc
    · rename_i l hl
      obtain rfl := Option.some.inj hc
      exact mn_ok hi hs ho hl hr
    · cases hc
  · split at hc
    · rename_i l hl
      obtain rfl := Option.some.inj hc
      exact mx_ok hi hs ho hl hr
    · cases hc
  · cases hc

theorem opRes_sound (hi : Inv B W0 Z0 g w Z μ) (hn : μ fr = none) (hs : VRL w Z μ s a.tmps.toList) {op : AOp} (hc : compOp P o.op = some op) (hr : opRes op fr s g = some r) : OpOk P o a B W0 Z0 g w Z μ fr r := by
  generalize ho : o.op = q at hc
  cases q with
  | call c => exact call_ok hi hn hs ho hc hr
  | build t ps => exact build_ok hi hs ho hc hr
  | buildSlice t n ps => exact bsl_ok hi hn hs ho hc hr
  | makeSlice t l c => exact mksl_ok hi hn hs ho hc hr
  | move x =>
    simp only [compOp] at hc
    split at hc
    · rename_i y hy; obtain rfl := Option.some.inj hc; simp only [opRes, pureR] at hr; obtain rfl := Option.some.inj hr; exact asg_ok hi hs (.inl ho) hy
    · cases hc
  | assign x =>
    simp only [compOp] at hc
    split at hc
    · rename_i y hy; obtain rfl := Option.some.inj hc; simp only [opRes, pureR] at hr; obtain rfl := Option.some.inj hr; exact asg_ok hi hs (.inr ho) hy
    · cases hc
  | pick c x y =>
    simp only [compOp] at hc
    split at hc
    · rename_i c' x' y' h1 h2 h3; obtain rfl := Option.some.inj hc; exact pick_ok hi hs ho h1 h2 h3 hr
    · cases hc
  | alloc e =>
    simp only [compOp] at hc
    split at hc
    · rename_i z hz; obtain rfl := Option.some.inj hc; exact alloc_ok hi hn ho hz hr
    · cases hc
  | box e x =>
    simp only [compOp] at hc
    split at hc
    · rename_i y hy; obtain rfl := Option.some.inj hc; exact box_ok hi hn hs ho hy hr
    · cases hc
  | load t x =>
    simp only [compOp] at hc
    split at hc
    · rename_i one n y h1 hy; obtain rfl := Option.some.inj hc; exact load_ok hi hs ho h1 hy hr
    · cases hc
  | store t x y =>
    simp only [compOp] at hc
    split at hc
    · rename_i n x' y' h1 hx hy; obtain rfl := Option.some.inj hc; exact store_ok hi hs ho h1 hx hy hr
    · cases hc
  | nilCheck x =>
    simp only [compOp] at hc
    split at hc
    · rename_i y hy; obtain rfl := Option.some.inj hc; exact nilchk_ok hi hs ho hy hr
    · cases hc
  | binOp op t x y u =>
    simp only [compOp] at hc
    split at hc
    · rename_i x' y' hx hy
      split at hc
      · obtain rfl := Option.some.inj hc; exact bin_ok hi hs ho hx hy hr
      · rename_i ht
        split at hc
        · obtain rfl := Option.some.inj hc; exact beq_ok hi hs ho rfl ht hx hy hr
        · obtain rfl := Option.some.inj hc; exact beq_ok hi hs ho rfl ht hx hy hr
        · cases hc
      · split at hc
        · rename_i ks hks
          split at hc
          · obtain rfl := Option.some.inj hc; exact aeq_ok hi hs ho rfl hks hx hy hr
          · obtain rfl := Option.some.inj hc; exact aeq_ok hi hs ho rfl hks hx hy hr
          · cases hc
        · cases hc
    · cases hc
  | unOp op t x =>
    simp only [compOp] at hc
    split at hc
    · rename_i y hy; obtain rfl := Option.some.inj hc; exact un_ok hi hs ho hy hr
    · cases hc
  | convert t u x =>
    simp only [compOp] at hc
    split at hc
    · rename_i d k y ht hu hy; obtain rfl := Option.some.inj hc; exact conv_ok hi hs ho ht hu hy hr
    · cases hc
  | makeFunc f fs cs =>
    cases f <;> simp only [compOp] at hc
    case func f =>
      split at hc
      · rename_i fs' cs' h1 h2; obtain rfl := Option.some.inj hc; simp only [opRes, pureR] at hr; obtain rfl := Option.some.inj hr; exact mkfn_ok hi hs ho h1 h2
      · cases hc
    all_goals cases hc
  | slice t x lo hh mx =>
    simp only [compOp] at hc
    split at hc
    · rename_i n e ht
      split at hc
      · rename_i es x' lo' hh' mx' h1 h2 h3 h4 h5
        split at hc
        · rename_i h6; obtain rfl := Option.some.inj hc; exact slarr_ok hi hs ho ht h1 h2 h3 h4 h5 h6 hr
        · cases hc
      · cases hc
    · rename_i e ht
      split at hc
      · rename_i es x' lo' hh' mx' h1 h2 h3 h4 h5
        split at hc
        · rename_i h6; obtain rfl := Option.some.inj hc; exact slsl_ok hi hs ho ht h1 h2 h3 h4 h5 h6 hr
        · cases hc
      · cases hc
    · cases hc
  | fieldAddr t x f =>
    simp only [compOp] at hc
    split at hc
    · rename_i fs ht
      split at hc
      · rename_i fd hf
        split at hc
        · rename_i n x' h1 hx; obtain rfl := Option.some.inj hc; exact faddr_ok hi hs ho ht hf h1 hx hr
        · cases hc
      · cases hc
    · cases hc
  | field t x f =>
    simp only [compOp] at hc
    split at hc
    · rename_i fs ht
      split at hc
      · rename_i fd hf
        split at hc
        · rename_i one n x' h1 hx; obtain rfl := Option.some.inj hc; exact field_ok hi hs ho ht hf h1 hx hr
        · cases hc
      · cases hc
    · cases hc
  | indexAddr t x i =>
    simp only [compOp] at hc
    split at hc
    · rename_i n e ht
      split at hc
      · rename_i es x' i' h1 hx hi'; obtain rfl := Option.some.inj hc; exact iarr_ok hi hs ho ht h1 hx hi' hr
      · cases hc
    · rename_i e ht
      split at hc
      · rename_i es x' i' h1 hx hi'; obtain rfl := Option.some.inj hc; exact isl_ok hi hs ho ht h1 hx hi' hr
      · cases hc
    · cases hc
  | index t x i =>
    simp only [compOp] at hc
    split at hc
    · rename_i n e ht
      split at hc
      · rename_i one es x' i' h1 hx hi'; obtain rfl := Option.some.inj hc; exact index_ok hi hs ho ht h1 hx hi' hr
      · cases hc
    · cases hc
  | extract x i =>
    simp only [compOp] at hc
    split at hc
    · rename_i y hy; obtain rfl := Option.some.inj hc; exact extract_ok hi hs ho hy hr
    · cases hc
  | _ => simp [compOp] at hc
end
end Go.Proofs.Ythanlobfjpjegaa.Abs
