/- States of lines: what the law's functions compute. -/
import Derived.Test.YtgmapojiangcgaaPMesiTellsx3
import Derived.Test.YtgmapojiangcgaaPMesiTellsx
import Derived.Test.YtgmapojiangcgaaM
namespace Go.Proofs.Ytgmapojiangcgaa.PMesiTells
set_option linter.unusedVariables false
set_option linter.unusedSimpArgs false
open Go.RowKit Go.Proofs.YtgmapojiangcgaaW.PrintWords Go.Proofs.YtgmapojiangcgaaW.PrintLast Go.Proofs.Ytgmapojiangcgaa.M
def st (a : Int) : Int := if 0 ≤ a ∧ a ≤ 3 then a else 0
theorem st_cases (a : Int) : st a = 0 ∨ st a = 1 ∨ st a = 2 ∨ st a = 3 := by unfold st; split <;> omega
theorem st_id {a : Int} (h : 0 ≤ a ∧ a ≤ 3) : st a = a := if_pos h
def snoopN (s b : Int) : Int × Bool := if b = 1 then (if s = 0 then 0 else 1, decide (s = 3)) else if b = 2 ∨ b = 3 then (0, decide (s = 3)) else (s, false)
def askN (s n : Int) : Int := if n = 1 ∧ s = 0 then 1 else if n = 2 ∧ s = 0 then 2 else if n = 2 ∧ s = 1 then 3 else 0
def gotN (b : Int) (sh : Bool) : Int := if b = 2 ∨ b = 3 then 3 else if b = 1 then (if sh then 1 else 2) else 0
def wroteN (s : Int) : Int := if s = 2 then 3 else s
def nameN (a : Int) : ByteArray := if a = 0 then ⟨#[73]⟩ else if a = 1 then ⟨#[83]⟩ else if a = 2 then ⟨#[69]⟩ else if a = 3 then ⟨#[77]⟩ else ⟨#[]⟩
def good (a : Int) : Bool := decide (0 ≤ a ∧ a ≤ 3)
def hv (l : List Int) : Nat → Nat
  | 0 => 0
  | i + 1 => hv l i + (if rd l i = 0 then 0 else 1)
def al (l : List Int) : Nat → Bool
  | 0 => false
  | i + 1 => al l i || (decide (rd l i = 2) || decide (rd l i = 3))
def okN (l : List Int) : Nat → Bool
  | 0 => true
  | i + 1 => okN l i && good (rd l i)
def legalN (l : List Int) : Bool := okN l l.length && (!al l l.length || decide (hv l l.length = 1))
theorem hv_le (l : List Int) (i : Nat) : hv l i ≤ i := by
  induction i with
  | zero => exact Nat.le_refl _
  | succ i ih => unfold hv; split <;> omega
theorem okN_iff (l : List Int) (n : Nat) : okN l n = true ↔ ∀ j : Nat, j < n → good (rd l (j : Int)) = true := by
  induction n with
  | zero => simp [okN]
  | succ n ih =>
    unfold okN
    rw [Bool.and_eq_true, ih]
    constructor
    · rintro ⟨a, b⟩ j hj
      rcases Nat.lt_succ_iff_lt_or_eq.mp hj with h | h
      · exact a j h
      · rw [h]; exact b
    · intro h
      exact ⟨fun j hj => h j (by omega), h n (by omega)⟩
/-- The first place that is no state. -/
def fb (l : List Int) (i : Nat) : Nat → Int
  | 0 => -1
  | d + 1 => if good (rd l (i : Int)) = true then fb l (i + 1) d else (i : Int)
theorem fb_iff (l : List Int) (d : Nat) : ∀ i, (fb l i d ≥ 0 ↔ ∃ j, i ≤ j ∧ j < i + d ∧ good (rd l ((j : Nat) : Int)) = false) := by
  induction d with
  | zero => intro i; unfold fb; constructor
            · intro h; exact absurd h (by decide)
            · rintro ⟨j, a, b, _⟩; omega
  | succ d ih =>
    intro i
    unfold fb
    split
    · rename_i h
      rw [ih]
      constructor
      · rintro ⟨j, a, b, c⟩; exact ⟨j, by omega, by omega, c⟩
      · rintro ⟨j, a, b, c⟩
        refine ⟨j, ?_, by omega, c⟩
        rcases Nat.eq_or_lt_of_le a with e | e
        · subst e; rw [h] at c; cases c
        · exact e
    · rename_i h
      constructor
      · intro _; exact ⟨i, Nat.le_refl _, by omega, by simpa using h⟩
      · intro _; omega
theorem fb_ok (l : List Int) (n : Nat) : decide (fb l 0 n ≥ 0) = !okN l n := by
  rw [Bool.eq_iff_iff, decide_eq_true_iff, fb_iff, Bool.not_eq_true', ← Bool.not_eq_true, okN_iff]
  constructor
  · rintro ⟨j, _, b, c⟩ h
    have := h j (by omega)
    rw [c] at this; cases this
  · intro h
    apply Classical.byContradiction
    intro hn
    refine h fun j hj => ?_
    cases e : good (rd l (j : Int)) with
    | true => rfl
    | false => exact absurd ⟨j, Nat.zero_le _, by omega, e⟩ hn
theorem known_f (a : Int) : mesi_known.f a = some (good a) := by
  unfold mesi_known.f good
  by_cases h : 0 ≤ a
  · rw [if_pos h]; simp [h]
  · rw [if_neg h]; simp [h]
theorem Legal1_f (a : Int) : mesi_Legal_1.f a = some (!good a) := by unfold mesi_Legal_1.f; rw [known_f]; rfl
theorem of_f (a : Int) : mesi_of.f a = some (st a) := by
  unfold mesi_of.f st; rw [known_f, Option.bind_some]; unfold good; by_cases h : 0 ≤ a ∧ a ≤ 3 <;> simp [h]
theorem Snoop_f (a b : Int) : mesi_Snoop.f a b = some (snoopN (st a) b) := by
  unfold mesi_Snoop.f snoopN mn; rw [of_f, Option.bind_some]
  rcases st_cases a with h | h | h | h <;> rw [h] <;> by_cases h1 : b = 1 <;> by_cases h2 : b = 2 <;> by_cases h3 : b = 3 <;> simp_all
theorem Ask_ev (a n : Int) : Ev (fun k => mesi_Ask.f k a n) (askN (st a) n) := Ev.of (fun k => mesi_Ask.mono a n k) (k := 4) (by
  unfold mesi_Ask.f askN; rw [of_f, Option.bind_some]; simp only [mesi_Ask.j0, mesi_Ask.j1]
  rcases st_cases a with h | h | h | h <;> rw [h] <;> by_cases h1 : n = 1 <;> by_cases h2 : n = 2 <;> simp_all)
theorem Got_ev (b : Int) (s : Bool) : Ev (fun k => mesi_Got.f k b s) (gotN b s) := Ev.of (fun k => mesi_Got.mono b s k) (k := 4) (by
  unfold mesi_Got.f gotN; simp only [mesi_Got.j0]
  by_cases h1 : b = 1 <;> by_cases h2 : b = 2 <;> by_cases h3 : b = 3 <;> cases s <;> simp_all)
theorem Wrote_f (a : Int) : mesi_Wrote.f a = some (wroteN (st a)) := by
  unfold mesi_Wrote.f wroteN; rw [of_f, Option.bind_some]; split <;> rfl
theorem Name_f (a : Int) : mesi_Name.f a = some (nameN a) := by
  unfold mesi_Name.f nameN; rw [known_f, Option.bind_some]; unfold good
  by_cases h : 0 ≤ a ∧ a ≤ 3
  · obtain rfl | rfl | rfl | rfl : a = 0 ∨ a = 1 ∨ a = 2 ∨ a = 3 := by omega
    all_goals (clear h; decide +kernel)
  · rw [if_neg (by simpa using h), if_neg (by omega), if_neg (by omega), if_neg (by omega), if_neg (by omega)]
theorem state_f (a : Int) : cotterelref38_state.f a = some (st a) := by
  unfold cotterelref38_state.f st; by_cases h : a < 0 <;> by_cases h2 : a > 3
  · omega
  · rw [if_pos h, if_neg (by omega)]
  · rw [if_neg h, if_pos h2, if_neg (by omega)]
  · rw [if_neg h, if_neg h2, if_pos (by omega)]
theorem refSnoop_ev (a b : Int) : Ev (fun k => cotterelref38_Snoop.f k a b) (snoopN (st a) b) := Ev.of (fun k => cotterelref38_Snoop.mono a b k) (k := 4) (by
  unfold cotterelref38_Snoop.f snoopN; simp only [state_f, Option.bind_some, cotterelref38_Snoop.j0]
  rcases st_cases a with h | h | h | h <;> rw [h] <;> by_cases h1 : b = 1 <;> by_cases h2 : b = 2 <;> by_cases h3 : b = 3 <;> simp_all)
theorem refAsk_ev (a n : Int) : Ev (fun k => cotterelref38_Ask.f k a n) (askN (st a) n) := Ev.of (fun k => cotterelref38_Ask.mono a n k) (k := 4) (by
  unfold cotterelref38_Ask.f askN; simp only [state_f, Option.bind_some, cotterelref38_Ask.j0, cotterelref38_Ask.j1]
  rcases st_cases a with h | h | h | h <;> rw [h] <;> by_cases h1 : n = 1 <;> by_cases h2 : n = 2 <;> simp_all)
theorem refGot_ev (b : Int) (s : Bool) : Ev (fun k => cotterelref38_Got.f k b s) (gotN b s) := Ev.of (fun k => cotterelref38_Got.mono b s k) (k := 4) (by
  unfold cotterelref38_Got.f gotN; simp only [cotterelref38_Got.j0]
  by_cases h1 : b = 1 <;> by_cases h2 : b = 2 <;> by_cases h3 : b = 3 <;> cases s <;> simp_all)
theorem refWrote_f (a : Int) : cotterelref38_Wrote.f a = some (wroteN (st a)) := by
  unfold cotterelref38_Wrote.f wroteN; simp only [state_f, Option.bind_some]
  rcases st_cases a with h | h | h | h <;> rw [h] <;> rfl
theorem refName_f (a : Int) : cotterelref38_Name.f a = some (nameN a) := by
  unfold cotterelref38_Name.f nameN; repeat' split
  all_goals rfl
theorem IndexFunc_l (l : List Int) (hL : l.length < 2 ^ 62) (d : Nat) : ∀ i, i + d = l.length → Ev (fun k => slices_IndexFunc_int_int.l0 k l (l.length : Int) (i : Int)) (fb l i d) := by
  induction d with
  | zero =>
    intro i hi
    refine Ev.step (fun k => slices_IndexFunc_int_int.l0.eq_2 ..) ?_
    exact Ev.ite_neg (by omega) (Ev.now _)
  | succ d ih =>
    intro i hi
    refine Ev.step (fun k => slices_IndexFunc_int_int.l0.eq_2 ..) ?_
    refine Ev.ite_pos (by omega) (Ev.ite_pos (by omega) (Ev.ite_pos (by omega) (Ev.bind_some (Legal1_f _) ?_)))
    unfold fb
    cases h : good (rd l (i : Int)) with
    | true =>
      refine Ev.ite_neg (by decide) ?_
      rw [w64 (by omega) (by omega), if_pos rfl]
      exact ih (i + 1) (by omega)
    | false => exact Ev.ite_pos rfl (by rw [if_neg (by decide)]; exact Ev.now _)
theorem Contains_ev (l : List Int) (hL : l.length < 2 ^ 62) (b : Bool) : Ev (fun k => slices_ContainsFunc_int_int.f k l b) (!okN l l.length) := by
  unfold slices_ContainsFunc_int_int.f slices_IndexFunc_int_int.f
  refine Ev.bind (IndexFunc_l l hL l.length 0 (by omega)) ?_
  rw [← fb_ok]
  exact Ev.now _
theorem Legal_l (l : List Int) (hL : l.length < 2 ^ 62) (d : Nat) : ∀ i, i + d = l.length → Ev (fun k => mesi_Legal.l0 k l (hv l i : Int) (al l i) l (l.length : Int) (i : Int)) (legalN l) := by
  induction d with
  | zero =>
    intro i hi
    obtain rfl : i = l.length := by omega
    refine Ev.step (fun k => mesi_Legal.l0.eq_2 ..) ?_
    refine Ev.ite_neg (by omega) (Ev.bind (Contains_ev l hL true) ?_)
    unfold legalN
    cases okN l l.length with
    | false => exact Ev.ite_pos rfl (Ev.now _)
    | true =>
      refine Ev.ite_neg (by decide) ?_
      cases al l l.length with
      | false => exact Ev.ite_neg (by decide) (Ev.now _)
      | true =>
        refine Ev.ite_pos rfl ?_
        have e : ((hv l l.length : Int) == 1) = decide (hv l l.length = 1) := by rw [Bool.eq_iff_iff, beq_iff_eq, decide_eq_true_iff]; omega
        rw [e]
        exact Ev.now _
  | succ d ih =>
    intro i hi
    have hv1 := hv_le l i
    have I := ih (i + 1) (by omega)
    have e1 : (((i + 1 : Nat) : Int)) = (i : Int) + 1 := by omega
    rw [e1] at I
    unfold hv al at I
    refine Ev.step (fun k => mesi_Legal.l0.eq_2 ..) ?_
    refine Ev.ite_pos (by omega) (Ev.ite_pos (by omega) (Ev.ite_pos (by omega) ?_))
    rw [w64 (n := (i : Int) + 1) (by omega) (by omega), w64 (n := (hv l i : Int) + 1) (by omega) (by omega)]
    by_cases h0 : rd l (i : Int) = 0
    · refine Ev.ite_pos h0 ?_
      rw [if_pos h0, Nat.add_zero] at I
      cases h4 : al l i with
      | true => refine Ev.ite_pos rfl ?_; simpa [h4] using I
      | false =>
        refine Ev.ite_neg (by decide) (Ev.ite_neg (by omega) ?_)
        have e3 : (rd l (i : Int) == 3) = false := by rw [h0]; rfl
        rw [e3]; simpa [h4, h0] using I
    · refine Ev.ite_neg h0 ?_
      rw [if_neg h0, show (((hv l i + 1 : Nat) : Int)) = (hv l i : Int) + 1 by omega] at I
      cases h4 : al l i with
      | true => refine Ev.ite_pos rfl ?_; simpa [h4] using I
      | false =>
        refine Ev.ite_neg (by decide) ?_
        by_cases h2 : rd l (i : Int) = 2
        · refine Ev.ite_pos h2 ?_; simpa [h4, h2] using I
        · refine Ev.ite_neg h2 ?_
          have e3 : (rd l (i : Int) == 3) = decide (rd l (i : Int) = 3) := rfl
          rw [e3]; simpa [h4, h2] using I
theorem Legal_ev (l : List Int) (hL : l.length < 2 ^ 62) : Ev (fun k => mesi_Legal.f k l) (legalN l) := by
  unfold mesi_Legal.f
  exact Legal_l l hL l.length 0 (by omega)
theorem awake_ev : Ev (fun k => cotterellaw38_awake.f k) true := Ev.of (fun k => cotterellaw38_awake.mono k) (k := 40) (by decide +kernel)
end Go.Proofs.Ytgmapojiangcgaa.PMesiTells
namespace Go.Proofs.Ytgmapojiangcgaa.Pure
set_option linter.unusedVariables false
set_option linter.unusedSimpArgs false
open Go.RowKit Go.Proofs.Ytgmapojiangcgaa.PMesiTells Go.Proofs.YtgmapojiangcgaaW.PrintWords Go.Proofs.YtgmapojiangcgaaW.PrintLast Go.Proofs.Ytgmapojiangcgaa.M
theorem MesiTells : ∀ (x0 : Int) (x1 : Int) (x2 : Bool), (Lit.int .i64 x0).wf = true → (Lit.int .i64 x1).wf = true → ∃ k, cotterellaw38_MesiTells.f k x0 x1 x2 = some true := by
  intro a n s _ _
  refine Ev.rounds ?_
  unfold cotterellaw38_MesiTells.f
  refine Ev.bind_some (Snoop_f a n) (Ev.bind (refSnoop_ev a n) (Ev.bind (Ask_ev a n) (Ev.bind (refAsk_ev a n) (Ev.ite_pos rfl ?_))))
  refine Ev.bind (Got_ev n s) (Ev.bind (refGot_ev n s) (Ev.ite_pos rfl (Ev.ite_pos rfl (Ev.ite_pos (by simp) ?_))))
  refine Ev.bind_some (Wrote_f a) (Ev.bind_some (refWrote_f a) (Ev.ite_pos rfl ?_))
  exact Ev.bind_some (Name_f a) (Ev.bind_some (refName_f a) (Ev.ite_pos rfl (Ev.bind awake_ev (Ev.now _))))
