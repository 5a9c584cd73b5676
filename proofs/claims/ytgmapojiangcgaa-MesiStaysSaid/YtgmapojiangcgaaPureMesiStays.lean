/- States of lines: what the law's functions compute. -/
import Derived.Test.YtgmapojiangcgaaPMesiStaysx3
import Derived.Test.YtgmapojiangcgaaPMesiStaysx
import Derived.Test.YtgmapojiangcgaaM
namespace Go.Proofs.Ytgmapojiangcgaa.PMesiStays
set_option linter.unusedVariables false
set_option linter.unusedSimpArgs false
open Go.RowKit Go.Proofs.YtgmapojiangcgaaW.PrintWords Go.Proofs.YtgmapojiangcgaaW.PrintLast Go.Proofs.Ytgmapojiangcgaa.M
def st (a : Int) : Int := if 0 ≤ a ∧ a ≤ 3 then a else 0
theorem st_cases (a : Int) : st a = 0 ∨ st a = 1 ∨ st a = 2 ∨ st a = 3 := by unfold st; split <;> omega
theorem st_id {a : Int} (h : 0 ≤ a ∧ a ≤ 3) : st a = a := if_pos h
def snoopN (s b : Int) : Int × Bool := if b = 1 then (if s = 0 then 0 else 1, decide (s = 3)) else if b = 2 ∨ b = 3 then (0, decide (s = 3)) else (s, false)
def askN (s n : Int) : Int := if n = 1 ∧ s = 0 then 1 else if n = 2 ∧ s = 0 then 2 else if n = 2 ∧ s = 1 then 3 else 0
def gotN (b : Int) (sh : Bool) : Int := if b = 2 ∨ b = 3 then 3 else if b = 1 then (if sh then 1 else 2) else 0
def wroteN (s : Int) : Int := if s = 2 then 3 else s
def nameN (a : Int) : ByteArray := if a = 0 then ⟨#[73]⟩ else if a = 1 then ⟨#[83]⟩ else if a = 2 then ⟨#[69]⟩ else if a = 3 then ⟨#[77]⟩ else ⟨#[]⟩
def good (a : Int) : Bool := decide (0 ≤ a ∧ a ≤ 3)
def hv (l : List Int) : Nat → Nat
  | 0 => 0
  | i + 1 => hv l i + (if rd l i = 0 then 0 else 1)
def al (l : List Int) : Nat → Bool
  | 0 => false
  | i + 1 => al l i || (decide (rd l i = 2) || decide (rd l i = 3))
def okN (l : List Int) : Nat → Bool
  | 0 => true
  | i + 1 => okN l i && good (rd l i)
def legalN (l : List Int) : Bool := okN l l.length && (!al l l.length || decide (hv l l.length = 1))
theorem hv_le (l : List Int) (i : Nat) : hv l i ≤ i := by
  induction i with
  | zero => exact Nat.le_refl _
  | succ i ih => unfold hv; split <;> omega
theorem okN_iff (l : List Int) (n : Nat) : okN l n = true ↔ ∀ j : Nat, j < n → good (rd l (j : Int)) = true := by
  induction n with
  | zero => simp [okN]
  | succ n ih =>
    unfold okN
    rw [Bool.and_eq_true, ih]
    constructor
    · rintro ⟨a, b⟩ j hj
      rcases Nat.lt_succ_iff_lt_or_eq.mp hj with h | h
      · exact a j h
      · rw [h]; exact b
    · intro h
      exact ⟨fun j hj => h j (by omega), h n (by omega)⟩
/-- The first place that is no state. -/
def fb (l : List Int) (i : Nat) : Nat → Int
  | 0 => -1
  | d + 1 => if good (rd l (i : Int)) = true then fb l (i + 1) d else (i : Int)
theorem fb_iff (l : List Int) (d : Nat) : ∀ i, (fb l i d ≥ 0 ↔ ∃ j, i ≤ j ∧ j < i + d ∧ good (rd l ((j : Nat) : Int)) = false) := by
  induction d with
  | zero => intro i; unfold fb; constructor
            · intro h; exact absurd h (by decide)
            · rintro ⟨j, a, b, _⟩; omega
  | succ d ih =>
    intro i
    unfold fb
    split
    · rename_i h
      rw [ih]
      constructor
      · rintro ⟨j, a, b, c⟩; exact ⟨j, by omega, by omega, c⟩
      · rintro ⟨j, a, b, c⟩
        refine ⟨j, ?_, by omega, c⟩
        rcases Nat.eq_or_lt_of_le a with e | e
        · subst e; rw [h] at c; cases c
        · exact e
    · rename_i h
      constructor
      · intro _; exact ⟨i, Nat.le_refl _, by omega, by simpa using h⟩
      · intro _; omega
theorem fb_ok (l : List Int) (n : Nat) : decide (fb l 0 n ≥ 0) = !okN l n := by
  rw [Bool.eq_iff_iff, decide_eq_true_iff, fb_iff, Bool.not_eq_true', ← Bool.not_eq_true, okN_iff]
  constructor
  · rintro ⟨j, _, b, c⟩ h
    have := h j (by omega)
    rw [c] at this; cases this
  · intro h
    apply Classical.byContradiction
    intro hn
    refine h fun j hj => ?_
    cases e : good (rd l (j : Int)) with
    | true => rfl
    | false => exact absurd ⟨j, Nat.zero_le _, by omega, e⟩ hn
theorem known_f (a : Int) : mesi_known.f a = some (good a) := by
  unfold mesi_known.f good
  by_cases h : 0 ≤ a
  · rw [if_pos h]; simp [h]
  · rw [if_neg h]; simp [h]
theorem Legal1_f (a : Int) : mesi_Legal_1.f a = some (!good a) := by unfold mesi_Legal_1.f; rw [known_f]; rfl
theorem of_f (a : Int) : mesi_of.f a = some (st a) := by
  unfold mesi_of.f st; rw [known_f, Option.bind_some]; unfold good; by_cases h : 0 ≤ a ∧ a ≤ 3 <;> simp [h]
theorem Snoop_f (a b : Int) : mesi_Snoop.f a b = some (snoopN (st a) b) := by
  unfold mesi_Snoop.f snoopN mn; rw [of_f, Option.bind_some]
  rcases st_cases a with h | h | h | h <;> rw [h] <;> by_cases h1 : b = 1 <;> by_cases h2 : b = 2 <;> by_cases h3 : b = 3 <;> simp_all
theorem Ask_ev (a n : Int) : Ev (fun k => mesi_Ask.f k a n) (askN (st a) n) := Ev.of (fun k => mesi_Ask.mono a n k) (k := 4) (by
  unfold mesi_Ask.f askN; rw [of_f, Option.bind_some]; simp only [mesi_Ask.j0, mesi_Ask.j1]
  rcases st_cases a with h | h | h | h <;> rw [h] <;> by_cases h1 : n = 1 <;> by_cases h2 : n = 2 <;> simp_all)
theorem Got_ev (b : Int) (s : Bool) : Ev (fun k => mesi_Got.f k b s) (gotN b s) := Ev.of (fun k => mesi_Got.mono b s k) (k := 4) (by
  unfold mesi_Got.f gotN; simp only [mesi_Got.j0]
  by_cases h1 : b = 1 <;> by_cases h2 : b = 2 <;> by_cases h3 : b = 3 <;> cases s <;> simp_all)
theorem Wrote_f (a : Int) : mesi_Wrote.f a = some (wroteN (st a)) := by
  unfold mesi_Wrote.f wroteN; rw [of_f, Option.bind_some]; split <;> rfl
theorem Name_f (a : Int) : mesi_Name.f a = some (nameN a) := by
  unfold mesi_Name.f nameN; rw [known_f, Option.bind_some]; unfold good
  by_cases h : 0 ≤ a ∧ a ≤ 3
  · obtain rfl | rfl | rfl | rfl : a = 0 ∨ a = 1 ∨ a = 2 ∨ a = 3 := by omega
    all_goals (clear h; decide +kernel)
  · rw [if_neg (by simpa using h), if_neg (by omega), if_neg (by omega), if_neg (by omega), if_neg (by omega)]
theorem IndexFunc_l (l : List Int) (hL : l.length < 2 ^ 62) (d : Nat) : ∀ i, i + d = l.length → Ev (fun k => slices_IndexFunc_int_int.l0 k l (l.length : Int) (i : Int)) (fb l i d) := by
  induction d with
  | zero =>
    intro i hi
    refine Ev.step (fun k => slices_IndexFunc_int_int.l0.eq_2 ..) ?_
    exact Ev.ite_neg (by omega) (Ev.now _)
  | succ d ih =>
    intro i hi
    refine Ev.step (fun k => slices_IndexFunc_int_int.l0.eq_2 ..) ?_
    refine Ev.ite_pos (by omega) (Ev.ite_pos (by omega) (Ev.ite_pos (by omega) (Ev.bind_some (Legal1_f _) ?_)))
    unfold fb
    cases h : good (rd l (i : Int)) with
    | true =>
      refine Ev.ite_neg (by decide) ?_
      rw [w64 (by omega) (by omega), if_pos rfl]
      exact ih (i + 1) (by omega)
    | false => exact Ev.ite_pos rfl (by rw [if_neg (by decide)]; exact Ev.now _)
theorem Contains_ev (l : List Int) (hL : l.length < 2 ^ 62) (b : Bool) : Ev (fun k => slices_ContainsFunc_int_int.f k l b) (!okN l l.length) := by
  unfold slices_ContainsFunc_int_int.f slices_IndexFunc_int_int.f
  refine Ev.bind (IndexFunc_l l hL l.length 0 (by omega)) ?_
  rw [← fb_ok]
  exact Ev.now _
theorem Legal_l (l : List Int) (hL : l.length < 2 ^ 62) (d : Nat) : ∀ i, i + d = l.length → Ev (fun k => mesi_Legal.l0 k l (hv l i : Int) (al l i) l (l.length : Int) (i : Int)) (legalN l) := by
  induction d with
  | zero =>
    intro i hi
    obtain rfl : i = l.length := by omega
    refine Ev.step (fun k => mesi_Legal.l0.eq_2 ..) ?_
    refine Ev.ite_neg (by omega) (Ev.bind (Contains_ev l hL true) ?_)
    unfold legalN
    cases okN l l.length with
    | false => exact Ev.ite_pos rfl (Ev.now _)
    | true =>
      refine Ev.ite_neg (by decide) ?_
      cases al l l.length with
      | false => exact Ev.ite_neg (by decide) (Ev.now _)
      | true =>
        refine Ev.ite_pos rfl ?_
        have e : ((hv l l.length : Int) == 1) = decide (hv l l.length = 1) := by rw [Bool.eq_iff_iff, beq_iff_eq, decide_eq_true_iff]; omega
        rw [e]
        exact Ev.now _
  | succ d ih =>
    intro i hi
    have hv1 := hv_le l i
    have I := ih (i + 1) (by omega)
    have e1 : (((i + 1 : Nat) : Int)) = (i : Int) + 1 := by omega
    rw [e1] at I
    unfold hv al at I
    refine Ev.step (fun k => mesi_Legal.l0.eq_2 ..) ?_
    refine Ev.ite_pos (by omega) (Ev.ite_pos (by omega) (Ev.ite_pos (by omega) ?_))
    rw [w64 (n := (i : Int) + 1) (by omega) (by omega), w64 (n := (hv l i : Int) + 1) (by omega) (by omega)]
    by_cases h0 : rd l (i : Int) = 0
    · refine Ev.ite_pos h0 ?_
      rw [if_pos h0, Nat.add_zero] at I
      cases h4 : al l i with
      | true => refine Ev.ite_pos rfl ?_; simpa [h4] using I
      | false =>
        refine Ev.ite_neg (by decide) (Ev.ite_neg (by omega) ?_)
        have e3 : (rd l (i : Int) == 3) = false := by rw [h0]; rfl
        rw [e3]; simpa [h4, h0] using I
    · refine Ev.ite_neg h0 ?_
      rw [if_neg h0, show (((hv l i + 1 : Nat) : Int)) = (hv l i : Int) + 1 by omega] at I
      cases h4 : al l i with
      | true => refine Ev.ite_pos rfl ?_; simpa [h4] using I
      | false =>
        refine Ev.ite_neg (by decide) ?_
        by_cases h2 : rd l (i : Int) = 2
        · refine Ev.ite_pos h2 ?_; simpa [h4, h2] using I
        · refine Ev.ite_neg h2 ?_
          have e3 : (rd l (i : Int) == 3) = decide (rd l (i : Int) = 3) := rfl
          rw [e3]; simpa [h4, h2] using I
theorem Legal_ev (l : List Int) (hL : l.length < 2 ^ 62) : Ev (fun k => mesi_Legal.f k l) (legalN l) := by
  unfold mesi_Legal.f
  exact Legal_l l hL l.length 0 (by omega)
theorem shared_l (l : List Int) (hL : l.length < 2 ^ 62) (w : Nat) (d : Nat) : ∀ i, i + d = l.length → ∃ b : Bool, (b = true ↔ ∃ j, i ≤ j ∧ j < l.length ∧ j ≠ w ∧ rd l ((j : Nat) : Int) ≠ 0) ∧ Ev (fun k => cotterellaw38_shared.l0 k l (w : Int) (i : Int)) b := by
  induction d with
  | zero =>
    intro i hi
    refine ⟨false, ⟨fun h => (by cases h), ?_⟩, ?_⟩
    · rintro ⟨j, a, b, _⟩; omega
    · refine Ev.step (fun k => cotterellaw38_shared.l0.eq_2 ..) ?_
      exact Ev.ite_neg (by omega) (Ev.now _)
  | succ d ih =>
    intro i hi
    obtain ⟨b, hb, he⟩ := ih (i + 1) (by omega)
    rw [show (((i + 1 : Nat) : Int)) = (i : Int) + 1 by omega] at he
    by_cases hw : i = w
    · refine ⟨b, hb.trans ⟨?_, ?_⟩, ?_⟩
      · rintro ⟨j, a, c⟩; exact ⟨j, by omega, c⟩
      · rintro ⟨j, a, c, e, f⟩; exact ⟨j, by omega, c, e, f⟩
      · refine Ev.step (fun k => cotterellaw38_shared.l0.eq_2 ..) ?_
        refine Ev.ite_pos (by omega) (Ev.ite_pos (by omega) ?_)
        rw [w64 (by omega) (by omega)]; exact he
    by_cases h0 : rd l (i : Int) = 0
    · refine ⟨b, hb.trans ⟨?_, ?_⟩, ?_⟩
      · rintro ⟨j, a, c⟩; exact ⟨j, by omega, c⟩
      · rintro ⟨j, a, c, e, f⟩
        refine ⟨j, ?_, c, e, f⟩
        rcases Nat.eq_or_lt_of_le a with g | g
        · subst g; exact absurd h0 f
        · exact g
      · refine Ev.step (fun k => cotterellaw38_shared.l0.eq_2 ..) ?_
        refine Ev.ite_pos (by omega) (Ev.ite_neg (by omega) (Ev.ite_pos (by omega) (Ev.ite_pos h0 ?_)))
        rw [w64 (by omega) (by omega)]; exact he
    · refine ⟨true, ⟨fun _ => ⟨i, Nat.le_refl _, by omega, hw, h0⟩, fun _ => rfl⟩, ?_⟩
      refine Ev.step (fun k => cotterellaw38_shared.l0.eq_2 ..) ?_
      exact Ev.ite_pos (by omega) (Ev.ite_neg (by omega) (Ev.ite_pos (by omega) (Ev.ite_neg h0 (Ev.now _))))
theorem shared_ev (l : List Int) (hL : l.length < 2 ^ 62) (w : Nat) : ∃ b : Bool, (b = true ↔ ∃ j, j < l.length ∧ j ≠ w ∧ rd l ((j : Nat) : Int) ≠ 0) ∧ Ev (fun k => cotterellaw38_shared.f k l (w : Int)) b := by
  obtain ⟨b, hb, he⟩ := shared_l l hL w l.length 0 (by omega)
  refine ⟨b, hb.trans ⟨?_, ?_⟩, he⟩
  · rintro ⟨j, _, c⟩; exact ⟨j, c⟩
  · rintro ⟨j, c⟩; exact ⟨j, Nat.zero_le _, c⟩
theorem hv_zero (l : List Int) (n : Nat) (h : ∀ j : Nat, j < n → rd l (j : Int) = 0) : hv l n = 0 := by
  induction n with
  | zero => rfl
  | succ n ih => unfold hv; rw [ih (fun j hj => h j (by omega)), if_pos (h n (by omega))]
theorem hv_one (l : List Int) (n i : Nat) (hi : i < n) (h0 : rd l (i : Int) ≠ 0) (h : ∀ j : Nat, j < n → j ≠ i → rd l (j : Int) = 0) : hv l n = 1 := by
  induction n with
  | zero => omega
  | succ n ih =>
    unfold hv
    rcases Nat.lt_succ_iff_lt_or_eq.mp hi with g | g
    · rw [ih g (fun j hj hne => h j (by omega) hne), if_pos (h n (by omega) (by omega))]
    · subst g
      rw [hv_zero l i (fun j hj => h j (by omega) (by omega)), if_neg h0]
theorem hv_pos (l : List Int) (n i : Nat) (hi : i < n) (h0 : rd l (i : Int) ≠ 0) : 1 ≤ hv l n := by
  induction n with
  | zero => omega
  | succ n ih =>
    unfold hv
    rcases Nat.lt_succ_iff_lt_or_eq.mp hi with g | g
    · have := ih g; omega
    · subst g; rw [if_neg h0]; omega
theorem hv_two (l : List Int) (n i j : Nat) (hi : i < j) (hj : j < n) (h0 : rd l (i : Int) ≠ 0) (h1 : rd l (j : Int) ≠ 0) : 2 ≤ hv l n := by
  induction n with
  | zero => omega
  | succ n ih =>
    unfold hv
    rcases Nat.lt_succ_iff_lt_or_eq.mp hj with g | g
    · have := ih g; omega
    · subst g; rw [if_neg h1]; have := hv_pos l j i hi h0; omega
theorem al_iff (l : List Int) (n : Nat) : al l n = true ↔ ∃ i, i < n ∧ (rd l ((i : Nat) : Int) = 2 ∨ rd l ((i : Nat) : Int) = 3) := by
  induction n with
  | zero => simp [al]
  | succ n ih =>
    unfold al
    rw [Bool.or_eq_true, ih, Bool.or_eq_true, decide_eq_true_iff, decide_eq_true_iff]
    constructor
    · rintro (⟨i, a, b⟩ | h)
      · exact ⟨i, by omega, b⟩
      · exact ⟨n, by omega, h⟩
    · rintro ⟨i, a, b⟩
      rcases Nat.lt_succ_iff_lt_or_eq.mp a with g | g
      · exact .inl ⟨i, g, b⟩
      · subst g; exact .inr b
/-- What a legal row is. -/
def LegalP (n : Nat) (a : Nat → Int) : Prop := (∀ j, j < n → 0 ≤ a j ∧ a j ≤ 3) ∧ ∀ i, i < n → 2 ≤ a i → ∀ j, j < n → j ≠ i → a j = 0
theorem legalN_iff (l : List Int) : legalN l = true ↔ LegalP l.length (fun i => rd l (i : Int)) := by
  unfold legalN LegalP
  rw [Bool.and_eq_true, okN_iff, Bool.or_eq_true, Bool.not_eq_true', decide_eq_true_iff]
  have hg : ∀ x : Int, good x = true ↔ 0 ≤ x ∧ x ≤ 3 := fun x => by unfold good; exact decide_eq_true_iff
  simp only [hg]
  constructor
  · rintro ⟨a, b⟩
    refine ⟨a, fun i hi h2 j hj hne => ?_⟩
    have hal : al l l.length = true := (al_iff l _).mpr ⟨i, hi, by have := a i hi; omega⟩
    rw [hal] at b
    have h1 : hv l l.length = 1 := by rcases b with b | b; cases b; exact b
    apply Classical.byContradiction
    intro hz
    rcases Nat.lt_or_gt_of_ne hne with g | g
    · have := hv_two l l.length j i g hi hz (by omega); omega
    · have := hv_two l l.length i j g hj (by omega) hz; omega
  · rintro ⟨a, b⟩
    refine ⟨a, ?_⟩
    cases hal : al l l.length with
    | false => exact .inl rfl
    | true =>
      obtain ⟨i, hi, h⟩ := (al_iff l _).mp hal
      exact .inr (hv_one l l.length i hi (by omega) (b i hi (by omega)))
def nextF (a : Nat → Int) (w : Nat) (write sh : Bool) (bus : Int) (i : Nat) : Int := if i = w then (if bus = 0 then (if write = true then wroteN (a i) else a i) else gotN bus sh) else (snoopN (a i) bus).1
theorem stays (n : Nat) (a : Nat → Int) (w : Nat) (hw : w < n) (write sh : Bool) (h : LegalP n a) (hs : sh = true ↔ ∃ j, j < n ∧ j ≠ w ∧ a j ≠ 0) (bus : Int) (hb : bus = askN (a w) (if write = true then 2 else 1)) :
    LegalP n (nextF a w write sh bus) ∧ nextF a w write sh bus w ≠ 0 ∧ (write = true → nextF a w write sh bus w = 3 ∧ ¬ ∃ j, j < n ∧ j ≠ w ∧ nextF a w write sh bus j ≠ 0) ∧ (write = false → bus = 0 → nextF a w write sh bus w = a w) := by
  obtain ⟨h1, h2⟩ := h
  have aw := h1 w hw
  have self : ∀ b, nextF a w write sh b w = if b = 0 then (if write = true then wroteN (a w) else a w) else gotN b sh := fun b => by unfold nextF; rw [if_pos rfl]
  have other : ∀ b j, j ≠ w → nextF a w write sh b j = (snoopN (a j) b).1 := fun b j hj => by unfold nextF; rw [if_neg hj]
  have one : ∀ (f : Nat → Int), (0 ≤ f w ∧ f w ≤ 3) → (∀ j, j < n → j ≠ w → f j = 0) → LegalP n f := by
    intro f fw fo
    refine ⟨fun j hj => ?_, fun i hi i2 j hj hne => ?_⟩
    · by_cases e : j = w
      · subst e; exact fw
      · rw [fo j hj e]; decide
    · by_cases e : i = w
      · subst e; exact fo j hj hne
      · rw [fo i hi e] at i2; exact absurd i2 (by decide)
  cases write with
  | true =>
    rw [if_pos rfl] at hb
    have key : nextF a w true sh bus w = 3 ∧ ∀ j, j < n → j ≠ w → nextF a w true sh bus j = 0 := by
      obtain e | e | e : a w = 0 ∨ a w = 1 ∨ 2 ≤ a w := by omega
      · have : bus = 2 := by rw [hb, e]; rfl
        subst this
        refine ⟨by rw [self]; rfl, fun j hj hne => by rw [other _ _ hne]; rfl⟩
      · have : bus = 3 := by rw [hb, e]; rfl
        subst this
        refine ⟨by rw [self]; rfl, fun j hj hne => by rw [other _ _ hne]; rfl⟩
      · have : bus = 0 := by rw [hb]; unfold askN; rw [if_neg (by omega), if_neg (by omega), if_neg (by omega)]
        subst this
        refine ⟨?_, fun j hj hne => by rw [other _ _ hne]; exact h2 w hw e j hj hne⟩
        rw [self, if_pos rfl, if_pos rfl]; unfold wroteN; split <;> omega
    refine ⟨one _ (by rw [key.1]; decide) key.2, by rw [key.1]; decide, fun _ => ⟨key.1, ?_⟩, fun h => by cases h⟩
    rintro ⟨j, hj, hne, hz⟩
    exact hz (key.2 j hj hne)
  | false =>
    rw [if_neg (by decide)] at hb
    by_cases e : a w = 0
    · have : bus = 1 := by rw [hb, e]; rfl
      subst this
      have s1 : nextF a w false sh 1 w = if sh then 1 else 2 := by rw [self]; rfl
      have o1 : ∀ j, j ≠ w → nextF a w false sh 1 j = if a j = 0 then 0 else 1 := fun j hj => by rw [other _ _ hj]; rfl
      refine ⟨?_, ?_, fun h => (by cases h), fun _ h => absurd h (by decide)⟩
      · cases hsh : sh with
        | true =>
          rw [hsh] at s1 o1
          have all : ∀ j, 0 ≤ nextF a w false true 1 j ∧ nextF a w false true 1 j ≤ 1 := by
            intro j
            by_cases hj : j = w
            · subst hj; rw [s1]; decide
            · rw [o1 j hj]; split <;> decide
          refine ⟨fun j _ => ⟨(all j).1, by have := (all j).2; omega⟩, fun i _ hi => ?_⟩
          have := (all i).2; omega
        | false =>
          rw [hsh] at s1 o1
          refine one _ (by rw [s1]; decide) (fun j hj hne => ?_)
          rw [o1 j hne, if_pos]
          apply Classical.byContradiction
          intro hz
          have := hs.mpr ⟨j, hj, hne, hz⟩
          rw [hsh] at this; cases this
      · rw [s1]; split <;> decide
    · have : bus = 0 := by rw [hb]; unfold askN; rw [if_neg (by omega), if_neg (by omega), if_neg (by omega)]
      subst this
      have s1 : nextF a w false sh 0 w = a w := by rw [self]; rfl
      have o1 : ∀ j, nextF a w false sh 0 j = a j := fun j => by
        by_cases hj : j = w
        · subst hj; exact s1
        · rw [other _ _ hj]; rfl
      have : nextF a w false sh 0 = a := funext o1
      rw [this]
      exact ⟨⟨h1, h2⟩, e, fun h => (by cases h), fun _ _ => rfl⟩
theorem loop (l : List Int) (hL : l.length ≤ 30) (hok : ∀ j : Nat, j < l.length → 0 ≤ rd l (j : Int) ∧ rd l (j : Int) ≤ 3) (w : Nat) (write sh : Bool) (bus : Int) (hb : 0 ≤ bus ∧ bus ≤ 3) (hs : Ev (fun k => cotterellaw38_shared.f k l (w : Int)) sh)
    (R : Bool) (hend : Ev (fun k => cotterellaw38_MesiStays.l0 k l (w : Int) write bus (tab l.length (nextF (fun i => rd l (i : Int)) w write sh bus)) (l.length : Int)) R) (d : Nat) :
    ∀ i, i + d = l.length → Ev (fun k => cotterellaw38_MesiStays.l0 k l (w : Int) write bus (tab i (nextF (fun i => rd l (i : Int)) w write sh bus)) (i : Int)) R := by
  induction d with
  | zero => intro i hi; obtain rfl : i = l.length := by omega
            exact hend
  | succ d ih =>
    intro i hi
    have I := ih (i + 1) (by omega)
    rw [← tab_snoc, show (((i + 1 : Nat) : Int)) = (i : Int) + 1 by omega] at I
    have hl : (tab i (nextF (fun i => rd l (i : Int)) w write sh bus)).length < 17592186044416 := by rw [tab_length]; omega
    have g := hok i (by omega)
    refine Ev.step (fun k => cotterellaw38_MesiStays.l0.eq_2 ..) ?_
    refine Ev.ite_pos (by omega) (Ev.ite_pos (by omega) (Ev.bind_some (Snoop_f _ _) ?_))
    rw [w64 (n := (i : Int) + 1) (by omega) (by omega), st_id g]
    by_cases hw : i = w
    · have hx : nextF (fun i => rd l (i : Int)) w write sh bus i = (if bus = 0 then (if write = true then wroteN (rd l (i : Int)) else rd l (i : Int)) else gotN bus sh) := by unfold nextF; rw [if_pos hw]
      rw [hx] at I
      refine Ev.ite_pos (by omega) (Ev.bind hs (Ev.bind (Got_ev bus sh) ?_))
      by_cases h0 : bus = 0
      · refine Ev.ite_pos h0 ?_
        rw [if_pos h0] at I
        cases hwr : write with
        | true =>
          rw [hwr] at I hl
          refine Ev.ite_pos rfl (Ev.bind_some (Wrote_f _) (Ev.ite_pos hl ?_))
          rw [st_id g]; exact I
        | false =>
          rw [hwr] at I hl
          exact Ev.ite_neg (by decide) (Ev.ite_pos hl I)
      · refine Ev.ite_neg h0 (Ev.ite_pos hl ?_)
        rw [if_neg h0] at I
        exact I
    · have hx : nextF (fun i => rd l (i : Int)) w write sh bus i = (snoopN (rd l (i : Int)) bus).1 := by unfold nextF; rw [if_neg hw]
      rw [hx] at I
      refine Ev.ite_neg (by omega) ?_
      have hcase : bus = 0 ∨ bus = 1 ∨ bus = 2 ∨ bus = 3 := by omega
      by_cases h3 : rd l (i : Int) = 3
      · refine Ev.ite_pos h3 (Ev.ite_neg ?_ (Ev.ite_pos hl I))
        rw [h3]
        rcases hcase with h | h | h | h <;> rw [h] <;> decide
      · refine Ev.ite_neg h3 (Ev.ite_neg ?_ (Ev.ite_pos hl I))
        have : (snoopN (rd l (i : Int)) bus).2 = false := by
          unfold snoopN
          split
          · exact decide_eq_false h3
          · split
            · exact decide_eq_false h3
            · rfl
        rw [this]; decide

theorem awake_ev : Ev (fun k => cotterellaw38_awake.f k) true := Ev.of (fun k => cotterellaw38_awake.mono k) (k := 40) (by decide +kernel)
end Go.Proofs.Ytgmapojiangcgaa.PMesiStays
namespace Go.Proofs.Ytgmapojiangcgaa.Pure
set_option linter.unusedVariables false
set_option linter.unusedSimpArgs false
open Go.RowKit Go.Proofs.Ytgmapojiangcgaa.PMesiStays Go.Proofs.YtgmapojiangcgaaW.PrintWords Go.Proofs.YtgmapojiangcgaaW.PrintLast Go.Proofs.Ytgmapojiangcgaa.M
theorem MesiStays : ∀ (x0 : List Int) (x1 : Int) (x2 : Bool), x0.length ≤ maxLen → (∀ y ∈ x0, (Lit.int .i64 y).wf = true) → (Lit.int .i64 x1).wf = true → ∃ k, cotterellaw38_MesiStays.f k x0 x1 x2 = some true := by
  intro l w write _ _ _
  refine Ev.rounds ?_
  unfold cotterellaw38_MesiStays.f
  have hout : Ev (fun k => cotterellaw38_MesiStays.j0 k l w write true) true := by
    refine Ev.step (fun k => cotterellaw38_MesiStays.j0.eq_2 ..) ?_
    exact Ev.ite_pos rfl (Ev.bind awake_ev (Ev.now _))
  by_cases hL : (l.length : Int) > 30
  · exact Ev.ite_pos hL hout
  refine Ev.ite_neg hL ?_
  by_cases h1 : w < 0
  · exact Ev.ite_pos h1 hout
  refine Ev.ite_neg h1 ?_
  by_cases h2 : w ≥ (l.length : Int)
  · exact Ev.ite_pos h2 hout
  refine Ev.ite_neg h2 (Ev.bind (Legal_ev l (by omega)) ?_)
  cases hl : legalN l with
  | false => exact hout
  | true =>
    obtain ⟨v, rfl⟩ : ∃ v : Nat, w = (v : Int) := ⟨w.toNat, by omega⟩
    have hP := (legalN_iff l).mp hl
    obtain ⟨sh, hsh, hev⟩ := shared_ev l (by omega) v
    have hg := hP.1 v (by omega)
    have S := stays l.length (fun i => rd l (i : Int)) v (by omega) write sh hP hsh _ rfl
    have hb : 0 ≤ askN (rd l (v : Int)) (if write = true then 2 else 1) ∧ askN (rd l (v : Int)) (if write = true then 2 else 1) ≤ 3 := by
      unfold askN; repeat' split
      all_goals omega
    dsimp only at S hg
    generalize hbus : askN (rd l (v : Int)) (if write = true then 2 else 1) = bus at S hb
    obtain ⟨S1, S2, S3, S4⟩ := S
    have hrd : ∀ j : Nat, j < l.length → rd (tab l.length (nextF (fun i => rd l (i : Int)) v write sh bus)) (j : Int) = nextF (fun i => rd l (i : Int)) v write sh bus j := fun j hj => rd_tab hj
    have hlen : (tab l.length (nextF (fun i => rd l (i : Int)) v write sh bus)).length = l.length := tab_length _ _
    generalize hy : tab l.length (nextF (fun i => rd l (i : Int)) v write sh bus) = y at hrd hlen
    have hlegal : legalN y = true := by
      rw [legalN_iff, hlen]
      refine ⟨fun j hj => ?_, fun i hi h2 j hj hne => ?_⟩
      · dsimp only; rw [hrd j hj]; exact S1.1 j hj
      · dsimp only at h2 ⊢; rw [hrd j hj]; rw [hrd i hi] at h2; exact S1.2 i hi h2 j hj hne
    obtain ⟨sy, hsy, hevy⟩ := shared_ev y (by omega) v
    have hv : v < l.length := by omega
    have main : Ev (fun k => cotterellaw38_MesiStays.l0 k l (v : Int) write bus (tab 0 (nextF (fun i => rd l (i : Int)) v write sh bus)) ((0 : Nat) : Int)) true := by
      refine loop l (by omega) hP.1 v write sh bus hb hev true ?_ l.length 0 (by omega)
      rw [hy]
      refine Ev.step (fun k => cotterellaw38_MesiStays.l0.eq_2 ..) ?_
      refine Ev.ite_neg (by omega) (Ev.bind (Legal_ev y (by omega)) (Ev.ite_pos hlegal ?_))
      refine Ev.ite_pos (by omega) (Ev.ite_pos (by omega) (Ev.ite_neg (by rw [hrd v hv]; exact S2) ?_))
      cases hwr : write with
      | true =>
        subst hwr
        obtain ⟨a, b⟩ := S3 rfl
        refine Ev.ite_pos rfl (Ev.ite_pos (by rw [hrd v hv]; exact a) (Ev.bind hevy ?_))
        have : sy = false := by
          cases e : sy with
          | false => rfl
          | true =>
            obtain ⟨j, c, d, f⟩ := hsy.mp e
            rw [hlen] at c
            rw [hrd j c] at f
            exact absurd ⟨j, c, d, f⟩ b
        rw [this]
        exact Ev.ite_neg (by decide) (Ev.bind awake_ev (Ev.now _))
      | false =>
        subst hwr
        refine Ev.ite_neg (by decide) ?_
        by_cases h0 : bus = 0
        · refine Ev.ite_pos h0 (Ev.ite_pos (by omega) (Ev.ite_pos ?_ (Ev.bind awake_ev (Ev.now _))))
          rw [hrd v hv]; exact S4 rfl h0
        · exact Ev.ite_neg h0 (Ev.bind awake_ev (Ev.now _))
    refine Ev.step (fun k => cotterellaw38_MesiStays.j0.eq_2 ..) (Ev.ite_neg (by decide) ?_)
    have tail : ∀ ask : Int, ask = (if write = true then 2 else 1) → Ev (fun k => cotterellaw38_MesiStays.j1 k l (v : Int) write ask) true := by
      intro ask ha
      refine Ev.step (fun k => cotterellaw38_MesiStays.j1.eq_2 ..) ?_
      refine Ev.ite_pos (by omega) (Ev.ite_pos (by omega) (Ev.bind (Ask_ev _ _) ?_))
      rw [st_id hg, ha, hbus]
      exact main
    by_cases hw : write = true
    · exact Ev.ite_pos hw (tail 2 (by rw [if_pos hw]))
    · exact Ev.ite_neg hw (tail 1 (by rw [if_neg hw]))

