/- What the functions of package bits and of its reference compute, in natural numbers. -/
import Derived.Test.YtkeamomcaplfpaaPSbHasx3
import Derived.Test.YtkeamomcaplfpaaM
import Derived.Test.YtkeamomcaplfpaaWfSbHas
namespace Go.Proofs.Ytkeamomcaplfpaa.PSbHas
open Go.RowKit Go.Proofs.YtkeamomcaplfpaaW.PrintWords Go.Proofs.YtkeamomcaplfpaaW.PrintMore Go.Proofs.Ytkeamomcaplfpaa.M
set_option linter.unusedVariables false
set_option linter.unusedSimpArgs false
theorem clamp_f (n lo hi : Int) (h : lo ≤ hi) : bits_clamp.f n lo hi = some (cl n lo hi) := by unfold bits_clamp.f; rw [mnmx n lo hi h]
theorem Bytes_l0 (X n : Nat) (hX : X < 2 ^ 32) (hn : n ≤ 4) (d : Nat) : ∀ i : Nat, i + d = n → Ev (fun k => bits_Bytes.l0 k (X : Int) (tab n (fun j => if j < i then byteN X j else 0)) (n : Int) (i : Int)) (tab n (byteN X)) := by
  induction d with
  | zero =>
    intro i hi
    refine Ev.step (fun k => bits_Bytes.l0.eq_2 ..) (Ev.ite_neg (by omega) ?_)
    rw [tab_congr (g := byteN X) (fun j hj => by rw [if_pos (by omega)])]; exact Ev.now _
  | succ d ih =>
    intro i hi
    refine Ev.step (fun k => bits_Bytes.l0.eq_2 ..) (Ev.ite_pos (by omega) ?_)
    rw [w64 (n := 8 * (i : Int)) (by omega) (by omega), w64 (by omega) (by omega), tab_length]
    refine Ev.ite_pos (by omega) (Ev.ite_pos (by omega) (Ev.ite_pos (by omega) ?_))
    have e : shr .u32 (X : Int) (8 * (i : Int)) % 256 = byteN X i := by
      unfold shr byteN
      rw [show (8 * (i : Int)).toNat = 8 * i by omega, Nat.min_eq_left (by have : IntKind.bits .u32 = 32 := rfl; omega)]
      rw [show ((2 : Int) ^ (8 * i)) = ((2 ^ (8 * i) : Nat) : Int) by simp, ← Int.natCast_ediv]
      omega
    rw [e, Int.toNat_natCast, tab_set]
    have := ih (i + 1) (by omega)
    rw [tab_congr (g := fun j => if j < i + 1 then byteN X j else 0)]
    · exact this
    · intro j hj
      by_cases h1 : j = i
      · subst h1; simp
      · rw [if_neg h1]
        by_cases h2 : j < i
        · rw [if_pos h2, if_pos (by omega)]
        · rw [if_neg h2, if_neg (by omega)]
theorem Bytes_ev (X : Nat) (hX : X < 2 ^ 32) (n : Int) (m : Nat) (hm : cl n 0 4 = (m : Int)) (h : m ≤ 4) : Ev (fun k => bits_Bytes.f k (X : Int) n) (tab m (byteN X)) := by
  refine Ev.bind_some (clamp_f n 0 4 (by omega)) ?_
  rw [hm]
  refine Ev.ite_pos (by omega) (Ev.ite_pos (by omega) (Ev.bind_some rfl ?_))
  rw [Int.toNat_natCast, tab_rep, tab_length]
  exact Bytes_l0 X m hX h m 0 (by omega)

/- What the functions of package mem and of its reference compute, in natural numbers and lists. -/
/-- The cause why there is no such place. -/
def ckN (n A : Nat) (s : Int) : Int := if (s = 1 ∨ s = 2 ∨ s = 4) ∧ (A : Int) + s ≤ n then 0 else 9
theorem ckN_cases (n A : Nat) (s : Int) : (ckN n A s = 0 ∧ ∃ m : Nat, s = (m : Int) ∧ (m = 1 ∨ m = 2 ∨ m = 4) ∧ A + m ≤ n) ∨ ckN n A s = 9 := by
  unfold ckN
  split
  · rename_i h
    exact .inl ⟨rfl, s.toNat, by omega, by omega, by omega⟩
  · exact .inr rfl
theorem Check_f (l : List Int) (hl : l.length ≤ 4611686018427387904) (A : Nat) (hA : A < 2 ^ 32) (s : Int) : mem_Check.f l (A : Int) s = some (ckN l.length A s) := by
  unfold mem_Check.f ckN
  simp only [wrap_u64]
  by_cases h1 : s = 1
  · subst h1
    rw [if_pos rfl]
    by_cases c : A + 1 ≤ l.length
    · rw [if_neg (by omega), if_pos ⟨by omega, by omega⟩]
    · rw [if_pos (by omega), if_neg (by omega)]
  rw [if_neg h1]
  by_cases h2 : s = 2
  · subst h2
    rw [if_pos rfl]
    by_cases c : A + 2 ≤ l.length
    · rw [if_neg (by omega), if_pos ⟨by omega, by omega⟩]
    · rw [if_pos (by omega), if_neg (by omega)]
  rw [if_neg h2]
  by_cases h3 : s = 4
  · subst h3
    rw [if_pos rfl]
    by_cases c : A + 4 ≤ l.length
    · rw [if_neg (by omega), if_pos ⟨by omega, by omega⟩]
    · rw [if_pos (by omega), if_neg (by omega)]
  rw [if_neg h3, if_neg (by omega)]
/-- Memory in which m bytes from A on are V's. -/
def wrL (l : List Int) (A m V : Nat) : List Int := tab l.length (fun j => if A ≤ j ∧ j < A + m then byteN V (j - A) else l.getD j 0)
theorem wrL_length (l : List Int) (A m V : Nat) : (wrL l A m V).length = l.length := tab_length _ _
theorem wrL_zero (l : List Int) (A V : Nat) : wrL l A 0 V = l := by
  unfold wrL
  conv => rhs; rw [tab_of l]
  exact tab_congr fun j hj => if_neg (by omega)
theorem byt_wrL {l : List Int} (hb : Byt l) (A m V : Nat) : Byt (wrL l A m V) := byt_tab fun j _ => by
  split
  · exact byteN_bd _ _
  · exact byt_getD hb j
theorem wrL_getD (l : List Int) (A m V j : Nat) (hj : j < l.length) : (wrL l A m V).getD j 0 = if A ≤ j ∧ j < A + m then byteN V (j - A) else l.getD j 0 := by
  rw [← rd_nat]; unfold wrL; rw [rd_tab hj]
theorem splice_tab (l : List Int) (A m : Nat) (f : Nat → Int) (h : A + m ≤ l.length) : l.take A ++ tab m f ++ l.drop (A + m) = tab l.length (fun j => if A ≤ j ∧ j < A + m then f (j - A) else l.getD j 0) := by
  apply List.ext_getElem
  · simp [tab_length]; omega
  · intro j h1 h2
    rw [tab_length] at h2
    have e : (tab l.length (fun j => if A ≤ j ∧ j < A + m then f (j - A) else l.getD j 0))[j]'(by rw [tab_length]; exact h2) = if A ≤ j ∧ j < A + m then f (j - A) else l.getD j 0 := by simp [tab]
    rw [e]
    by_cases c1 : j < A
    · rw [if_neg (by omega), List.getElem_append_left (by simp [tab_length]; omega), List.getElem_append_left (by simp; omega)]
      simp [List.getD, h2]
    · by_cases c2 : j < A + m
      · rw [if_pos ⟨by omega, c2⟩, List.getElem_append_left (by simp [tab_length]; omega), List.getElem_append_right (by simp; omega)]
        simp [tab, Nat.min_eq_left (show A ≤ l.length by omega)]
      · rw [if_neg (by omega), List.getElem_append_right (by simp [tab_length]; omega)]
        simp [tab_length, List.getD, h2, Nat.min_eq_left (show A ≤ l.length by omega)]
        congr 1; omega
theorem Write_ev (l : List Int) (hl : l.length ≤ 140737488355327) (A V : Nat) (hA : A < 2 ^ 32) (hV : V < 2 ^ 32) (s : Int) :
    Ev (fun k => mem_Write.f k l (A : Int) s (V : Int)) (if ckN l.length A s = 0 then (wrL l A s.toNat V, 0) else ([], ckN l.length A s)) := by
  refine Ev.bind_some (Check_f l (by omega) A hA s) ?_
  rcases ckN_cases l.length A s with ⟨h0, m, rfl, hm, hle⟩ | h9
  · rw [if_pos h0]
    refine Ev.ite_pos h0 (Ev.bind_some (show slices_Clone_byte_byte.f l = some l from if_pos (by omega)) (Ev.bind (Bytes_ev V hV (m : Int) m (cl_id (by omega) (by omega)) (by omega)) ?_))
    rw [Int.toNat_natCast, Int.toNat_natCast, tab_length, Nat.min_eq_left (show m ≤ l.length - A by omega)]
    refine Ev.ite_pos (by omega) (Ev.ite_pos (by omega) ?_)
    rw [List.take_of_length_le (l := tab m (byteN V)) (by rw [tab_length]; omega), splice_tab l A m (byteN V) hle]
    exact Ev.now _
  · rw [if_neg (by omega)]
    exact Ev.ite_neg (by omega) (Ev.now _)

/-- Where an access ends. -/
theorem end_f (A : Nat) (hA : A < 2 ^ 32) (n : Int) : sq_end.f (A : Int) n = some ((A : Int) + cl n 0 4) := by
  unfold sq_end.f
  have hc := cl_bd n 0 4 (by decide)
  rw [mnmx n 0 4 (by decide), wrap_u64, wrap_u64, Int.emod_eq_of_lt (a := (A : Int)) (by omega) (by omega), Int.emod_eq_of_lt (by omega) (by omega)]
def ovI (A : Nat) (n : Int) (B : Nat) (m : Int) : Bool := decide (mx (A : Int) B < mn ((A : Int) + cl n 0 4) ((B : Int) + cl m 0 4))
theorem ovI_iff (A : Nat) (n : Int) (B : Nat) (m : Int) : ovI A n B m = true ↔ (A : Int) < B + cl m 0 4 ∧ (B : Int) < A + cl n 0 4 ∧ 0 < cl n 0 4 ∧ 0 < cl m 0 4 := by
  unfold ovI mx mn
  rw [decide_eq_true_iff]
  repeat' split
  all_goals omega
theorem ovI_symm (A : Nat) (n : Int) (B : Nat) (m : Int) : ovI A n B m = ovI B m A n := by
  rw [Bool.eq_iff_iff, ovI_iff, ovI_iff]; omega
theorem Overlap_f (A B : Nat) (hA : A < 2 ^ 32) (hB : B < 2 ^ 32) (n m : Int) : sq_Overlap.f (A : Int) n (B : Int) m = some (ovI A n B m) := by
  unfold sq_Overlap.f ovI
  rw [end_f A hA n, Option.bind_some, end_f B hB m, Option.bind_some, wrap_u64, wrap_u64, Int.emod_eq_of_lt (a := (A : Int)) (by omega) (by omega), Int.emod_eq_of_lt (a := (B : Int)) (by omega) (by omega)]
theorem ov_l1 (A B : Nat) (hA : A < 2 ^ 32) (hB : B < 2 ^ 32) (n m : Int) (i : Nat) (hi : i < 4) (r : Bool) (hout : (¬ ∃ j : Nat, j < 4 ∧ (j : Int) < m ∧ A + i = B + j) → Ev (fun k => cotterelref33_Overlap.l0 k (A : Int) n (B : Int) m ((i : Int) + 1)) r) (hin : (∃ j : Nat, j < 4 ∧ (j : Int) < m ∧ A + i = B + j) → r = true) (d : Nat) :
    ∀ j : Nat, j + d = 4 → (∀ q, q < j → A + i ≠ B + q) → Ev (fun k => cotterelref33_Overlap.l1 k (A : Int) n (B : Int) m (i : Int) (j : Int)) r := by
  have stop : ∀ j : Nat, ¬ (j < 4 ∧ (j : Int) < m) → (∀ q, q < j → A + i ≠ B + q) → Ev (fun k => cotterelref33_Overlap.j3 k (A : Int) n (B : Int) m (i : Int) (j : Int) false) r := by
    intro j hj hq
    refine Ev.step (fun k => cotterelref33_Overlap.j3.eq_2 ..) (Ev.ite_neg (by decide) ?_)
    rw [w64 (by omega) (by omega)]
    refine hout ?_
    rintro ⟨q, h1, h2, h3⟩
    refine hq q ?_ h3
    omega
  induction d with
  | zero =>
    intro j hj hq
    obtain rfl : j = 4 := by omega
    refine Ev.step (fun k => cotterelref33_Overlap.l1.eq_2 ..) ?_
    by_cases c : ((4 : Nat) : Int) < m
    · refine Ev.ite_pos c ?_
      rw [show decide (((4 : Nat) : Int) < 4) = false from rfl]
      exact stop 4 (by omega) hq
    · exact Ev.ite_neg c (stop 4 (by omega) hq)
  | succ d ih =>
    intro j hj hq
    refine Ev.step (fun k => cotterelref33_Overlap.l1.eq_2 ..) ?_
    by_cases c : (j : Int) < m
    · refine Ev.ite_pos c ?_
      rw [show decide ((j : Int) < 4) = true from decide_eq_true (by omega)]
      refine Ev.step (fun k => cotterelref33_Overlap.j3.eq_2 ..) (Ev.ite_pos rfl ?_)
      rw [w64 (n := (A : Int)) (by omega) (by omega), w64 (n := (B : Int)) (by omega) (by omega), w64 (n := (A : Int) + i) (by omega) (by omega), w64 (n := (B : Int) + j) (by omega) (by omega)]
      by_cases e : (A : Int) + i = (B : Int) + j
      · rw [hin ⟨j, by omega, c, by omega⟩]
        exact Ev.ite_pos e (Ev.now _)
      · refine Ev.ite_neg e ?_
        rw [w64 (by omega) (by omega)]
        refine ih (j + 1) (by omega) (fun q hq' => ?_)
        by_cases e2 : q = j
        · subst e2; omega
        · exact hq q (by omega)
    · exact Ev.ite_neg c (stop j (by omega) hq)
theorem ov_l0 (A B : Nat) (hA : A < 2 ^ 32) (hB : B < 2 ^ 32) (n m : Int) (d : Nat) : ∀ (i : Nat) (r : Bool), i + d = 4 → (r = true ↔ ∃ p : Nat, i ≤ p ∧ p < 4 ∧ (p : Int) < n ∧ ∃ j : Nat, j < 4 ∧ (j : Int) < m ∧ A + p = B + j) →
    Ev (fun k => cotterelref33_Overlap.l0 k (A : Int) n (B : Int) m (i : Int)) r := by
  have stop : ∀ (i : Nat) (r : Bool), ¬ (i < 4 ∧ (i : Int) < n) → (r = true ↔ ∃ p : Nat, i ≤ p ∧ p < 4 ∧ (p : Int) < n ∧ ∃ j : Nat, j < 4 ∧ (j : Int) < m ∧ A + p = B + j) → Ev (fun k => cotterelref33_Overlap.j1 k (A : Int) n (B : Int) m (i : Int) false) r := by
    intro i r hi hr
    have : r = false := by
      cases e : r with
      | false => rfl
      | true => obtain ⟨p, h1, h2, h3, _⟩ := hr.mp e; omega
    rw [this]
    exact Ev.step (fun k => cotterelref33_Overlap.j1.eq_2 ..) (Ev.ite_neg (by decide) (Ev.now _))
  induction d with
  | zero =>
    intro i r hi hr
    obtain rfl : i = 4 := by omega
    refine Ev.step (fun k => cotterelref33_Overlap.l0.eq_2 ..) ?_
    by_cases c : ((4 : Nat) : Int) < n
    · refine Ev.ite_pos c ?_
      rw [show decide (((4 : Nat) : Int) < 4) = false from rfl]
      exact stop 4 r (by omega) hr
    · exact Ev.ite_neg c (stop 4 r (by omega) hr)
  | succ d ih =>
    intro i r hi hr
    refine Ev.step (fun k => cotterelref33_Overlap.l0.eq_2 ..) ?_
    by_cases c : (i : Int) < n
    · refine Ev.ite_pos c ?_
      rw [show decide ((i : Int) < 4) = true from decide_eq_true (by omega)]
      refine Ev.step (fun k => cotterelref33_Overlap.j1.eq_2 ..) (Ev.ite_pos rfl ?_)
      refine ov_l1 A B hA hB n m i (by omega) r (fun hno => ?_) (fun hyes => hr.mpr ⟨i, Nat.le_refl _, by omega, c, hyes⟩) 4 0 (by omega) (fun q hq => absurd hq (by omega))
      have := ih (i + 1) r (by omega) (hr.trans ⟨?_, ?_⟩)
      · rw [show (((i + 1 : Nat) : Int)) = (i : Int) + 1 by omega] at this; exact this
      · rintro ⟨p, h1, h2, h3, h4⟩
        refine ⟨p, ?_, h2, h3, h4⟩
        rcases Nat.eq_or_lt_of_le h1 with e | e
        · subst e; exact absurd h4 hno
        · exact e
      · rintro ⟨p, h1, h⟩; exact ⟨p, by omega, h⟩
    · exact Ev.ite_neg c (stop i r (by omega) hr)
theorem refOverlap_ev (A B : Nat) (hA : A < 2 ^ 32) (hB : B < 2 ^ 32) (n m : Int) : Ev (fun k => cotterelref33_Overlap.f k (A : Int) n (B : Int) m) (ovI A n B m) := by
  unfold cotterelref33_Overlap.f
  refine ov_l0 A B hA hB n m 4 0 _ (by omega) ?_
  rw [ovI_iff]
  unfold cl
  constructor
  · intro h
    refine ⟨max A B - A, Nat.zero_le _, ?_, ?_, max A B - B, ?_, ?_, by omega⟩ <;> (revert h; repeat' split) <;> omega
  · rintro ⟨p, _, h1, h2, j, h3, h4, h5⟩
    repeat' split
    all_goals omega
theorem sbw {l : List S32} (h : ∀ y ∈ l, W32 y) {i : Nat} (hi : i < l.length) : ∃ A V : Nat, (rd_T32 l (i : Int)).f0 = (A : Int) ∧ A < 2 ^ 32 ∧ (rd_T32 l (i : Int)).f1 = (V : Int) ∧ V < 2 ^ 32 := by
  have hm : rd_T32 l (i : Int) ∈ l := by
    unfold rd_T32
    rw [Int.toNat_natCast, List.getD_eq_getElem?_getD, List.getElem?_eq_getElem hi]
    exact List.getElem_mem hi
  obtain ⟨h0, h1, _⟩ := h _ hm
  obtain ⟨A, e, hA⟩ := wf_u32 h0
  obtain ⟨V, e2, hV⟩ := wf_u32 h1
  exact ⟨A, V, e, hA, e2, hV⟩
def hasN (l : List S32) (A : Nat) (n : Int) (i : Nat) : Nat → Bool
  | 0 => false
  | d + 1 => ovI (rd_T32 l (i : Int)).f0.toNat (rd_T32 l (i : Int)).f2 A n || hasN l A n (i + 1) d
theorem Has_l (l : List S32) (hw : ∀ y ∈ l, W32 y) (hL : l.length < 2 ^ 62) (A : Nat) (hA : A < 2 ^ 32) (n : Int) (d : Nat) : ∀ i, i + d = l.length → Ev (fun k => sb_Has.l0 k (A : Int) n l (l.length : Int) (i : Int)) (hasN l A n i d) := by
  induction d with
  | zero => intro i hi; exact Ev.step (fun k => sb_Has.l0.eq_2 ..) (Ev.ite_neg (by omega) (Ev.now _))
  | succ d ih =>
    intro i hi
    obtain ⟨B, V, e, hB, _, _⟩ := sbw hw (show i < l.length by omega)
    refine Ev.step (fun k => sb_Has.l0.eq_2 ..) (Ev.ite_pos (by omega) (Ev.ite_pos (by omega) (Ev.ite_pos (by omega) ?_)))
    unfold hasN
    rw [e, Int.toNat_natCast]
    refine Ev.bind_some (Overlap_f B A hB hA _ _) ?_
    cases h : ovI B (rd_T32 l (i : Int)).f2 A n with
    | true => exact Ev.ite_pos rfl (Ev.now _)
    | false =>
      refine Ev.ite_neg (by decide) ?_
      rw [w64 (by omega) (by omega)]
      exact ih (i + 1) (by omega)
theorem Has_ev (l : List S32) (hw : ∀ y ∈ l, W32 y) (hL : l.length < 2 ^ 62) (A : Nat) (hA : A < 2 ^ 32) (n : Int) : Ev (fun k => sb_Has.f k l (A : Int) n) (hasN l A n 0 l.length) := by
  unfold sb_Has.f
  exact Has_l l hw hL A hA n l.length 0 (by omega)
theorem refHas_l (l : List S32) (hw : ∀ y ∈ l, W32 y) (hL : l.length < 2 ^ 62) (A : Nat) (hA : A < 2 ^ 32) (n : Int) (d : Nat) : ∀ i, i + d = l.length → Ev (fun k => cotterelref37_Has.l0 k l (A : Int) n (i : Int)) (hasN l A n i d) := by
  induction d with
  | zero => intro i hi; exact Ev.step (fun k => cotterelref37_Has.l0.eq_2 ..) (Ev.ite_neg (by omega) (Ev.now _))
  | succ d ih =>
    intro i hi
    obtain ⟨B, V, e, hB, _, _⟩ := sbw hw (show i < l.length by omega)
    refine Ev.step (fun k => cotterelref37_Has.l0.eq_2 ..) (Ev.ite_pos (by omega) (Ev.ite_pos (by omega) ?_))
    unfold hasN
    rw [e, Int.toNat_natCast, ovI_symm]
    refine Ev.bind (refOverlap_ev A B hA hB _ _) ?_
    cases h : ovI A n B (rd_T32 l (i : Int)).f2 with
    | true => exact Ev.ite_pos rfl (Ev.now _)
    | false =>
      refine Ev.ite_neg (by decide) ?_
      rw [w64 (by omega) (by omega)]
      exact ih (i + 1) (by omega)
theorem refHas_ev (l : List S32) (hw : ∀ y ∈ l, W32 y) (hL : l.length < 2 ^ 62) (A : Nat) (hA : A < 2 ^ 32) (n : Int) : Ev (fun k => cotterelref37_Has.f k l (A : Int) n) (hasN l A n 0 l.length) := by
  unfold cotterelref37_Has.f
  exact refHas_l l hw hL A hA n l.length 0 (by omega)
theorem rdT32 (l : List S32) (i : Nat) : rd_T32 l (i : Int) = l.getD i z32 := by unfold rd_T32; rw [Int.toNat_natCast]
theorem take_snoc (l : List S32) (i : Nat) (h : i < l.length) : l.take i ++ [l.getD i z32] = l.take (i + 1) := by
  rw [List.getD_eq_getElem?_getD, List.getElem?_eq_getElem h, Option.getD_some, List.take_append_getElem]
def putN' (l : List S32) (x : S32) (most : Int) : List S32 × Bool := if (l.length : Int) ≥ cl most 0 8 then (l, false) else (l ++ [x], true)
theorem Put_f (l : List S32) (s A V n : Int) (b : Bool) (most : Int) : sb_Put.f l s A V n b most = some (putN' l ⟨A, V, n⟩ most) := by
  unfold sb_Put.f putN'
  rw [mnmx most 0 8 (by decide)]
  have := cl_bd most 0 8 (by decide)
  split
  · rfl
  · rw [if_pos (by omega)]
theorem awake_ev : Ev (fun k => cotterellaw37_awake.f k) true := Ev.of (fun k => cotterellaw37_awake.mono k) (k := 40) (by decide +kernel)
end Go.Proofs.Ytkeamomcaplfpaa.PSbHas
namespace Go.Proofs.Ytkeamomcaplfpaa.Pure
set_option linter.unusedVariables false
set_option linter.unusedSimpArgs false
open Go.RowKit Go.Proofs.Ytkeamomcaplfpaa.PSbHas Go.Proofs.YtkeamomcaplfpaaW.PrintWords Go.Proofs.YtkeamomcaplfpaaW.PrintLast Go.Proofs.Ytkeamomcaplfpaa.M
theorem SbHas : ∀ (x0 : List S32) (x1 : Int) (x2 : Int), x0.length ≤ maxLen → (∀ y ∈ x0, W32 y) → (Lit.int .u32 x1).wf = true → (Lit.int .i64 x2).wf = true → ∃ k, cotterellaw37_SbHas.f k x0 x1 x2 = some true := by
  intro l x1 n _ hw h1 _
  obtain ⟨A, rfl, hA⟩ := wf_u32 h1
  refine Ev.rounds ?_
  unfold cotterellaw37_SbHas.f
  by_cases hc : (l.length : Int) ≤ 40
  · exact Ev.ite_pos hc (Ev.bind (Has_ev l hw (by omega) A hA n) (Ev.bind (refHas_ev l hw (by omega) A hA n) (Ev.ite_pos (by simp) (Ev.bind awake_ev (Ev.ite_pos rfl (Ev.now _))))))
  · exact Ev.ite_neg hc (Ev.ite_pos (by omega) (Ev.bind awake_ev (Ev.now _)))
