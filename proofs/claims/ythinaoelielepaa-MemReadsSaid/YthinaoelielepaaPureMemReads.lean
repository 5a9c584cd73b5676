/- What the functions of package bits and of its reference compute, in natural numbers. -/
import Derived.Test.YthinaoelielepaaPMemReadsx2
import Derived.Test.YthinaoelielepaaM
namespace Go.Proofs.Ythinaoelielepaa.PMemReads
open Go.RowKit Go.Proofs.YthinaoelielepaaW.PrintWords Go.Proofs.YthinaoelielepaaW.PrintMore Go.Proofs.Ythinaoelielepaa.M
set_option linter.unusedVariables false
set_option linter.unusedSimpArgs false
theorem clamp_f (n lo hi : Int) (h : lo ≤ hi) : bits_clamp.f n lo hi = some (cl n lo hi) := by unfold bits_clamp.f; rw [mnmx n lo hi h]
theorem Bytes_l0 (X n : Nat) (hX : X < 2 ^ 32) (hn : n ≤ 4) (d : Nat) : ∀ i : Nat, i + d = n → Ev (fun k => bits_Bytes.l0 k (X : Int) (tab n (fun j => if j < i then byteN X j else 0)) (n : Int) (i : Int)) (tab n (byteN X)) := by
  induction d with
  | zero =>
    intro i hi
    refine Ev.step (fun k => bits_Bytes.l0.eq_2 ..) (Ev.ite_neg (by omega) ?_)
    rw [tab_congr (g := byteN X) (fun j hj => by rw [if_pos (by omega)])]; exact Ev.now _
  | succ d ih =>
    intro i hi
    refine Ev.step (fun k => bits_Bytes.l0.eq_2 ..) (Ev.ite_pos (by omega) ?_)
    rw [w64 (n := 8 * (i : Int)) (by omega) (by omega), w64 (by omega) (by omega), tab_length]
    refine Ev.ite_pos (by omega) (Ev.ite_pos (by omega) (Ev.ite_pos (by omega) ?_))
    have e : shr .u32 (X : Int) (8 * (i : Int)) % 256 = byteN X i := by
      unfold shr byteN
      rw [show (8 * (i : Int)).toNat = 8 * i by omega, Nat.min_eq_left (by have : IntKind.bits .u32 = 32 := rfl; omega)]
      rw [show ((2 : Int) ^ (8 * i)) = ((2 ^ (8 * i) : Nat) : Int) by simp, ← Int.natCast_ediv]
      omega
    rw [e, Int.toNat_natCast, tab_set]
    have := ih (i + 1) (by omega)
    rw [tab_congr (g := fun j => if j < i + 1 then byteN X j else 0)]
    · exact this
    · intro j hj
      by_cases h1 : j = i
      · subst h1; simp
      · rw [if_neg h1]
        by_cases h2 : j < i
        · rw [if_pos h2, if_pos (by omega)]
        · rw [if_neg h2, if_neg (by omega)]
theorem Bytes_ev (X : Nat) (hX : X < 2 ^ 32) (n : Int) (m : Nat) (hm : cl n 0 4 = (m : Int)) (h : m ≤ 4) : Ev (fun k => bits_Bytes.f k (X : Int) n) (tab m (byteN X)) := by
  refine Ev.bind_some (clamp_f n 0 4 (by omega)) ?_
  rw [hm]
  refine Ev.ite_pos (by omega) (Ev.ite_pos (by omega) (Ev.bind_some rfl ?_))
  rw [Int.toNat_natCast, tab_rep, tab_length]
  exact Bytes_l0 X m hX h m 0 (by omega)
theorem Of_l0 (l : List Int) (hb : Byt l) (hn : l.length ≤ 4) (d : Nat) : ∀ i : Nat, i + d = l.length →
    Ev (fun k => bits_Of.l0 k (leN (fun j => l.getD j 0) i : Int) l (l.length : Int) (i : Int)) (leN (fun j => l.getD j 0) l.length : Int) := by
  induction d with
  | zero =>
    intro i hi
    refine Ev.step (fun k => bits_Of.l0.eq_2 ..) (Ev.ite_neg (by omega) ?_)
    rw [show i = l.length by omega]; exact Ev.now _
  | succ d ih =>
    intro i hi
    refine Ev.step (fun k => bits_Of.l0.eq_2 ..) (Ev.ite_pos (by omega) (Ev.ite_pos (by omega) (Ev.ite_pos (by omega) ?_)))
    rw [w64 (n := 8 * (i : Int)) (by omega) (by omega), w64 (by omega) (by omega)]
    refine Ev.ite_pos (by omega) ?_
    have hbi := byt_getD hb i
    have h1 := leN_lt (fun j _ => byt_getD hb j : ∀ j, j < i → 0 ≤ l.getD j 0 ∧ l.getD j 0 ≤ 255)
    have h2 := leN_lt (fun j _ => byt_getD hb j : ∀ j, j < i + 1 → 0 ≤ l.getD j 0 ∧ l.getD j 0 ≤ 255)
    have h3 : (2 : Nat) ^ (8 * (i + 1)) ≤ 2 ^ 32 := Nat.pow_le_pow_right (by decide) (by omega)
    have h4 : (2 : Nat) ^ (8 * i) ≤ 2 ^ 32 := Nat.pow_le_pow_right (by decide) (by omega)
    have e : shl .u32 (rd l (i : Int) % 4294967296) (8 * (i : Int)) = (((l.getD i 0).toNat * 2 ^ (8 * i) : Nat) : Int) := by
      unfold shl
      rw [rd_nat, show (8 * (i : Int)).toNat = 8 * i by omega, Nat.min_eq_left (by have : IntKind.bits .u32 = 32 := rfl; omega), IntKind.wrap_u32']
      rw [show ((2 : Int) ^ (8 * i)) = ((2 ^ (8 * i) : Nat) : Int) by simp]
      rw [show l.getD i 0 % 4294967296 = ((l.getD i 0).toNat : Int) by omega, ← Int.natCast_mul]
      rw [leN] at h2
      omega
    rw [leN] at h2
    rw [e, u32_or_nat _ _ (by omega) (by omega), Nat.or_comm, nat_join (8 * i) _ _ (Nat.mul_mod_left _ _) h1, Nat.add_comm]
    exact ih (i + 1) (by omega)
theorem Of_ev (l : List Int) (hb : Byt l) : Ev (fun k => bits_Of.f k l) (leN (fun j => l.getD j 0) (min l.length 4) : Int) := by
  unfold bits_Of.f
  have e : (mn (l.length : Int) 4) = ((min l.length 4 : Nat) : Int) := by unfold mn; split <;> omega
  rw [e]
  refine Ev.ite_pos (by omega) (Ev.ite_pos (by omega) ?_)
  rw [Int.toNat_natCast]
  have hl : (l.take (min l.length 4)).length = min l.length 4 := by simp
  have this := Of_l0 (l.take (min l.length 4)) (byt_take hb _) (by omega) (min l.length 4) 0 (by omega)
  have e2 : leN (fun j => (l.take (min l.length 4)).getD j 0) (min l.length 4) = leN (fun j => l.getD j 0) (min l.length 4) := by
    refine leN_congr fun j hj => ?_
    simp only [List.getD, List.getElem?_take, if_pos hj]
  rw [hl] at this ⊢
  rw [e2] at this
  exact this

/- What the functions of package mem and of its reference compute, in natural numbers and lists. -/
/-- The cause why there is no such place. -/
def ckN (n A : Nat) (s : Int) : Int := if (s = 1 ∨ s = 2 ∨ s = 4) ∧ (A : Int) + s ≤ n then 0 else 9
theorem ckN_cases (n A : Nat) (s : Int) : (ckN n A s = 0 ∧ ∃ m : Nat, s = (m : Int) ∧ (m = 1 ∨ m = 2 ∨ m = 4) ∧ A + m ≤ n) ∨ ckN n A s = 9 := by
  unfold ckN
  split
  · rename_i h
    exact .inl ⟨rfl, s.toNat, by omega, by omega, by omega⟩
  · exact .inr rfl
theorem Check_f (l : List Int) (hl : l.length ≤ 4611686018427387904) (A : Nat) (hA : A < 2 ^ 32) (s : Int) : mem_Check.f l (A : Int) s = some (ckN l.length A s) := by
  unfold mem_Check.f ckN
  simp only [wrap_u64]
  by_cases h1 : s = 1
  · subst h1
    rw [if_pos rfl]
    by_cases c : A + 1 ≤ l.length
    · rw [if_neg (by omega), if_pos ⟨by omega, by omega⟩]
    · rw [if_pos (by omega), if_neg (by omega)]
  rw [if_neg h1]
  by_cases h2 : s = 2
  · subst h2
    rw [if_pos rfl]
    by_cases c : A + 2 ≤ l.length
    · rw [if_neg (by omega), if_pos ⟨by omega, by omega⟩]
    · rw [if_pos (by omega), if_neg (by omega)]
  rw [if_neg h2]
  by_cases h3 : s = 4
  · subst h3
    rw [if_pos rfl]
    by_cases c : A + 4 ≤ l.length
    · rw [if_neg (by omega), if_pos ⟨by omega, by omega⟩]
    · rw [if_pos (by omega), if_neg (by omega)]
  rw [if_neg h3, if_neg (by omega)]
theorem refCheck_f (l : List Int) (hl : l.length ≤ 4611686018427387904) (A : Nat) (hA : A < 2 ^ 32) (s : Int) : cotterelref10_Check.f l (A : Int) s = some (ckN l.length A s) := by
  unfold cotterelref10_Check.f ckN
  rw [w64 (n := (A : Int)) (by omega) (by omega)]
  by_cases h1 : s = 1
  · subst h1
    rw [if_pos rfl, w64 (by omega) (by omega)]
    by_cases c : A + 1 ≤ l.length
    · rw [if_pos (by omega), if_pos ⟨by omega, by omega⟩]
    · rw [if_neg (by omega), if_neg (by omega)]
  rw [if_neg h1]
  by_cases h2 : s = 2
  · subst h2
    rw [if_pos rfl, w64 (by omega) (by omega)]
    by_cases c : A + 2 ≤ l.length
    · rw [if_pos (by omega), if_pos ⟨by omega, by omega⟩]
    · rw [if_neg (by omega), if_neg (by omega)]
  rw [if_neg h2]
  by_cases h3 : s = 4
  · subst h3
    rw [if_pos rfl, w64 (by omega) (by omega)]
    by_cases c : A + 4 ≤ l.length
    · rw [if_pos (by omega), if_pos ⟨by omega, by omega⟩]
    · rw [if_neg (by omega), if_neg (by omega)]
  rw [if_neg h3, if_neg (by omega)]
def rightB (n : Nat) : Bool := decide (64 ≤ n ∧ n ≤ 16384 ∧ n % 64 = 0)
theorem Right_f (l : List Int) : mem_Right.f l = some (rightB l.length) := by
  unfold mem_Right.f rightB
  by_cases h1 : 64 ≤ l.length
  · rw [if_pos (by omega)]
    by_cases h2 : l.length ≤ 16384
    · rw [if_pos (by omega)]; congr 1; rw [Bool.eq_iff_iff]; simp; omega
    · rw [if_neg (by omega)]; congr 1; rw [Bool.eq_iff_iff]; simp; omega
  · rw [if_neg (by omega)]; congr 1; rw [Bool.eq_iff_iff]; simp; omega
/-- The number that stands in m bytes from A on. -/
def rdN (l : List Int) (A m : Nat) : Nat := leN (fun j => l.getD (A + j) 0) m
theorem rdN_lt {l : List Int} (hb : Byt l) (A m : Nat) : rdN l A m < 2 ^ (8 * m) := leN_lt fun j _ => byt_getD hb (A + j)
theorem Read_ev (l : List Int) (hb : Byt l) (hl : l.length ≤ 4611686018427387904) (A : Nat) (hA : A < 2 ^ 32) (s : Int) :
    Ev (fun k => mem_Read.f k l (A : Int) s) (if ckN l.length A s = 0 then ((rdN l A s.toNat : Int), 0) else (0, ckN l.length A s)) := by
  refine Ev.bind_some (Check_f l hl A hA s) ?_
  rcases ckN_cases l.length A s with ⟨h0, m, rfl, hm, hle⟩ | h9
  · rw [if_pos h0]
    refine Ev.ite_pos h0 ?_
    rw [w64 (n := (A : Int)) (by omega) (by omega), w64 (by omega) (by omega)]
    refine Ev.ite_pos (by omega) (Ev.ite_pos (by omega) (Ev.ite_pos (by omega) ?_))
    rw [show ((A : Int) + (m : Int)).toNat = A + m by omega, Int.toNat_natCast, Int.toNat_natCast]
    have := Of_ev ((l.take (A + m)).drop A) (byt_drop (byt_take hb _) _)
    have hlen : ((l.take (A + m)).drop A).length = m := by rw [List.length_drop, List.length_take]; omega
    rw [hlen, Nat.min_eq_left (by omega)] at this
    have e : leN (fun j => ((l.take (A + m)).drop A).getD j 0) m = rdN l A m := by
      refine leN_congr fun j hj => ?_
      simp only [List.getD, List.getElem?_drop, List.getElem?_take, if_pos (show A + j < A + m by omega)]
    rw [e] at this
    exact Ev.bind this (Ev.now _)
  · rw [if_neg (by omega)]
    exact Ev.ite_neg (by omega) (Ev.now _)
theorem refRead_step (l : List Int) (hb : Byt l) (hl : l.length ≤ 4611686018427387904) (A i out : Nat) (hi : A + i < l.length) (ho : out < 2 ^ 24) (hi4 : i ≤ 4) (hA : A < 2 ^ 32) {r : Int × Int}
    (h : Ev (fun k => cotterelref10_Read.l0 k l (A : Int) ((256 * out + (l.getD (A + i) 0).toNat : Nat) : Int) ((i : Int) - 1)) r) : Ev (fun k => cotterelref10_Read.l0 k l (A : Int) (out : Int) (i : Int)) r := by
  have hbi := byt_getD hb (A + i)
  refine Ev.step (fun k => cotterelref10_Read.l0.eq_2 ..) (Ev.ite_pos (by omega) ?_)
  rw [w64 (n := (A : Int)) (by omega) (by omega), w64 (n := (A : Int) + i) (by omega) (by omega), w64 (n := (i : Int) - 1) (by omega) (by omega)]
  refine Ev.ite_pos (by omega) (Ev.ite_pos (by omega) ?_)
  rw [show (A : Int) + (i : Int) = ((A + i : Nat) : Int) by omega, rd_nat]
  rw [show ((256 * (out : Int)) % 4294967296 + (l.getD (A + i) 0) % 4294967296) % 4294967296 = ((256 * out + (l.getD (A + i) 0).toNat : Nat) : Int) by omega]
  exact h
theorem refRead_end (l : List Int) (A out : Nat) : Ev (fun k => cotterelref10_Read.l0 k l (A : Int) (out : Int) (-1)) ((out : Int), 0) :=
  Ev.step (fun k => cotterelref10_Read.l0.eq_2 ..) (Ev.ite_neg (by omega) (Ev.now _))
theorem refRead_ev (l : List Int) (hb : Byt l) (hl : l.length ≤ 4611686018427387904) (A : Nat) (hA : A < 2 ^ 32) (s : Int) :
    Ev (fun k => cotterelref10_Read.f k l (A : Int) s) (if ckN l.length A s = 0 then ((rdN l A s.toNat : Int), 0) else (0, ckN l.length A s)) := by
  refine Ev.bind_some (refCheck_f l hl A hA s) ?_
  rcases ckN_cases l.length A s with ⟨h0, m, rfl, hm, hle⟩ | h9
  · rw [if_pos h0]
    refine Ev.ite_pos h0 ?_
    rw [w64 (by omega) (by omega), Int.toNat_natCast]
    have b0 := byt_getD hb (A + 0)
    have b1 := byt_getD hb (A + 1)
    have b2 := byt_getD hb (A + 2)
    have b3 := byt_getD hb (A + 3)
    rcases hm with rfl | rfl | rfl
    · refine refRead_step l hb hl A 0 0 (by omega) (by omega) (by omega) hA ?_
      rw [show rdN l A 1 = 256 * 0 + (l.getD (A + 0) 0).toNat by unfold rdN; simp only [leN]; omega]
      exact refRead_end l A _
    · refine refRead_step l hb hl A 1 0 (by omega) (by omega) (by omega) hA (refRead_step l hb hl A 0 _ (by omega) (by omega) (by omega) hA ?_)
      rw [show rdN l A 2 = 256 * (256 * 0 + (l.getD (A + 1) 0).toNat) + (l.getD (A + 0) 0).toNat by unfold rdN; simp only [leN]; omega]
      exact refRead_end l A _
    · refine refRead_step l hb hl A 3 0 (by omega) (by omega) (by omega) hA (refRead_step l hb hl A 2 _ (by omega) (by omega) (by omega) hA (refRead_step l hb hl A 1 _ (by omega) (by omega) (by omega) hA (refRead_step l hb hl A 0 _ (by omega) (by omega) (by omega) hA ?_)))
      rw [show rdN l A 4 = 256 * (256 * (256 * (256 * 0 + (l.getD (A + 3) 0).toNat) + (l.getD (A + 2) 0).toNat) + (l.getD (A + 1) 0).toNat) + (l.getD (A + 0) 0).toNat by unfold rdN; simp only [leN]; omega]
      exact refRead_end l A _
  · rw [if_neg (by omega)]
    exact Ev.ite_neg (by omega) (Ev.now _)
/-- Memory in which m bytes from A on are V's. -/
def wrL (l : List Int) (A m V : Nat) : List Int := tab l.length (fun j => if A ≤ j ∧ j < A + m then byteN V (j - A) else l.getD j 0)
theorem wrL_length (l : List Int) (A m V : Nat) : (wrL l A m V).length = l.length := tab_length _ _
theorem wrL_zero (l : List Int) (A V : Nat) : wrL l A 0 V = l := by
  unfold wrL
  conv => rhs; rw [tab_of l]
  exact tab_congr fun j hj => if_neg (by omega)
theorem byt_wrL {l : List Int} (hb : Byt l) (A m V : Nat) : Byt (wrL l A m V) := byt_tab fun j _ => by
  split
  · exact byteN_bd _ _
  · exact byt_getD hb j
theorem wrL_getD (l : List Int) (A m V j : Nat) (hj : j < l.length) : (wrL l A m V).getD j 0 = if A ≤ j ∧ j < A + m then byteN V (j - A) else l.getD j 0 := by
  rw [← rd_nat]; unfold wrL; rw [rd_tab hj]
theorem splice_tab (l : List Int) (A m : Nat) (f : Nat → Int) (h : A + m ≤ l.length) : l.take A ++ tab m f ++ l.drop (A + m) = tab l.length (fun j => if A ≤ j ∧ j < A + m then f (j - A) else l.getD j 0) := by
  apply List.ext_getElem
  · simp [tab_length]; omega
  · intro j h1 h2
    rw [tab_length] at h2
    have e : (tab l.length (fun j => if A ≤ j ∧ j < A + m then f (j - A) else l.getD j 0))[j]'(by rw [tab_length]; exact h2) = if A ≤ j ∧ j < A + m then f (j - A) else l.getD j 0 := by simp [tab]
    rw [e]
    by_cases c1 : j < A
    · rw [if_neg (by omega), List.getElem_append_left (by simp [tab_length]; omega), List.getElem_append_left (by simp; omega)]
      simp [List.getD, h2]
    · by_cases c2 : j < A + m
      · rw [if_pos ⟨by omega, c2⟩, List.getElem_append_left (by simp [tab_length]; omega), List.getElem_append_right (by simp; omega)]
        simp [tab, Nat.min_eq_left (show A ≤ l.length by omega)]
      · rw [if_neg (by omega), List.getElem_append_right (by simp [tab_length]; omega)]
        simp [tab_length, List.getD, h2, Nat.min_eq_left (show A ≤ l.length by omega)]
        congr 1; omega
theorem Write_ev (l : List Int) (hl : l.length ≤ 140737488355327) (A V : Nat) (hA : A < 2 ^ 32) (hV : V < 2 ^ 32) (s : Int) :
    Ev (fun k => mem_Write.f k l (A : Int) s (V : Int)) (if ckN l.length A s = 0 then (wrL l A s.toNat V, 0) else ([], ckN l.length A s)) := by
  refine Ev.bind_some (Check_f l (by omega) A hA s) ?_
  rcases ckN_cases l.length A s with ⟨h0, m, rfl, hm, hle⟩ | h9
  · rw [if_pos h0]
    refine Ev.ite_pos h0 (Ev.bind_some (show slices_Clone_byte_byte.f l = some l from if_pos (by omega)) (Ev.bind (Bytes_ev V hV (m : Int) m (cl_id (by omega) (by omega)) (by omega)) ?_))
    rw [Int.toNat_natCast, Int.toNat_natCast, tab_length, Nat.min_eq_left (show m ≤ l.length - A by omega)]
    refine Ev.ite_pos (by omega) (Ev.ite_pos (by omega) ?_)
    rw [List.take_of_length_le (l := tab m (byteN V)) (by rw [tab_length]; omega), splice_tab l A m (byteN V) hle]
    exact Ev.now _
  · rw [if_neg (by omega)]
    exact Ev.ite_neg (by omega) (Ev.now _)
theorem read_wrote (l : List Int) (A m V : Nat) (h : A + m ≤ l.length) : rdN (wrL l A m V) A m = V % 2 ^ (8 * m) := by
  unfold rdN
  rw [leN_congr (g := byteN V), leN_byteN]
  intro j hj
  rw [wrL_getD l A m V (A + j) (by omega), if_pos (by omega), show A + j - A = j by omega]
theorem write_back (l : List Int) (hb : Byt l) (A m V : Nat) (h : A + m ≤ l.length) : wrL (wrL l A m V) A m (rdN l A m) = l := by
  have hlen : (wrL l A m V).length = l.length := wrL_length _ _ _ _
  conv => rhs; rw [tab_of l]
  unfold wrL at hlen ⊢
  rw [hlen]
  refine tab_congr fun j hj => ?_
  by_cases c : A ≤ j ∧ j < A + m
  · rw [if_pos c]
    unfold rdN
    rw [byteN_leN (fun i _ => byt_getD hb (A + i)) (by omega), show A + (j - A) = j by omega]
  · rw [if_neg c, ← rd_nat, rd_tab hj, if_neg c]
theorem write_same (l : List Int) (hb : Byt l) (A m V : Nat) (h : A + m ≤ l.length) (he : V % 2 ^ (8 * m) = rdN l A m) : wrL l A m V = l := by
  conv => rhs; rw [tab_of l]
  unfold wrL
  refine tab_congr fun j hj => ?_
  by_cases c : A ≤ j ∧ j < A + m
  · rw [if_pos c]
    have h1 : byteN (V % 2 ^ (8 * m)) (j - A) = byteN V (j - A) := by
      rw [← leN_byteN, byteN_leN (fun i _ => byteN_bd V i) (by omega)]
    rw [← h1, he]
    unfold rdN
    rw [byteN_leN (fun i _ => byt_getD hb (A + i)) (by omega), show A + (j - A) = j by omega]
  · rw [if_neg c]

theorem awake_ev : Ev (fun k => cotterellaw10_awake.f k) true := Ev.of (fun k => cotterellaw10_awake.mono k) (k := 40) (by decide +kernel)
end Go.Proofs.Ythinaoelielepaa.PMemReads
namespace Go.Proofs.Ythinaoelielepaa.Pure
set_option linter.unusedVariables false
set_option linter.unusedSimpArgs false
open Go.RowKit Go.Proofs.Ythinaoelielepaa.PMemReads Go.Proofs.YthinaoelielepaaW.PrintWords Go.Proofs.YthinaoelielepaaW.PrintLast Go.Proofs.Ythinaoelielepaa.M
theorem MemReads : ∀ (x0 : List Int) (x1 : Int) (x2 : Int), x0.length ≤ maxLen → (∀ y ∈ x0, (Lit.int .u8 y).wf = true) → (Lit.int .u32 x1).wf = true → (Lit.int .i64 x2).wf = true → ∃ k, cotterellaw10_MemReads.f k x0 x1 x2 = some true := by
  intro l x1 s _ hw h1 _
  obtain ⟨A, rfl, hA⟩ := wf_u32 h1
  have hb := byt_of hw
  refine Ev.rounds ?_
  unfold cotterellaw10_MemReads.f
  by_cases hc : (l.length : Int) > 20000
  · exact Ev.ite_pos hc (Ev.bind awake_ev (Ev.now _))
  exact Ev.ite_neg hc (Ev.bind (Read_ev l hb (by omega) A hA s) (Ev.bind (refRead_ev l hb (by omega) A hA s) (Ev.ite_pos rfl (Ev.ite_pos rfl (Ev.bind awake_ev (Ev.now _))))))
end Go.Proofs.Ythinaoelielepaa.Pure

