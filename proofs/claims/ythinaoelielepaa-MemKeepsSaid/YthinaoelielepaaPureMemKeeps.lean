/- What the functions of package bits and of its reference compute, in natural numbers. -/
import Derived.Test.YthinaoelielepaaPMemKeepsx3
import Derived.Test.YthinaoelielepaaM
namespace Go.Proofs.Ythinaoelielepaa.PMemKeeps
open Go.RowKit Go.Proofs.YthinaoelielepaaW.PrintWords Go.Proofs.YthinaoelielepaaW.PrintMore Go.Proofs.Ythinaoelielepaa.M
set_option linter.unusedVariables false
set_option linter.unusedSimpArgs false
theorem clamp_f (n lo hi : Int) (h : lo ≤ hi) : bits_clamp.f n lo hi = some (cl n lo hi) := by unfold bits_clamp.f; rw [mnmx n lo hi h]
theorem ones_f (n : Nat) (h : n ≤ 32) : bits_ones.f (n : Int) = some ((2 ^ n - 1 : Nat) : Int) := by
  unfold bits_ones.f
  rw [if_pos (by omega)]
  congr 1
  have h0 : 0 < 2 ^ n := Nat.two_pow_pos n
  have h1 : 2 ^ n ≤ 4294967296 := pow_le32 h
  have e : ((2 : Int) ^ n) = ((2 ^ n : Nat) : Int) := by simp
  unfold shl
  rw [Int.toNat_natCast, Nat.min_eq_left (by have : IntKind.bits .u64 = 64 := rfl; omega), Int.one_mul, e, wrap_u64, wrap_u64]
  omega
theorem Zext_f (X : Nat) (hX : X < 2 ^ 32) (n : Int) (m : Nat) (hm : cl n 0 32 = (m : Int)) (h : m ≤ 32) : bits_Zext.f (X : Int) n = some (zextN X m : Int) := by
  unfold bits_Zext.f
  rw [clamp_f n 0 32 (by omega), hm]
  simp only [Option.bind_some]
  rw [ones_f m h]
  simp only [Option.bind_some]
  have h1 : 2 ^ m ≤ 4294967296 := pow_le32 h
  rw [u32_and_nat _ _ (by omega) (by omega), and_ones]
theorem sameBytes_l0 (a b : List Int) (hl : a.length = b.length) (hm : a.length ≤ 4611686018427387904) (d : Nat) : ∀ i : Nat, i + d = a.length → (∀ j, j < i → a.getD j 0 = b.getD j 0) →
    Ev (fun k => cotterelsame_Bytes.l0 k a b (i : Int)) (decide (a = b)) := by
  induction d with
  | zero =>
    intro i hi h
    have e : a = b := by rw [tab_of a, tab_of b, ← hl]; exact tab_congr fun j hj => h j (by omega)
    refine Ev.step (fun k => cotterelsame_Bytes.l0.eq_2 ..) (Ev.ite_neg (by omega) (Ev.step (fun k => cotterelsame_Bytes.j1.eq_2 ..) (Ev.ite_neg (by decide) ?_)))
    rw [decide_eq_true e]; exact Ev.now _
  | succ d ih =>
    intro i hi h
    refine Ev.step (fun k => cotterelsame_Bytes.l0.eq_2 ..) (Ev.ite_pos (by omega) (Ev.step (fun k => cotterelsame_Bytes.j1.eq_2 ..) (Ev.ite_pos (by simp; omega) (Ev.ite_pos (by omega) (Ev.ite_pos (by omega) (Ev.ite_pos (by omega) ?_))))))
    rw [rd_nat, rd_nat]
    by_cases e : a.getD i 0 = b.getD i 0
    · refine Ev.ite_pos e ?_
      rw [w64 (by omega) (by omega)]
      exact ih (i + 1) (by omega) (fun j hj => by
        rcases Nat.lt_or_eq_of_le (Nat.lt_succ_iff.1 hj) with hj | rfl
        · exact h j hj
        · exact e)
    · refine Ev.ite_neg e ?_
      rw [decide_eq_false (fun h => e (by rw [h]))]; exact Ev.now _
theorem sameBytes_ev (a b : List Int) (hm : a.length ≤ 4611686018427387904) : Ev (fun k => cotterelsame_Bytes.f k a b) (decide (a = b)) := by
  unfold cotterelsame_Bytes.f
  by_cases hl : a.length = b.length
  · exact Ev.ite_pos (by omega) (sameBytes_l0 a b hl hm a.length 0 (by omega) (by simp))
  · refine Ev.ite_neg (by omega) ?_
    rw [decide_eq_false (fun h => hl (by rw [h]))]; exact Ev.now _
theorem Bytes_l0 (X n : Nat) (hX : X < 2 ^ 32) (hn : n ≤ 4) (d : Nat) : ∀ i : Nat, i + d = n → Ev (fun k => bits_Bytes.l0 k (X : Int) (tab n (fun j => if j < i then byteN X j else 0)) (n : Int) (i : Int)) (tab n (byteN X)) := by
  induction d with
  | zero =>
    intro i hi
    refine Ev.step (fun k => bits_Bytes.l0.eq_2 ..) (Ev.ite_neg (by omega) ?_)
    rw [tab_congr (g := byteN X) (fun j hj => by rw [if_pos (by omega)])]; exact Ev.now _
  | succ d ih =>
    intro i hi
    refine Ev.step (fun k => bits_Bytes.l0.eq_2 ..) (Ev.ite_pos (by omega) ?_)
    rw [w64 (n := 8 * (i : Int)) (by omega) (by omega), w64 (by omega) (by omega), tab_length]
    refine Ev.ite_pos (by omega) (Ev.ite_pos (by omega) (Ev.ite_pos (by omega) ?_))
    have e : shr .u32 (X : Int) (8 * (i : Int)) % 256 = byteN X i := by
      unfold shr byteN
      rw [show (8 * (i : Int)).toNat = 8 * i by omega, Nat.min_eq_left (by have : IntKind.bits .u32 = 32 := rfl; omega)]
      rw [show ((2 : Int) ^ (8 * i)) = ((2 ^ (8 * i) : Nat) : Int) by simp, ← Int.natCast_ediv]
      omega
    rw [e, Int.toNat_natCast, tab_set]
    have := ih (i + 1) (by omega)
    rw [tab_congr (g := fun j => if j < i + 1 then byteN X j else 0)]
    · exact this
    · intro j hj
      by_cases h1 : j = i
      · subst h1; simp
      · rw [if_neg h1]
        by_cases h2 : j < i
        · rw [if_pos h2, if_pos (by omega)]
        · rw [if_neg h2, if_neg (by omega)]
theorem Bytes_ev (X : Nat) (hX : X < 2 ^ 32) (n : Int) (m : Nat) (hm : cl n 0 4 = (m : Int)) (h : m ≤ 4) : Ev (fun k => bits_Bytes.f k (X : Int) n) (tab m (byteN X)) := by
  refine Ev.bind_some (clamp_f n 0 4 (by omega)) ?_
  rw [hm]
  refine Ev.ite_pos (by omega) (Ev.ite_pos (by omega) (Ev.bind_some rfl ?_))
  rw [Int.toNat_natCast, tab_rep, tab_length]
  exact Bytes_l0 X m hX h m 0 (by omega)
theorem Of_l0 (l : List Int) (hb : Byt l) (hn : l.length ≤ 4) (d : Nat) : ∀ i : Nat, i + d = l.length →
    Ev (fun k => bits_Of.l0 k (leN (fun j => l.getD j 0) i : Int) l (l.length : Int) (i : Int)) (leN (fun j => l.getD j 0) l.length : Int) := by
  induction d with
  | zero =>
    intro i hi
    refine Ev.step (fun k => bits_Of.l0.eq_2 ..) (Ev.ite_neg (by omega) ?_)
    rw [show i = l.length by omega]; exact Ev.now _
  | succ d ih =>
    intro i hi
    refine Ev.step (fun k => bits_Of.l0.eq_2 ..) (Ev.ite_pos (by omega) (Ev.ite_pos (by omega) (Ev.ite_pos (by omega) ?_)))
    rw [w64 (n := 8 * (i : Int)) (by omega) (by omega), w64 (by omega) (by omega)]
    refine Ev.ite_pos (by omega) ?_
    have hbi := byt_getD hb i
    have h1 := leN_lt (fun j _ => byt_getD hb j : ∀ j, j < i → 0 ≤ l.getD j 0 ∧ l.getD j 0 ≤ 255)
    have h2 := leN_lt (fun j _ => byt_getD hb j : ∀ j, j < i + 1 → 0 ≤ l.getD j 0 ∧ l.getD j 0 ≤ 255)
    have h3 : (2 : Nat) ^ (8 * (i + 1)) ≤ 2 ^ 32 := Nat.pow_le_pow_right (by decide) (by omega)
    have h4 : (2 : Nat) ^ (8 * i) ≤ 2 ^ 32 := Nat.pow_le_pow_right (by decide) (by omega)
    have e : shl .u32 (rd l (i : Int) % 4294967296) (8 * (i : Int)) = (((l.getD i 0).toNat * 2 ^ (8 * i) : Nat) : Int) := by
      unfold shl
      rw [rd_nat, show (8 * (i : Int)).toNat = 8 * i by omega, Nat.min_eq_left (by have : IntKind.bits .u32 = 32 := rfl; omega), IntKind.wrap_u32']
      rw [show ((2 : Int) ^ (8 * i)) = ((2 ^ (8 * i) : Nat) : Int) by simp]
      rw [show l.getD i 0 % 4294967296 = ((l.getD i 0).toNat : Int) by omega, ← Int.natCast_mul]
      rw [leN] at h2
      omega
    rw [leN] at h2
    rw [e, u32_or_nat _ _ (by omega) (by omega), Nat.or_comm, nat_join (8 * i) _ _ (Nat.mul_mod_left _ _) h1, Nat.add_comm]
    exact ih (i + 1) (by omega)
theorem Of_ev (l : List Int) (hb : Byt l) : Ev (fun k => bits_Of.f k l) (leN (fun j => l.getD j 0) (min l.length 4) : Int) := by
  unfold bits_Of.f
  have e : (mn (l.length : Int) 4) = ((min l.length 4 : Nat) : Int) := by unfold mn; split <;> omega
  rw [e]
  refine Ev.ite_pos (by omega) (Ev.ite_pos (by omega) ?_)
  rw [Int.toNat_natCast]
  have hl : (l.take (min l.length 4)).length = min l.length 4 := by simp
  have this := Of_l0 (l.take (min l.length 4)) (byt_take hb _) (by omega) (min l.length 4) 0 (by omega)
  have e2 : leN (fun j => (l.take (min l.length 4)).getD j 0) (min l.length 4) = leN (fun j => l.getD j 0) (min l.length 4) := by
    refine leN_congr fun j hj => ?_
    simp only [List.getD, List.getElem?_take, if_pos hj]
  rw [hl] at this ⊢
  rw [e2] at this
  exact this

/- What the functions of package mem and of its reference compute, in natural numbers and lists. -/
/-- The cause why there is no such place. -/
def ckN (n A : Nat) (s : Int) : Int := if (s = 1 ∨ s = 2 ∨ s = 4) ∧ (A : Int) + s ≤ n then 0 else 9
theorem ckN_cases (n A : Nat) (s : Int) : (ckN n A s = 0 ∧ ∃ m : Nat, s = (m : Int) ∧ (m = 1 ∨ m = 2 ∨ m = 4) ∧ A + m ≤ n) ∨ ckN n A s = 9 := by
  unfold ckN
  split
  · rename_i h
    exact .inl ⟨rfl, s.toNat, by omega, by omega, by omega⟩
  · exact .inr rfl
theorem Check_f (l : List Int) (hl : l.length ≤ 4611686018427387904) (A : Nat) (hA : A < 2 ^ 32) (s : Int) : mem_Check.f l (A : Int) s = some (ckN l.length A s) := by
  unfold mem_Check.f ckN
  simp only [wrap_u64]
  by_cases h1 : s = 1
  · subst h1
    rw [if_pos rfl]
    by_cases c : A + 1 ≤ l.length
    · rw [if_neg (by omega), if_pos ⟨by omega, by omega⟩]
    · rw [if_pos (by omega), if_neg (by omega)]
  rw [if_neg h1]
  by_cases h2 : s = 2
  · subst h2
    rw [if_pos rfl]
    by_cases c : A + 2 ≤ l.length
    · rw [if_neg (by omega), if_pos ⟨by omega, by omega⟩]
    · rw [if_pos (by omega), if_neg (by omega)]
  rw [if_neg h2]
  by_cases h3 : s = 4
  · subst h3
    rw [if_pos rfl]
    by_cases c : A + 4 ≤ l.length
    · rw [if_neg (by omega), if_pos ⟨by omega, by omega⟩]
    · rw [if_pos (by omega), if_neg (by omega)]
  rw [if_neg h3, if_neg (by omega)]
def rightB (n : Nat) : Bool := decide (64 ≤ n ∧ n ≤ 16384 ∧ n % 64 = 0)
theorem Right_f (l : List Int) : mem_Right.f l = some (rightB l.length) := by
  unfold mem_Right.f rightB
  by_cases h1 : 64 ≤ l.length
  · rw [if_pos (by omega)]
    by_cases h2 : l.length ≤ 16384
    · rw [if_pos (by omega)]; congr 1; rw [Bool.eq_iff_iff]; simp; omega
    · rw [if_neg (by omega)]; congr 1; rw [Bool.eq_iff_iff]; simp; omega
  · rw [if_neg (by omega)]; congr 1; rw [Bool.eq_iff_iff]; simp; omega
/-- The number that stands in m bytes from A on. -/
def rdN (l : List Int) (A m : Nat) : Nat := leN (fun j => l.getD (A + j) 0) m
theorem rdN_lt {l : List Int} (hb : Byt l) (A m : Nat) : rdN l A m < 2 ^ (8 * m) := leN_lt fun j _ => byt_getD hb (A + j)
theorem Read_ev (l : List Int) (hb : Byt l) (hl : l.length ≤ 4611686018427387904) (A : Nat) (hA : A < 2 ^ 32) (s : Int) :
    Ev (fun k => mem_Read.f k l (A : Int) s) (if ckN l.length A s = 0 then ((rdN l A s.toNat : Int), 0) else (0, ckN l.length A s)) := by
  refine Ev.bind_some (Check_f l hl A hA s) ?_
  rcases ckN_cases l.length A s with ⟨h0, m, rfl, hm, hle⟩ | h9
  · rw [if_pos h0]
    refine Ev.ite_pos h0 ?_
    rw [w64 (n := (A : Int)) (by omega) (by omega), w64 (by omega) (by omega)]
    refine Ev.ite_pos (by omega) (Ev.ite_pos (by omega) (Ev.ite_pos (by omega) ?_))
    rw [show ((A : Int) + (m : Int)).toNat = A + m by omega, Int.toNat_natCast, Int.toNat_natCast]
    have := Of_ev ((l.take (A + m)).drop A) (byt_drop (byt_take hb _) _)
    have hlen : ((l.take (A + m)).drop A).length = m := by rw [List.length_drop, List.length_take]; omega
    rw [hlen, Nat.min_eq_left (by omega)] at this
    have e : leN (fun j => ((l.take (A + m)).drop A).getD j 0) m = rdN l A m := by
      refine leN_congr fun j hj => ?_
      simp only [List.getD, List.getElem?_drop, List.getElem?_take, if_pos (show A + j < A + m by omega)]
    rw [e] at this
    exact Ev.bind this (Ev.now _)
  · rw [if_neg (by omega)]
    exact Ev.ite_neg (by omega) (Ev.now _)
/-- Memory in which m bytes from A on are V's. -/
def wrL (l : List Int) (A m V : Nat) : List Int := tab l.length (fun j => if A ≤ j ∧ j < A + m then byteN V (j - A) else l.getD j 0)
theorem wrL_length (l : List Int) (A m V : Nat) : (wrL l A m V).length = l.length := tab_length _ _
theorem wrL_zero (l : List Int) (A V : Nat) : wrL l A 0 V = l := by
  unfold wrL
  conv => rhs; rw [tab_of l]
  exact tab_congr fun j hj => if_neg (by omega)
theorem byt_wrL {l : List Int} (hb : Byt l) (A m V : Nat) : Byt (wrL l A m V) := byt_tab fun j _ => by
  split
  · exact byteN_bd _ _
  · exact byt_getD hb j
theorem wrL_getD (l : List Int) (A m V j : Nat) (hj : j < l.length) : (wrL l A m V).getD j 0 = if A ≤ j ∧ j < A + m then byteN V (j - A) else l.getD j 0 := by
  rw [← rd_nat]; unfold wrL; rw [rd_tab hj]
theorem splice_tab (l : List Int) (A m : Nat) (f : Nat → Int) (h : A + m ≤ l.length) : l.take A ++ tab m f ++ l.drop (A + m) = tab l.length (fun j => if A ≤ j ∧ j < A + m then f (j - A) else l.getD j 0) := by
  apply List.ext_getElem
  · simp [tab_length]; omega
  · intro j h1 h2
    rw [tab_length] at h2
    have e : (tab l.length (fun j => if A ≤ j ∧ j < A + m then f (j - A) else l.getD j 0))[j]'(by rw [tab_length]; exact h2) = if A ≤ j ∧ j < A + m then f (j - A) else l.getD j 0 := by simp [tab]
    rw [e]
    by_cases c1 : j < A
    · rw [if_neg (by omega), List.getElem_append_left (by simp [tab_length]; omega), List.getElem_append_left (by simp; omega)]
      simp [List.getD, h2]
    · by_cases c2 : j < A + m
      · rw [if_pos ⟨by omega, c2⟩, List.getElem_append_left (by simp [tab_length]; omega), List.getElem_append_right (by simp; omega)]
        simp [tab, Nat.min_eq_left (show A ≤ l.length by omega)]
      · rw [if_neg (by omega), List.getElem_append_right (by simp [tab_length]; omega)]
        simp [tab_length, List.getD, h2, Nat.min_eq_left (show A ≤ l.length by omega)]
        congr 1; omega
theorem Write_ev (l : List Int) (hl : l.length ≤ 140737488355327) (A V : Nat) (hA : A < 2 ^ 32) (hV : V < 2 ^ 32) (s : Int) :
    Ev (fun k => mem_Write.f k l (A : Int) s (V : Int)) (if ckN l.length A s = 0 then (wrL l A s.toNat V, 0) else ([], ckN l.length A s)) := by
  refine Ev.bind_some (Check_f l (by omega) A hA s) ?_
  rcases ckN_cases l.length A s with ⟨h0, m, rfl, hm, hle⟩ | h9
  · rw [if_pos h0]
    refine Ev.ite_pos h0 (Ev.bind_some (show slices_Clone_byte_byte.f l = some l from if_pos (by omega)) (Ev.bind (Bytes_ev V hV (m : Int) m (cl_id (by omega) (by omega)) (by omega)) ?_))
    rw [Int.toNat_natCast, Int.toNat_natCast, tab_length, Nat.min_eq_left (show m ≤ l.length - A by omega)]
    refine Ev.ite_pos (by omega) (Ev.ite_pos (by omega) ?_)
    rw [List.take_of_length_le (l := tab m (byteN V)) (by rw [tab_length]; omega), splice_tab l A m (byteN V) hle]
    exact Ev.now _
  · rw [if_neg (by omega)]
    exact Ev.ite_neg (by omega) (Ev.now _)
theorem read_wrote (l : List Int) (A m V : Nat) (h : A + m ≤ l.length) : rdN (wrL l A m V) A m = V % 2 ^ (8 * m) := by
  unfold rdN
  rw [leN_congr (g := byteN V), leN_byteN]
  intro j hj
  rw [wrL_getD l A m V (A + j) (by omega), if_pos (by omega), show A + j - A = j by omega]
theorem write_back (l : List Int) (hb : Byt l) (A m V : Nat) (h : A + m ≤ l.length) : wrL (wrL l A m V) A m (rdN l A m) = l := by
  have hlen : (wrL l A m V).length = l.length := wrL_length _ _ _ _
  conv => rhs; rw [tab_of l]
  unfold wrL at hlen ⊢
  rw [hlen]
  refine tab_congr fun j hj => ?_
  by_cases c : A ≤ j ∧ j < A + m
  · rw [if_pos c]
    unfold rdN
    rw [byteN_leN (fun i _ => byt_getD hb (A + i)) (by omega), show A + (j - A) = j by omega]
  · rw [if_neg c, ← rd_nat, rd_tab hj, if_neg c]
theorem write_same (l : List Int) (hb : Byt l) (A m V : Nat) (h : A + m ≤ l.length) (he : V % 2 ^ (8 * m) = rdN l A m) : wrL l A m V = l := by
  conv => rhs; rw [tab_of l]
  unfold wrL
  refine tab_congr fun j hj => ?_
  by_cases c : A ≤ j ∧ j < A + m
  · rw [if_pos c]
    have h1 : byteN (V % 2 ^ (8 * m)) (j - A) = byteN V (j - A) := by
      rw [← leN_byteN, byteN_leN (fun i _ => byteN_bd V i) (by omega)]
    rw [← h1, he]
    unfold rdN
    rw [byteN_leN (fun i _ => byt_getD hb (A + i)) (by omega), show A + (j - A) = j by omega]
  · rw [if_neg c]
/-- The places below n at which two memories are unlike. -/
def likeB (a b : List Int) (j : Nat) : Bool := decide (j < a.length ∧ j < b.length ∧ a.getD j 0 = b.getD j 0)
def diffN (a b : List Int) : Nat → List Int
  | 0 => []
  | n + 1 => if likeB a b n = true then diffN a b n else diffN a b n ++ [(n : Int)]
theorem diffN_length (a b : List Int) (n : Nat) : (diffN a b n).length ≤ n := by
  induction n with
  | zero => exact Nat.le_refl _
  | succ n ih =>
    unfold diffN; split
    · omega
    · rw [List.length_append, List.length_singleton]; omega
theorem diffN_mem (a b : List Int) (n : Nat) : ∀ x ∈ diffN a b n, ∃ j : Nat, x = (j : Int) ∧ j < n ∧ likeB a b j = false := by
  induction n with
  | zero => intro x hx; cases hx
  | succ n ih =>
    intro x hx
    unfold diffN at hx
    split at hx
    · obtain ⟨j, h1, h2, h3⟩ := ih x hx
      exact ⟨j, h1, by omega, h3⟩
    · rename_i c
      rcases List.mem_append.1 hx with hx | hx
      · obtain ⟨j, h1, h2, h3⟩ := ih x hx
        exact ⟨j, h1, by omega, h3⟩
      · rw [List.mem_singleton] at hx
        exact ⟨n, hx, by omega, by simpa using c⟩
theorem diffN_nil (a b : List Int) (n : Nat) : diffN a b n = [] ↔ ∀ j, j < n → likeB a b j = true := by
  induction n with
  | zero => simp [diffN]
  | succ n ih =>
    unfold diffN
    by_cases c : likeB a b n = true
    · rw [if_pos c, ih]
      constructor
      · intro h j hj
        rcases Nat.lt_or_eq_of_le (Nat.lt_succ_iff.1 hj) with hj | rfl
        · exact h j hj
        · exact c
      · intro h j hj; exact h j (by omega)
    · rw [if_neg c]
      constructor
      · intro h; simp at h
      · intro h; exact absurd (h n (by omega)) c
theorem diff_same (a b : List Int) : diffN a b (max a.length b.length) = [] ↔ a = b := by
  rw [diffN_nil]
  constructor
  · intro h
    have hlen : a.length = b.length := by
      rcases Nat.lt_trichotomy a.length b.length with c | c | c
      · have := h a.length (by omega); simp [likeB] at this
      · exact c
      · have := h b.length (by omega); simp [likeB] at this
    rw [tab_of a, tab_of b, ← hlen]
    refine tab_congr fun j hj => ?_
    have := h j (by omega)
    simp only [likeB, decide_eq_true_eq] at this
    exact this.2.2
  · rintro rfl j hj
    simp only [likeB, decide_eq_true_eq]
    exact ⟨by omega, by omega, trivial⟩
theorem Diff_l0 (a b : List Int) (n : Nat) (hn : n = max a.length b.length) (hl : n ≤ 1000000) (d : Nat) : ∀ i : Nat, i + d = n → Ev (fun k => mem_Diff.l0 k a b (diffN a b i) (n : Int) (i : Int)) (diffN a b n) := by
  induction d with
  | zero =>
    intro i hi
    rw [show i = n by omega]
    exact Ev.step (fun k => mem_Diff.l0.eq_2 ..) (Ev.ite_neg (by omega) (Ev.now _))
  | succ d ih =>
    intro i hi
    have nx := ih (i + 1) (by omega)
    have hdl := diffN_length a b i
    refine Ev.step (fun k => mem_Diff.l0.eq_2 ..) (Ev.ite_pos (by omega) ?_)
    rw [w64 (by omega) (by omega)]
    by_cases c1 : a.length ≤ i
    · refine Ev.ite_pos (by omega) (Ev.ite_pos (by omega) ?_)
      have e : diffN a b (i + 1) = diffN a b i ++ [(i : Int)] := if_neg (by simp [likeB]; omega)
      rw [← e]; exact nx
    refine Ev.ite_neg (by omega) ?_
    by_cases c2 : b.length ≤ i
    · refine Ev.ite_pos (by omega) (Ev.ite_pos (by omega) ?_)
      have e : diffN a b (i + 1) = diffN a b i ++ [(i : Int)] := if_neg (by simp [likeB]; omega)
      rw [← e]; exact nx
    refine Ev.ite_neg (by omega) (Ev.ite_pos (by omega) (Ev.ite_pos (by omega) (Ev.ite_pos (by omega) ?_)))
    rw [rd_nat, rd_nat]
    by_cases c3 : a.getD i 0 = b.getD i 0
    · refine Ev.ite_pos c3 ?_
      have e : diffN a b (i + 1) = diffN a b i := if_pos (by unfold likeB; exact decide_eq_true ⟨by omega, by omega, c3⟩)
      rw [← e]; exact nx
    · refine Ev.ite_neg c3 (Ev.ite_pos (by omega) ?_)
      have e : diffN a b (i + 1) = diffN a b i ++ [(i : Int)] := if_neg (by unfold likeB; rw [decide_eq_true_eq]; exact fun h => c3 h.2.2)
      rw [← e]; exact nx
theorem Diff_ev (a b : List Int) (ha : a.length ≤ 1000000) (hb : b.length ≤ 1000000) : Ev (fun k => mem_Diff.f k a b) (diffN a b (max a.length b.length)) := by
  unfold mem_Diff.f
  rw [show mx (a.length : Int) (b.length : Int) = ((max a.length b.length : Nat) : Int) by unfold mx; split <;> omega]
  exact Diff_l0 a b _ rfl (by omega) (max a.length b.length) 0 (by omega)

theorem awake_ev : Ev (fun k => cotterellaw10_awake.f k) true := Ev.of (fun k => cotterellaw10_awake.mono k) (k := 40) (by decide +kernel)
end Go.Proofs.Ythinaoelielepaa.PMemKeeps
namespace Go.Proofs.Ythinaoelielepaa.Pure
set_option linter.unusedVariables false
set_option linter.unusedSimpArgs false
open Go.RowKit Go.Proofs.Ythinaoelielepaa.PMemKeeps Go.Proofs.YthinaoelielepaaW.PrintWords Go.Proofs.YthinaoelielepaaW.PrintLast Go.Proofs.Ythinaoelielepaa.M
theorem keeps_l0 (l : List Int) (hb : Byt l) (hl : l.length ≤ 3000) (A V m : Nat) (hA : A < 2 ^ 32) (hV : V < 2 ^ 32) (hm : m = 1 ∨ m = 2 ∨ m = 4) (hle : A + m ≤ l.length) (d : Nat) : ∀ i : Nat,
    i + d = (diffN l (wrL l A m V) (max l.length (wrL l A m V).length)).length →
    Ev (fun k => cotterellaw10_MemKeeps.l0 k l (V : Int) (rdN l A m : Int) (wrL l A m V) (rdN (wrL l A m V) A m : Int) 0 (diffN l (wrL l A m V) (max l.length (wrL l A m V).length)) (i : Int) (A : Int) (m : Int)) true := by
  have hlen := wrL_length l A m V
  have hck : ckN l.length A (m : Int) = 0 := by unfold ckN; rw [if_pos ⟨by omega, by omega⟩]
  generalize hD : diffN l (wrL l A m V) (max l.length (wrL l A m V).length) = D
  induction d with
  | zero =>
    intro i hi
    refine Ev.step (fun k => cotterellaw10_MemKeeps.l0.eq_2 ..) (Ev.ite_neg (by omega) ?_)
    have hw := Write_ev (wrL l A m V) (by omega) A (rdN l A m) hA (by
      have := rdN_lt hb A m
      have h2 : (2 : Nat) ^ (8 * m) ≤ 2 ^ 32 := Nat.pow_le_pow_right (by decide) (by omega)
      omega) (m : Int)
    rw [hlen, if_pos hck, Int.toNat_natCast, write_back l hb A m V hle] at hw
    refine Ev.bind hw ?_
    rw [w64 (by omega) (by omega), show 8 * (m : Int) = ((8 * m : Nat) : Int) by omega]
    refine Ev.bind_some (Zext_f V hV _ (8 * m) (cl_id (by omega) (by omega)) (by omega)) ?_
    rw [read_wrote l A m V hle]
    refine Ev.ite_pos rfl (Ev.ite_pos rfl ?_)
    have same := Ev.bind (sameBytes_ev l l (by omega)) (f := fun k (t : Bool) => if t = true then (cotterellaw10_awake.f k).bind fun t => some t else some false) (Ev.ite_pos (by simp) (Ev.bind awake_ev (Ev.now true)))
    by_cases c : V % 2 ^ (8 * m) = rdN l A m
    · refine Ev.ite_pos (by rw [c]) (Ev.ite_pos ?_ same)
      have : D = [] := by
        rw [← hD]
        exact (diff_same l _).2 (write_same l hb A m V hle c).symm
      rw [this]; rfl
    · exact Ev.ite_neg (by omega) same
  | succ d ih =>
    intro i hi
    refine Ev.step (fun k => cotterellaw10_MemKeeps.l0.eq_2 ..) (Ev.ite_pos (by omega) (Ev.ite_pos (by omega) ?_))
    have hDl : D.length ≤ 3000 := by
      have := diffN_length l (wrL l A m V) (max l.length (wrL l A m V).length)
      rw [hD] at this; omega
    rw [w64 (n := (A : Int)) (by omega) (by omega), w64 (n := (A : Int) + m) (by omega) (by omega), w64 (n := (i : Int) + 1) (by omega) (by omega), rd_nat]
    have hmem : D.getD i 0 ∈ D := by
      rw [List.getD_eq_getElem?_getD, List.getElem?_eq_getElem (by omega)]
      exact List.getElem_mem _
    rw [← hD] at hmem
    obtain ⟨j, hj1, hj2, hj3⟩ := diffN_mem _ _ _ _ hmem
    rw [hD] at hj1
    have hin : A ≤ j ∧ j < A + m := by
      by_cases c : A ≤ j ∧ j < A + m
      · exact c
      · have : likeB l (wrL l A m V) j = true := by
          unfold likeB
          rw [wrL_getD l A m V j (by omega), if_neg c]
          exact decide_eq_true ⟨by omega, by omega, rfl⟩
        rw [this] at hj3; cases hj3
    rw [hj1]
    exact Ev.ite_neg (by omega) (Ev.ite_neg (by omega) (ih (i + 1) (by omega)))
theorem MemKeeps : ∀ (x0 : List Int) (x1 : Int) (x2 : Int) (x3 : Int), x0.length ≤ maxLen → (∀ y ∈ x0, (Lit.int .u8 y).wf = true) → (Lit.int .u32 x1).wf = true → (Lit.int .i64 x2).wf = true → (Lit.int .u32 x3).wf = true → ∃ k, cotterellaw10_MemKeeps.f k x0 x1 x2 x3 = some true := by
  intro l x1 s x3 _ hw h1 _ h3
  obtain ⟨A, rfl, hA⟩ := wf_u32 h1
  obtain ⟨V, rfl, hV⟩ := wf_u32 h3
  have hb := byt_of hw
  refine Ev.rounds ?_
  unfold cotterellaw10_MemKeeps.f
  by_cases hc : (l.length : Int) > 3000
  · exact Ev.ite_pos hc (Ev.step (fun k => cotterellaw10_MemKeeps.j0.eq_2 ..) (Ev.ite_pos rfl (Ev.bind awake_ev (Ev.now _))))
  refine Ev.ite_neg hc (Ev.bind_some (Check_f l (by omega) A hA s) (Ev.step (fun k => cotterellaw10_MemKeeps.j0.eq_2 ..) ?_))
  rcases ckN_cases l.length A s with ⟨h0, m, rfl, hm, hle⟩ | h9
  · refine Ev.ite_neg (by rw [h0]; decide) ?_
    have hr := Read_ev l hb (by omega) A hA (m : Int)
    have hwr := Write_ev l (by omega) A V hA hV (m : Int)
    have hr2 := Read_ev (wrL l A m V) (byt_wrL hb A m V) (by rw [wrL_length]; omega) A hA (m : Int)
    rw [if_pos h0, Int.toNat_natCast] at hr hwr
    rw [wrL_length, if_pos h0, Int.toNat_natCast] at hr2
    refine Ev.bind hr (Ev.bind hwr (Ev.ite_pos rfl (Ev.bind hr2 (Ev.bind (Diff_ev l _ (by omega) (by rw [wrL_length]; omega)) ?_))))
    exact keeps_l0 l hb (by omega) A V m hA hV hm hle _ 0 (Nat.zero_add _)
  · exact Ev.ite_pos (by rw [h9]; decide) (Ev.bind awake_ev (Ev.now _))
end Go.Proofs.Ythinaoelielepaa.Pure

