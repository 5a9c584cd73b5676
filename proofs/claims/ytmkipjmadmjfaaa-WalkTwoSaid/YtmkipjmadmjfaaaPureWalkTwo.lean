/- What the functions of package bits and of its reference compute, in natural numbers. -/
import Derived.Test.YtmkipjmadmjfaaaPWalkTwox5
import Derived.Test.YtmkipjmadmjfaaaM
namespace Go.Proofs.Ytmkipjmadmjfaaa.PWalkTwo
open Go.RowKit Go.Proofs.YtmkipjmadmjfaaaW.PrintWords Go.Proofs.YtmkipjmadmjfaaaW.PrintMore Go.Proofs.Ytmkipjmadmjfaaa.M
set_option linter.unusedVariables false
set_option linter.unusedSimpArgs false
theorem clamp_f (n lo hi : Int) (h : lo ≤ hi) : bits_clamp.f n lo hi = some (cl n lo hi) := by unfold bits_clamp.f; rw [mnmx n lo hi h]
theorem ones_f (n : Nat) (h : n ≤ 32) : bits_ones.f (n : Int) = some ((2 ^ n - 1 : Nat) : Int) := by
  unfold bits_ones.f
  rw [if_pos (by omega)]
  congr 1
  have h0 : 0 < 2 ^ n := Nat.two_pow_pos n
  have h1 : 2 ^ n ≤ 4294967296 := pow_le32 h
  have e : ((2 : Int) ^ n) = ((2 ^ n : Nat) : Int) := by simp
  unfold shl
  rw [Int.toNat_natCast, Nat.min_eq_left (by have : IntKind.bits .u64 = 64 := rfl; omega), Int.one_mul, e, wrap_u64, wrap_u64]
  omega
theorem mask_f (hi lo : Int) (H L : Nat) (hH : cl hi 0 31 = (H : Int)) (hL : cl lo 0 31 = (L : Int)) (h1 : H ≤ 31) (h2 : L ≤ 31) :
    bits_mask.f hi lo = some ((maskN H L : Int), if H < L then 0 else (L : Int)) := by
  unfold bits_mask.f
  rw [clamp_f hi 0 31 (by omega), clamp_f lo 0 31 (by omega), hH, hL]
  simp only [Option.bind_some]
  by_cases h : H < L
  · rw [if_pos (by omega), if_pos h]; unfold maskN; rw [if_pos h]; rfl
  · rw [if_neg (by omega), if_neg h]
    rw [w64 (n := (H : Int) - L) (by omega) (by omega), w64 (by omega) (by omega)]
    rw [show ((H : Int) - L + 1) = ((H - L + 1 : Nat) : Int) by omega, ones_f _ (by omega)]
    simp only [Option.bind_some]
    rw [if_pos (by omega)]
    congr 2
    have hm := @maskN_lt H L h1
    unfold maskN at hm ⊢
    rw [if_neg h] at hm ⊢
    unfold shl
    rw [Int.toNat_natCast, Nat.min_eq_left (by have : IntKind.bits .u32 = 32 := rfl; omega), IntKind.wrap_u32']
    rw [show ((2 : Int) ^ L) = ((2 ^ L : Nat) : Int) by simp, ← Int.natCast_mul]
    omega
theorem Field_f (X : Nat) (hX : X < 2 ^ 32) (hi lo : Int) (H L : Nat) (hH : cl hi 0 31 = (H : Int)) (hL : cl lo 0 31 = (L : Int)) (h1 : H ≤ 31) (h2 : L ≤ 31) :
    bits_Field.f (X : Int) hi lo = some (fieldN X H L : Int) := by
  unfold bits_Field.f
  rw [mask_f hi lo H L hH hL h1 h2]
  simp only [Option.bind_some]
  have hm := @maskN_lt H L h1
  rw [u32_and_nat _ _ (by omega) (by omega)]
  by_cases h : H < L
  · rw [if_pos h, if_pos (by omega)]
    unfold maskN fieldN; rw [if_pos h, if_pos h]; simp [shr]
  · rw [if_neg h, if_pos (by omega)]
    congr 1
    unfold shr
    rw [Int.toNat_natCast, Nat.min_eq_left (by have : IntKind.bits .u32 = 32 := rfl; omega)]
    rw [show ((2 : Int) ^ L) = ((2 ^ L : Nat) : Int) by simp, ← Int.natCast_ediv, field_mask]
theorem Of_l0 (l : List Int) (hb : Byt l) (hn : l.length ≤ 4) (d : Nat) : ∀ i : Nat, i + d = l.length →
    Ev (fun k => bits_Of.l0 k (leN (fun j => l.getD j 0) i : Int) l (l.length : Int) (i : Int)) (leN (fun j => l.getD j 0) l.length : Int) := by
  induction d with
  | zero =>
    intro i hi
    refine Ev.step (fun k => bits_Of.l0.eq_2 ..) (Ev.ite_neg (by omega) ?_)
    rw [show i = l.length by omega]; exact Ev.now _
  | succ d ih =>
    intro i hi
    refine Ev.step (fun k => bits_Of.l0.eq_2 ..) (Ev.ite_pos (by omega) (Ev.ite_pos (by omega) (Ev.ite_pos (by omega) ?_)))
    rw [w64 (n := 8 * (i : Int)) (by omega) (by omega), w64 (by omega) (by omega)]
    refine Ev.ite_pos (by omega) ?_
    have hbi := byt_getD hb i
    have h1 := leN_lt (fun j _ => byt_getD hb j : ∀ j, j < i → 0 ≤ l.getD j 0 ∧ l.getD j 0 ≤ 255)
    have h2 := leN_lt (fun j _ => byt_getD hb j : ∀ j, j < i + 1 → 0 ≤ l.getD j 0 ∧ l.getD j 0 ≤ 255)
    have h3 : (2 : Nat) ^ (8 * (i + 1)) ≤ 2 ^ 32 := Nat.pow_le_pow_right (by decide) (by omega)
    have h4 : (2 : Nat) ^ (8 * i) ≤ 2 ^ 32 := Nat.pow_le_pow_right (by decide) (by omega)
    have e : shl .u32 (rd l (i : Int) % 4294967296) (8 * (i : Int)) = (((l.getD i 0).toNat * 2 ^ (8 * i) : Nat) : Int) := by
      unfold shl
      rw [rd_nat, show (8 * (i : Int)).toNat = 8 * i by omega, Nat.min_eq_left (by have : IntKind.bits .u32 = 32 := rfl; omega), IntKind.wrap_u32']
      rw [show ((2 : Int) ^ (8 * i)) = ((2 ^ (8 * i) : Nat) : Int) by simp]
      rw [show l.getD i 0 % 4294967296 = ((l.getD i 0).toNat : Int) by omega, ← Int.natCast_mul]
      rw [leN] at h2
      omega
    rw [leN] at h2
    rw [e, u32_or_nat _ _ (by omega) (by omega), Nat.or_comm, nat_join (8 * i) _ _ (Nat.mul_mod_left _ _) h1, Nat.add_comm]
    exact ih (i + 1) (by omega)
theorem Of_ev (l : List Int) (hb : Byt l) : Ev (fun k => bits_Of.f k l) (leN (fun j => l.getD j 0) (min l.length 4) : Int) := by
  unfold bits_Of.f
  have e : (mn (l.length : Int) 4) = ((min l.length 4 : Nat) : Int) := by unfold mn; split <;> omega
  rw [e]
  refine Ev.ite_pos (by omega) (Ev.ite_pos (by omega) ?_)
  rw [Int.toNat_natCast]
  have hl : (l.take (min l.length 4)).length = min l.length 4 := by simp
  have this := Of_l0 (l.take (min l.length 4)) (byt_take hb _) (by omega) (min l.length 4) 0 (by omega)
  have e2 : leN (fun j => (l.take (min l.length 4)).getD j 0) (min l.length 4) = leN (fun j => l.getD j 0) (min l.length 4) := by
    refine leN_congr fun j hj => ?_
    simp only [List.getD, List.getElem?_take, if_pos hj]
  rw [hl] at this ⊢
  rw [e2] at this
  exact this

/- What the functions of package pte and of its reference compute, in natural numbers. -/
theorem Of_pte (X : Nat) (hX : X < 2 ^ 32) : pte_Of.f (X : Int) = some (((X % 128 : Nat) : Int), ((X / 256 % 256 : Nat) : Int)) := by
  unfold pte_Of.f
  rw [Field_f X hX 15 8 15 8 rfl rfl (by omega) (by omega)]
  simp only [Option.bind_some]
  rw [show (127 : Int) = ((127 : Nat) : Int) from rfl, u32_and_nat _ _ (by omega) (by omega), nat_mask7, show fieldN X 15 8 = X / 256 % 256 from rfl, w64n (by omega)]
theorem page_f (b p : Int) : pte_page.f b p = some (p % 256) := by
  unfold pte_page.f
  rw [u32_and _ _ (by omega) (by omega) (by omega) (by omega), show (255 : Int).toNat = 255 from rfl, nat_mask8]
  congr 1
  omega
/-- Whether an entry's bits allow an access. -/
def allowsN (B : Nat) (acc : Int) (kernel : Bool) : Bool :=
  B.testBit 0 && B.testBit 5 && (kernel || B.testBit 4) && (if acc = 1 then B.testBit 3 else if acc = 2 then B.testBit 1 else if acc = 3 then B.testBit 2 && B.testBit 6 else false)
theorem and_small (B m : Nat) (hm : m < 128) : B &&& m = (B % 128) &&& m := by
  apply Nat.eq_of_testBit_eq; intro i
  rw [Nat.testBit_and, Nat.testBit_and, show (128 : Nat) = 2 ^ 7 from rfl, Nat.testBit_mod_two_pow]
  by_cases h : i < 7
  · simp [h]
  · have : m.testBit i = false := Nat.testBit_lt_two_pow (Nat.lt_of_lt_of_le hm (Nat.pow_le_pow_right (n := 2) (by decide) (by omega : 7 ≤ i)))
    simp [this]
theorem testBit_small (B i : Nat) (h : i < 7) : B.testBit i = (B % 128).testBit i := by
  rw [show (128 : Nat) = 2 ^ 7 from rfl, Nat.testBit_mod_two_pow]; simp [h]
theorem all41 : ∀ b : Fin 128, decide (b.val &&& 41 = 41) = (b.val.testBit 0 && b.val.testBit 5 && b.val.testBit 3) := by decide +kernel
theorem all35 : ∀ b : Fin 128, decide (b.val &&& 35 = 35) = (b.val.testBit 0 && b.val.testBit 5 && b.val.testBit 1) := by decide +kernel
theorem all101 : ∀ b : Fin 128, decide (b.val &&& 101 = 101) = (b.val.testBit 0 && b.val.testBit 5 && (b.val.testBit 2 && b.val.testBit 6)) := by decide +kernel
theorem all57 : ∀ b : Fin 128, decide (b.val &&& 57 = 57) = (b.val.testBit 0 && b.val.testBit 5 && b.val.testBit 4 && b.val.testBit 3) := by decide +kernel
theorem all51 : ∀ b : Fin 128, decide (b.val &&& 51 = 51) = (b.val.testBit 0 && b.val.testBit 5 && b.val.testBit 4 && b.val.testBit 1) := by decide +kernel
theorem all117 : ∀ b : Fin 128, decide (b.val &&& 117 = 117) = (b.val.testBit 0 && b.val.testBit 5 && b.val.testBit 4 && (b.val.testBit 2 && b.val.testBit 6)) := by decide +kernel
theorem eq_dec (a b : Nat) : ((a : Int) == (b : Int)) = decide (a = b) := by rw [Bool.eq_iff_iff]; simp; omega
theorem Allows_ev (B : Nat) (hB : B < 2 ^ 32) (p acc : Int) (kernel : Bool) : Ev (fun k => pte_Allows.f k (B : Int) p acc kernel) (allowsN B acc kernel) := by
  have hb : B % 128 < 128 := Nat.mod_lt _ (by decide)
  unfold pte_Allows.f allowsN
  rw [testBit_small B 0 (by omega), testBit_small B 1 (by omega), testBit_small B 2 (by omega), testBit_small B 3 (by omega), testBit_small B 4 (by omega), testBit_small B 5 (by omega), testBit_small B 6 (by omega)]
  cases kernel
  · refine Ev.ite_neg (by decide) (Ev.step (fun k => pte_Allows.j0.eq_2 ..) ?_)
    rw [show Go.bits .or .u32 33 16 = 49 by decide +kernel]
    by_cases h1 : acc = 1
    · refine Ev.ite_pos h1 ?_
      rw [show Go.bits .or .u32 49 8 = ((57 : Nat) : Int) by decide +kernel, u32_and_nat _ _ (by omega) (by omega), eq_dec, and_small B 57 (by omega), all57 ⟨_, hb⟩]
      simp only [h1, if_true, Bool.false_or]
      exact Ev.now _
    refine Ev.ite_neg h1 ?_
    by_cases h2 : acc = 2
    · refine Ev.ite_pos h2 ?_
      rw [show Go.bits .or .u32 49 2 = ((51 : Nat) : Int) by decide +kernel, u32_and_nat _ _ (by omega) (by omega), eq_dec, and_small B 51 (by omega), all51 ⟨_, hb⟩]
      simp only [h2, if_true, Bool.false_or, show ((2 : Int) = 1) = False from by simp, if_false]
      exact Ev.now _
    refine Ev.ite_neg h2 ?_
    by_cases h3 : acc = 3
    · refine Ev.ite_pos h3 ?_
      rw [show Go.bits .or .u32 49 68 = ((117 : Nat) : Int) by decide +kernel, u32_and_nat _ _ (by omega) (by omega), eq_dec, and_small B 117 (by omega), all117 ⟨_, hb⟩]
      simp only [h3, if_true, Bool.false_or, show ((3 : Int) = 1) = False from by simp, show ((3 : Int) = 2) = False from by simp, if_false]
      exact Ev.now _
    refine Ev.ite_neg h3 ?_
    simp only [h1, h2, h3, if_false, Bool.and_false]
    exact Ev.now _
  · refine Ev.ite_pos rfl (Ev.step (fun k => pte_Allows.j0.eq_2 ..) ?_)
    by_cases h1 : acc = 1
    · refine Ev.ite_pos h1 ?_
      rw [show Go.bits .or .u32 33 8 = ((41 : Nat) : Int) by decide +kernel, u32_and_nat _ _ (by omega) (by omega), eq_dec, and_small B 41 (by omega), all41 ⟨_, hb⟩]
      simp only [h1, if_true, Bool.true_or, Bool.and_true]
      exact Ev.now _
    refine Ev.ite_neg h1 ?_
    by_cases h2 : acc = 2
    · refine Ev.ite_pos h2 ?_
      rw [show Go.bits .or .u32 33 2 = ((35 : Nat) : Int) by decide +kernel, u32_and_nat _ _ (by omega) (by omega), eq_dec, and_small B 35 (by omega), all35 ⟨_, hb⟩]
      simp only [h2, if_true, Bool.true_or, Bool.and_true, show ((2 : Int) = 1) = False from by simp, if_false]
      exact Ev.now _
    refine Ev.ite_neg h2 ?_
    by_cases h3 : acc = 3
    · refine Ev.ite_pos h3 ?_
      rw [show Go.bits .or .u32 33 68 = ((101 : Nat) : Int) by decide +kernel, u32_and_nat _ _ (by omega) (by omega), eq_dec, and_small B 101 (by omega), all101 ⟨_, hb⟩]
      simp only [h3, if_true, Bool.true_or, Bool.and_true, show ((3 : Int) = 1) = False from by simp, show ((3 : Int) = 2) = False from by simp, if_false]
      exact Ev.now _
    refine Ev.ite_neg h3 ?_
    simp only [h1, h2, h3, if_false, Bool.and_false]
    exact Ev.now _
/-- Whether an entry has a page. -/
def leafN (B : Nat) : Bool := B.testBit 1 || B.testBit 2 || B.testBit 3
theorem small14 : ∀ b : Fin 128, decide (b.val &&& 14 = 0) = !(b.val.testBit 1 || b.val.testBit 2 || b.val.testBit 3) := by decide +kernel
theorem Leaf_f (B : Nat) (hB : B < 2 ^ 32) (p : Int) : pte_Leaf.f (B : Int) p = some (leafN B) := by
  have hb : B % 128 < 128 := Nat.mod_lt _ (by decide)
  unfold pte_Leaf.f leafN
  have h := small14 ⟨_, hb⟩
  rw [testBit_small B 1 (by omega), testBit_small B 2 (by omega), testBit_small B 3 (by omega)]
  rw [show (14 : Int) = ((14 : Nat) : Int) from rfl, u32_and_nat _ _ (by omega) (by omega), and_small B 14 (by omega)]
  rw [show ((((B % 128) &&& 14 : Nat) : Int) != 0) = !decide ((B % 128) &&& 14 = 0) by rw [Bool.eq_iff_iff]; simp, h, Bool.not_not]
theorem Index_f (X : Nat) (hX : X < 2 ^ 32) (level : Int) : pte_Index.f (X : Int) level = some (if level = 0 then ((X / 1024 % 16 : Nat) : Int) else if level = 1 then ((X / 64 % 16 : Nat) : Int) else 0) := by
  unfold pte_Index.f
  by_cases h0 : level = 0
  · rw [if_pos h0, if_pos h0, Field_f X hX 13 10 13 10 rfl rfl (by omega) (by omega), show fieldN X 13 10 = X / 1024 % 16 from rfl]; simp only [Option.bind_some]; rw [w64n (by omega)]
  rw [if_neg h0, if_neg h0]
  by_cases h1 : level = 1
  · rw [if_pos h1, if_pos h1, Field_f X hX 9 6 9 6 rfl rfl (by omega) (by omega), show fieldN X 9 6 = X / 64 % 16 from rfl]; simp only [Option.bind_some]; rw [w64n (by omega)]
  rw [if_neg h1, if_neg h1]
theorem Addr_f (b p : Int) (X : Nat) (hX : X < 2 ^ 32) : pte_Addr.f b p (X : Int) = some (64 * (p % 256) + ((X % 64 : Nat) : Int)) := by
  unfold pte_Addr.f
  rw [page_f]
  simp only [Option.bind_some]
  rw [Int.tmod_eq_emod_of_nonneg (by omega)]
  congr 1
  omega

/- What the functions of package mem and of its reference compute, in natural numbers and lists. -/
/-- The cause why there is no such place. -/
def ckN (n A : Nat) (s : Int) : Int := if (s = 1 ∨ s = 2 ∨ s = 4) ∧ (A : Int) + s ≤ n then 0 else 9
theorem ckN_cases (n A : Nat) (s : Int) : (ckN n A s = 0 ∧ ∃ m : Nat, s = (m : Int) ∧ (m = 1 ∨ m = 2 ∨ m = 4) ∧ A + m ≤ n) ∨ ckN n A s = 9 := by
  unfold ckN
  split
  · rename_i h
    exact .inl ⟨rfl, s.toNat, by omega, by omega, by omega⟩
  · exact .inr rfl
theorem Check_f (l : List Int) (hl : l.length ≤ 4611686018427387904) (A : Nat) (hA : A < 2 ^ 32) (s : Int) : mem_Check.f l (A : Int) s = some (ckN l.length A s) := by
  unfold mem_Check.f ckN
  simp only [wrap_u64]
  by_cases h1 : s = 1
  · subst h1
    rw [if_pos rfl]
    by_cases c : A + 1 ≤ l.length
    · rw [if_neg (by omega), if_pos ⟨by omega, by omega⟩]
    · rw [if_pos (by omega), if_neg (by omega)]
  rw [if_neg h1]
  by_cases h2 : s = 2
  · subst h2
    rw [if_pos rfl]
    by_cases c : A + 2 ≤ l.length
    · rw [if_neg (by omega), if_pos ⟨by omega, by omega⟩]
    · rw [if_pos (by omega), if_neg (by omega)]
  rw [if_neg h2]
  by_cases h3 : s = 4
  · subst h3
    rw [if_pos rfl]
    by_cases c : A + 4 ≤ l.length
    · rw [if_neg (by omega), if_pos ⟨by omega, by omega⟩]
    · rw [if_pos (by omega), if_neg (by omega)]
  rw [if_neg h3, if_neg (by omega)]
/-- The number that stands in m bytes from A on. -/
def rdN (l : List Int) (A m : Nat) : Nat := leN (fun j => l.getD (A + j) 0) m
theorem rdN_lt {l : List Int} (hb : Byt l) (A m : Nat) : rdN l A m < 2 ^ (8 * m) := leN_lt fun j _ => byt_getD hb (A + j)
theorem Read_ev (l : List Int) (hb : Byt l) (hl : l.length ≤ 4611686018427387904) (A : Nat) (hA : A < 2 ^ 32) (s : Int) :
    Ev (fun k => mem_Read.f k l (A : Int) s) (if ckN l.length A s = 0 then ((rdN l A s.toNat : Int), 0) else (0, ckN l.length A s)) := by
  refine Ev.bind_some (Check_f l hl A hA s) ?_
  rcases ckN_cases l.length A s with ⟨h0, m, rfl, hm, hle⟩ | h9
  · rw [if_pos h0]
    refine Ev.ite_pos h0 ?_
    rw [w64 (n := (A : Int)) (by omega) (by omega), w64 (by omega) (by omega)]
    refine Ev.ite_pos (by omega) (Ev.ite_pos (by omega) (Ev.ite_pos (by omega) ?_))
    rw [show ((A : Int) + (m : Int)).toNat = A + m by omega, Int.toNat_natCast, Int.toNat_natCast]
    have := Of_ev ((l.take (A + m)).drop A) (byt_drop (byt_take hb _) _)
    have hlen : ((l.take (A + m)).drop A).length = m := by rw [List.length_drop, List.length_take]; omega
    rw [hlen, Nat.min_eq_left (by omega)] at this
    have e : leN (fun j => ((l.take (A + m)).drop A).getD j 0) m = rdN l A m := by
      refine leN_congr fun j hj => ?_
      simp only [List.getD, List.getElem?_drop, List.getElem?_take, if_pos (show A + j < A + m by omega)]
    rw [e] at this
    exact Ev.bind this (Ev.now _)
  · rw [if_neg (by omega)]
    exact Ev.ite_neg (by omega) (Ev.now _)

/-! The walk through tables. -/
def wk2 (l : List Int) (va X a0 : Nat) : Int × Int × List Int × Bool :=
  if ckN l.length (64 * (X / 256 % 256) + 4 * (va / 64 % 16)) 4 = 0 then
    (if rdN l (64 * (X / 256 % 256) + 4 * (va / 64 % 16)) 4 % 128 % 2 = 0 then (0, 0, [(a0 : Int), ((64 * (X / 256 % 256) + 4 * (va / 64 % 16) : Nat) : Int)], false)
    else if leafN (rdN l (64 * (X / 256 % 256) + 4 * (va / 64 % 16)) 4 % 128) = true then (((rdN l (64 * (X / 256 % 256) + 4 * (va / 64 % 16)) 4 % 128 : Nat) : Int), ((rdN l (64 * (X / 256 % 256) + 4 * (va / 64 % 16)) 4 / 256 % 256 : Nat) : Int), [(a0 : Int), ((64 * (X / 256 % 256) + 4 * (va / 64 % 16) : Nat) : Int)], true)
    else (0, 0, [(a0 : Int), ((64 * (X / 256 % 256) + 4 * (va / 64 % 16) : Nat) : Int)], false))
  else (0, 0, [(a0 : Int)], false)
def wkA (root va : Nat) : Nat := (root + 4 * (va / 1024 % 16)) % 4294967296
def wkN (l : List Int) (root va : Nat) : Int × Int × List Int × Bool :=
  if 16384 ≤ va then (0, 0, [], false)
  else if ckN l.length (wkA root va) 4 = 0 then
    (if rdN l (wkA root va) 4 % 128 % 2 = 0 then (0, 0, [(wkA root va : Int)], false)
    else if leafN (rdN l (wkA root va) 4 % 128) = true then (0, 0, [(wkA root va : Int)], false)
    else wk2 l va (rdN l (wkA root va) 4) (wkA root va))
  else (0, 0, [], false)
theorem and1_nat (B : Nat) (hB : B < 2 ^ 32) : Go.bits .and .u32 (B : Int) 1 = ((B % 2 : Nat) : Int) := by
  rw [show (1 : Int) = ((1 : Nat) : Int) from rfl, u32_and_nat _ _ (by omega) (by omega), Nat.and_one_is_mod]
theorem and14_leaf (B : Nat) (hB : B < 2 ^ 32) : Go.bits .and .u32 (B : Int) 14 = 0 ↔ leafN B = false := by
  have h : (Go.bits .and .u32 (B : Int) 14 != 0) = leafN B := Option.some.inj (Leaf_f B hB 0)
  rw [← h]
  simp
theorem Index0_f (va : Nat) (hv : va < 2 ^ 32) : pte_Index.f (va : Int) 0 = some ((va / 1024 % 16 : Nat) : Int) := by rw [Index_f va hv]; rfl
theorem Index1_f (va : Nat) (hv : va < 2 ^ 32) : pte_Index.f (va : Int) 1 = some ((va / 64 % 16 : Nat) : Int) := by rw [Index_f va hv]; rfl
theorem wkA_eq (root va : Nat) : (((root : Int) + 4 * (((va / 1024 % 16 : Nat) : Int) % 4294967296)) % 4294967296) = ((wkA root va : Nat) : Int) := by unfold wkA; omega
theorem wkB_eq (X va : Nat) : ((wrap64 (64 * ((X / 256 % 256 : Nat) : Int)) + 4 * (((va / 64 % 16 : Nat) : Int) % 4294967296)) % 4294967296) = ((64 * (X / 256 % 256) + 4 * (va / 64 % 16) : Nat) : Int) := by
  rw [w64 (by omega) (by omega)]
  omega
theorem Walk_ev (l : List Int) (hb : Byt l) (hl : l.length ≤ 4611686018427387904) (root va : Nat) (hv : va < 2 ^ 32) :
    Ev (fun k => walk_Walk.f k l (root : Int) (va : Int)) (wkN l root va) := by
  unfold walk_Walk.f wkN
  by_cases h1 : 16384 ≤ va
  · rw [if_pos h1]
    exact Ev.ite_pos (by omega) (Ev.now _)
  rw [if_neg h1]
  refine Ev.ite_neg (by omega) (Ev.bind_some (Index0_f va hv) ?_)
  rw [wkA_eq]
  have hA : wkA root va < 2 ^ 32 := by unfold wkA; omega
  generalize wkA root va = a0 at hA ⊢
  refine Ev.bind (Read_ev l hb hl a0 hA 4) ?_
  by_cases hc : ckN l.length a0 4 = 0
  · rw [if_pos hc, if_pos hc]
    refine Ev.ite_pos rfl ?_
    have hX : rdN l a0 4 < 2 ^ 32 := rdN_lt hb a0 4
    show Ev (fun k => (pte_Of.f (rdN l a0 4 : Int)).bind _) _
    generalize rdN l a0 4 = X at hX ⊢
    refine Ev.bind_some (Of_pte X hX) ?_
    dsimp only
    rw [and1_nat (X % 128) (by omega)]
    by_cases h2 : X % 128 % 2 = 0
    · rw [if_pos h2]
      exact Ev.ite_pos (by omega) (Ev.now _)
    rw [if_neg h2]
    refine Ev.ite_neg (by omega) ?_
    have h14 := and14_leaf (X % 128) (by omega)
    by_cases h3 : leafN (X % 128) = true
    · rw [if_pos h3]
      exact Ev.ite_neg (by rw [h14, h3]; decide) (Ev.now _)
    rw [if_neg h3]
    refine Ev.ite_pos (by rw [h14]; simpa using h3) (Ev.bind_some (Index1_f va hv) ?_)
    rw [wkB_eq]
    unfold wk2
    have hB : 64 * (X / 256 % 256) + 4 * (va / 64 % 16) < 2 ^ 32 := by omega
    generalize 64 * (X / 256 % 256) + 4 * (va / 64 % 16) = a1 at hB ⊢
    refine Ev.bind (Read_ev l hb hl a1 hB 4) ?_
    by_cases hd : ckN l.length a1 4 = 0
    · rw [if_pos hd, if_pos hd]
      refine Ev.ite_pos rfl ?_
      have hY : rdN l a1 4 < 2 ^ 32 := rdN_lt hb a1 4
      show Ev (fun k => (pte_Of.f (rdN l a1 4 : Int)).bind _) _
      generalize rdN l a1 4 = Y at hY ⊢
      refine Ev.bind_some (Of_pte Y hY) ?_
      dsimp only
      rw [and1_nat (Y % 128) (by omega)]
      by_cases h4 : Y % 128 % 2 = 0
      · rw [if_pos h4]
        exact Ev.ite_pos (by omega) (Ev.now _)
      rw [if_neg h4]
      refine Ev.ite_neg (by omega) ?_
      have h15 := and14_leaf (Y % 128) (by omega)
      by_cases h5 : leafN (Y % 128) = true
      · rw [if_pos h5]
        exact Ev.ite_neg (by rw [h15, h5]; decide) (Ev.now _)
      rw [if_neg h5]
      exact Ev.ite_pos (by rw [h15]; simpa using h5) (Ev.now _)
    · simp only [if_neg hd]
      exact Ev.now _
  · rw [if_neg hc, if_neg hc]
    exact Ev.ite_neg hc (Ev.now _)
def faultN (acc : Int) : Int := if acc = 1 then 1 else if acc = 2 then 4 else if acc = 3 then 6 else 9
theorem Fault_f (acc : Int) : walk_Fault.f acc = some (faultN acc) := by
  unfold walk_Fault.f faultN
  by_cases h1 : acc = 1
  · rw [if_pos h1, if_pos h1]
  rw [if_neg h1, if_neg h1]
  by_cases h2 : acc = 2
  · rw [if_pos h2, if_pos h2]
  rw [if_neg h2, if_neg h2]
  by_cases h3 : acc = 3
  · rw [if_pos h3, if_pos h3]
  rw [if_neg h3, if_neg h3]
theorem sameWords_l0 (a b : List Int) (hl : a.length = b.length) (hm : a.length ≤ 4611686018427387904) (d : Nat) : ∀ i : Nat, i + d = a.length → (∀ j, j < i → a.getD j 0 = b.getD j 0) →
    Ev (fun k => cotterelsame_Words.l0 k a b (i : Int)) (decide (a = b)) := by
  induction d with
  | zero =>
    intro i hi h
    have e : a = b := by rw [tab_of a, tab_of b, ← hl]; exact tab_congr fun j hj => h j (by omega)
    refine Ev.step (fun k => cotterelsame_Words.l0.eq_2 ..) (Ev.ite_neg (by omega) (Ev.step (fun k => cotterelsame_Words.j1.eq_2 ..) (Ev.ite_neg (by decide) ?_)))
    rw [decide_eq_true e]; exact Ev.now _
  | succ d ih =>
    intro i hi h
    refine Ev.step (fun k => cotterelsame_Words.l0.eq_2 ..) (Ev.ite_pos (by omega) (Ev.step (fun k => cotterelsame_Words.j1.eq_2 ..) (Ev.ite_pos (by simp; omega) (Ev.ite_pos (by omega) (Ev.ite_pos (by omega) (Ev.ite_pos (by omega) ?_))))))
    rw [rd_nat, rd_nat]
    by_cases e : a.getD i 0 = b.getD i 0
    · refine Ev.ite_pos e ?_
      rw [w64 (by omega) (by omega)]
      exact ih (i + 1) (by omega) (fun j hj => by
        rcases Nat.lt_or_eq_of_le (Nat.lt_succ_iff.1 hj) with hj | rfl
        · exact h j hj
        · exact e)
    · refine Ev.ite_neg e ?_
      rw [decide_eq_false (fun h => e (by rw [h]))]; exact Ev.now _
theorem sameWords_ev (a b : List Int) (hm : a.length ≤ 4611686018427387904) : Ev (fun k => cotterelsame_Words.f k a b) (decide (a = b)) := by
  unfold cotterelsame_Words.f
  by_cases hl : a.length = b.length
  · exact Ev.ite_pos (by omega) (sameWords_l0 a b hl hm a.length 0 (by omega) (by simp))
  · refine Ev.ite_neg (by omega) ?_
    rw [decide_eq_false (fun h => hl (by rw [h]))]; exact Ev.now _
theorem and16 (S : Nat) : S &&& 16 = 16 * (S / 16 % 2) := by
  apply Nat.eq_of_testBit_eq; intro i
  rw [show (16 : Nat) = 2 ^ 4 from rfl, Nat.testBit_and, Nat.testBit_two_pow_mul, show S / 2 ^ 4 % 2 = S / 2 ^ 4 % 2 ^ 1 from rfl, Nat.testBit_mod_two_pow, Nat.testBit_div_two_pow, Nat.testBit_two_pow]
  by_cases h : i = 4
  · subst h; simp
  · by_cases h2 : 4 ≤ i
    · simp [show ¬ 4 = i by omega, show ¬ i - 4 = 0 by omega, h2]
    · simp [show ¬ 4 = i by omega, h2]
theorem and16_nat (S : Nat) (hS : S < 2 ^ 32) : Go.bits .and .u32 (S : Int) 16 = ((16 * (S / 16 % 2) : Nat) : Int) := by
  rw [show (16 : Int) = ((16 : Nat) : Int) from rfl, u32_and_nat _ _ (by omega) (by omega), and16]
def pagedN (S : Nat) : Bool := decide (S / 16 % 2 = 1) && decide (S % 2 = 0)
theorem csrKernel_f (a0 a1 a2 a3 a4 a5 a6 a7 a8 a9 a10 a11 a12 a13 a14 a15 a16 a18 a19 a20 a21 a23 a24 a25 a26 a27 a28 : Int) (S R : Nat) (a29 : Bool) (hS : S < 2 ^ 32) : csr_Kernel.f a0 a1 a2 a3 a4 a5 a6 a7 a8 a9 a10 a11 a12 a13 a14 a15 a16 (S : Int) a18 a19 a20 a21 (R : Int) a23 a24 a25 a26 a27 a28 a29 = some (decide (S % 2 = 1)) := by
  unfold csr_Kernel.f
  rw [show Go.bits .and .u32 (S : Int) 1 = ((S % 2 : Nat) : Int) by rw [show (1 : Int) = ((1 : Nat) : Int) from rfl, u32_and_nat _ _ (by omega) (by omega), Nat.and_one_is_mod]]
  congr 1
  rw [Bool.eq_iff_iff]
  simp
  omega
theorem Paged_f (a0 a1 a2 a3 a4 a5 a6 a7 a8 a9 a10 a11 a12 a13 a14 a15 a16 a18 a19 a20 a21 a23 a24 a25 a26 a27 a28 : Int) (S R : Nat) (a29 : Bool) (hS : S < 2 ^ 32) : walk_Paged.f a0 a1 a2 a3 a4 a5 a6 a7 a8 a9 a10 a11 a12 a13 a14 a15 a16 (S : Int) a18 a19 a20 a21 (R : Int) a23 a24 a25 a26 a27 a28 a29 = some (pagedN S) := by
  unfold walk_Paged.f pagedN
  rw [and16_nat S hS, csrKernel_f a0 a1 a2 a3 a4 a5 a6 a7 a8 a9 a10 a11 a12 a13 a14 a15 a16 a18 a19 a20 a21 a23 a24 a25 a26 a27 a28 S R a29 hS]
  by_cases h : S / 16 % 2 = 1
  · rw [if_neg (by omega), Option.bind_some, decide_eq_true h]
    congr 1
    rw [Bool.eq_iff_iff]
    simp
  · rw [if_pos (by omega), decide_eq_false h]
    rfl
theorem wkN_form (l : List Int) (root va : Nat) : ∃ (B P : Nat) (ls : List Int) (ok : Bool), wkN l root va = ((B : Int), (P : Int), ls, ok) ∧ B < 128 ∧ P < 256 ∧ ls.length ≤ 2 := by
  unfold wkN wk2
  repeat' split
  all_goals first
    | exact ⟨0, 0, _, _, rfl, by omega, by omega, by simp⟩
    | exact ⟨_, _, _, _, rfl, Nat.mod_lt _ (by decide), Nat.mod_lt _ (by decide), by simp⟩
def trN (l : List Int) (pg : Bool) (R va : Nat) (acc : Int) : Int × Int :=
  if pg = true then (if acc < 1 ∨ 3 < acc then (0, 9) else if (wkN l R va).2.2.2 = true ∧ allowsN (wkN l R va).1.toNat acc false = true then (64 * ((wkN l R va).2.1 % 256) + ((va % 64 : Nat) : Int), 0) else (0, faultN acc)) else ((va : Int), 0)
theorem fault9 (acc : Int) : faultN acc = 9 ↔ (acc < 1 ∨ 3 < acc) := by
  unfold faultN
  by_cases h1 : acc = 1
  · simp [h1]
  rw [if_neg h1]
  by_cases h2 : acc = 2
  · simp [h2]
  rw [if_neg h2]
  by_cases h3 : acc = 3
  · simp [h3]
  rw [if_neg h3]
  omega
theorem Trans_ev (a0 a1 a2 a3 a4 a5 a6 a7 a8 a9 a10 a11 a12 a13 a14 a15 a16 a18 a19 a20 a21 a23 a24 a25 a26 a27 a28 : Int) (S R : Nat) (a29 : Bool) (hS : S < 2 ^ 32) (l : List Int) (hb : Byt l) (hl : l.length ≤ 4611686018427387904) (va : Nat) (hv : va < 2 ^ 32) (acc : Int) :
    Ev (fun k => walk_Trans.f k a0 a1 a2 a3 a4 a5 a6 a7 a8 a9 a10 a11 a12 a13 a14 a15 a16 (S : Int) a18 a19 a20 a21 (R : Int) a23 a24 a25 a26 a27 a28 a29 l (va : Int) acc) (trN l (pagedN S) R va acc) := by
  unfold walk_Trans.f trN
  refine Ev.bind_some (Paged_f a0 a1 a2 a3 a4 a5 a6 a7 a8 a9 a10 a11 a12 a13 a14 a15 a16 a18 a19 a20 a21 a23 a24 a25 a26 a27 a28 S R a29 hS) ?_
  cases pagedN S with
  | false => exact Ev.ite_neg (by decide) (Ev.now _)
  | true =>
    rw [if_pos rfl]
    refine Ev.ite_pos rfl (Ev.bind_some (Fault_f acc) ?_)
    by_cases h9 : acc < 1 ∨ 3 < acc
    · rw [if_pos h9]
      have e := (fault9 acc).2 h9
      rw [e]
      exact Ev.ite_pos rfl (Ev.now _)
    rw [if_neg h9]
    refine Ev.ite_neg (fun h => h9 ((fault9 acc).1 h)) (Ev.bind (Walk_ev l hb hl R va hv) ?_)
    obtain ⟨B, P, ls, ok, e, hB, hP, _⟩ := wkN_form l R va
    rw [e]
    dsimp only
    cases ok with
    | false =>
      rw [if_neg (by simp)]
      exact Ev.ite_neg (by decide) (Ev.now _)
    | true =>
      refine Ev.ite_pos rfl (Ev.bind (Allows_ev B (by omega) _ acc false) ?_)
      rw [Int.toNat_natCast]
      by_cases ha : allowsN B acc false = true
      · rw [if_pos (show true = true ∧ allowsN B acc false = true from ⟨rfl, ha⟩)]
        exact Ev.ite_pos ha (Ev.bind_some (Addr_f _ _ va hv) (Ev.now _))
      · rw [if_neg (show ¬ (true = true ∧ allowsN B acc false = true) from fun h => ha h.2)]
        exact Ev.ite_neg ha (Ev.now _)

theorem awake_ev : Ev (fun k => cotterellaw13_awake.f k) true := Ev.of (fun k => cotterellaw13_awake.mono k) (k := 40) (by decide +kernel)
theorem ck4 {n A : Nat} (h : ckN n A 4 = 0) : A + 4 ≤ n := by
  unfold ckN at h
  split at h
  · omega
  · omega
theorem wkN_mem (l : List Int) (R va : Nat) : ∀ a ∈ (wkN l R va).2.2.1, ∃ n : Nat, a = (n : Int) ∧ n + 4 ≤ l.length := by
  unfold wkN wk2
  intro a ha
  split at ha
  · simp at ha
  split at ha
  · rename_i h0
    have h0 := ck4 h0
    split at ha
    · simp at ha; exact ⟨_, ha, h0⟩
    split at ha
    · simp at ha; exact ⟨_, ha, h0⟩
    split at ha
    · rename_i h1
      have h1 := ck4 h1
      split at ha
      · simp only [List.mem_cons, List.not_mem_nil, or_false] at ha; rcases ha with rfl | rfl <;> exact ⟨_, rfl, by assumption⟩
      split at ha
      · simp only [List.mem_cons, List.not_mem_nil, or_false] at ha; rcases ha with rfl | rfl <;> exact ⟨_, rfl, by assumption⟩
      · simp only [List.mem_cons, List.not_mem_nil, or_false] at ha; rcases ha with rfl | rfl <;> exact ⟨_, rfl, by assumption⟩
    · simp at ha; exact ⟨_, ha, h0⟩
  · simp at ha
theorem rdN_same {l m : List Int} {A : Nat} (h : ∀ j, A ≤ j → j < A + 4 → m.getD j 0 = l.getD j 0) : rdN m A 4 = rdN l A 4 := leN_congr fun i hi => h (A + i) (by omega) (by omega)
theorem wkN_same (l m : List Int) (R va : Nat) (hl : m.length = l.length) (h : ∀ n : Nat, (n : Int) ∈ (wkN l R va).2.2.1 → ∀ j, n ≤ j → j < n + 4 → m.getD j 0 = l.getD j 0) : wkN m R va = wkN l R va := by
  unfold wkN at h ⊢
  rw [hl]
  by_cases h1 : 16384 ≤ va
  · rw [if_pos h1, if_pos h1]
  rw [if_neg h1] at h ⊢
  rw [if_neg h1]
  by_cases h2 : ckN l.length (wkA R va) 4 = 0
  · rw [if_pos h2] at h ⊢
    rw [if_pos h2]
    have e0 : rdN m (wkA R va) 4 = rdN l (wkA R va) 4 := by
      refine rdN_same (h (wkA R va) ?_)
      unfold wk2
      repeat' split
      all_goals simp
    rw [e0]
    by_cases h3 : rdN l (wkA R va) 4 % 128 % 2 = 0
    · rw [if_pos h3, if_pos h3]
    rw [if_neg h3] at h ⊢
    rw [if_neg h3]
    by_cases h4 : leafN (rdN l (wkA R va) 4 % 128) = true
    · rw [if_pos h4, if_pos h4]
    rw [if_neg h4] at h ⊢
    rw [if_neg h4]
    unfold wk2 at h ⊢
    rw [hl]
    by_cases h5 : ckN l.length (64 * (rdN l (wkA R va) 4 / 256 % 256) + 4 * (va / 64 % 16)) 4 = 0
    · rw [if_pos h5] at h ⊢
      rw [if_pos h5]
      have e1 : rdN m (64 * (rdN l (wkA R va) 4 / 256 % 256) + 4 * (va / 64 % 16)) 4 = rdN l (64 * (rdN l (wkA R va) 4 / 256 % 256) + 4 * (va / 64 % 16)) 4 := by
        refine rdN_same (h _ ?_)
        repeat' split
        all_goals simp
      rw [e1]
    · rw [if_neg h5, if_neg h5]
  · rw [if_neg h2, if_neg h2]
theorem two_l1 (sh : List Int) (hs : sh.length ≤ 1024) (hsb : Byt sh) (root : Int) (ls : List Int) (ok : Bool) (x12 va acc b1 b2 : Int) (a : Nat) (ha : a + 4 ≤ sh.length) {r : Bool} (d : Nat) : ∀ (i : Nat) (M : List Int), i + d = 4 → M.length = sh.length → Byt M →
    (∀ j, a ≤ j → j < a + i → M.getD j 0 = sh.getD j 0) →
    (∀ M' : List Int, M'.length = sh.length → Byt M' → (∀ j, M.getD j 0 = sh.getD j 0 → M'.getD j 0 = sh.getD j 0) → (∀ j, a ≤ j → j < a + 4 → M'.getD j 0 = sh.getD j 0) → Ev (fun k => cotterellaw13_WalkTwo.l0 k sh root ls ok M' (wrap64 (x12 + 1)) va acc b1 b2) r) →
    Ev (fun k => cotterellaw13_WalkTwo.l1 k sh root ls ok M x12 (a : Int) ((a + i : Nat) : Int) va acc b1 b2) r := by
  induction d with
  | zero =>
    intro i M hi hM hb hag hc
    refine Ev.step (fun k => cotterellaw13_WalkTwo.l1.eq_2 ..) (Ev.ite_neg ?_ (hc M hM hb (fun _ h => h) (fun j h1 h2 => hag j h1 (by omega))))
    rw [w64 (by omega) (by omega)]
    omega
  | succ d ih =>
    intro i M hi hM hb hag hc
    refine Ev.step (fun k => cotterellaw13_WalkTwo.l1.eq_2 ..) (Ev.ite_pos ?_ (Ev.ite_pos (by omega) (Ev.ite_pos (by omega) (Ev.ite_pos (by omega) ?_))))
    · rw [w64 (by omega) (by omega)]
      omega
    rw [rd_nat, Int.toNat_natCast, w64 (by omega) (by omega), show (((a + i : Nat) : Int) + 1) = ((a + (i + 1) : Nat) : Int) by omega]
    have hg : ∀ j, (M.set (a + i) (sh.getD (a + i) 0)).getD j 0 = if j = a + i then sh.getD (a + i) 0 else M.getD j 0 := by
      intro j
      rw [List.getD_eq_getElem?_getD, List.getElem?_set, List.getD_eq_getElem?_getD]
      by_cases e : j = a + i
      · subst e
        rw [if_pos rfl, if_pos rfl, if_pos (by omega)]
        simp
      · rw [if_neg (fun h => e h.symm), if_neg e, List.getD_eq_getElem?_getD]
    refine ih (i + 1) _ (by omega) (by rw [List.length_set]; exact hM) ?_ ?_ ?_
    · intro x hx
      rcases List.mem_or_eq_of_mem_set hx with h | rfl
      · exact hb x h
      · exact byt_getD hsb _
    · intro j h1 h2
      rw [hg]
      by_cases e : j = a + i
      · rw [if_pos e, e]
      · rw [if_neg e]
        exact hag j h1 (by omega)
    · intro M' h1 h2 h3 h4
      refine hc M' h1 h2 (fun j hj => h3 j ?_) h4
      rw [hg]
      by_cases e : j = a + i
      · rw [if_pos e, e]
      · rw [if_neg e]
        exact hj
theorem two_l0 (sh : List Int) (hs : sh.length ≤ 1024) (hsb : Byt sh) (root va : Nat) (hv : va < 2 ^ 32) (acc : Int) (B P : Nat) (ls : List Int) (ok : Bool) (e : wkN sh root va = ((B : Int), (P : Int), ls, ok)) (hls : ls.length ≤ 2) (d : Nat) : ∀ (i : Nat) (M : List Int), i + d = ls.length → M.length = sh.length → Byt M →
    (∀ q, q < i → ∀ n : Nat, ls.getD q 0 = (n : Int) → ∀ j, n ≤ j → j < n + 4 → M.getD j 0 = sh.getD j 0) →
    Ev (fun k => cotterellaw13_WalkTwo.l0 k sh (root : Int) ls ok M (i : Int) (va : Int) acc (B : Int) (P : Int)) true := by
  have hmem := wkN_mem sh root va
  rw [e] at hmem
  induction d with
  | zero =>
    intro i M hi hM hb hag
    refine Ev.step (fun k => cotterellaw13_WalkTwo.l0.eq_2 ..) (Ev.ite_neg (by omega) (Ev.bind (Walk_ev M hb (by omega) root va hv) ?_))
    have hsame : wkN M root va = wkN sh root va := by
      refine wkN_same sh M root va hM ?_
      rw [e]
      intro n hn
      replace hn : (n : Int) ∈ ls := hn
      obtain ⟨q, hq, hqe⟩ := List.getElem_of_mem hn
      exact hag q (by omega) n (by rw [List.getD_eq_getElem?_getD, List.getElem?_eq_getElem hq, hqe]; rfl)
    rw [hsame, e]
    refine Ev.ite_pos (by omega) (Ev.ite_pos (by simp) (Ev.bind (sameWords_ev _ _ (by omega)) (Ev.ite_pos (by simp) (Ev.ite_pos (by simp) (Ev.bind awake_ev (Ev.now _))))))
  | succ d ih =>
    intro i M hi hM hb hag
    obtain ⟨n, hn, hle⟩ := hmem (ls.getD i 0) (by rw [List.getD_eq_getElem?_getD, List.getElem?_eq_getElem (by omega : i < ls.length)]; exact List.getElem_mem _)
    refine Ev.step (fun k => cotterellaw13_WalkTwo.l0.eq_2 ..) (Ev.ite_pos (by omega) (Ev.ite_pos (by omega) ?_))
    rw [rd_nat, hn, w64 (n := (n : Int)) (by omega) (by omega)]
    refine Ev.ite_neg ?_ ?_
    · rw [w64 (by omega) (by omega)]
      omega
    refine two_l1 sh hs hsb _ ls ok _ _ _ _ _ n hle 4 0 M (by omega) hM hb (fun j h1 h2 => by omega) (fun M' h1 h2 h3 h4 => ?_)
    rw [w64 (by omega) (by omega)]
    refine ih (i + 1) M' (by omega) h1 h2 (fun q hq m hm j hj1 hj2 => ?_)
    rcases Nat.lt_or_eq_of_le (Nat.lt_succ_iff.1 hq) with hq | rfl
    · exact h3 j (hag q hq m hm j hj1 hj2)
    · have : m = n := by rw [hn] at hm; omega
      subst this
      exact h4 j hj1 hj2
end Go.Proofs.Ytmkipjmadmjfaaa.PWalkTwo
namespace Go.Proofs.Ytmkipjmadmjfaaa.Pure
set_option linter.unusedVariables false
set_option linter.unusedSimpArgs false
open Go.RowKit Go.Proofs.Ytmkipjmadmjfaaa.PWalkTwo Go.Proofs.YtmkipjmadmjfaaaW.PrintWords Go.Proofs.YtmkipjmadmjfaaaW.PrintLast Go.Proofs.Ytmkipjmadmjfaaa.M
theorem WalkTwo : ∀ (x0 : List Int) (x1 : List Int) (x2 : Int) (x3 : Int), x0.length ≤ maxLen → (∀ y ∈ x0, (Lit.int .u8 y).wf = true) → x1.length ≤ maxLen → (∀ y ∈ x1, (Lit.int .u8 y).wf = true) → (Lit.int .u32 x2).wf = true → (Lit.int .i64 x3).wf = true → ∃ k, cotterellaw13_WalkTwo.f k x0 x1 x2 x3 = some true := by
  intro sh ot x2 acc _ hw _ hw2 h2 _
  obtain ⟨V, rfl, hV⟩ := wf_u32 h2
  have hb := byt_of hw
  have hb2 := byt_of hw2
  refine Ev.rounds ?_
  unfold cotterellaw13_WalkTwo.f
  by_cases hc : (sh.length : Int) > 1024
  · exact Ev.ite_pos hc (Ev.step (fun k => cotterellaw13_WalkTwo.j0.eq_2 ..) (Ev.ite_pos rfl (Ev.bind awake_ev (Ev.now _))))
  refine Ev.ite_neg hc (Ev.step (fun k => cotterellaw13_WalkTwo.j0.eq_2 ..) ?_)
  by_cases hl : ot.length = sh.length
  · refine Ev.ite_neg (by simp; omega) ?_
    obtain ⟨root, hr⟩ : ∃ root : Nat, ((acc % 4294967296) % 2048) = (root : Int) := ⟨((acc % 4294967296) % 2048).toNat, by omega⟩
    rw [hr]
    refine Ev.bind (Walk_ev sh hb (by omega) root V hV) (Ev.bind_some rfl (Ev.ite_pos (by simp; omega) ?_))
    obtain ⟨B, P, ls, ok, e, _, _, hls⟩ := wkN_form sh root V
    rw [e, List.nil_append]
    exact two_l0 sh (by omega) hb root V hV acc B P ls ok e hls ls.length 0 ot (by omega) hl hb2 (fun q hq => by omega)
  · exact Ev.ite_pos (by simp; omega) (Ev.bind awake_ev (Ev.now _))

