/- What the functions of package bits and of its reference compute, in natural numbers. -/
import Derived.Test.YtkcncghdpjoodaaPTlbTransx8
import Derived.Test.YtkcncghdpjoodaaM
import Derived.Test.YtkcncghdpjoodaaWfTlbTrans
namespace Go.Proofs.Ytkcncghdpjoodaa.PTlbTrans
open Go.RowKit Go.Proofs.YtkcncghdpjoodaaW.PrintWords Go.Proofs.YtkcncghdpjoodaaW.PrintMore Go.Proofs.Ytkcncghdpjoodaa.M
set_option linter.unusedVariables false
set_option linter.unusedSimpArgs false
theorem clamp_f (n lo hi : Int) (h : lo ≤ hi) : bits_clamp.f n lo hi = some (cl n lo hi) := by unfold bits_clamp.f; rw [mnmx n lo hi h]
theorem ones_f (n : Nat) (h : n ≤ 32) : bits_ones.f (n : Int) = some ((2 ^ n - 1 : Nat) : Int) := by
  unfold bits_ones.f
  rw [if_pos (by omega)]
  congr 1
  have h0 : 0 < 2 ^ n := Nat.two_pow_pos n
  have h1 : 2 ^ n ≤ 4294967296 := pow_le32 h
  have e : ((2 : Int) ^ n) = ((2 ^ n : Nat) : Int) := by simp
  unfold shl
  rw [Int.toNat_natCast, Nat.min_eq_left (by have : IntKind.bits .u64 = 64 := rfl; omega), Int.one_mul, e, wrap_u64, wrap_u64]
  omega
theorem mask_f (hi lo : Int) (H L : Nat) (hH : cl hi 0 31 = (H : Int)) (hL : cl lo 0 31 = (L : Int)) (h1 : H ≤ 31) (h2 : L ≤ 31) :
    bits_mask.f hi lo = some ((maskN H L : Int), if H < L then 0 else (L : Int)) := by
  unfold bits_mask.f
  rw [clamp_f hi 0 31 (by omega), clamp_f lo 0 31 (by omega), hH, hL]
  simp only [Option.bind_some]
  by_cases h : H < L
  · rw [if_pos (by omega), if_pos h]; unfold maskN; rw [if_pos h]; rfl
  · rw [if_neg (by omega), if_neg h]
    rw [w64 (n := (H : Int) - L) (by omega) (by omega), w64 (by omega) (by omega)]
    rw [show ((H : Int) - L + 1) = ((H - L + 1 : Nat) : Int) by omega, ones_f _ (by omega)]
    simp only [Option.bind_some]
    rw [if_pos (by omega)]
    congr 2
    have hm := @maskN_lt H L h1
    unfold maskN at hm ⊢
    rw [if_neg h] at hm ⊢
    unfold shl
    rw [Int.toNat_natCast, Nat.min_eq_left (by have : IntKind.bits .u32 = 32 := rfl; omega), IntKind.wrap_u32']
    rw [show ((2 : Int) ^ L) = ((2 ^ L : Nat) : Int) by simp, ← Int.natCast_mul]
    omega
theorem Field_f (X : Nat) (hX : X < 2 ^ 32) (hi lo : Int) (H L : Nat) (hH : cl hi 0 31 = (H : Int)) (hL : cl lo 0 31 = (L : Int)) (h1 : H ≤ 31) (h2 : L ≤ 31) :
    bits_Field.f (X : Int) hi lo = some (fieldN X H L : Int) := by
  unfold bits_Field.f
  rw [mask_f hi lo H L hH hL h1 h2]
  simp only [Option.bind_some]
  have hm := @maskN_lt H L h1
  rw [u32_and_nat _ _ (by omega) (by omega)]
  by_cases h : H < L
  · rw [if_pos h, if_pos (by omega)]
    unfold maskN fieldN; rw [if_pos h, if_pos h]; simp [shr]
  · rw [if_neg h, if_pos (by omega)]
    congr 1
    unfold shr
    rw [Int.toNat_natCast, Nat.min_eq_left (by have : IntKind.bits .u32 = 32 := rfl; omega)]
    rw [show ((2 : Int) ^ L) = ((2 ^ L : Nat) : Int) by simp, ← Int.natCast_ediv, field_mask]
theorem Of_l0 (l : List Int) (hb : Byt l) (hn : l.length ≤ 4) (d : Nat) : ∀ i : Nat, i + d = l.length →
    Ev (fun k => bits_Of.l0 k (leN (fun j => l.getD j 0) i : Int) l (l.length : Int) (i : Int)) (leN (fun j => l.getD j 0) l.length : Int) := by
  induction d with
  | zero =>
    intro i hi
    refine Ev.step (fun k => bits_Of.l0.eq_2 ..) (Ev.ite_neg (by omega) ?_)
    rw [show i = l.length by omega]; exact Ev.now _
  | succ d ih =>
    intro i hi
    refine Ev.step (fun k => bits_Of.l0.eq_2 ..) (Ev.ite_pos (by omega) (Ev.ite_pos (by omega) (Ev.ite_pos (by omega) ?_)))
    rw [w64 (n := 8 * (i : Int)) (by omega) (by omega), w64 (by omega) (by omega)]
    refine Ev.ite_pos (by omega) ?_
    have hbi := byt_getD hb i
    have h1 := leN_lt (fun j _ => byt_getD hb j : ∀ j, j < i → 0 ≤ l.getD j 0 ∧ l.getD j 0 ≤ 255)
    have h2 := leN_lt (fun j _ => byt_getD hb j : ∀ j, j < i + 1 → 0 ≤ l.getD j 0 ∧ l.getD j 0 ≤ 255)
    have h3 : (2 : Nat) ^ (8 * (i + 1)) ≤ 2 ^ 32 := Nat.pow_le_pow_right (by decide) (by omega)
    have h4 : (2 : Nat) ^ (8 * i) ≤ 2 ^ 32 := Nat.pow_le_pow_right (by decide) (by omega)
    have e : shl .u32 (rd l (i : Int) % 4294967296) (8 * (i : Int)) = (((l.getD i 0).toNat * 2 ^ (8 * i) : Nat) : Int) := by
      unfold shl
      rw [rd_nat, show (8 * (i : Int)).toNat = 8 * i by omega, Nat.min_eq_left (by have : IntKind.bits .u32 = 32 := rfl; omega), IntKind.wrap_u32']
      rw [show ((2 : Int) ^ (8 * i)) = ((2 ^ (8 * i) : Nat) : Int) by simp]
      rw [show l.getD i 0 % 4294967296 = ((l.getD i 0).toNat : Int) by omega, ← Int.natCast_mul]
      rw [leN] at h2
      omega
    rw [leN] at h2
    rw [e, u32_or_nat _ _ (by omega) (by omega), Nat.or_comm, nat_join (8 * i) _ _ (Nat.mul_mod_left _ _) h1, Nat.add_comm]
    exact ih (i + 1) (by omega)
theorem Of_ev (l : List Int) (hb : Byt l) : Ev (fun k => bits_Of.f k l) (leN (fun j => l.getD j 0) (min l.length 4) : Int) := by
  unfold bits_Of.f
  have e : (mn (l.length : Int) 4) = ((min l.length 4 : Nat) : Int) := by unfold mn; split <;> omega
  rw [e]
  refine Ev.ite_pos (by omega) (Ev.ite_pos (by omega) ?_)
  rw [Int.toNat_natCast]
  have hl : (l.take (min l.length 4)).length = min l.length 4 := by simp
  have this := Of_l0 (l.take (min l.length 4)) (byt_take hb _) (by omega) (min l.length 4) 0 (by omega)
  have e2 : leN (fun j => (l.take (min l.length 4)).getD j 0) (min l.length 4) = leN (fun j => l.getD j 0) (min l.length 4) := by
    refine leN_congr fun j hj => ?_
    simp only [List.getD, List.getElem?_take, if_pos hj]
  rw [hl] at this ⊢
  rw [e2] at this
  exact this

/- What the functions of package pte and of its reference compute, in natural numbers. -/
theorem Of_pte (X : Nat) (hX : X < 2 ^ 32) : pte_Of.f (X : Int) = some (((X % 128 : Nat) : Int), ((X / 256 % 256 : Nat) : Int)) := by
  unfold pte_Of.f
  rw [Field_f X hX 15 8 15 8 rfl rfl (by omega) (by omega)]
  simp only [Option.bind_some]
  rw [show (127 : Int) = ((127 : Nat) : Int) from rfl, u32_and_nat _ _ (by omega) (by omega), nat_mask7, show fieldN X 15 8 = X / 256 % 256 from rfl, w64n (by omega)]
theorem page_f (b p : Int) : pte_page.f b p = some (p % 256) := by
  unfold pte_page.f
  rw [u32_and _ _ (by omega) (by omega) (by omega) (by omega), show (255 : Int).toNat = 255 from rfl, nat_mask8]
  congr 1
  omega
theorem refbit_l0 (n : Nat) (hn : n ≤ 31) (d : Nat) : ∀ (i X : Nat), i + d = n → X < 2 ^ 32 → Ev (fun k => cotterelref12_bit.l0 k (X : Int) (n : Int) (i : Int)) (X.testBit (n - i)) := by
  induction d with
  | zero =>
    intro i X hi hX
    refine Ev.step (fun k => cotterelref12_bit.l0.eq_2 ..) (Ev.ite_neg (by omega) ?_)
    rw [Int.tmod_eq_emod_of_nonneg (by omega), show n - i = 0 by omega, Nat.testBit_zero, show ((X : Int) % 2 == 1) = decide (X % 2 = 1) by rw [Bool.eq_iff_iff]; simp; omega]
    exact Ev.now _
  | succ d ih =>
    intro i X hi hX
    refine Ev.step (fun k => cotterelref12_bit.l0.eq_2 ..) (Ev.ite_pos (by omega) ?_)
    rw [w64 (by omega) (by omega), Int.tdiv_eq_ediv_of_nonneg (by omega), show (X : Int) / 2 % 4294967296 = ((X / 2 : Nat) : Int) by omega]
    have := ih (i + 1) (X / 2) (by omega) (by omega)
    rw [Nat.testBit_div_two, show n - (i + 1) + 1 = n - i by omega] at this
    exact this
theorem refbit_ev (X n : Nat) (hX : X < 2 ^ 32) (hn : n ≤ 31) : Ev (fun k => cotterelref12_bit.f k (X : Int) (n : Int)) (X.testBit n) := refbit_l0 n hn n 0 X (by omega) hX
theorem refpage_f (p : Int) : cotterelref12_page.f p = some (p % 256) := by
  unfold cotterelref12_page.f
  have h : -256 < Int.tmod p 256 ∧ Int.tmod p 256 < 256 ∧ Int.tmod p 256 % 256 = p % 256 := by
    rcases Int.le_total 0 p with h | h
    · rw [Int.tmod_eq_emod_of_nonneg h]; omega
    · have e : Int.tmod p 256 = -((-p) % 256) := by
        have := Int.neg_tmod (-p) 256
        rw [Int.neg_neg] at this
        rw [this, Int.tmod_eq_emod_of_nonneg (by omega)]
      rw [e]; omega
  obtain ⟨h1, h2, h3⟩ := h
  generalize Int.tmod p 256 = t at *
  by_cases c : t < 0
  · rw [if_pos c, w64 (by omega) (by omega)]; congr 1; omega
  · rw [if_neg c]; congr 1; omega
/-- Whether an entry's bits allow an access. -/
def allowsN (B : Nat) (acc : Int) (kernel : Bool) : Bool :=
  B.testBit 0 && B.testBit 5 && (kernel || B.testBit 4) && (if acc = 1 then B.testBit 3 else if acc = 2 then B.testBit 1 else if acc = 3 then B.testBit 2 && B.testBit 6 else false)
theorem and_small (B m : Nat) (hm : m < 128) : B &&& m = (B % 128) &&& m := by
  apply Nat.eq_of_testBit_eq; intro i
  rw [Nat.testBit_and, Nat.testBit_and, show (128 : Nat) = 2 ^ 7 from rfl, Nat.testBit_mod_two_pow]
  by_cases h : i < 7
  · simp [h]
  · have : m.testBit i = false := Nat.testBit_lt_two_pow (Nat.lt_of_lt_of_le hm (Nat.pow_le_pow_right (n := 2) (by decide) (by omega : 7 ≤ i)))
    simp [this]
theorem testBit_small (B i : Nat) (h : i < 7) : B.testBit i = (B % 128).testBit i := by
  rw [show (128 : Nat) = 2 ^ 7 from rfl, Nat.testBit_mod_two_pow]; simp [h]
theorem all41 : ∀ b : Fin 128, decide (b.val &&& 41 = 41) = (b.val.testBit 0 && b.val.testBit 5 && b.val.testBit 3) := by decide +kernel
theorem all35 : ∀ b : Fin 128, decide (b.val &&& 35 = 35) = (b.val.testBit 0 && b.val.testBit 5 && b.val.testBit 1) := by decide +kernel
theorem all101 : ∀ b : Fin 128, decide (b.val &&& 101 = 101) = (b.val.testBit 0 && b.val.testBit 5 && (b.val.testBit 2 && b.val.testBit 6)) := by decide +kernel
theorem all57 : ∀ b : Fin 128, decide (b.val &&& 57 = 57) = (b.val.testBit 0 && b.val.testBit 5 && b.val.testBit 4 && b.val.testBit 3) := by decide +kernel
theorem all51 : ∀ b : Fin 128, decide (b.val &&& 51 = 51) = (b.val.testBit 0 && b.val.testBit 5 && b.val.testBit 4 && b.val.testBit 1) := by decide +kernel
theorem all117 : ∀ b : Fin 128, decide (b.val &&& 117 = 117) = (b.val.testBit 0 && b.val.testBit 5 && b.val.testBit 4 && (b.val.testBit 2 && b.val.testBit 6)) := by decide +kernel
theorem eq_dec (a b : Nat) : ((a : Int) == (b : Int)) = decide (a = b) := by rw [Bool.eq_iff_iff]; simp; omega
theorem Allows_ev (B : Nat) (hB : B < 2 ^ 32) (p acc : Int) (kernel : Bool) : Ev (fun k => pte_Allows.f k (B : Int) p acc kernel) (allowsN B acc kernel) := by
  have hb : B % 128 < 128 := Nat.mod_lt _ (by decide)
  unfold pte_Allows.f allowsN
  rw [testBit_small B 0 (by omega), testBit_small B 1 (by omega), testBit_small B 2 (by omega), testBit_small B 3 (by omega), testBit_small B 4 (by omega), testBit_small B 5 (by omega), testBit_small B 6 (by omega)]
  cases kernel
  · refine Ev.ite_neg (by decide) (Ev.step (fun k => pte_Allows.j0.eq_2 ..) ?_)
    rw [show Go.bits .or .u32 33 16 = 49 by decide +kernel]
    by_cases h1 : acc = 1
    · refine Ev.ite_pos h1 ?_
      rw [show Go.bits .or .u32 49 8 = ((57 : Nat) : Int) by decide +kernel, u32_and_nat _ _ (by omega) (by omega), eq_dec, and_small B 57 (by omega), all57 ⟨_, hb⟩]
      simp only [h1, if_true, Bool.false_or]
      exact Ev.now _
    refine Ev.ite_neg h1 ?_
    by_cases h2 : acc = 2
    · refine Ev.ite_pos h2 ?_
      rw [show Go.bits .or .u32 49 2 = ((51 : Nat) : Int) by decide +kernel, u32_and_nat _ _ (by omega) (by omega), eq_dec, and_small B 51 (by omega), all51 ⟨_, hb⟩]
      simp only [h2, if_true, Bool.false_or, show ((2 : Int) = 1) = False from by simp, if_false]
      exact Ev.now _
    refine Ev.ite_neg h2 ?_
    by_cases h3 : acc = 3
    · refine Ev.ite_pos h3 ?_
      rw [show Go.bits .or .u32 49 68 = ((117 : Nat) : Int) by decide +kernel, u32_and_nat _ _ (by omega) (by omega), eq_dec, and_small B 117 (by omega), all117 ⟨_, hb⟩]
      simp only [h3, if_true, Bool.false_or, show ((3 : Int) = 1) = False from by simp, show ((3 : Int) = 2) = False from by simp, if_false]
      exact Ev.now _
    refine Ev.ite_neg h3 ?_
    simp only [h1, h2, h3, if_false, Bool.and_false]
    exact Ev.now _
  · refine Ev.ite_pos rfl (Ev.step (fun k => pte_Allows.j0.eq_2 ..) ?_)
    by_cases h1 : acc = 1
    · refine Ev.ite_pos h1 ?_
      rw [show Go.bits .or .u32 33 8 = ((41 : Nat) : Int) by decide +kernel, u32_and_nat _ _ (by omega) (by omega), eq_dec, and_small B 41 (by omega), all41 ⟨_, hb⟩]
      simp only [h1, if_true, Bool.true_or, Bool.and_true]
      exact Ev.now _
    refine Ev.ite_neg h1 ?_
    by_cases h2 : acc = 2
    · refine Ev.ite_pos h2 ?_
      rw [show Go.bits .or .u32 33 2 = ((35 : Nat) : Int) by decide +kernel, u32_and_nat _ _ (by omega) (by omega), eq_dec, and_small B 35 (by omega), all35 ⟨_, hb⟩]
      simp only [h2, if_true, Bool.true_or, Bool.and_true, show ((2 : Int) = 1) = False from by simp, if_false]
      exact Ev.now _
    refine Ev.ite_neg h2 ?_
    by_cases h3 : acc = 3
    · refine Ev.ite_pos h3 ?_
      rw [show Go.bits .or .u32 33 68 = ((101 : Nat) : Int) by decide +kernel, u32_and_nat _ _ (by omega) (by omega), eq_dec, and_small B 101 (by omega), all101 ⟨_, hb⟩]
      simp only [h3, if_true, Bool.true_or, Bool.and_true, show ((3 : Int) = 1) = False from by simp, show ((3 : Int) = 2) = False from by simp, if_false]
      exact Ev.now _
    refine Ev.ite_neg h3 ?_
    simp only [h1, h2, h3, if_false, Bool.and_false]
    exact Ev.now _
/-- Whether an entry has a page. -/
def leafN (B : Nat) : Bool := B.testBit 1 || B.testBit 2 || B.testBit 3
theorem small14 : ∀ b : Fin 128, decide (b.val &&& 14 = 0) = !(b.val.testBit 1 || b.val.testBit 2 || b.val.testBit 3) := by decide +kernel
theorem Leaf_f (B : Nat) (hB : B < 2 ^ 32) (p : Int) : pte_Leaf.f (B : Int) p = some (leafN B) := by
  have hb : B % 128 < 128 := Nat.mod_lt _ (by decide)
  unfold pte_Leaf.f leafN
  have h := small14 ⟨_, hb⟩
  rw [testBit_small B 1 (by omega), testBit_small B 2 (by omega), testBit_small B 3 (by omega)]
  rw [show (14 : Int) = ((14 : Nat) : Int) from rfl, u32_and_nat _ _ (by omega) (by omega), and_small B 14 (by omega)]
  rw [show ((((B % 128) &&& 14 : Nat) : Int) != 0) = !decide ((B % 128) &&& 14 = 0) by rw [Bool.eq_iff_iff]; simp, h, Bool.not_not]
theorem Index_f (X : Nat) (hX : X < 2 ^ 32) (level : Int) : pte_Index.f (X : Int) level = some (if level = 0 then ((X / 1024 % 16 : Nat) : Int) else if level = 1 then ((X / 64 % 16 : Nat) : Int) else 0) := by
  unfold pte_Index.f
  by_cases h0 : level = 0
  · rw [if_pos h0, if_pos h0, Field_f X hX 13 10 13 10 rfl rfl (by omega) (by omega), show fieldN X 13 10 = X / 1024 % 16 from rfl]; simp only [Option.bind_some]; rw [w64n (by omega)]
  rw [if_neg h0, if_neg h0]
  by_cases h1 : level = 1
  · rw [if_pos h1, if_pos h1, Field_f X hX 9 6 9 6 rfl rfl (by omega) (by omega), show fieldN X 9 6 = X / 64 % 16 from rfl]; simp only [Option.bind_some]; rw [w64n (by omega)]
  rw [if_neg h1, if_neg h1]
theorem Addr_f (b p : Int) (X : Nat) (hX : X < 2 ^ 32) : pte_Addr.f b p (X : Int) = some (64 * (p % 256) + ((X % 64 : Nat) : Int)) := by
  unfold pte_Addr.f
  rw [page_f]
  simp only [Option.bind_some]
  rw [Int.tmod_eq_emod_of_nonneg (by omega)]
  congr 1
  omega
theorem refOf_pte (X : Nat) (hX : X < 2 ^ 32) : cotterelref12_Of.f (X : Int) = some (((X % 128 : Nat) : Int), ((X / 256 % 256 : Nat) : Int)) := by
  unfold cotterelref12_Of.f
  rw [Int.tmod_eq_emod_of_nonneg (by omega), Int.tdiv_eq_ediv_of_nonneg (by omega)]
  congr 2
  omega
theorem refAllows_ev (B : Nat) (hB : B < 2 ^ 32) (p acc : Int) (kernel : Bool) : Ev (fun k => cotterelref12_Allows.f k (B : Int) p acc kernel) (allowsN B acc kernel) := by
  have bit := fun n hn => refbit_ev B n hB hn
  have b0 := bit 0 (by omega)
  have b1 := bit 1 (by omega)
  have b2 := bit 2 (by omega)
  have b3 := bit 3 (by omega)
  have b4 := bit 4 (by omega)
  have b5 := bit 5 (by omega)
  have b6 := bit 6 (by omega)
  unfold cotterelref12_Allows.f allowsN
  refine Ev.bind b0 ?_
  cases e0 : B.testBit 0
  · refine Ev.ite_neg (by decide) (Ev.step (fun k => cotterelref12_Allows.j0.eq_2 ..) (Ev.ite_pos rfl ?_))
    simp only [Bool.false_and]; exact Ev.now _
  refine Ev.ite_pos rfl (Ev.bind b5 ?_)
  cases e5 : B.testBit 5
  · refine Ev.ite_neg (by decide) (Ev.step (fun k => cotterelref12_Allows.j0.eq_2 ..) (Ev.ite_pos rfl ?_))
    simp only [Bool.false_and, Bool.and_false]; exact Ev.now _
  refine Ev.ite_pos rfl ?_
  have rest : Ev (fun k => cotterelref12_Allows.j0 k acc false (B : Int) p) (if acc = 1 then B.testBit 3 else if acc = 2 then B.testBit 1 else if acc = 3 then B.testBit 2 && B.testBit 6 else false) := by
    refine Ev.step (fun k => cotterelref12_Allows.j0.eq_2 ..) (Ev.ite_neg (by decide) ?_)
    by_cases h1 : acc = 1
    · rw [if_pos h1]; exact Ev.ite_pos h1 (Ev.bind b3 (Ev.now _))
    rw [if_neg h1]
    refine Ev.ite_neg h1 ?_
    by_cases h2 : acc = 2
    · rw [if_pos h2]; exact Ev.ite_pos h2 (Ev.bind b1 (Ev.now _))
    rw [if_neg h2]
    refine Ev.ite_neg h2 ?_
    by_cases h3 : acc = 3
    · rw [if_pos h3]
      refine Ev.ite_pos h3 (Ev.bind b2 ?_)
      cases e2 : B.testBit 2
      · exact Ev.ite_neg (by decide) (Ev.now _)
      · exact Ev.ite_pos rfl (Ev.bind b6 (Ev.now _))
    rw [if_neg h3]
    exact Ev.ite_neg h3 (Ev.now _)
  cases kernel
  · refine Ev.ite_neg (by decide) (Ev.bind b4 ?_)
    cases e4 : B.testBit 4
    · refine Ev.step (fun k => cotterelref12_Allows.j0.eq_2 ..) (Ev.ite_pos rfl ?_)
      simp only [Bool.false_and, Bool.and_false, Bool.or_false]; exact Ev.now _
    · simp only [Bool.true_and, Bool.or_true]; exact rest
  · refine Ev.ite_pos rfl ?_
    simp only [Bool.true_and, Bool.true_or]; exact rest
theorem refLeaf_ev (B : Nat) (hB : B < 2 ^ 32) (p : Int) : Ev (fun k => cotterelref12_Leaf.f k (B : Int) p) (leafN B) := by
  have b1 := refbit_ev B 1 hB (by omega)
  have b2 := refbit_ev B 2 hB (by omega)
  have b3 := refbit_ev B 3 hB (by omega)
  unfold cotterelref12_Leaf.f leafN
  refine Ev.bind b1 ?_
  cases e1 : B.testBit 1
  · refine Ev.ite_neg (by decide) (Ev.bind b2 ?_)
    cases e2 : B.testBit 2
    · refine Ev.ite_neg (by decide) (Ev.bind b3 ?_)
      simp only [Bool.false_or]; exact Ev.now _
    · exact Ev.ite_pos rfl (Ev.now _)
  · exact Ev.ite_pos rfl (Ev.now _)
theorem refIndex_f (X : Nat) (hX : X < 2 ^ 32) (level : Int) : cotterelref12_Index.f (X : Int) level = some (if level = 0 then ((X / 1024 % 16 : Nat) : Int) else if level = 1 then ((X / 64 % 16 : Nat) : Int) else 0) := by
  unfold cotterelref12_Index.f
  rw [Int.tdiv_eq_ediv_of_nonneg (by omega), Int.tdiv_eq_ediv_of_nonneg (by omega)]
  split
  · congr 1; omega
  · split
    · congr 1; omega
    · rfl
theorem refAddr_f (b p : Int) (X : Nat) (hX : X < 2 ^ 32) : cotterelref12_Addr.f b p (X : Int) = some (64 * (p % 256) + ((X % 64 : Nat) : Int)) := by
  unfold cotterelref12_Addr.f
  rw [refpage_f]
  simp only [Option.bind_some]
  rw [Int.tmod_eq_emod_of_nonneg (by omega)]
  congr 1
  omega

/- What the functions of package mem and of its reference compute, in natural numbers and lists. -/
/-- The cause why there is no such place. -/
def ckN (n A : Nat) (s : Int) : Int := if (s = 1 ∨ s = 2 ∨ s = 4) ∧ (A : Int) + s ≤ n then 0 else 9
theorem ckN_cases (n A : Nat) (s : Int) : (ckN n A s = 0 ∧ ∃ m : Nat, s = (m : Int) ∧ (m = 1 ∨ m = 2 ∨ m = 4) ∧ A + m ≤ n) ∨ ckN n A s = 9 := by
  unfold ckN
  split
  · rename_i h
    exact .inl ⟨rfl, s.toNat, by omega, by omega, by omega⟩
  · exact .inr rfl
theorem Check_f (l : List Int) (hl : l.length ≤ 4611686018427387904) (A : Nat) (hA : A < 2 ^ 32) (s : Int) : mem_Check.f l (A : Int) s = some (ckN l.length A s) := by
  unfold mem_Check.f ckN
  simp only [wrap_u64]
  by_cases h1 : s = 1
  · subst h1
    rw [if_pos rfl]
    by_cases c : A + 1 ≤ l.length
    · rw [if_neg (by omega), if_pos ⟨by omega, by omega⟩]
    · rw [if_pos (by omega), if_neg (by omega)]
  rw [if_neg h1]
  by_cases h2 : s = 2
  · subst h2
    rw [if_pos rfl]
    by_cases c : A + 2 ≤ l.length
    · rw [if_neg (by omega), if_pos ⟨by omega, by omega⟩]
    · rw [if_pos (by omega), if_neg (by omega)]
  rw [if_neg h2]
  by_cases h3 : s = 4
  · subst h3
    rw [if_pos rfl]
    by_cases c : A + 4 ≤ l.length
    · rw [if_neg (by omega), if_pos ⟨by omega, by omega⟩]
    · rw [if_pos (by omega), if_neg (by omega)]
  rw [if_neg h3, if_neg (by omega)]
theorem refCheck_f (l : List Int) (hl : l.length ≤ 4611686018427387904) (A : Nat) (hA : A < 2 ^ 32) (s : Int) : cotterelref10_Check.f l (A : Int) s = some (ckN l.length A s) := by
  unfold cotterelref10_Check.f ckN
  rw [w64 (n := (A : Int)) (by omega) (by omega)]
  by_cases h1 : s = 1
  · subst h1
    rw [if_pos rfl, w64 (by omega) (by omega)]
    by_cases c : A + 1 ≤ l.length
    · rw [if_pos (by omega), if_pos ⟨by omega, by omega⟩]
    · rw [if_neg (by omega), if_neg (by omega)]
  rw [if_neg h1]
  by_cases h2 : s = 2
  · subst h2
    rw [if_pos rfl, w64 (by omega) (by omega)]
    by_cases c : A + 2 ≤ l.length
    · rw [if_pos (by omega), if_pos ⟨by omega, by omega⟩]
    · rw [if_neg (by omega), if_neg (by omega)]
  rw [if_neg h2]
  by_cases h3 : s = 4
  · subst h3
    rw [if_pos rfl, w64 (by omega) (by omega)]
    by_cases c : A + 4 ≤ l.length
    · rw [if_pos (by omega), if_pos ⟨by omega, by omega⟩]
    · rw [if_neg (by omega), if_neg (by omega)]
  rw [if_neg h3, if_neg (by omega)]
/-- The number that stands in m bytes from A on. -/
def rdN (l : List Int) (A m : Nat) : Nat := leN (fun j => l.getD (A + j) 0) m
theorem rdN_lt {l : List Int} (hb : Byt l) (A m : Nat) : rdN l A m < 2 ^ (8 * m) := leN_lt fun j _ => byt_getD hb (A + j)
theorem Read_ev (l : List Int) (hb : Byt l) (hl : l.length ≤ 4611686018427387904) (A : Nat) (hA : A < 2 ^ 32) (s : Int) :
    Ev (fun k => mem_Read.f k l (A : Int) s) (if ckN l.length A s = 0 then ((rdN l A s.toNat : Int), 0) else (0, ckN l.length A s)) := by
  refine Ev.bind_some (Check_f l hl A hA s) ?_
  rcases ckN_cases l.length A s with ⟨h0, m, rfl, hm, hle⟩ | h9
  · rw [if_pos h0]
    refine Ev.ite_pos h0 ?_
    rw [w64 (n := (A : Int)) (by omega) (by omega), w64 (by omega) (by omega)]
    refine Ev.ite_pos (by omega) (Ev.ite_pos (by omega) (Ev.ite_pos (by omega) ?_))
    rw [show ((A : Int) + (m : Int)).toNat = A + m by omega, Int.toNat_natCast, Int.toNat_natCast]
    have := Of_ev ((l.take (A + m)).drop A) (byt_drop (byt_take hb _) _)
    have hlen : ((l.take (A + m)).drop A).length = m := by rw [List.length_drop, List.length_take]; omega
    rw [hlen, Nat.min_eq_left (by omega)] at this
    have e : leN (fun j => ((l.take (A + m)).drop A).getD j 0) m = rdN l A m := by
      refine leN_congr fun j hj => ?_
      simp only [List.getD, List.getElem?_drop, List.getElem?_take, if_pos (show A + j < A + m by omega)]
    rw [e] at this
    exact Ev.bind this (Ev.now _)
  · rw [if_neg (by omega)]
    exact Ev.ite_neg (by omega) (Ev.now _)
theorem refRead_step (l : List Int) (hb : Byt l) (hl : l.length ≤ 4611686018427387904) (A i out : Nat) (hi : A + i < l.length) (ho : out < 2 ^ 24) (hi4 : i ≤ 4) (hA : A < 2 ^ 32) {r : Int × Int}
    (h : Ev (fun k => cotterelref10_Read.l0 k l (A : Int) ((256 * out + (l.getD (A + i) 0).toNat : Nat) : Int) ((i : Int) - 1)) r) : Ev (fun k => cotterelref10_Read.l0 k l (A : Int) (out : Int) (i : Int)) r := by
  have hbi := byt_getD hb (A + i)
  refine Ev.step (fun k => cotterelref10_Read.l0.eq_2 ..) (Ev.ite_pos (by omega) ?_)
  rw [w64 (n := (A : Int)) (by omega) (by omega), w64 (n := (A : Int) + i) (by omega) (by omega), w64 (n := (i : Int) - 1) (by omega) (by omega)]
  refine Ev.ite_pos (by omega) (Ev.ite_pos (by omega) ?_)
  rw [show (A : Int) + (i : Int) = ((A + i : Nat) : Int) by omega, rd_nat]
  first
    | rw [show ((256 * (out : Int)) % 4294967296 + (l.getD (A + i) 0) % 4294967296) % 4294967296 = ((256 * out + (l.getD (A + i) 0).toNat : Nat) : Int) by omega]
    | rw [show (256 * (out : Int) + l.getD (A + i) 0) % 4294967296 = ((256 * out + (l.getD (A + i) 0).toNat : Nat) : Int) by omega]
  exact h
theorem refRead_end (l : List Int) (A out : Nat) : Ev (fun k => cotterelref10_Read.l0 k l (A : Int) (out : Int) (-1)) ((out : Int), 0) :=
  Ev.step (fun k => cotterelref10_Read.l0.eq_2 ..) (Ev.ite_neg (by omega) (Ev.now _))
theorem refRead_ev (l : List Int) (hb : Byt l) (hl : l.length ≤ 4611686018427387904) (A : Nat) (hA : A < 2 ^ 32) (s : Int) :
    Ev (fun k => cotterelref10_Read.f k l (A : Int) s) (if ckN l.length A s = 0 then ((rdN l A s.toNat : Int), 0) else (0, ckN l.length A s)) := by
  refine Ev.bind_some (refCheck_f l hl A hA s) ?_
  rcases ckN_cases l.length A s with ⟨h0, m, rfl, hm, hle⟩ | h9
  · rw [if_pos h0]
    refine Ev.ite_pos h0 ?_
    rw [w64 (by omega) (by omega), Int.toNat_natCast]
    have b0 := byt_getD hb (A + 0)
    have b1 := byt_getD hb (A + 1)
    have b2 := byt_getD hb (A + 2)
    have b3 := byt_getD hb (A + 3)
    rcases hm with rfl | rfl | rfl
    · refine refRead_step l hb hl A 0 0 (by omega) (by omega) (by omega) hA ?_
      rw [show rdN l A 1 = 256 * 0 + (l.getD (A + 0) 0).toNat by unfold rdN; simp only [leN]; omega]
      exact refRead_end l A _
    · refine refRead_step l hb hl A 1 0 (by omega) (by omega) (by omega) hA (refRead_step l hb hl A 0 _ (by omega) (by omega) (by omega) hA ?_)
      rw [show rdN l A 2 = 256 * (256 * 0 + (l.getD (A + 1) 0).toNat) + (l.getD (A + 0) 0).toNat by unfold rdN; simp only [leN]; omega]
      exact refRead_end l A _
    · refine refRead_step l hb hl A 3 0 (by omega) (by omega) (by omega) hA (refRead_step l hb hl A 2 _ (by omega) (by omega) (by omega) hA (refRead_step l hb hl A 1 _ (by omega) (by omega) (by omega) hA (refRead_step l hb hl A 0 _ (by omega) (by omega) (by omega) hA ?_)))
      rw [show rdN l A 4 = 256 * (256 * (256 * (256 * 0 + (l.getD (A + 3) 0).toNat) + (l.getD (A + 2) 0).toNat) + (l.getD (A + 1) 0).toNat) + (l.getD (A + 0) 0).toNat by unfold rdN; simp only [leN]; omega]
      exact refRead_end l A _
  · rw [if_neg (by omega)]
    exact Ev.ite_neg (by omega) (Ev.now _)

/-! The walk through tables. -/
def wk2 (l : List Int) (va X a0 : Nat) : Int × Int × List Int × Bool :=
  if ckN l.length (64 * (X / 256 % 256) + 4 * (va / 64 % 16)) 4 = 0 then
    (if rdN l (64 * (X / 256 % 256) + 4 * (va / 64 % 16)) 4 % 128 % 2 = 0 then (0, 0, [(a0 : Int), ((64 * (X / 256 % 256) + 4 * (va / 64 % 16) : Nat) : Int)], false)
    else if leafN (rdN l (64 * (X / 256 % 256) + 4 * (va / 64 % 16)) 4 % 128) = true then (((rdN l (64 * (X / 256 % 256) + 4 * (va / 64 % 16)) 4 % 128 : Nat) : Int), ((rdN l (64 * (X / 256 % 256) + 4 * (va / 64 % 16)) 4 / 256 % 256 : Nat) : Int), [(a0 : Int), ((64 * (X / 256 % 256) + 4 * (va / 64 % 16) : Nat) : Int)], true)
    else (0, 0, [(a0 : Int), ((64 * (X / 256 % 256) + 4 * (va / 64 % 16) : Nat) : Int)], false))
  else (0, 0, [(a0 : Int)], false)
def wkA (root va : Nat) : Nat := (root + 4 * (va / 1024 % 16)) % 4294967296
def wkN (l : List Int) (root va : Nat) : Int × Int × List Int × Bool :=
  if 16384 ≤ va then (0, 0, [], false)
  else if ckN l.length (wkA root va) 4 = 0 then
    (if rdN l (wkA root va) 4 % 128 % 2 = 0 then (0, 0, [(wkA root va : Int)], false)
    else if leafN (rdN l (wkA root va) 4 % 128) = true then (0, 0, [(wkA root va : Int)], false)
    else wk2 l va (rdN l (wkA root va) 4) (wkA root va))
  else (0, 0, [], false)
theorem and1_nat (B : Nat) (hB : B < 2 ^ 32) : Go.bits .and .u32 (B : Int) 1 = ((B % 2 : Nat) : Int) := by
  rw [show (1 : Int) = ((1 : Nat) : Int) from rfl, u32_and_nat _ _ (by omega) (by omega), Nat.and_one_is_mod]
theorem and14_leaf (B : Nat) (hB : B < 2 ^ 32) : Go.bits .and .u32 (B : Int) 14 = 0 ↔ leafN B = false := by
  have h : (Go.bits .and .u32 (B : Int) 14 != 0) = leafN B := Option.some.inj (Leaf_f B hB 0)
  rw [← h]
  simp
theorem Index0_f (va : Nat) (hv : va < 2 ^ 32) : pte_Index.f (va : Int) 0 = some ((va / 1024 % 16 : Nat) : Int) := by rw [Index_f va hv]; rfl
theorem Index1_f (va : Nat) (hv : va < 2 ^ 32) : pte_Index.f (va : Int) 1 = some ((va / 64 % 16 : Nat) : Int) := by rw [Index_f va hv]; rfl
theorem wkA_eq (root va : Nat) : (((root : Int) + 4 * (((va / 1024 % 16 : Nat) : Int) % 4294967296)) % 4294967296) = ((wkA root va : Nat) : Int) := by unfold wkA; omega
theorem wkB_eq (X va : Nat) : ((wrap64 (64 * ((X / 256 % 256 : Nat) : Int)) + 4 * (((va / 64 % 16 : Nat) : Int) % 4294967296)) % 4294967296) = ((64 * (X / 256 % 256) + 4 * (va / 64 % 16) : Nat) : Int) := by
  rw [w64 (by omega) (by omega)]
  omega
theorem Walk_ev (l : List Int) (hb : Byt l) (hl : l.length ≤ 4611686018427387904) (root va : Nat) (hv : va < 2 ^ 32) :
    Ev (fun k => walk_Walk.f k l (root : Int) (va : Int)) (wkN l root va) := by
  unfold walk_Walk.f wkN
  by_cases h1 : 16384 ≤ va
  · rw [if_pos h1]
    exact Ev.ite_pos (by omega) (Ev.now _)
  rw [if_neg h1]
  refine Ev.ite_neg (by omega) (Ev.bind_some (Index0_f va hv) ?_)
  rw [wkA_eq]
  have hA : wkA root va < 2 ^ 32 := by unfold wkA; omega
  generalize wkA root va = a0 at hA ⊢
  refine Ev.bind (Read_ev l hb hl a0 hA 4) ?_
  by_cases hc : ckN l.length a0 4 = 0
  · rw [if_pos hc, if_pos hc]
    refine Ev.ite_pos rfl ?_
    have hX : rdN l a0 4 < 2 ^ 32 := rdN_lt hb a0 4
    show Ev (fun k => (pte_Of.f (rdN l a0 4 : Int)).bind _) _
    generalize rdN l a0 4 = X at hX ⊢
    refine Ev.bind_some (Of_pte X hX) ?_
    dsimp only
    rw [and1_nat (X % 128) (by omega)]
    by_cases h2 : X % 128 % 2 = 0
    · rw [if_pos h2]
      exact Ev.ite_pos (by omega) (Ev.now _)
    rw [if_neg h2]
    refine Ev.ite_neg (by omega) ?_
    have h14 := and14_leaf (X % 128) (by omega)
    by_cases h3 : leafN (X % 128) = true
    · rw [if_pos h3]
      exact Ev.ite_neg (by rw [h14, h3]; decide) (Ev.now _)
    rw [if_neg h3]
    refine Ev.ite_pos (by rw [h14]; simpa using h3) (Ev.bind_some (Index1_f va hv) ?_)
    rw [wkB_eq]
    unfold wk2
    have hB : 64 * (X / 256 % 256) + 4 * (va / 64 % 16) < 2 ^ 32 := by omega
    generalize 64 * (X / 256 % 256) + 4 * (va / 64 % 16) = a1 at hB ⊢
    refine Ev.bind (Read_ev l hb hl a1 hB 4) ?_
    by_cases hd : ckN l.length a1 4 = 0
    · rw [if_pos hd, if_pos hd]
      refine Ev.ite_pos rfl ?_
      have hY : rdN l a1 4 < 2 ^ 32 := rdN_lt hb a1 4
      show Ev (fun k => (pte_Of.f (rdN l a1 4 : Int)).bind _) _
      generalize rdN l a1 4 = Y at hY ⊢
      refine Ev.bind_some (Of_pte Y hY) ?_
      dsimp only
      rw [and1_nat (Y % 128) (by omega)]
      by_cases h4 : Y % 128 % 2 = 0
      · rw [if_pos h4]
        exact Ev.ite_pos (by omega) (Ev.now _)
      rw [if_neg h4]
      refine Ev.ite_neg (by omega) ?_
      have h15 := and14_leaf (Y % 128) (by omega)
      by_cases h5 : leafN (Y % 128) = true
      · rw [if_pos h5]
        exact Ev.ite_neg (by rw [h15, h5]; decide) (Ev.now _)
      rw [if_neg h5]
      exact Ev.ite_pos (by rw [h15]; simpa using h5) (Ev.now _)
    · simp only [if_neg hd]
      exact Ev.now _
  · rw [if_neg hc, if_neg hc]
    exact Ev.ite_neg hc (Ev.now _)
theorem refIndex0_f (va : Nat) (hv : va < 2 ^ 32) : cotterelref12_Index.f (va : Int) 0 = some ((va / 1024 % 16 : Nat) : Int) := by rw [refIndex_f va hv]; rfl
theorem refIndex1_f (va : Nat) (hv : va < 2 ^ 32) : cotterelref12_Index.f (va : Int) 1 = some ((va / 64 % 16 : Nat) : Int) := by rw [refIndex_f va hv]; rfl
theorem tmod2_nat (B : Nat) : Int.tmod (B : Int) 2 = ((B % 2 : Nat) : Int) := by rw [Int.tmod_eq_emod_of_nonneg (by omega)]; omega
theorem refWalk_ev (l : List Int) (hb : Byt l) (hl : l.length ≤ 4611686018427387904) (root va : Nat) (hv : va < 2 ^ 32) :
    Ev (fun k => cotterelref13_Walk.f k l (root : Int) (va : Int)) (wkN l root va) := by
  unfold cotterelref13_Walk.f wkN
  by_cases h1 : 16384 ≤ va
  · rw [if_pos h1]
    exact Ev.ite_pos (by omega) (Ev.now _)
  rw [if_neg h1]
  refine Ev.ite_neg (by omega) (Ev.bind_some (refIndex0_f va hv) ?_)
  rw [wkA_eq]
  have hA : wkA root va < 2 ^ 32 := by unfold wkA; omega
  generalize wkA root va = a0 at hA ⊢
  refine Ev.bind (refRead_ev l hb hl a0 hA 4) ?_
  by_cases hc : ckN l.length a0 4 = 0
  · rw [if_pos hc, if_pos hc]
    refine Ev.ite_pos rfl (Ev.bind_some rfl ?_)
    have hX : rdN l a0 4 < 2 ^ 32 := rdN_lt hb a0 4
    show Ev (fun k => (cotterelref12_Of.f (rdN l a0 4 : Int)).bind _) _
    generalize rdN l a0 4 = X at hX ⊢
    refine Ev.bind_some (refOf_pte X hX) ?_
    dsimp only
    rw [tmod2_nat]
    by_cases h2 : X % 128 % 2 = 0
    · rw [if_pos h2]
      exact Ev.ite_pos (by omega) (Ev.step (fun k => cotterelref13_Walk.j0.eq_2 ..) (Ev.ite_pos rfl (Ev.now _)))
    rw [if_neg h2]
    refine Ev.ite_neg (by omega) (Ev.bind (refLeaf_ev (X % 128) (by omega) _) (Ev.step (fun k => cotterelref13_Walk.j0.eq_2 ..) ?_))
    by_cases h3 : leafN (X % 128) = true
    · rw [if_pos h3]
      exact Ev.ite_pos h3 (Ev.now _)
    rw [if_neg h3]
    refine Ev.ite_neg h3 (Ev.bind_some (refIndex1_f va hv) ?_)
    rw [wkB_eq]
    unfold wk2
    have hB : 64 * (X / 256 % 256) + 4 * (va / 64 % 16) < 2 ^ 32 := by omega
    generalize 64 * (X / 256 % 256) + 4 * (va / 64 % 16) = a1 at hB ⊢
    refine Ev.bind (refRead_ev l hb hl a1 hB 4) ?_
    by_cases hd : ckN l.length a1 4 = 0
    · rw [if_pos hd, if_pos hd]
      refine Ev.ite_pos rfl (Ev.ite_pos (by simp) (Ev.bind_some rfl ?_))
      have hY : rdN l a1 4 < 2 ^ 32 := rdN_lt hb a1 4
      show Ev (fun k => (cotterelref12_Of.f (rdN l a1 4 : Int)).bind _) _
      generalize rdN l a1 4 = Y at hY ⊢
      refine Ev.bind_some (refOf_pte Y hY) ?_
      dsimp only
      rw [tmod2_nat]
      by_cases h4 : Y % 128 % 2 = 0
      · rw [if_pos h4]
        exact Ev.ite_pos (by omega) (Ev.now _)
      rw [if_neg h4]
      refine Ev.ite_neg (by omega) (Ev.bind (refLeaf_ev (Y % 128) (by omega) _) ?_)
      by_cases h5 : leafN (Y % 128) = true
      · simp only [if_pos h5, List.cons_append, List.nil_append]
        exact Ev.now _
      · simp only [if_neg h5, List.cons_append, List.nil_append]
        exact Ev.now _
    · simp only [if_neg hd]
      exact Ev.now _
  · rw [if_neg hc, if_neg hc]
    exact Ev.ite_neg hc (Ev.now _)
def faultN (acc : Int) : Int := if acc = 1 then 1 else if acc = 2 then 4 else if acc = 3 then 6 else 9
theorem Fault_f (acc : Int) : walk_Fault.f acc = some (faultN acc) := by
  unfold walk_Fault.f faultN
  by_cases h1 : acc = 1
  · rw [if_pos h1, if_pos h1]
  rw [if_neg h1, if_neg h1]
  by_cases h2 : acc = 2
  · rw [if_pos h2, if_pos h2]
  rw [if_neg h2, if_neg h2]
  by_cases h3 : acc = 3
  · rw [if_pos h3, if_pos h3]
  rw [if_neg h3, if_neg h3]
theorem refFault_f (acc : Int) : cotterelref13_Fault.f acc = some (faultN acc) := by
  unfold cotterelref13_Fault.f faultN
  by_cases h1 : acc = 1
  · rw [if_pos h1, if_pos h1]
  rw [if_neg h1, if_neg h1]
  by_cases h2 : acc = 2
  · rw [if_pos h2, if_pos h2]
  rw [if_neg h2, if_neg h2]
  by_cases h3 : acc = 3
  · rw [if_pos h3, if_pos h3]
  rw [if_neg h3, if_neg h3]
theorem and16 (S : Nat) : S &&& 16 = 16 * (S / 16 % 2) := by
  apply Nat.eq_of_testBit_eq; intro i
  rw [show (16 : Nat) = 2 ^ 4 from rfl, Nat.testBit_and, Nat.testBit_two_pow_mul, show S / 2 ^ 4 % 2 = S / 2 ^ 4 % 2 ^ 1 from rfl, Nat.testBit_mod_two_pow, Nat.testBit_div_two_pow, Nat.testBit_two_pow]
  by_cases h : i = 4
  · subst h; simp
  · by_cases h2 : 4 ≤ i
    · simp [show ¬ 4 = i by omega, show ¬ i - 4 = 0 by omega, h2]
    · simp [show ¬ 4 = i by omega, h2]
theorem and16_nat (S : Nat) (hS : S < 2 ^ 32) : Go.bits .and .u32 (S : Int) 16 = ((16 * (S / 16 % 2) : Nat) : Int) := by
  rw [show (16 : Int) = ((16 : Nat) : Int) from rfl, u32_and_nat _ _ (by omega) (by omega), and16]
def pagedN (S : Nat) : Bool := decide (S / 16 % 2 = 1) && decide (S % 2 = 0)
theorem csrKernel_f (a0 a1 a2 a3 a4 a5 a6 a7 a8 a9 a10 a11 a12 a13 a14 a15 a16 a18 a19 a20 a21 a23 a24 a25 a26 a27 a28 : Int) (S R : Nat) (a29 : Bool) (hS : S < 2 ^ 32) : csr_Kernel.f a0 a1 a2 a3 a4 a5 a6 a7 a8 a9 a10 a11 a12 a13 a14 a15 a16 (S : Int) a18 a19 a20 a21 (R : Int) a23 a24 a25 a26 a27 a28 a29 = some (decide (S % 2 = 1)) := by
  unfold csr_Kernel.f
  rw [show Go.bits .and .u32 (S : Int) 1 = ((S % 2 : Nat) : Int) by rw [show (1 : Int) = ((1 : Nat) : Int) from rfl, u32_and_nat _ _ (by omega) (by omega), Nat.and_one_is_mod]]
  congr 1
  rw [Bool.eq_iff_iff]
  simp
  omega
theorem Paged_f (a0 a1 a2 a3 a4 a5 a6 a7 a8 a9 a10 a11 a12 a13 a14 a15 a16 a18 a19 a20 a21 a23 a24 a25 a26 a27 a28 : Int) (S R : Nat) (a29 : Bool) (hS : S < 2 ^ 32) : walk_Paged.f a0 a1 a2 a3 a4 a5 a6 a7 a8 a9 a10 a11 a12 a13 a14 a15 a16 (S : Int) a18 a19 a20 a21 (R : Int) a23 a24 a25 a26 a27 a28 a29 = some (pagedN S) := by
  unfold walk_Paged.f pagedN
  rw [and16_nat S hS, csrKernel_f a0 a1 a2 a3 a4 a5 a6 a7 a8 a9 a10 a11 a12 a13 a14 a15 a16 a18 a19 a20 a21 a23 a24 a25 a26 a27 a28 S R a29 hS]
  by_cases h : S / 16 % 2 = 1
  · rw [if_neg (by omega), Option.bind_some, decide_eq_true h]
    congr 1
    rw [Bool.eq_iff_iff]
    simp
  · rw [if_pos (by omega), decide_eq_false h]
    rfl
theorem refPaged_f (a0 a1 a2 a3 a4 a5 a6 a7 a8 a9 a10 a11 a12 a13 a14 a15 a16 a18 a19 a20 a21 a23 a24 a25 a26 a27 a28 : Int) (S R : Nat) (a29 : Bool) (hS : S < 2 ^ 32) : cotterelref13_Paged.f a0 a1 a2 a3 a4 a5 a6 a7 a8 a9 a10 a11 a12 a13 a14 a15 a16 (S : Int) a18 a19 a20 a21 (R : Int) a23 a24 a25 a26 a27 a28 a29 = some (pagedN S) := by
  unfold cotterelref13_Paged.f cotterelref11_Kernel.f pagedN
  rw [Int.tdiv_eq_ediv_of_nonneg (by omega), Int.tmod_eq_emod_of_nonneg (by omega)]
  by_cases h : S / 16 % 2 = 1
  · rw [if_pos (by omega), Option.bind_some, decide_eq_true h]
    congr 1
    rw [Bool.eq_iff_iff]
    simp
    omega
  · rw [if_neg (by omega), decide_eq_false h]
    rfl
theorem wkN_form (l : List Int) (root va : Nat) : ∃ (B P : Nat) (ls : List Int) (ok : Bool), wkN l root va = ((B : Int), (P : Int), ls, ok) ∧ B < 128 ∧ P < 256 ∧ ls.length ≤ 2 := by
  unfold wkN wk2
  repeat' split
  all_goals first
    | exact ⟨0, 0, _, _, rfl, by omega, by omega, by simp⟩
    | exact ⟨_, _, _, _, rfl, Nat.mod_lt _ (by decide), Nat.mod_lt _ (by decide), by simp⟩

/-! Buffers of translations: the first place that is so. -/
def atFrom (l : List S53) (pg : Int) : Nat → Nat → Int
  | _, 0 => -1
  | i, d + 1 => if (rd_T53 l (i : Int)).f0 = true ∧ (rd_T53 l (i : Int)).f1 = pg then (i : Int) else atFrom l pg (i + 1) d
theorem atFrom_bd (l : List S53) (pg : Int) : ∀ d i : Nat, atFrom l pg i d = -1 ∨ (0 ≤ atFrom l pg i d ∧ atFrom l pg i d < i + d)
  | 0, i => .inl rfl
  | d + 1, i => by
    unfold atFrom
    split
    · exact .inr ⟨by omega, by omega⟩
    · rcases atFrom_bd l pg d (i + 1) with h | h
      · exact .inl h
      · exact .inr ⟨h.1, by omega⟩
theorem first_l0 (l : List S53) (hl : l.length ≤ 4611686018427387904) (pg : Int) (d : Nat) : ∀ i : Nat, i + d = l.length → Ev (fun k => api_Tlb.l0 k l pg (l.length : Int) (i : Int)) (atFrom l pg i d) := by
  induction d with
  | zero =>
    intro i hi
    exact Ev.step (fun k => api_Tlb.l0.eq_2 ..) (Ev.ite_neg (by omega) (Ev.now _))
  | succ d ih =>
    intro i hi
    refine Ev.step (fun k => api_Tlb.l0.eq_2 ..) (Ev.ite_pos (by omega) (Ev.ite_pos (by omega) (Ev.ite_pos (by omega) ?_)))
    unfold tlb_at_1.f atFrom
    have ihn := ih (i + 1) (by omega)
    rw [w64 (by omega) (by omega)]
    by_cases h0 : (rd_T53 l (i : Int)).f0 = true
    · rw [if_pos h0]
      refine Ev.bind_some rfl ?_
      by_cases h1 : (rd_T53 l (i : Int)).f1 = pg
      · rw [if_pos ⟨h0, h1⟩]
        exact Ev.ite_pos (by simpa using h1) (Ev.now _)
      · rw [if_neg (fun h => h1 h.2)]
        exact Ev.ite_neg (by simpa using h1) ihn
    · rw [if_neg h0, if_neg (fun h => h0 h.1)]
      exact Ev.bind_some rfl (Ev.ite_neg (by decide) ihn)
def pageN (va : Int) : Int := (Int.tdiv va 64) % 4294967296
def atN (l : List S53) (va : Int) : Int := atFrom l (pageN va) 0 l.length
theorem atN_bd (l : List S53) (va : Int) : atN l va = -1 ∨ (0 ≤ atN l va ∧ atN l va < l.length) := by
  have h := atFrom_bd l (pageN va) l.length 0
  unfold atN
  omega
theorem at_ev (l : List S53) (hl : l.length ≤ 4611686018427387904) (va : Int) : Ev (fun k => tlb_at.f k l va) (atN l va) := first_l0 l hl (pageN va) l.length 0 (by omega)
theorem refat_l0 (l : List S53) (hl : l.length ≤ 4611686018427387904) (va : Int) (d : Nat) : ∀ i : Nat, i + d = l.length → Ev (fun k => cotterelref22_at.l0 k l va (i : Int)) (atFrom l (pageN va) i d) := by
  induction d with
  | zero =>
    intro i hi
    exact Ev.step (fun k => cotterelref22_at.l0.eq_2 ..) (Ev.ite_neg (by omega) (Ev.now _))
  | succ d ih =>
    intro i hi
    refine Ev.step (fun k => cotterelref22_at.l0.eq_2 ..) (Ev.ite_pos (by omega) (Ev.ite_pos (by omega) ?_))
    unfold atFrom
    have ihn := ih (i + 1) (by omega)
    rw [w64 (by omega) (by omega)]
    by_cases h0 : (rd_T53 l (i : Int)).f0 = true
    · refine Ev.ite_pos h0 ?_
      by_cases h1 : (rd_T53 l (i : Int)).f1 = pageN va
      · rw [if_pos ⟨h0, h1⟩]
        exact Ev.ite_pos h1 (Ev.now _)
      · rw [if_neg (fun h => h1 h.2)]
        exact Ev.ite_neg h1 ihn
    · rw [if_neg (fun h => h0 h.1)]
      exact Ev.ite_neg h0 ihn
theorem refat_ev (l : List S53) (hl : l.length ≤ 4611686018427387904) (va : Int) : Ev (fun k => cotterelref22_at.f k l va) (atN l va) := refat_l0 l hl va l.length 0 (by omega)
theorem within_f (n lo hi : Int) : cotterelref22_within.f n lo hi = some (cl n lo hi) := by
  unfold cotterelref22_within.f cl
  repeat' split
  all_goals rfl
theorem sameTlbs_l0 (a : List S53) (hl : a.length ≤ 4611686018427387904) (d : Nat) : ∀ i : Nat, i + d = a.length → Ev (fun k => cotterelsame_Tlbs.l0 k a a (i : Int)) true := by
  induction d with
  | zero =>
    intro i hi
    exact Ev.step (fun k => cotterelsame_Tlbs.l0.eq_2 ..) (Ev.ite_neg (by omega) (Ev.step (fun k => cotterelsame_Tlbs.j1.eq_2 ..) (Ev.ite_neg (by decide) (Ev.now _))))
  | succ d ih =>
    intro i hi
    refine Ev.step (fun k => cotterelsame_Tlbs.l0.eq_2 ..) (Ev.ite_pos (by omega) (Ev.step (fun k => cotterelsame_Tlbs.j1.eq_2 ..) (Ev.ite_pos (by simp; omega) (Ev.ite_pos (by omega) (Ev.ite_pos (by omega) (Ev.ite_pos (by omega) (Ev.ite_neg (by simp) ?_)))))))
    rw [w64 (by omega) (by omega)]
    exact ih (i + 1) (by omega)
theorem sameTlbs_ev (a : List S53) (hl : a.length ≤ 4611686018427387904) : Ev (fun k => cotterelsame_Tlbs.f k a a) true := by
  unfold cotterelsame_Tlbs.f
  exact Ev.ite_pos rfl (sameTlbs_l0 a hl a.length 0 (by omega))
def putN (l : List S53) (nx va b p : Int) : List S53 × Int :=
  if l.length = 0 then (l, nx)
  else if 0 ≤ atN l va then (l.set (atN l va).toNat ⟨true, pageN va, ⟨b, p⟩⟩, cl nx 0 ((l.length : Int) - 1))
  else (l.set (cl nx 0 ((l.length : Int) - 1)).toNat ⟨true, pageN va, ⟨b, p⟩⟩, Int.tmod (cl nx 0 ((l.length : Int) - 1) + 1) (l.length : Int))
theorem putN_length (l : List S53) (nx va b p : Int) : (putN l nx va b p).1.length = l.length := by
  unfold putN
  repeat' split
  all_goals simp
theorem Put_ev (l : List S53) (hl : l.length ≤ 1000000) (nx va b p : Int) : Ev (fun k => tlb_Put.f k l nx va b p) (putN l nx va b p) := by
  unfold tlb_Put.f
  by_cases h0 : l.length = 0
  · rw [show putN l nx va b p = (l, nx) from if_pos h0]
    exact Ev.ite_pos (by omega) (Ev.now _)
  refine Ev.ite_neg (by omega) (Ev.ite_pos (by simp; omega) (Ev.bind_some rfl (Ev.bind (at_ev l (by omega) va) ?_)))
  rw [List.nil_append, w64 (n := (l.length : Int) - 1) (by omega) (by omega), mnmx nx 0 ((l.length : Int) - 1) (by omega)]
  have hb := atN_bd l va
  have hc := cl_bd nx 0 ((l.length : Int) - 1) (by omega)
  by_cases h1 : 0 ≤ atN l va
  · rw [show putN l nx va b p = (l.set (atN l va).toNat ⟨true, pageN va, ⟨b, p⟩⟩, cl nx 0 ((l.length : Int) - 1)) from (if_neg h0).trans (if_pos h1)]
    exact Ev.ite_pos h1 (Ev.ite_pos h1 (Ev.ite_pos (by omega) (Ev.now _)))
  · rw [show putN l nx va b p = (l.set (cl nx 0 ((l.length : Int) - 1)).toNat ⟨true, pageN va, ⟨b, p⟩⟩, Int.tmod (cl nx 0 ((l.length : Int) - 1) + 1) (l.length : Int)) from (if_neg h0).trans (if_neg h1), w64 (n := cl nx 0 ((l.length : Int) - 1) + 1) (by omega) (by omega)]
    exact Ev.ite_neg h1 (Ev.ite_pos hc.1 (Ev.ite_pos (by omega) (Ev.now _)))
theorem refPut_ev (l : List S53) (hl : l.length ≤ 1000000) (nx va b p : Int) : Ev (fun k => cotterelref22_Put.f k l nx va b p) (putN l nx va b p) := by
  unfold cotterelref22_Put.f
  refine Ev.ite_pos (by omega) (Ev.ite_pos (by omega) (Ev.ite_pos (by simp) (Ev.bind_some rfl ?_)))
  by_cases h0 : l.length = 0
  · rw [show putN l nx va b p = (l, nx) from if_pos h0]
    exact Ev.ite_pos (by omega) (Ev.now _)
  refine Ev.ite_neg (by omega) ?_
  rw [w64 (n := (l.length : Int) - 1) (by omega) (by omega)]
  refine Ev.bind_some (within_f _ _ _) (Ev.bind (refat_ev l (by omega) va) ?_)
  have hb := atN_bd l va
  have hc := cl_bd nx 0 ((l.length : Int) - 1) (by omega)
  by_cases h1 : 0 ≤ atN l va
  · rw [show putN l nx va b p = (l.set (atN l va).toNat ⟨true, pageN va, ⟨b, p⟩⟩, cl nx 0 ((l.length : Int) - 1)) from (if_neg h0).trans (if_pos h1)]
    exact Ev.ite_pos h1 (Ev.ite_pos h1 (Ev.ite_pos (by omega) (Ev.now _)))
  · rw [show putN l nx va b p = (l.set (cl nx 0 ((l.length : Int) - 1)).toNat ⟨true, pageN va, ⟨b, p⟩⟩, Int.tmod (cl nx 0 ((l.length : Int) - 1) + 1) (l.length : Int)) from (if_neg h0).trans (if_neg h1), w64 (n := cl nx 0 ((l.length : Int) - 1) + 1) (by omega) (by omega)]
    exact Ev.ite_neg h1 (Ev.ite_pos hc.1 (Ev.ite_pos (by omega) (Ev.now _)))
def findN (l : List S53) (va : Int) : Int × Int × Bool := if 0 ≤ atN l va then ((rd_T53 l (atN l va)).f2.f0, (rd_T53 l (atN l va)).f2.f1, true) else (0, 0, false)
theorem Find_ev (l : List S53) (hl : l.length ≤ 1000000) (va : Int) : Ev (fun k => tlb_Find.f k l va) (findN l va) := by
  unfold tlb_Find.f
  refine Ev.bind (at_ev l (by omega) va) ?_
  have hb := atN_bd l va
  by_cases h1 : 0 ≤ atN l va
  · rw [show findN l va = ((rd_T53 l (atN l va)).f2.f0, (rd_T53 l (atN l va)).f2.f1, true) from if_pos h1]
    exact Ev.ite_pos h1 (Ev.ite_pos h1 (Ev.ite_pos (by omega) (Ev.now _)))
  · rw [show findN l va = (0, 0, false) from if_neg h1]
    exact Ev.ite_neg h1 (Ev.now _)
theorem refFind_ev (l : List S53) (hl : l.length ≤ 1000000) (va : Int) : Ev (fun k => cotterelref22_Find.f k l va) (findN l va) := by
  unfold cotterelref22_Find.f
  refine Ev.bind (refat_ev l (by omega) va) ?_
  have hb := atN_bd l va
  by_cases h1 : 0 ≤ atN l va
  · rw [show findN l va = ((rd_T53 l (atN l va)).f2.f0, (rd_T53 l (atN l va)).f2.f1, true) from if_pos h1]
    exact Ev.ite_neg (by omega) (Ev.ite_pos h1 (Ev.ite_pos (by omega) (Ev.now _)))
  · rw [show findN l va = (0, 0, false) from if_neg h1]
    exact Ev.ite_pos (by omega) (Ev.now _)
/-! An access through any buffer. -/
theorem wkN_good {l : List Int} {R va B P : Nat} {ls : List Int} (h : wkN l R va = ((B : Int), (P : Int), ls, true)) : B % 2 ≠ 0 ∧ leafN B = true := by
  unfold wkN wk2 at h
  repeat' split at h
  all_goals first
    | (simp only [Prod.mk.injEq] at h; exact absurd h.2.2.2 (by decide))
    | skip
  simp only [Prod.mk.injEq] at h
  have hB : _ = B := Int.ofNat.inj h.1
  rename_i h1 h2
  subst hB
  exact ⟨h1, h2⟩
def finN (l : List S53) (nx : Int) (va : Nat) (acc : Int) (had : Bool) (B : Nat) (p : Int) : Int × Int × List S53 × Int × Bool :=
  if allowsN B acc false = true then (64 * (p % 256) + ((va % 64 : Nat) : Int), 0, l, nx, had) else (0, faultN acc, l, nx, had)
theorem finN_l (l : List S53) (nx : Int) (va : Nat) (acc : Int) (had : Bool) (B : Nat) (p : Int) : (finN l nx va acc had B p).2.2.1 = l := by
  unfold finN
  split <;> rfl
theorem fin_own (l : List S53) (nx : Int) (va : Nat) (hv : va < 2 ^ 32) (acc : Int) (had : Bool) (B : Nat) (hB : B < 2 ^ 32) (p : Int) :
    Ev (fun k => tlb_Trans.j0 k l nx (va : Int) acc had (B : Int) p) (finN l nx va acc had B p) := by
  refine Ev.step (fun k => tlb_Trans.j0.eq_2 ..) (Ev.bind (Allows_ev B hB _ acc false) ?_)
  unfold finN
  by_cases ha : allowsN B acc false = true
  · refine Ev.ite_pos ha ?_
    rw [if_pos ha]
    exact Ev.bind_some (Addr_f _ _ va hv) (Ev.now _)
  · refine Ev.ite_neg ha ?_
    rw [if_neg ha]
    exact Ev.bind_some (Fault_f acc) (Ev.now _)
theorem fin_ref (l : List S53) (nx : Int) (va : Nat) (hv : va < 2 ^ 32) (acc : Int) (had : Bool) (B : Nat) (hB : B < 2 ^ 32) (p : Int) :
    Ev (fun k => cotterelref22_Trans.j0 k l nx (va : Int) acc had (B : Int) p) (finN l nx va acc had B p) := by
  refine Ev.step (fun k => cotterelref22_Trans.j0.eq_2 ..) (Ev.bind (refAllows_ev B hB _ acc false) ?_)
  unfold finN
  by_cases ha : allowsN B acc false = true
  · refine Ev.ite_pos ha ?_
    rw [if_pos ha]
    exact Ev.bind_some (refAddr_f _ _ va hv) (Ev.now _)
  · refine Ev.ite_neg ha ?_
    rw [if_neg ha]
    exact Ev.bind_some (refFault_f acc) (Ev.now _)
theorem bits_of (l : List S53) (h : ∀ y ∈ l, W53 y) (j : Nat) : ∃ B : Nat, (rd_T53 l (j : Int)).f2.f0 = (B : Int) ∧ B < 2 ^ 32 := by
  unfold rd_T53
  rw [Int.toNat_natCast, List.getD_eq_getElem?_getD]
  rcases Nat.lt_or_ge j l.length with hj | hj
  · rw [List.getElem?_eq_getElem hj]
    exact wf_u32 (h _ (List.getElem_mem hj)).2.2.1
  · rw [List.getElem?_eq_none hj]
    exact ⟨0, rfl, by decide⟩
theorem Trans_both (a0 a1 a2 a3 a4 a5 a6 a7 a8 a9 a10 a11 a12 a13 a14 a15 a16 a18 a19 a20 a21 a23 a24 a25 a26 a27 a28 : Int) (S R : Nat) (a29 : Bool) (hS : S < 2 ^ 32) (sh : List Int) (hb : Byt sh) (hl : sh.length ≤ 4611686018427387904) (l : List S53) (hm : l.length ≤ 1000000) (hr : ∀ y ∈ l, W53 y) (nx : Int) (va : Nat) (hv : va < 2 ^ 32) (acc : Int) :
    ∃ r : Int × Int × List S53 × Int × Bool, Ev (fun k => tlb_Trans.f k a0 a1 a2 a3 a4 a5 a6 a7 a8 a9 a10 a11 a12 a13 a14 a15 a16 (S : Int) a18 a19 a20 a21 (R : Int) a23 a24 a25 a26 a27 a28 a29 sh l nx (va : Int) acc) r ∧ Ev (fun k => cotterelref22_Trans.f k a0 a1 a2 a3 a4 a5 a6 a7 a8 a9 a10 a11 a12 a13 a14 a15 a16 (S : Int) a18 a19 a20 a21 (R : Int) a23 a24 a25 a26 a27 a28 a29 sh l nx (va : Int) acc) r ∧ r.2.2.1.length = l.length := by
  unfold tlb_Trans.f cotterelref22_Trans.f
  cases hp : pagedN S with
  | false => exact ⟨((va : Int), 0, l, nx, true), Ev.bind_some ((Paged_f a0 a1 a2 a3 a4 a5 a6 a7 a8 a9 a10 a11 a12 a13 a14 a15 a16 a18 a19 a20 a21 a23 a24 a25 a26 a27 a28 S R a29 hS).trans (by rw [hp])) (Ev.ite_neg (by decide) (Ev.now _)), Ev.bind_some ((refPaged_f a0 a1 a2 a3 a4 a5 a6 a7 a8 a9 a10 a11 a12 a13 a14 a15 a16 a18 a19 a20 a21 a23 a24 a25 a26 a27 a28 S R a29 hS).trans (by rw [hp])) (Ev.ite_neg (by decide) (Ev.now _)), rfl⟩
  | true =>
    have hbd := atN_bd l (va : Int)
    by_cases h1 : 0 ≤ atN l (va : Int)
    · obtain ⟨q, hq⟩ : ∃ q : Nat, atN l (va : Int) = (q : Int) := ⟨(atN l (va : Int)).toNat, by omega⟩
      obtain ⟨B, hB, hB2⟩ := bits_of l hr q
      have hf : findN l (va : Int) = ((B : Int), (rd_T53 l (q : Int)).f2.f1, true) := by
        rw [show findN l (va : Int) = ((rd_T53 l (atN l (va : Int))).f2.f0, (rd_T53 l (atN l (va : Int))).f2.f1, true) from if_pos h1, hq, hB]
      refine ⟨finN l nx va acc true B (rd_T53 l (q : Int)).f2.f1, Ev.bind_some ((Paged_f a0 a1 a2 a3 a4 a5 a6 a7 a8 a9 a10 a11 a12 a13 a14 a15 a16 a18 a19 a20 a21 a23 a24 a25 a26 a27 a28 S R a29 hS).trans (by rw [hp])) (Ev.ite_pos rfl (Ev.bind (Find_ev l hm (va : Int)) ?_)), Ev.bind_some ((refPaged_f a0 a1 a2 a3 a4 a5 a6 a7 a8 a9 a10 a11 a12 a13 a14 a15 a16 a18 a19 a20 a21 a23 a24 a25 a26 a27 a28 S R a29 hS).trans (by rw [hp])) (Ev.ite_pos rfl (Ev.bind (refFind_ev l hm (va : Int)) ?_)), by rw [finN_l]⟩
      · rw [hf]
        exact Ev.ite_pos rfl (fin_own l nx va hv acc true B hB2 _)
      · rw [hf]
        exact Ev.ite_pos rfl (fin_ref l nx va hv acc true B hB2 _)
    · have hf : findN l (va : Int) = (0, 0, false) := if_neg h1
      obtain ⟨B, P, ls, ok, e, hB, _, _⟩ := wkN_form sh R va
      cases ok with
      | false =>
        refine ⟨(0, faultN acc, l, nx, false), Ev.bind_some ((Paged_f a0 a1 a2 a3 a4 a5 a6 a7 a8 a9 a10 a11 a12 a13 a14 a15 a16 a18 a19 a20 a21 a23 a24 a25 a26 a27 a28 S R a29 hS).trans (by rw [hp])) (Ev.ite_pos rfl (Ev.bind (Find_ev l hm (va : Int)) ?_)), Ev.bind_some ((refPaged_f a0 a1 a2 a3 a4 a5 a6 a7 a8 a9 a10 a11 a12 a13 a14 a15 a16 a18 a19 a20 a21 a23 a24 a25 a26 a27 a28 S R a29 hS).trans (by rw [hp])) (Ev.ite_pos rfl (Ev.bind (refFind_ev l hm (va : Int)) ?_)), rfl⟩
        · rw [hf]
          refine Ev.ite_neg (by decide) (Ev.bind (Walk_ev sh hb hl R va hv) ?_)
          rw [e]
          exact Ev.ite_neg (by simp) (Ev.bind_some (Fault_f acc) (Ev.now _))
        · rw [hf]
          refine Ev.ite_neg (by decide) (Ev.bind (refWalk_ev sh hb hl R va hv) ?_)
          rw [e]
          exact Ev.ite_neg (by simp) (Ev.bind_some (refFault_f acc) (Ev.now _))
      | true =>
        have hwk := wkN_good e
        have hand : ¬ Go.bits .and .u32 (B : Int) 1 = 0 := by
          rw [and1_nat B (by omega)]
          have := hwk.1
          omega
        refine ⟨finN (putN l nx (va : Int) (B : Int) (P : Int)).1 (putN l nx (va : Int) (B : Int) (P : Int)).2 va acc false B (P : Int), Ev.bind_some ((Paged_f a0 a1 a2 a3 a4 a5 a6 a7 a8 a9 a10 a11 a12 a13 a14 a15 a16 a18 a19 a20 a21 a23 a24 a25 a26 a27 a28 S R a29 hS).trans (by rw [hp])) (Ev.ite_pos rfl (Ev.bind (Find_ev l hm (va : Int)) ?_)), Ev.bind_some ((refPaged_f a0 a1 a2 a3 a4 a5 a6 a7 a8 a9 a10 a11 a12 a13 a14 a15 a16 a18 a19 a20 a21 a23 a24 a25 a26 a27 a28 S R a29 hS).trans (by rw [hp])) (Ev.ite_pos rfl (Ev.bind (refFind_ev l hm (va : Int)) ?_)), by rw [finN_l, putN_length]⟩
        · rw [hf]
          refine Ev.ite_neg (by decide) (Ev.bind (Walk_ev sh hb hl R va hv) ?_)
          rw [e]
          refine Ev.ite_pos rfl (Ev.ite_neg hand (Ev.bind_some (Leaf_f B (by omega) _) (Ev.ite_pos hwk.2 (Ev.bind (Put_ev l hm nx (va : Int) (B : Int) (P : Int)) ?_))))
          exact fin_own (putN l nx (va : Int) (B : Int) (P : Int)).1 (putN l nx (va : Int) (B : Int) (P : Int)).2 va hv acc false B (by omega) (P : Int)
        · rw [hf]
          refine Ev.ite_neg (by decide) (Ev.bind (refWalk_ev sh hb hl R va hv) ?_)
          rw [e]
          refine Ev.ite_pos rfl (Ev.ite_neg hand (Ev.bind (refLeaf_ev B (by omega) _) (Ev.ite_pos hwk.2 (Ev.bind (refPut_ev l hm nx (va : Int) (B : Int) (P : Int)) ?_))))
          exact fin_ref (putN l nx (va : Int) (B : Int) (P : Int)).1 (putN l nx (va : Int) (B : Int) (P : Int)).2 va hv acc false B (by omega) (P : Int)

theorem awake_ev : Ev (fun k => cotterellaw22_awake.f k) true := Ev.of (fun k => cotterellaw22_awake.mono k) (k := 40) (by decide +kernel)
end Go.Proofs.Ytkcncghdpjoodaa.PTlbTrans
namespace Go.Proofs.Ytkcncghdpjoodaa.Pure
set_option linter.unusedVariables false
set_option linter.unusedSimpArgs false
open Go.RowKit Go.Proofs.Ytkcncghdpjoodaa.PTlbTrans Go.Proofs.YtkcncghdpjoodaaW.PrintWords Go.Proofs.YtkcncghdpjoodaaW.PrintLast Go.Proofs.Ytkcncghdpjoodaa.M
theorem TlbTrans : ∀ (x0 x1 x2 x3 x4 x5 x6 x7 x8 x9 x10 x11 x12 x13 x14 x15 x16 x17 x18 x19 x20 x21 x22 x23 x24 x25 x26 x27 x28 : Int) (x29 : Bool) (x30 : List Int) (x31 : List Int) (x32 : List Int) (x33 : List S53) (x34 : Int) (x35 : Int) (x36 : Int), (Lit.int .u32 x0).wf = true → (Lit.int .u32 x1).wf = true → (Lit.int .u32 x2).wf = true → (Lit.int .u32 x3).wf = true → (Lit.int .u32 x4).wf = true → (Lit.int .u32 x5).wf = true → (Lit.int .u32 x6).wf = true → (Lit.int .u32 x7).wf = true → (Lit.int .u32 x8).wf = true → (Lit.int .u32 x9).wf = true → (Lit.int .u32 x10).wf = true → (Lit.int .u32 x11).wf = true → (Lit.int .u32 x12).wf = true → (Lit.int .u32 x13).wf = true → (Lit.int .u32 x14).wf = true → (Lit.int .u32 x15).wf = true → (Lit.int .u32 x16).wf = true → (Lit.int .u32 x17).wf = true → (Lit.int .u32 x18).wf = true → (Lit.int .u32 x19).wf = true → (Lit.int .u32 x20).wf = true → (Lit.int .u32 x21).wf = true → (Lit.int .u32 x22).wf = true → (Lit.int .u32 x23).wf = true → (Lit.int .u32 x24).wf = true → (Lit.int .u32 x25).wf = true → (Lit.int .u32 x26).wf = true → (Lit.int .u32 x27).wf = true → (Lit.int .u32 x28).wf = true → x30.length ≤ maxLen → (∀ y ∈ x30, (Lit.int .u8 y).wf = true) → x31.length ≤ maxLen → (∀ y ∈ x31, (Lit.int .u8 y).wf = true) → x32.length ≤ maxLen → (∀ y ∈ x32, (Lit.int .u32 y).wf = true) → x33.length ≤ maxLen → (∀ y ∈ x33, W53 y) → (Lit.int .i64 x34).wf = true → (Lit.int .u32 x35).wf = true → (Lit.int .i64 x36).wf = true → ∃ k, cotterellaw22_TlbTrans.f k x0 x1 x2 x3 x4 x5 x6 x7 x8 x9 x10 x11 x12 x13 x14 x15 x16 x17 x18 x19 x20 x21 x22 x23 x24 x25 x26 x27 x28 x29 x30 x31 x32 x33 x34 x35 x36 = some true := by
  intro x0 x1 x2 x3 x4 x5 x6 x7 x8 x9 x10 x11 x12 x13 x14 x15 x16 x17 x18 x19 x20 x21 x22 x23 x24 x25 x26 x27 x28 x29 mm sh ou l nx x35 acc _ _ _ _ _ _ _ _ _ _ _ _ _ _ _ _ _ h17 _ _ _ _ h22 _ _ _ _ _ _ _ _ _ hw _ _ _ hW _ hv _
  obtain ⟨S, rfl, hS⟩ := wf_u32 h17
  obtain ⟨R, rfl, hR⟩ := wf_u32 h22
  obtain ⟨V, rfl, hV⟩ := wf_u32 hv
  have hb := byt_of hw
  refine Ev.rounds ?_
  unfold cotterellaw22_TlbTrans.f
  by_cases h1 : (l.length : Int) > 40
  · exact Ev.ite_pos h1 (Ev.step (fun k => cotterellaw22_TlbTrans.j0.eq_2 ..) (Ev.ite_pos rfl (Ev.bind awake_ev (Ev.now _))))
  refine Ev.ite_neg h1 (Ev.step (fun k => cotterellaw22_TlbTrans.j0.eq_2 ..) ?_)
  by_cases h2 : (sh.length : Int) > 4096
  · exact Ev.ite_pos (decide_eq_true h2) (Ev.bind awake_ev (Ev.now _))
  refine Ev.ite_neg (fun h => h2 (of_decide_eq_true h)) ?_
  obtain ⟨r, e1, e2, hlen⟩ := Trans_both x0 x1 x2 x3 x4 x5 x6 x7 x8 x9 x10 x11 x12 x13 x14 x15 x16 x18 x19 x20 x21 x23 x24 x25 x26 x27 x28 S R x29 hS sh hb (by omega) l (by omega) hW nx V hV acc
  exact Ev.bind e1 (Ev.bind e2 (Ev.ite_pos rfl (Ev.ite_pos rfl (Ev.bind (sameTlbs_ev _ (by omega)) (Ev.ite_pos rfl (Ev.ite_pos rfl (Ev.ite_pos (by simp) (Ev.bind awake_ev (Ev.now _)))))))))
