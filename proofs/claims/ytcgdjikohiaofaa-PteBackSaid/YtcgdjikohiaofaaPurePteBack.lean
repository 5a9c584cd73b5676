/- What the functions of package bits and of its reference compute, in natural numbers. -/
import Derived.Test.YtcgdjikohiaofaaPPteBackx3
import Derived.Test.YtcgdjikohiaofaaM
namespace Go.Proofs.Ytcgdjikohiaofaa.PPteBack
open Go.RowKit Go.Proofs.YtcgdjikohiaofaaW.PrintWords Go.Proofs.YtcgdjikohiaofaaW.PrintMore Go.Proofs.Ytcgdjikohiaofaa.M
set_option linter.unusedVariables false
set_option linter.unusedSimpArgs false
theorem clamp_f (n lo hi : Int) (h : lo ≤ hi) : bits_clamp.f n lo hi = some (cl n lo hi) := by unfold bits_clamp.f; rw [mnmx n lo hi h]
theorem ones_f (n : Nat) (h : n ≤ 32) : bits_ones.f (n : Int) = some ((2 ^ n - 1 : Nat) : Int) := by
  unfold bits_ones.f
  rw [if_pos (by omega)]
  congr 1
  have h0 : 0 < 2 ^ n := Nat.two_pow_pos n
  have h1 : 2 ^ n ≤ 4294967296 := pow_le32 h
  have e : ((2 : Int) ^ n) = ((2 ^ n : Nat) : Int) := by simp
  unfold shl
  rw [Int.toNat_natCast, Nat.min_eq_left (by have : IntKind.bits .u64 = 64 := rfl; omega), Int.one_mul, e, wrap_u64, wrap_u64]
  omega
theorem mask_f (hi lo : Int) (H L : Nat) (hH : cl hi 0 31 = (H : Int)) (hL : cl lo 0 31 = (L : Int)) (h1 : H ≤ 31) (h2 : L ≤ 31) :
    bits_mask.f hi lo = some ((maskN H L : Int), if H < L then 0 else (L : Int)) := by
  unfold bits_mask.f
  rw [clamp_f hi 0 31 (by omega), clamp_f lo 0 31 (by omega), hH, hL]
  simp only [Option.bind_some]
  by_cases h : H < L
  · rw [if_pos (by omega), if_pos h]; unfold maskN; rw [if_pos h]; rfl
  · rw [if_neg (by omega), if_neg h]
    rw [w64 (n := (H : Int) - L) (by omega) (by omega), w64 (by omega) (by omega)]
    rw [show ((H : Int) - L + 1) = ((H - L + 1 : Nat) : Int) by omega, ones_f _ (by omega)]
    simp only [Option.bind_some]
    rw [if_pos (by omega)]
    congr 2
    have hm := @maskN_lt H L h1
    unfold maskN at hm ⊢
    rw [if_neg h] at hm ⊢
    unfold shl
    rw [Int.toNat_natCast, Nat.min_eq_left (by have : IntKind.bits .u32 = 32 := rfl; omega), IntKind.wrap_u32']
    rw [show ((2 : Int) ^ L) = ((2 ^ L : Nat) : Int) by simp, ← Int.natCast_mul]
    omega
theorem Field_f (X : Nat) (hX : X < 2 ^ 32) (hi lo : Int) (H L : Nat) (hH : cl hi 0 31 = (H : Int)) (hL : cl lo 0 31 = (L : Int)) (h1 : H ≤ 31) (h2 : L ≤ 31) :
    bits_Field.f (X : Int) hi lo = some (fieldN X H L : Int) := by
  unfold bits_Field.f
  rw [mask_f hi lo H L hH hL h1 h2]
  simp only [Option.bind_some]
  have hm := @maskN_lt H L h1
  rw [u32_and_nat _ _ (by omega) (by omega)]
  by_cases h : H < L
  · rw [if_pos h, if_pos (by omega)]
    unfold maskN fieldN; rw [if_pos h, if_pos h]; simp [shr]
  · rw [if_neg h, if_pos (by omega)]
    congr 1
    unfold shr
    rw [Int.toNat_natCast, Nat.min_eq_left (by have : IntKind.bits .u32 = 32 := rfl; omega)]
    rw [show ((2 : Int) ^ L) = ((2 ^ L : Nat) : Int) by simp, ← Int.natCast_ediv, field_mask]

/- What the functions of package pte and of its reference compute, in natural numbers. -/
theorem Of_pte (X : Nat) (hX : X < 2 ^ 32) : pte_Of.f (X : Int) = some (((X % 128 : Nat) : Int), ((X / 256 % 256 : Nat) : Int)) := by
  unfold pte_Of.f
  rw [Field_f X hX 15 8 15 8 rfl rfl (by omega) (by omega)]
  simp only [Option.bind_some]
  rw [show (127 : Int) = ((127 : Nat) : Int) from rfl, u32_and_nat _ _ (by omega) (by omega), nat_mask7, show fieldN X 15 8 = X / 256 % 256 from rfl, w64n (by omega)]
theorem page_f (b p : Int) : pte_page.f b p = some (p % 256) := by
  unfold pte_page.f
  rw [u32_and _ _ (by omega) (by omega) (by omega) (by omega), show (255 : Int).toNat = 255 from rfl, nat_mask8]
  congr 1
  omega
theorem Word_f (B : Nat) (hB : B < 2 ^ 32) (p : Int) : pte_Word.f (B : Int) p = some (((B % 128 : Nat) : Int) + 256 * (p % 256)) := by
  unfold pte_Word.f
  rw [page_f]
  simp only [Option.bind_some]
  rw [show (127 : Int) = ((127 : Nat) : Int) from rfl, u32_and_nat _ _ (by omega) (by omega), nat_mask7]
  obtain ⟨q, hq⟩ : ∃ q : Nat, p % 256 = (q : Int) := ⟨(p % 256).toNat, by omega⟩
  rw [hq, show ((q : Int) * 256) % 4294967296 = ((q * 256 : Nat) : Int) by omega, u32_or_nat _ _ (by omega) (by omega), Nat.or_comm, nat_join 8 _ _ (by omega) (by omega)]
  congr 1
  omega
/-- Whether an entry's bits allow an access. -/
def allowsN (B : Nat) (acc : Int) (kernel : Bool) : Bool :=
  B.testBit 0 && B.testBit 5 && (kernel || B.testBit 4) && (if acc = 1 then B.testBit 3 else if acc = 2 then B.testBit 1 else if acc = 3 then B.testBit 2 && B.testBit 6 else false)
theorem and_small (B m : Nat) (hm : m < 128) : B &&& m = (B % 128) &&& m := by
  apply Nat.eq_of_testBit_eq; intro i
  rw [Nat.testBit_and, Nat.testBit_and, show (128 : Nat) = 2 ^ 7 from rfl, Nat.testBit_mod_two_pow]
  by_cases h : i < 7
  · simp [h]
  · have : m.testBit i = false := Nat.testBit_lt_two_pow (Nat.lt_of_lt_of_le hm (Nat.pow_le_pow_right (n := 2) (by decide) (by omega : 7 ≤ i)))
    simp [this]
theorem testBit_small (B i : Nat) (h : i < 7) : B.testBit i = (B % 128).testBit i := by
  rw [show (128 : Nat) = 2 ^ 7 from rfl, Nat.testBit_mod_two_pow]; simp [h]
theorem all41 : ∀ b : Fin 128, decide (b.val &&& 41 = 41) = (b.val.testBit 0 && b.val.testBit 5 && b.val.testBit 3) := by decide +kernel
theorem all35 : ∀ b : Fin 128, decide (b.val &&& 35 = 35) = (b.val.testBit 0 && b.val.testBit 5 && b.val.testBit 1) := by decide +kernel
theorem all101 : ∀ b : Fin 128, decide (b.val &&& 101 = 101) = (b.val.testBit 0 && b.val.testBit 5 && (b.val.testBit 2 && b.val.testBit 6)) := by decide +kernel
theorem all57 : ∀ b : Fin 128, decide (b.val &&& 57 = 57) = (b.val.testBit 0 && b.val.testBit 5 && b.val.testBit 4 && b.val.testBit 3) := by decide +kernel
theorem all51 : ∀ b : Fin 128, decide (b.val &&& 51 = 51) = (b.val.testBit 0 && b.val.testBit 5 && b.val.testBit 4 && b.val.testBit 1) := by decide +kernel
theorem all117 : ∀ b : Fin 128, decide (b.val &&& 117 = 117) = (b.val.testBit 0 && b.val.testBit 5 && b.val.testBit 4 && (b.val.testBit 2 && b.val.testBit 6)) := by decide +kernel
theorem eq_dec (a b : Nat) : ((a : Int) == (b : Int)) = decide (a = b) := by rw [Bool.eq_iff_iff]; simp; omega
theorem Allows_ev (B : Nat) (hB : B < 2 ^ 32) (p acc : Int) (kernel : Bool) : Ev (fun k => pte_Allows.f k (B : Int) p acc kernel) (allowsN B acc kernel) := by
  have hb : B % 128 < 128 := Nat.mod_lt _ (by decide)
  unfold pte_Allows.f allowsN
  rw [testBit_small B 0 (by omega), testBit_small B 1 (by omega), testBit_small B 2 (by omega), testBit_small B 3 (by omega), testBit_small B 4 (by omega), testBit_small B 5 (by omega), testBit_small B 6 (by omega)]
  cases kernel
  · refine Ev.ite_neg (by decide) (Ev.step (fun k => pte_Allows.j0.eq_2 ..) ?_)
    rw [show Go.bits .or .u32 33 16 = 49 by decide +kernel]
    by_cases h1 : acc = 1
    · refine Ev.ite_pos h1 ?_
      rw [show Go.bits .or .u32 49 8 = ((57 : Nat) : Int) by decide +kernel, u32_and_nat _ _ (by omega) (by omega), eq_dec, and_small B 57 (by omega), all57 ⟨_, hb⟩]
      simp only [h1, if_true, Bool.false_or]
      exact Ev.now _
    refine Ev.ite_neg h1 ?_
    by_cases h2 : acc = 2
    · refine Ev.ite_pos h2 ?_
      rw [show Go.bits .or .u32 49 2 = ((51 : Nat) : Int) by decide +kernel, u32_and_nat _ _ (by omega) (by omega), eq_dec, and_small B 51 (by omega), all51 ⟨_, hb⟩]
      simp only [h2, if_true, Bool.false_or, show ((2 : Int) = 1) = False from by simp, if_false]
      exact Ev.now _
    refine Ev.ite_neg h2 ?_
    by_cases h3 : acc = 3
    · refine Ev.ite_pos h3 ?_
      rw [show Go.bits .or .u32 49 68 = ((117 : Nat) : Int) by decide +kernel, u32_and_nat _ _ (by omega) (by omega), eq_dec, and_small B 117 (by omega), all117 ⟨_, hb⟩]
      simp only [h3, if_true, Bool.false_or, show ((3 : Int) = 1) = False from by simp, show ((3 : Int) = 2) = False from by simp, if_false]
      exact Ev.now _
    refine Ev.ite_neg h3 ?_
    simp only [h1, h2, h3, if_false, Bool.and_false]
    exact Ev.now _
  · refine Ev.ite_pos rfl (Ev.step (fun k => pte_Allows.j0.eq_2 ..) ?_)
    by_cases h1 : acc = 1
    · refine Ev.ite_pos h1 ?_
      rw [show Go.bits .or .u32 33 8 = ((41 : Nat) : Int) by decide +kernel, u32_and_nat _ _ (by omega) (by omega), eq_dec, and_small B 41 (by omega), all41 ⟨_, hb⟩]
      simp only [h1, if_true, Bool.true_or, Bool.and_true]
      exact Ev.now _
    refine Ev.ite_neg h1 ?_
    by_cases h2 : acc = 2
    · refine Ev.ite_pos h2 ?_
      rw [show Go.bits .or .u32 33 2 = ((35 : Nat) : Int) by decide +kernel, u32_and_nat _ _ (by omega) (by omega), eq_dec, and_small B 35 (by omega), all35 ⟨_, hb⟩]
      simp only [h2, if_true, Bool.true_or, Bool.and_true, show ((2 : Int) = 1) = False from by simp, if_false]
      exact Ev.now _
    refine Ev.ite_neg h2 ?_
    by_cases h3 : acc = 3
    · refine Ev.ite_pos h3 ?_
      rw [show Go.bits .or .u32 33 68 = ((101 : Nat) : Int) by decide +kernel, u32_and_nat _ _ (by omega) (by omega), eq_dec, and_small B 101 (by omega), all101 ⟨_, hb⟩]
      simp only [h3, if_true, Bool.true_or, Bool.and_true, show ((3 : Int) = 1) = False from by simp, show ((3 : Int) = 2) = False from by simp, if_false]
      exact Ev.now _
    refine Ev.ite_neg h3 ?_
    simp only [h1, h2, h3, if_false, Bool.and_false]
    exact Ev.now _
theorem Index_f (X : Nat) (hX : X < 2 ^ 32) (level : Int) : pte_Index.f (X : Int) level = some (if level = 0 then ((X / 1024 % 16 : Nat) : Int) else if level = 1 then ((X / 64 % 16 : Nat) : Int) else 0) := by
  unfold pte_Index.f
  by_cases h0 : level = 0
  · rw [if_pos h0, if_pos h0, Field_f X hX 13 10 13 10 rfl rfl (by omega) (by omega), show fieldN X 13 10 = X / 1024 % 16 from rfl]; simp only [Option.bind_some]; rw [w64n (by omega)]
  rw [if_neg h0, if_neg h0]
  by_cases h1 : level = 1
  · rw [if_pos h1, if_pos h1, Field_f X hX 9 6 9 6 rfl rfl (by omega) (by omega), show fieldN X 9 6 = X / 64 % 16 from rfl]; simp only [Option.bind_some]; rw [w64n (by omega)]
  rw [if_neg h1, if_neg h1]
theorem Addr_f (b p : Int) (X : Nat) (hX : X < 2 ^ 32) : pte_Addr.f b p (X : Int) = some (64 * (p % 256) + ((X % 64 : Nat) : Int)) := by
  unfold pte_Addr.f
  rw [page_f]
  simp only [Option.bind_some]
  rw [Int.tmod_eq_emod_of_nonneg (by omega)]
  congr 1
  omega

theorem awake_ev : Ev (fun k => cotterellaw12_awake.f k) true := Ev.of (fun k => cotterellaw12_awake.mono k) (k := 40) (by decide +kernel)
end Go.Proofs.Ytcgdjikohiaofaa.PPteBack
namespace Go.Proofs.Ytcgdjikohiaofaa.Pure
set_option linter.unusedVariables false
set_option linter.unusedSimpArgs false
open Go.RowKit Go.Proofs.Ytcgdjikohiaofaa.PPteBack Go.Proofs.YtcgdjikohiaofaaW.PrintWords Go.Proofs.YtcgdjikohiaofaaW.PrintLast Go.Proofs.Ytcgdjikohiaofaa.M
theorem bits16 : ∀ i : Fin 16, (65407 : Nat).testBit i.val = decide (i.val < 7 ∨ 8 ≤ i.val) := by decide +kernel
theorem and_65407 (X : Nat) : X &&& 65407 = X % 128 + 256 * (X / 256 % 256) := by
  apply Nat.eq_of_testBit_eq; intro i
  rw [Nat.add_comm, show (256 : Nat) * (X / 256 % 256) = 2 ^ 8 * (X / 256 % 256) from rfl, Nat.testBit_two_pow_mul_add _ (by omega : X % 128 < 2 ^ 8), Nat.testBit_and]
  rw [show X % 128 = X % 2 ^ 7 from rfl, show X / 256 % 256 = X / 2 ^ 8 % 2 ^ 8 from rfl, Nat.testBit_mod_two_pow, Nat.testBit_mod_two_pow, Nat.testBit_div_two_pow]
  by_cases h : i < 16
  · rw [bits16 ⟨i, h⟩]
    by_cases h8 : i < 8
    · rw [if_pos h8]
      by_cases h7 : i < 7
      · simp [h7]
      · simp [h7, show ¬ 8 ≤ i by omega]
    · rw [if_neg h8, show i - 8 + 8 = i by omega]
      simp [show 8 ≤ i by omega, show i - 8 < 8 by omega]
  · rw [if_neg (by omega), show (65407 : Nat).testBit i = false from Nat.testBit_lt_two_pow (Nat.lt_of_lt_of_le (by decide : 65407 < 2 ^ 16) (Nat.pow_le_pow_right (by decide) (by omega)))]
    simp [show ¬ i - 8 < 8 by omega]
theorem PteBack : cotterellaw12_PteBack.Pure := by
  intro a0 a1 h0 h1
  obtain ⟨X, rfl, hX⟩ := wf_u32 h0
  obtain ⟨Y, rfl, hY⟩ := wf_u32 h1
  refine Ev.rounds ?_
  unfold cotterellaw12_PteBack.f
  obtain ⟨W, hW⟩ : ∃ W : Nat, W = X % 128 + 256 * (X / 256 % 256) := ⟨_, rfl⟩
  have hw : (((X % 128 % 128 : Nat) : Int) + 256 * (((X / 256 % 256 : Nat) : Int) % 256)) = (W : Int) := by omega
  refine Ev.bind_some (Of_pte X hX) (Ev.bind_some (Word_f (X % 128) (by omega) _) ?_)
  rw [hw]
  refine Ev.bind_some (Of_pte W (by omega)) (Ev.ite_neg ?_ (Ev.bind_some (Word_f (X % 128) (by omega) _) ?_))
  · rw [show W % 128 = X % 128 by omega, show W / 256 % 256 = X / 256 % 256 by omega]; simp
  rw [hw]
  refine Ev.ite_pos ?_ (Ev.ite_neg (by omega) (Ev.step (fun k => cotterellaw12_PteBack.j0.eq_2 ..) (Ev.ite_neg (by simp; omega) ?_)))
  · rw [show (65407 : Int) = ((65407 : Nat) : Int) from rfl, u32_and_nat _ _ (by omega) (by omega), and_65407, ← hW]
  refine Ev.bind_some (Index_f Y hY 0) (Ev.bind_some (Index_f Y hY 1) ?_)
  rw [if_pos rfl, if_neg (by omega), if_pos rfl, Int.tmod_eq_emod_of_nonneg (by omega), Int.tmod_eq_emod_of_nonneg (by omega)]
  refine Ev.ite_pos (by omega) (Ev.bind_some (Addr_f _ _ Y hY) (Ev.ite_pos (by omega) (Ev.bind awake_ev (Ev.now _))))
end Go.Proofs.Ytcgdjikohiaofaa.Pure

