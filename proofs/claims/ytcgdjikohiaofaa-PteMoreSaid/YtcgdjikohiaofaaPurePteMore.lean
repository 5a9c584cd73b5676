/- What the functions of package bits and of its reference compute, in natural numbers. -/
import Derived.Test.YtcgdjikohiaofaaPPteMorex2
import Derived.Test.YtcgdjikohiaofaaM
namespace Go.Proofs.Ytcgdjikohiaofaa.PPteMore
open Go.RowKit Go.Proofs.YtcgdjikohiaofaaW.PrintWords Go.Proofs.YtcgdjikohiaofaaW.PrintMore Go.Proofs.Ytcgdjikohiaofaa.M
set_option linter.unusedVariables false
set_option linter.unusedSimpArgs false
theorem clamp_f (n lo hi : Int) (h : lo ≤ hi) : bits_clamp.f n lo hi = some (cl n lo hi) := by unfold bits_clamp.f; rw [mnmx n lo hi h]
theorem ones_f (n : Nat) (h : n ≤ 32) : bits_ones.f (n : Int) = some ((2 ^ n - 1 : Nat) : Int) := by
  unfold bits_ones.f
  rw [if_pos (by omega)]
  congr 1
  have h0 : 0 < 2 ^ n := Nat.two_pow_pos n
  have h1 : 2 ^ n ≤ 4294967296 := pow_le32 h
  have e : ((2 : Int) ^ n) = ((2 ^ n : Nat) : Int) := by simp
  unfold shl
  rw [Int.toNat_natCast, Nat.min_eq_left (by have : IntKind.bits .u64 = 64 := rfl; omega), Int.one_mul, e, wrap_u64, wrap_u64]
  omega
theorem mask_f (hi lo : Int) (H L : Nat) (hH : cl hi 0 31 = (H : Int)) (hL : cl lo 0 31 = (L : Int)) (h1 : H ≤ 31) (h2 : L ≤ 31) :
    bits_mask.f hi lo = some ((maskN H L : Int), if H < L then 0 else (L : Int)) := by
  unfold bits_mask.f
  rw [clamp_f hi 0 31 (by omega), clamp_f lo 0 31 (by omega), hH, hL]
  simp only [Option.bind_some]
  by_cases h : H < L
  · rw [if_pos (by omega), if_pos h]; unfold maskN; rw [if_pos h]; rfl
  · rw [if_neg (by omega), if_neg h]
    rw [w64 (n := (H : Int) - L) (by omega) (by omega), w64 (by omega) (by omega)]
    rw [show ((H : Int) - L + 1) = ((H - L + 1 : Nat) : Int) by omega, ones_f _ (by omega)]
    simp only [Option.bind_some]
    rw [if_pos (by omega)]
    congr 2
    have hm := @maskN_lt H L h1
    unfold maskN at hm ⊢
    rw [if_neg h] at hm ⊢
    unfold shl
    rw [Int.toNat_natCast, Nat.min_eq_left (by have : IntKind.bits .u32 = 32 := rfl; omega), IntKind.wrap_u32']
    rw [show ((2 : Int) ^ L) = ((2 ^ L : Nat) : Int) by simp, ← Int.natCast_mul]
    omega
theorem Field_f (X : Nat) (hX : X < 2 ^ 32) (hi lo : Int) (H L : Nat) (hH : cl hi 0 31 = (H : Int)) (hL : cl lo 0 31 = (L : Int)) (h1 : H ≤ 31) (h2 : L ≤ 31) :
    bits_Field.f (X : Int) hi lo = some (fieldN X H L : Int) := by
  unfold bits_Field.f
  rw [mask_f hi lo H L hH hL h1 h2]
  simp only [Option.bind_some]
  have hm := @maskN_lt H L h1
  rw [u32_and_nat _ _ (by omega) (by omega)]
  by_cases h : H < L
  · rw [if_pos h, if_pos (by omega)]
    unfold maskN fieldN; rw [if_pos h, if_pos h]; simp [shr]
  · rw [if_neg h, if_pos (by omega)]
    congr 1
    unfold shr
    rw [Int.toNat_natCast, Nat.min_eq_left (by have : IntKind.bits .u32 = 32 := rfl; omega)]
    rw [show ((2 : Int) ^ L) = ((2 ^ L : Nat) : Int) by simp, ← Int.natCast_ediv, field_mask]

/- What the functions of package pte and of its reference compute, in natural numbers. -/
theorem Of_pte (X : Nat) (hX : X < 2 ^ 32) : pte_Of.f (X : Int) = some (((X % 128 : Nat) : Int), ((X / 256 % 256 : Nat) : Int)) := by
  unfold pte_Of.f
  rw [Field_f X hX 15 8 15 8 rfl rfl (by omega) (by omega)]
  simp only [Option.bind_some]
  rw [show (127 : Int) = ((127 : Nat) : Int) from rfl, u32_and_nat _ _ (by omega) (by omega), nat_mask7, show fieldN X 15 8 = X / 256 % 256 from rfl, w64n (by omega)]
theorem page_f (b p : Int) : pte_page.f b p = some (p % 256) := by
  unfold pte_page.f
  rw [u32_and _ _ (by omega) (by omega) (by omega) (by omega), show (255 : Int).toNat = 255 from rfl, nat_mask8]
  congr 1
  omega
theorem Word_f (B : Nat) (hB : B < 2 ^ 32) (p : Int) : pte_Word.f (B : Int) p = some (((B % 128 : Nat) : Int) + 256 * (p % 256)) := by
  unfold pte_Word.f
  rw [page_f]
  simp only [Option.bind_some]
  rw [show (127 : Int) = ((127 : Nat) : Int) from rfl, u32_and_nat _ _ (by omega) (by omega), nat_mask7]
  obtain ⟨q, hq⟩ : ∃ q : Nat, p % 256 = (q : Int) := ⟨(p % 256).toNat, by omega⟩
  rw [hq, show ((q : Int) * 256) % 4294967296 = ((q * 256 : Nat) : Int) by omega, u32_or_nat _ _ (by omega) (by omega), Nat.or_comm, nat_join 8 _ _ (by omega) (by omega)]
  congr 1
  omega
/-- Whether an entry's bits allow an access. -/
def allowsN (B : Nat) (acc : Int) (kernel : Bool) : Bool :=
  B.testBit 0 && B.testBit 5 && (kernel || B.testBit 4) && (if acc = 1 then B.testBit 3 else if acc = 2 then B.testBit 1 else if acc = 3 then B.testBit 2 && B.testBit 6 else false)
theorem and_small (B m : Nat) (hm : m < 128) : B &&& m = (B % 128) &&& m := by
  apply Nat.eq_of_testBit_eq; intro i
  rw [Nat.testBit_and, Nat.testBit_and, show (128 : Nat) = 2 ^ 7 from rfl, Nat.testBit_mod_two_pow]
  by_cases h : i < 7
  · simp [h]
  · have : m.testBit i = false := Nat.testBit_lt_two_pow (Nat.lt_of_lt_of_le hm (Nat.pow_le_pow_right (n := 2) (by decide) (by omega : 7 ≤ i)))
    simp [this]
theorem testBit_small (B i : Nat) (h : i < 7) : B.testBit i = (B % 128).testBit i := by
  rw [show (128 : Nat) = 2 ^ 7 from rfl, Nat.testBit_mod_two_pow]; simp [h]
theorem all41 : ∀ b : Fin 128, decide (b.val &&& 41 = 41) = (b.val.testBit 0 && b.val.testBit 5 && b.val.testBit 3) := by decide +kernel
theorem all35 : ∀ b : Fin 128, decide (b.val &&& 35 = 35) = (b.val.testBit 0 && b.val.testBit 5 && b.val.testBit 1) := by decide +kernel
theorem all101 : ∀ b : Fin 128, decide (b.val &&& 101 = 101) = (b.val.testBit 0 && b.val.testBit 5 && (b.val.testBit 2 && b.val.testBit 6)) := by decide +kernel
theorem all57 : ∀ b : Fin 128, decide (b.val &&& 57 = 57) = (b.val.testBit 0 && b.val.testBit 5 && b.val.testBit 4 && b.val.testBit 3) := by decide +kernel
theorem all51 : ∀ b : Fin 128, decide (b.val &&& 51 = 51) = (b.val.testBit 0 && b.val.testBit 5 && b.val.testBit 4 && b.val.testBit 1) := by decide +kernel
theorem all117 : ∀ b : Fin 128, decide (b.val &&& 117 = 117) = (b.val.testBit 0 && b.val.testBit 5 && b.val.testBit 4 && (b.val.testBit 2 && b.val.testBit 6)) := by decide +kernel
theorem eq_dec (a b : Nat) : ((a : Int) == (b : Int)) = decide (a = b) := by rw [Bool.eq_iff_iff]; simp; omega
theorem Allows_ev (B : Nat) (hB : B < 2 ^ 32) (p acc : Int) (kernel : Bool) : Ev (fun k => pte_Allows.f k (B : Int) p acc kernel) (allowsN B acc kernel) := by
  have hb : B % 128 < 128 := Nat.mod_lt _ (by decide)
  unfold pte_Allows.f allowsN
  rw [testBit_small B 0 (by omega), testBit_small B 1 (by omega), testBit_small B 2 (by omega), testBit_small B 3 (by omega), testBit_small B 4 (by omega), testBit_small B 5 (by omega), testBit_small B 6 (by omega)]
  cases kernel
  · refine Ev.ite_neg (by decide) (Ev.step (fun k => pte_Allows.j0.eq_2 ..) ?_)
    rw [show Go.bits .or .u32 33 16 = 49 by decide +kernel]
    by_cases h1 : acc = 1
    · refine Ev.ite_pos h1 ?_
      rw [show Go.bits .or .u32 49 8 = ((57 : Nat) : Int) by decide +kernel, u32_and_nat _ _ (by omega) (by omega), eq_dec, and_small B 57 (by omega), all57 ⟨_, hb⟩]
      simp only [h1, if_true, Bool.false_or]
      exact Ev.now _
    refine Ev.ite_neg h1 ?_
    by_cases h2 : acc = 2
    · refine Ev.ite_pos h2 ?_
      rw [show Go.bits .or .u32 49 2 = ((51 : Nat) : Int) by decide +kernel, u32_and_nat _ _ (by omega) (by omega), eq_dec, and_small B 51 (by omega), all51 ⟨_, hb⟩]
      simp only [h2, if_true, Bool.false_or, show ((2 : Int) = 1) = False from by simp, if_false]
      exact Ev.now _
    refine Ev.ite_neg h2 ?_
    by_cases h3 : acc = 3
    · refine Ev.ite_pos h3 ?_
      rw [show Go.bits .or .u32 49 68 = ((117 : Nat) : Int) by decide +kernel, u32_and_nat _ _ (by omega) (by omega), eq_dec, and_small B 117 (by omega), all117 ⟨_, hb⟩]
      simp only [h3, if_true, Bool.false_or, show ((3 : Int) = 1) = False from by simp, show ((3 : Int) = 2) = False from by simp, if_false]
      exact Ev.now _
    refine Ev.ite_neg h3 ?_
    simp only [h1, h2, h3, if_false, Bool.and_false]
    exact Ev.now _
  · refine Ev.ite_pos rfl (Ev.step (fun k => pte_Allows.j0.eq_2 ..) ?_)
    by_cases h1 : acc = 1
    · refine Ev.ite_pos h1 ?_
      rw [show Go.bits .or .u32 33 8 = ((41 : Nat) : Int) by decide +kernel, u32_and_nat _ _ (by omega) (by omega), eq_dec, and_small B 41 (by omega), all41 ⟨_, hb⟩]
      simp only [h1, if_true, Bool.true_or, Bool.and_true]
      exact Ev.now _
    refine Ev.ite_neg h1 ?_
    by_cases h2 : acc = 2
    · refine Ev.ite_pos h2 ?_
      rw [show Go.bits .or .u32 33 2 = ((35 : Nat) : Int) by decide +kernel, u32_and_nat _ _ (by omega) (by omega), eq_dec, and_small B 35 (by omega), all35 ⟨_, hb⟩]
      simp only [h2, if_true, Bool.true_or, Bool.and_true, show ((2 : Int) = 1) = False from by simp, if_false]
      exact Ev.now _
    refine Ev.ite_neg h2 ?_
    by_cases h3 : acc = 3
    · refine Ev.ite_pos h3 ?_
      rw [show Go.bits .or .u32 33 68 = ((101 : Nat) : Int) by decide +kernel, u32_and_nat _ _ (by omega) (by omega), eq_dec, and_small B 101 (by omega), all101 ⟨_, hb⟩]
      simp only [h3, if_true, Bool.true_or, Bool.and_true, show ((3 : Int) = 1) = False from by simp, show ((3 : Int) = 2) = False from by simp, if_false]
      exact Ev.now _
    refine Ev.ite_neg h3 ?_
    simp only [h1, h2, h3, if_false, Bool.and_false]
    exact Ev.now _
/-- Whether an entry has a page. -/
def leafN (B : Nat) : Bool := B.testBit 1 || B.testBit 2 || B.testBit 3
theorem small14 : ∀ b : Fin 128, decide (b.val &&& 14 = 0) = !(b.val.testBit 1 || b.val.testBit 2 || b.val.testBit 3) := by decide +kernel
theorem Leaf_f (B : Nat) (hB : B < 2 ^ 32) (p : Int) : pte_Leaf.f (B : Int) p = some (leafN B) := by
  have hb : B % 128 < 128 := Nat.mod_lt _ (by decide)
  unfold pte_Leaf.f leafN
  have h := small14 ⟨_, hb⟩
  rw [testBit_small B 1 (by omega), testBit_small B 2 (by omega), testBit_small B 3 (by omega)]
  rw [show (14 : Int) = ((14 : Nat) : Int) from rfl, u32_and_nat _ _ (by omega) (by omega), and_small B 14 (by omega)]
  rw [show ((((B % 128) &&& 14 : Nat) : Int) != 0) = !decide ((B % 128) &&& 14 = 0) by rw [Bool.eq_iff_iff]; simp, h, Bool.not_not]
theorem Index_f (X : Nat) (hX : X < 2 ^ 32) (level : Int) : pte_Index.f (X : Int) level = some (if level = 0 then ((X / 1024 % 16 : Nat) : Int) else if level = 1 then ((X / 64 % 16 : Nat) : Int) else 0) := by
  unfold pte_Index.f
  by_cases h0 : level = 0
  · rw [if_pos h0, if_pos h0, Field_f X hX 13 10 13 10 rfl rfl (by omega) (by omega), show fieldN X 13 10 = X / 1024 % 16 from rfl]; simp only [Option.bind_some]; rw [w64n (by omega)]
  rw [if_neg h0, if_neg h0]
  by_cases h1 : level = 1
  · rw [if_pos h1, if_pos h1, Field_f X hX 9 6 9 6 rfl rfl (by omega) (by omega), show fieldN X 9 6 = X / 64 % 16 from rfl]; simp only [Option.bind_some]; rw [w64n (by omega)]
  rw [if_neg h1, if_neg h1]

theorem awake_ev : Ev (fun k => cotterellaw12_awake.f k) true := Ev.of (fun k => cotterellaw12_awake.mono k) (k := 40) (by decide +kernel)
end Go.Proofs.Ytcgdjikohiaofaa.PPteMore
namespace Go.Proofs.Ytcgdjikohiaofaa.Pure
set_option linter.unusedVariables false
set_option linter.unusedSimpArgs false
open Go.RowKit Go.Proofs.Ytcgdjikohiaofaa.PPteMore Go.Proofs.YtcgdjikohiaofaaW.PrintWords Go.Proofs.YtcgdjikohiaofaaW.PrintLast Go.Proofs.Ytcgdjikohiaofaa.M
theorem PteMore : ∀ (x0 : Int) (x1 : Int) (x2 : Int) (x3 : Int), (Lit.int .u32 x0).wf = true → (Lit.int .i64 x1).wf = true → (Lit.int .u32 x2).wf = true → (Lit.int .i64 x3).wf = true → ∃ k, cotterellaw12_PteMore.f k x0 x1 x2 x3 = some true := by
  intro x0 p x2 acc h0 _ h2 _
  obtain ⟨B, rfl, hB⟩ := wf_u32 h0
  obtain ⟨C, rfl, hC⟩ := wf_u32 h2
  have ho : B ||| C < 2 ^ 32 := Nat.or_lt_two_pow hB hC
  refine Ev.rounds ?_
  unfold cotterellaw12_PteMore.f
  rw [u32_or_nat _ _ (by omega) (by omega)]
  refine Ev.bind (Allows_ev B hB p acc false) ?_
  cases hA : allowsN B acc false with
  | true =>
    have hk : allowsN B acc true = true := by
      unfold allowsN at hA ⊢
      simp only [Bool.and_eq_true, Bool.or_eq_true] at hA ⊢
      exact ⟨⟨hA.1.1, .inl trivial⟩, hA.2⟩
    have more : ∀ kern, allowsN B acc kern = true → allowsN (B ||| C) acc kern = true := by
      intro kern h
      unfold allowsN at h ⊢
      simp only [Nat.testBit_or]
      simp only [Bool.and_eq_true, Bool.or_eq_true] at h ⊢
      refine ⟨⟨⟨.inl h.1.1.1, .inl h.1.1.2⟩, ?_⟩, ?_⟩
      · rcases h.1.2 with h | h
        · exact .inl h
        · exact .inr (.inl h)
      · have h' := h.2
        split at h'
        · rename_i c; rw [if_pos c]; simp [h']
        · rename_i c; rw [if_neg c]
          split at h'
          · rename_i c; rw [if_pos c]; simp [h']
          · rename_i c; rw [if_neg c]
            split at h'
            · rename_i c; rw [if_pos c]; simp only [Bool.and_eq_true] at h'; simp [h'.1, h'.2]
            · cases h'
    have hleaf : leafN B = true := by
      unfold allowsN at hA
      unfold leafN
      simp only [Bool.and_eq_true] at hA
      have h' := hA.2
      split at h'
      · simp [h']
      · split at h'
        · simp [h']
        · split at h'
          · simp only [Bool.and_eq_true] at h'; simp [h'.1]
          · cases h'
    refine Ev.ite_pos rfl (Ev.bind (Allows_ev _ ho p acc false) (Ev.ite_pos (more false hA) (Ev.bind (Allows_ev B hB p acc true) (Ev.ite_pos hk ?_))))
    refine Ev.bind (Allows_ev _ ho p acc true) (Ev.ite_pos (more true hk) (Ev.bind_some (Leaf_f B hB p) (Ev.ite_pos hleaf ?_)))
    exact Ev.bind awake_ev (Ev.now _)
  | false =>
    refine Ev.ite_neg (by decide) (Ev.bind (Allows_ev B hB p acc true) ?_)
    cases hK : allowsN B acc true with
    | false => exact Ev.ite_neg (by decide) (Ev.bind awake_ev (Ev.now _))
    | true =>
      refine Ev.ite_pos rfl (Ev.ite_pos ?_ (Ev.bind awake_ev (Ev.now _)))
      have h4 : B.testBit 4 = false := by
        cases h : B.testBit 4 with
        | false => rfl
        | true =>
          unfold allowsN at hA hK
          rw [h] at hA hK
          simp only [Bool.or_true, Bool.true_or] at hA hK
          rw [hK] at hA; cases hA
      rw [show (16 : Int) = ((16 : Nat) : Int) from rfl, u32_and_nat _ _ (by omega) (by omega), show (16 : Nat) = 2 ^ 4 from rfl, nat_bit, bit_toNat, h4]
      rfl
end Go.Proofs.Ytcgdjikohiaofaa.Pure

