/- What the functions of package bits and of its reference compute, in natural numbers. -/
import Derived.Test.YtbafbfgmldbhiaaPBitsMergesx2
import Derived.Test.YtbafbfgmldbhiaaM
namespace Go.Proofs.Ytbafbfgmldbhiaa.PBitsMerges
open Go.RowKit Go.Proofs.YtbafbfgmldbhiaaW.PrintWords Go.Proofs.YtbafbfgmldbhiaaW.PrintMore Go.Proofs.Ytbafbfgmldbhiaa.M
set_option linter.unusedVariables false
set_option linter.unusedSimpArgs false
theorem clamp_f (n lo hi : Int) (h : lo ≤ hi) : bits_clamp.f n lo hi = some (cl n lo hi) := by unfold bits_clamp.f; rw [mnmx n lo hi h]
theorem brought_f (n lo hi : Int) : cotterelref01_brought.f n lo hi = some (cl n lo hi) := by 
  unfold cotterelref01_brought.f cl
  repeat' split
  all_goals rfl
theorem ones_f (n : Nat) (h : n ≤ 32) : bits_ones.f (n : Int) = some ((2 ^ n - 1 : Nat) : Int) := by
  unfold bits_ones.f
  rw [if_pos (by omega)]
  congr 1
  have h0 : 0 < 2 ^ n := Nat.two_pow_pos n
  have h1 : 2 ^ n ≤ 4294967296 := pow_le32 h
  have e : ((2 : Int) ^ n) = ((2 ^ n : Nat) : Int) := by simp
  unfold shl
  rw [Int.toNat_natCast, Nat.min_eq_left (by have : IntKind.bits .u64 = 64 := rfl; omega), Int.one_mul, e, wrap_u64, wrap_u64]
  omega
theorem mask_f (hi lo : Int) (H L : Nat) (hH : cl hi 0 31 = (H : Int)) (hL : cl lo 0 31 = (L : Int)) (h1 : H ≤ 31) (h2 : L ≤ 31) :
    bits_mask.f hi lo = some ((maskN H L : Int), if H < L then 0 else (L : Int)) := by
  unfold bits_mask.f
  rw [clamp_f hi 0 31 (by omega), clamp_f lo 0 31 (by omega), hH, hL]
  simp only [Option.bind_some]
  by_cases h : H < L
  · rw [if_pos (by omega), if_pos h]; unfold maskN; rw [if_pos h]; rfl
  · rw [if_neg (by omega), if_neg h]
    rw [w64 (n := (H : Int) - L) (by omega) (by omega), w64 (by omega) (by omega)]
    rw [show ((H : Int) - L + 1) = ((H - L + 1 : Nat) : Int) by omega, ones_f _ (by omega)]
    simp only [Option.bind_some]
    rw [if_pos (by omega)]
    congr 2
    have hm := @maskN_lt H L h1
    unfold maskN at hm ⊢
    rw [if_neg h] at hm ⊢
    unfold shl
    rw [Int.toNat_natCast, Nat.min_eq_left (by have : IntKind.bits .u32 = 32 := rfl; omega), IntKind.wrap_u32']
    rw [show ((2 : Int) ^ L) = ((2 ^ L : Nat) : Int) by simp, ← Int.natCast_mul]
    omega
theorem Field_f (X : Nat) (hX : X < 2 ^ 32) (hi lo : Int) (H L : Nat) (hH : cl hi 0 31 = (H : Int)) (hL : cl lo 0 31 = (L : Int)) (h1 : H ≤ 31) (h2 : L ≤ 31) :
    bits_Field.f (X : Int) hi lo = some (fieldN X H L : Int) := by
  unfold bits_Field.f
  rw [mask_f hi lo H L hH hL h1 h2]
  simp only [Option.bind_some]
  have hm := @maskN_lt H L h1
  rw [u32_and_nat _ _ (by omega) (by omega)]
  by_cases h : H < L
  · rw [if_pos h, if_pos (by omega)]
    unfold maskN fieldN; rw [if_pos h, if_pos h]; simp [shr]
  · rw [if_neg h, if_pos (by omega)]
    congr 1
    unfold shr
    rw [Int.toNat_natCast, Nat.min_eq_left (by have : IntKind.bits .u32 = 32 := rfl; omega)]
    rw [show ((2 : Int) ^ L) = ((2 ^ L : Nat) : Int) by simp, ← Int.natCast_ediv, field_mask]
theorem Put_f (X V : Nat) (hX : X < 2 ^ 32) (hV : V < 2 ^ 32) (hi lo : Int) (H L : Nat) (hH : cl hi 0 31 = (H : Int)) (hL : cl lo 0 31 = (L : Int)) (h1 : H ≤ 31) (h2 : L ≤ 31) :
    bits_Put.f (X : Int) hi lo (V : Int) = some (putN X H L V : Int) := by
  unfold bits_Put.f
  rw [mask_f hi lo H L hH hL h1 h2]
  simp only [Option.bind_some]
  have hm := @maskN_lt H L h1
  rw [u32_andNot_nat _ _ (by omega) (by omega)]
  have sh : ∀ l : Nat, l ≤ 31 → shl .u32 (V : Int) (l : Int) = ((V * 2 ^ l % 4294967296 : Nat) : Int) := by
    intro l hl
    unfold shl
    rw [Int.toNat_natCast, Nat.min_eq_left (by have : IntKind.bits .u32 = 32 := rfl; omega), IntKind.wrap_u32']
    rw [show ((2 : Int) ^ l) = ((2 ^ l : Nat) : Int) by simp, ← Int.natCast_mul]
    omega
  have hx : X &&& (4294967295 - maskN H L) < 2 ^ 32 := and_lt32 hX
  by_cases h : H < L
  · rw [if_pos h, if_pos (by omega)]
    have hz := sh 0 (by omega)
    rw [show ((0 : Nat) : Int) = 0 from rfl] at hz
    rw [hz, u32_and_nat _ _ (by omega) (by omega)]
    have e : maskN H L = 0 := by unfold maskN; rw [if_pos h]
    rw [u32_or_nat _ _ (by omega) (by have := @and_lt32 (V * 2 ^ 0 % 4294967296) (maskN H L) (by omega); omega)]
    have := put_mask (x := X) (v := V) (hi := H) (lo := L) hX h1
    rw [← this, e]; simp
  · rw [if_neg h, if_pos (by omega), sh L h2, u32_and_nat _ _ (by omega) (by omega)]
    rw [u32_or_nat _ _ (by omega) (by have := @and_lt32 (V * 2 ^ L % 4294967296) (maskN H L) (by omega); omega)]
    rw [put_mask hX h1]
theorem Sext_f (X : Nat) (hX : X < 2 ^ 32) (n : Int) (m : Nat) (hm : cl n 0 32 = (m : Int)) (h : m ≤ 32) : bits_Sext.f (X : Int) n = some (sextN X m : Int) := by
  unfold bits_Sext.f
  rw [clamp_f n 0 32 (by omega), hm]
  simp only [Option.bind_some]
  rw [w64 (by omega) (by omega), if_pos (by omega)]
  congr 1
  unfold shr shl sextN
  rw [show ((32 : Int) - m).toNat = 32 - m by omega, Nat.min_eq_left (by have : IntKind.bits .u32 = 32 := rfl; omega), Nat.min_eq_left (by have : IntKind.bits .i32 = 32 := rfl; omega), IntKind.wrap_u32']
  unfold wrap32
  have hc : m = 0 ∨ m = 1 ∨ m = 2 ∨ m = 3 ∨ m = 4 ∨ m = 5 ∨ m = 6 ∨ m = 7 ∨ m = 8 ∨ m = 9 ∨ m = 10 ∨ m = 11 ∨ m = 12 ∨ m = 13 ∨ m = 14 ∨ m = 15 ∨ m = 16 ∨ m = 17 ∨ m = 18 ∨ m = 19 ∨ m = 20 ∨ m = 21 ∨ m = 22 ∨ m = 23 ∨ m = 24 ∨ m = 25 ∨ m = 26 ∨ m = 27 ∨ m = 28 ∨ m = 29 ∨ m = 30 ∨ m = 31 ∨ m = 32 := by omega
  simp only [Nat.testBit_eq_decide_div_mod_eq]
  clear hm
  rcases hc with rfl | rfl | rfl | rfl | rfl | rfl | rfl | rfl | rfl | rfl | rfl | rfl | rfl | rfl | rfl | rfl | rfl | rfl | rfl | rfl | rfl | rfl | rfl | rfl | rfl | rfl | rfl | rfl | rfl | rfl | rfl | rfl | rfl
  all_goals
    simp only [decide_eq_false_iff_not, Nat.reduceSub, Nat.reducePow, Int.reducePow, Nat.reduceEqDiff, false_or, true_or, if_true]
    first
      | omega
      | (split <;> omega)
theorem Rot_f (X : Nat) (hX : X < 2 ^ 32) (n : Int) (h1 : -9223372036854775808 ≤ n) (h2 : n ≤ 9223372036854775807) : bits_Rot.f (X : Int) n = some (rotN X (n % 32).toNat : Int) := by
  unfold bits_Rot.f bits_RotateLeft32.f
  have hs : ∃ s : Nat, bits .and .u64 (IntKind.u64.wrap (wrap64 (-(Int.tmod n 32)))) 31 = (s : Int) ∧ s < 32 ∧ (s + (n % 32).toNat) % 32 = 0 := by
    obtain ⟨ht0, ht1, ht2⟩ := tmod_bd n
    rw [w64 (by omega) (by omega), wrap_u64]
    refine ⟨((-(Int.tmod n 32)) % 18446744073709551616).toNat % 32, ?_, by omega, by omega⟩
    rw [u64_and _ _ (by omega) (by omega) (by omega) (by omega)]
    rw [show (31 : Int).toNat = 31 from rfl, nat_mask5]
  obtain ⟨s, hs, hs1, hs2⟩ := hs
  rw [hs, if_pos (by omega)]
  rw [wrap_u64, show ((32 : Int) - s) % 18446744073709551616 = ((32 - s : Nat) : Int) by omega, if_pos (by omega)]
  simp only [Option.bind_some]
  congr 1
  have e1 : shl .u32 (X : Int) (s : Int) = ((X * 2 ^ s % 4294967296 : Nat) : Int) := by
    unfold shl
    rw [Int.toNat_natCast, Nat.min_eq_left (by have : IntKind.bits .u32 = 32 := rfl; omega), IntKind.wrap_u32']
    rw [show ((2 : Int) ^ s) = ((2 ^ s : Nat) : Int) by simp, ← Int.natCast_mul]
    omega
  have e2 : shr .u32 (X : Int) ((32 - s : Nat) : Int) = ((X / 2 ^ (32 - s) : Nat) : Int) := by
    unfold shr
    rw [Int.toNat_natCast, Nat.min_eq_left (by have : IntKind.bits .u32 = 32 := rfl; omega)]
    rw [show ((2 : Int) ^ (32 - s)) = ((2 ^ (32 - s) : Nat) : Int) by simp, ← Int.natCast_ediv]
  have hd : X / 2 ^ (32 - s) ≤ X := Nat.div_le_self _ _
  rw [e1, e2, u32_or_nat _ _ (by omega) (by omega)]
  congr 1
  apply Nat.eq_of_testBit_eq; intro i
  rw [rotN_testBit, Nat.testBit_or, show (4294967296 : Nat) = 2 ^ 32 from rfl, Nat.testBit_mod_two_pow, ← Nat.shiftLeft_eq, Nat.testBit_shiftLeft, Nat.testBit_div_two_pow]
  by_cases h : i < 32
  · by_cases h3 : s ≤ i
    · rw [testBit_lt32 hX (by omega : 32 ≤ i + (32 - s))]
      simp [h, h3]; congr 1; omega
    · simp [h, h3]; congr 1; omega
  · rw [testBit_lt32 hX (by omega : 32 ≤ i + (32 - s))]
    simp [h]
theorem Aligned_f (X : Nat) (hX : X < 2 ^ 32) (n : Int) : bits_Aligned.f (X : Int) n = some (decide (n = 1 ∨ (n = 2 ∧ X % 2 = 0) ∨ (n = 4 ∧ X % 4 = 0))) := by
  unfold bits_Aligned.f
  by_cases h1 : n = 1
  · subst h1
    rw [if_pos rfl, show wrap64 ((1 : Int) - 1) % 4294967296 = ((0 : Nat) : Int) by unfold wrap64; omega, u32_and_nat _ _ (by omega) (by omega)]
    simp
  rw [if_neg h1]
  by_cases h2 : n = 2
  · subst h2
    rw [if_pos rfl, show wrap64 ((2 : Int) - 1) % 4294967296 = ((1 : Nat) : Int) by unfold wrap64; omega, u32_and_nat _ _ (by omega) (by omega), nat_mask1]
    congr 1; rw [Bool.eq_iff_iff]; simp; omega
  rw [if_neg h2]
  by_cases h3 : n = 4
  · subst h3
    rw [if_pos rfl, show wrap64 ((4 : Int) - 1) % 4294967296 = ((3 : Nat) : Int) by unfold wrap64; omega, u32_and_nat _ _ (by omega) (by omega), nat_mask2]
    congr 1; rw [Bool.eq_iff_iff]; simp; omega
  rw [if_neg h3]
  simp [h1, h2, h3]
theorem power_l0 (n : Nat) (hn : n ≤ 31) (d : Nat) : ∀ i : Nat, i + d = n → Ev (fun k => cotterelref01_power.l0 k (n : Int) ((2 ^ i : Nat) : Int) (i : Int)) ((2 ^ n : Nat) : Int) := by
  induction d with
  | zero =>
    intro i hi
    refine Ev.step (fun k => cotterelref01_power.l0.eq_2 ..) (Ev.ite_neg (by omega) ?_)
    rw [show i = n by omega]; exact Ev.now _
  | succ d ih =>
    intro i hi
    refine Ev.step (fun k => cotterelref01_power.l0.eq_2 ..) (Ev.ite_pos (by omega) ?_)
    have hp := @pow_lt32 (i + 1) (by omega)
    have h3 := Nat.pow_succ 2 i
    rw [w64 (by omega) (by omega), show ((2 ^ i : Nat) : Int) * 2 % 4294967296 = ((2 ^ (i + 1) : Nat) : Int) by omega]
    exact ih (i + 1) (by omega)
theorem power_ev (n : Nat) (hn : n ≤ 31) : Ev (fun k => cotterelref01_power.f k (n : Int)) ((2 ^ n : Nat) : Int) := power_l0 n hn n 0 (by omega)
theorem refBytes_l0 (X n : Nat) (hX : X < 2 ^ 32) (hn : n ≤ 4) (d : Nat) : ∀ i : Nat, i + d = n → Ev (fun k => cotterelref01_Bytes.l0 k ((X / 2 ^ (8 * i) : Nat) : Int) (n : Int) (tab i (byteN X)) (i : Int)) (tab n (byteN X)) := by
  induction d with
  | zero =>
    intro i hi
    refine Ev.step (fun k => cotterelref01_Bytes.l0.eq_2 ..) (Ev.ite_neg (by omega) ?_)
    rw [show i = n by omega]; exact Ev.now _
  | succ d ih =>
    intro i hi
    have hd : X / 2 ^ (8 * i) ≤ X := Nat.div_le_self _ _
    refine Ev.step (fun k => cotterelref01_Bytes.l0.eq_2 ..) (Ev.ite_pos (by omega) (Ev.ite_pos (by rw [tab_length]; omega) ?_))
    rw [w64 (by omega) (by omega)]
    have e : X / 2 ^ (8 * (i + 1)) = X / 2 ^ (8 * i) / 256 := by
      rw [show 8 * (i + 1) = 8 * i + 8 by omega, Nat.pow_add, Nat.div_div_eq_div_mul]
    have nx := ih (i + 1) (by omega)
    have hb : byteN X i = ((X / 2 ^ (8 * i) % 256 : Nat) : Int) := rfl
    rw [e, ← tab_snoc, hb] at nx
    generalize X / 2 ^ (8 * i) = Y at *
    rw [Int.tdiv_eq_ediv_of_nonneg (by omega), Int.tmod_eq_emod_of_nonneg (by omega)]
    rw [show (Y : Int) / 256 % 4294967296 = ((Y / 256 : Nat) : Int) by omega, show (Y : Int) % 256 % 256 = ((Y % 256 : Nat) : Int) by omega]
    exact nx
theorem refBytes_ev (X : Nat) (hX : X < 2 ^ 32) (n : Int) (m : Nat) (hm : cl n 0 4 = (m : Int)) (h : m ≤ 4) : Ev (fun k => cotterelref01_Bytes.f k (X : Int) n) (tab m (byteN X)) := by
  refine Ev.bind_some (brought_f n 0 4) ?_
  rw [hm]
  have := refBytes_l0 X m hX h m 0 (by omega)
  rw [tab_zero] at this
  simpa using this
theorem refOf_l0 (l : List Int) (hb : Byt l) (d : Nat) : ∀ i : Nat, i + d = min l.length 4 →
    Ev (fun k => cotterelref01_Of.l0 k l (leN (fun j => l.getD j 0) i : Int) (i : Int)) (leN (fun j => l.getD j 0) (min l.length 4) : Int) := by
  induction d with
  | zero =>
    intro i hi
    rw [show i = min l.length 4 by omega]
    by_cases h : l.length ≤ 4
    · exact Ev.step (fun k => cotterelref01_Of.l0.eq_2 ..) (Ev.ite_neg (by omega) (Ev.now _))
    · exact Ev.step (fun k => cotterelref01_Of.l0.eq_2 ..) (Ev.ite_pos (by omega) (Ev.ite_neg (by omega) (Ev.now _)))
  | succ d ih =>
    intro i hi
    have hbi := byt_getD hb i
    have h2 := leN_lt (fun j _ => byt_getD hb j : ∀ j, j < i + 1 → 0 ≤ l.getD j 0 ∧ l.getD j 0 ≤ 255)
    have h3 : (2 : Nat) ^ (8 * (i + 1)) ≤ 2 ^ 32 := Nat.pow_le_pow_right (by decide) (by omega)
    refine Ev.step (fun k => cotterelref01_Of.l0.eq_2 ..) (Ev.ite_pos (by omega) (Ev.ite_pos (by omega) (Ev.ite_pos (by omega) ?_)))
    rw [w64 (n := 8 * (i : Int)) (by omega) (by omega), w64 (by omega) (by omega), show (8 * (i : Int)) = ((8 * i : Nat) : Int) by omega]
    refine Ev.bind (power_ev (8 * i) (by omega)) ?_
    rw [leN] at h2
    have e : ((leN (fun j => l.getD j 0) i : Int) + rd l (i : Int) % 4294967296 * ((2 ^ (8 * i) : Nat) : Int) % 4294967296) % 4294967296 = (leN (fun j => l.getD j 0) (i + 1) : Int) := by
      rw [rd_nat, show l.getD i 0 % 4294967296 = ((l.getD i 0).toNat : Int) by omega, ← Int.natCast_mul, leN]
      omega
    rw [e]
    exact ih (i + 1) (by omega)
theorem refOf_ev (l : List Int) (hb : Byt l) : Ev (fun k => cotterelref01_Of.f k l) (leN (fun j => l.getD j 0) (min l.length 4) : Int) := by
  unfold cotterelref01_Of.f
  have := refOf_l0 l hb (min l.length 4) 0 (by omega)
  simpa [leN] using this
theorem Merge_l0 (X V : Nat) (hX : X < 2 ^ 32) (hV : V < 2 ^ 32) (at_ : Int) (size : Nat) (h1 : -4 ≤ at_) (h2 : at_ ≤ 4) (h3 : size ≤ 4) (d : Nat) : ∀ (i Y : Nat), i + d = 4 → Y < 2 ^ 32 →
    (∀ j, j < 4 → byteN Y j = if j < i ∧ 0 ≤ (j : Int) - at_ ∧ (j : Int) - at_ < size then byteN V ((j : Int) - at_).toNat else byteN X j) →
    Ev (fun k => bits_Merge.l0 k (Y : Int) (V : Int) at_ (size : Int) (i : Int)) (mergeN X V at_ size : Int) := by
  induction d with
  | zero =>
    intro i Y hi hY h
    refine Ev.step (fun k => bits_Merge.l0.eq_2 ..) (Ev.ite_neg (by omega) ?_)
    have e : mergeN X V at_ size = Y := by
      have := leN_byteN Y 4
      rw [Nat.mod_eq_of_lt hY] at this
      rw [← this]
      unfold mergeN
      refine leN_congr fun j hj => ?_
      rw [h j hj]
      by_cases c : 0 ≤ (j : Int) - at_ ∧ (j : Int) - at_ < size
      · rw [if_pos c, if_pos ⟨by omega, c⟩]
      · rw [if_neg c, if_neg (fun x => c x.2)]
    rw [e]; exact Ev.now _
  | succ d ih =>
    intro i Y hi hY h
    have skip : ¬ (0 ≤ (i : Int) - at_ ∧ (i : Int) - at_ < size) → Ev (fun k => bits_Merge.l0 k (Y : Int) (V : Int) at_ (size : Int) ((i + 1 : Nat) : Int)) (mergeN X V at_ size : Int) := fun c => by
      refine ih (i + 1) Y (by omega) hY fun j hj => ?_
      rw [h j hj]
      by_cases e : j = i
      · subst e; rw [if_neg (by omega), if_neg (fun x => c x.2)]
      · by_cases x : j < i ∧ 0 ≤ (j : Int) - at_ ∧ (j : Int) - at_ < size
        · rw [if_pos x, if_pos ⟨by omega, x.2⟩]
        · rw [if_neg x, if_neg (by omega)]
    refine Ev.step (fun k => bits_Merge.l0.eq_2 ..) (Ev.ite_pos (by omega) ?_)
    rw [w64 (n := (i : Int) - at_) (by omega) (by omega), w64 (n := (i : Int) + 1) (by omega) (by omega)]
    by_cases c1 : 0 ≤ (i : Int) - at_
    · refine Ev.ite_pos (by omega) ?_
      by_cases c2 : (i : Int) - at_ < size
      · obtain ⟨m, hm⟩ : ∃ m : Nat, (i : Int) - at_ = (m : Int) := ⟨((i : Int) - at_).toNat, by omega⟩
        refine Ev.ite_pos c2 ?_
        rw [hm, w64 (n := 8 * (m : Int)) (by omega) (by omega), w64 (n := 8 * (i : Int)) (by omega) (by omega), w64 (by omega) (by omega)]
        refine Ev.ite_pos (by omega) ?_
        have es : shr .u32 (V : Int) (8 * (m : Int)) = ((V / 2 ^ (8 * m) : Nat) : Int) := by
          unfold shr
          rw [show (8 * (m : Int)).toNat = 8 * m by omega, Nat.min_eq_left (by have : IntKind.bits .u32 = 32 := rfl; omega)]
          rw [show ((2 : Int) ^ (8 * m)) = ((2 ^ (8 * m) : Nat) : Int) by simp, ← Int.natCast_ediv]
        have hd : V / 2 ^ (8 * m) ≤ V := Nat.div_le_self _ _
        rw [es]
        refine Ev.bind_some (Put_f Y (V / 2 ^ (8 * m)) hY (by omega) (8 * (i : Int) + 7) (8 * (i : Int)) (8 * i + 7) (8 * i) (by rw [cl_id (by omega) (by omega)]; omega) (by rw [cl_id (by omega) (by omega)]; omega) (by omega) (by omega)) ?_
        refine ih (i + 1) _ (by omega) (putN_lt _ _ _ _) fun j hj => ?_
        rw [putN_byte Y i _ (by omega) j hj]
        by_cases e : j = i
        · subst e
          rw [if_pos rfl, if_pos ⟨by omega, c1, c2⟩, hm, Int.toNat_natCast]
          unfold byteN; simp
        · rw [if_neg e, h j hj]
          by_cases x : j < i ∧ 0 ≤ (j : Int) - at_ ∧ (j : Int) - at_ < size
          · rw [if_pos x, if_pos ⟨by omega, x.2⟩]
          · rw [if_neg x, if_neg (by omega)]
      · exact Ev.ite_neg c2 (skip (fun x => c2 x.2))
    · exact Ev.ite_neg (by omega) (skip (fun x => c1 x.1))
theorem Merge_ev (X V : Nat) (hX : X < 2 ^ 32) (hV : V < 2 ^ 32) (at_ size : Int) (m : Nat) (hm : cl size 0 4 = (m : Int)) (h : m ≤ 4) : Ev (fun k => bits_Merge.f k (X : Int) (V : Int) at_ size) (mergeN X V (cl at_ (-4) 4) m : Int) := by
  have hc := cl_bd at_ (-4) 4 (by omega)
  refine Ev.bind_some (clamp_f at_ (-4) 4 (by omega)) (Ev.bind_some (clamp_f size 0 4 (by omega)) ?_)
  rw [hm]
  exact Merge_l0 X V hX hV _ m hc.1 hc.2 h 4 0 X (by omega) hX (fun j hj => by rw [if_neg (by omega)])
theorem refMerge_l0 (X V : Nat) (at_ : Int) (size : Nat) (h1 : -4 ≤ at_) (h2 : at_ ≤ 4) (h3 : size ≤ 4) (d : Nat) : ∀ i : Nat, i + d = 4 →
    Ev (fun k => cotterelref01_Merge.l0 k at_ (size : Int) (tab 4 (fun j => if j < i ∧ 0 ≤ (j : Int) - at_ ∧ (j : Int) - at_ < size then byteN V ((j : Int) - at_).toNat else byteN X j)) (tab 4 (byteN V)) (i : Int)) (mergeN X V at_ size : Int) := by
  induction d with
  | zero =>
    intro i hi
    refine Ev.step (fun k => cotterelref01_Merge.l0.eq_2 ..) (Ev.ite_neg (by omega) ?_)
    have hb : Byt (tab 4 (fun j => if j < i ∧ 0 ≤ (j : Int) - at_ ∧ (j : Int) - at_ < size then byteN V ((j : Int) - at_).toNat else byteN X j)) :=
      byt_tab fun j _ => by split <;> exact byteN_bd _ _
    have := refOf_ev _ hb
    rw [tab_length] at this
    refine Ev.bind this ?_
    have e : leN (fun j => (tab 4 (fun j => if j < i ∧ 0 ≤ (j : Int) - at_ ∧ (j : Int) - at_ < size then byteN V ((j : Int) - at_).toNat else byteN X j)).getD j 0) (min 4 4) = mergeN X V at_ size := by
      unfold mergeN
      refine leN_congr fun j hj => ?_
      rw [← rd_nat, rd_tab (by omega)]
      by_cases c : 0 ≤ (j : Int) - at_ ∧ (j : Int) - at_ < size
      · rw [if_pos c, if_pos ⟨by omega, c⟩]
      · rw [if_neg c, if_neg (fun x => c x.2)]
    rw [e]; exact Ev.now _
  | succ d ih =>
    intro i hi
    have nx := ih (i + 1) (by omega)
    have skip : ¬ (0 ≤ (i : Int) - at_ ∧ (i : Int) - at_ < size) → Ev (fun k => cotterelref01_Merge.l0 k at_ (size : Int) (tab 4 (fun j => if j < i ∧ 0 ≤ (j : Int) - at_ ∧ (j : Int) - at_ < size then byteN V ((j : Int) - at_).toNat else byteN X j)) (tab 4 (byteN V)) ((i + 1 : Nat) : Int)) (mergeN X V at_ size : Int) := fun c => by
      rw [tab_congr (g := fun j => if j < i + 1 ∧ 0 ≤ (j : Int) - at_ ∧ (j : Int) - at_ < size then byteN V ((j : Int) - at_).toNat else byteN X j)]
      · exact nx
      · intro j hj
        by_cases e : j = i
        · subst e; rw [if_neg (by omega), if_neg (fun x => c x.2)]
        · by_cases x : j < i ∧ 0 ≤ (j : Int) - at_ ∧ (j : Int) - at_ < size
          · rw [if_pos x, if_pos ⟨by omega, x.2⟩]
          · rw [if_neg x, if_neg (by omega)]
    refine Ev.step (fun k => cotterelref01_Merge.l0.eq_2 ..) (Ev.ite_pos (by omega) ?_)
    rw [w64 (n := (i : Int) - at_) (by omega) (by omega), w64 (n := (i : Int) + 1) (by omega) (by omega), tab_length, tab_length]
    by_cases c1 : 0 ≤ (i : Int) - at_
    · refine Ev.ite_pos (by omega) ?_
      by_cases c2 : (i : Int) - at_ < size
      · obtain ⟨m, hm⟩ : ∃ m : Nat, (i : Int) - at_ = (m : Int) := ⟨((i : Int) - at_).toNat, by omega⟩
        refine Ev.ite_pos c2 (Ev.ite_pos c1 (Ev.ite_pos (by omega) (Ev.ite_pos (by omega) (Ev.ite_pos (by omega) ?_))))
        rw [Int.toNat_natCast, tab_set, hm, rd_tab (by omega)]
        rw [tab_congr (g := fun j => if j < i + 1 ∧ 0 ≤ (j : Int) - at_ ∧ (j : Int) - at_ < size then byteN V ((j : Int) - at_).toNat else byteN X j)]
        · exact nx
        · intro j hj
          by_cases e : j = i
          · subst e; rw [if_pos rfl, if_pos ⟨by omega, c1, c2⟩, hm, Int.toNat_natCast]
          · rw [if_neg e]
            by_cases x : j < i ∧ 0 ≤ (j : Int) - at_ ∧ (j : Int) - at_ < size
            · rw [if_pos x, if_pos ⟨by omega, x.2⟩]
            · rw [if_neg x, if_neg (by omega)]
      · exact Ev.ite_neg c2 (skip (fun x => c2 x.2))
    · exact Ev.ite_neg (by omega) (skip (fun x => c1 x.1))
theorem refMerge_ev (X V : Nat) (hX : X < 2 ^ 32) (hV : V < 2 ^ 32) (at_ size : Int) (m : Nat) (hm : cl size 0 4 = (m : Int)) (h : m ≤ 4) : Ev (fun k => cotterelref01_Merge.f k (X : Int) (V : Int) at_ size) (mergeN X V (cl at_ (-4) 4) m : Int) := by
  have hc := cl_bd at_ (-4) 4 (by omega)
  refine Ev.bind_some (brought_f at_ (-4) 4) (Ev.bind_some (brought_f size 0 4) (Ev.bind (refBytes_ev X hX 4 4 rfl (by omega)) (Ev.bind (refBytes_ev V hV 4 4 rfl (by omega)) ?_)))
  rw [hm]
  have := refMerge_l0 X V (cl at_ (-4) 4) m hc.1 hc.2 h 4 0 (by omega)
  rw [tab_congr (g := byteN X) (fun j hj => by rw [if_neg (by omega)])] at this
  exact this
end Go.Proofs.Ytbafbfgmldbhiaa.PBitsMerges

namespace Go.Proofs.Ytbafbfgmldbhiaa.PBitsMerges
open Go.RowKit Go.Proofs.YtbafbfgmldbhiaaW.PrintWords Go.Proofs.YtbafbfgmldbhiaaW.PrintMore Go.Proofs.Ytbafbfgmldbhiaa.M
theorem awake_ev : Ev (fun k => cotterellaw01_awake.f k) true := Ev.of (fun k => cotterellaw01_awake.mono k) (k := 40) (by decide +kernel)
theorem cl32 (n : Int) : ∃ m : Nat, cl n 0 32 = (m : Int) ∧ m ≤ 32 := by
  have := cl_bd n 0 32 (by omega)
  exact ⟨(cl n 0 32).toNat, by omega, by omega⟩
theorem cl31 (n : Int) : ∃ m : Nat, cl n 0 31 = (m : Int) ∧ m ≤ 31 := by
  have := cl_bd n 0 31 (by omega)
  exact ⟨(cl n 0 31).toNat, by omega, by omega⟩
theorem cl4 (n : Int) : ∃ m : Nat, cl n 0 4 = (m : Int) ∧ m ≤ 4 := by
  have := cl_bd n 0 4 (by omega)
  exact ⟨(cl n 0 4).toNat, by omega, by omega⟩
end Go.Proofs.Ytbafbfgmldbhiaa.PBitsMerges
namespace Go.Proofs.Ytbafbfgmldbhiaa.Pure
set_option linter.unusedVariables false
set_option linter.unusedSimpArgs false
open Go.RowKit Go.Proofs.Ytbafbfgmldbhiaa.PBitsMerges Go.Proofs.YtbafbfgmldbhiaaW.PrintWords Go.Proofs.YtbafbfgmldbhiaaW.PrintLast Go.Proofs.Ytbafbfgmldbhiaa.M
theorem BitsMerges : ∀ (a0 : Int) (a1 : Int) (at_ size : Int), (Lit.int .u32 a0).wf = true → (Lit.int .u32 a1).wf = true → (Lit.int .i64 at_).wf = true → (Lit.int .i64 size).wf = true → ∃ k, cotterellaw01_BitsMerges.f k a0 a1 at_ size = some true := by
  intro a0 a1 at_ size h0 h1 _ _
  obtain ⟨X, rfl, hX⟩ := wf_u32 h0
  obtain ⟨V, rfl, hV⟩ := wf_u32 h1
  obtain ⟨m, hm, h⟩ := cl4 size
  refine Ev.rounds ?_
  unfold cotterellaw01_BitsMerges.f
  refine Ev.bind (Merge_ev X V hX hV at_ size m hm h) (Ev.bind (refMerge_ev X V hX hV at_ size m hm h) (Ev.ite_pos rfl ?_))
  refine Ev.bind (Merge_ev _ X (mergeN_lt _ _ _ _) hX 0 4 4 rfl (by omega)) (Ev.ite_pos (by rw [show cl 0 (-4) 4 = 0 from rfl, mergeN_all _ X hX]) ?_)
  refine Ev.bind (Merge_ev X V hX hV 0 4 4 rfl (by omega)) (Ev.ite_pos (by rw [show cl 0 (-4) 4 = 0 from rfl, mergeN_all _ V hV]) ?_)
  exact Ev.bind awake_ev (Ev.now _)
end Go.Proofs.Ytbafbfgmldbhiaa.Pure

