/- Plain arithmetic of words of 32 bits: sums of bits, shifts, masks; no program in sight. -/
import Derived.Test.YtmkipjmadmjfaaaWMore
import Derived.Laws.BitsAllLaws
import Derived.OpenShut
namespace Go.Proofs.Ytmkipjmadmjfaaa.M
open Go.RowKit Go.Proofs.YtmkipjmadmjfaaaW.PrintWords Go.Proofs.YtmkipjmadmjfaaaW.PrintMore

theorem Ev.ite_pos {α : Type} {c : Prop} [Decidable c] {g f : Nat → Option α} {r : α} (h : c) (k : Ev g r) : Ev (fun n => if c then g n else f n) r := by simpa only [if_pos h] using k
theorem Ev.ite_neg {α : Type} {c : Prop} [Decidable c] {g f : Nat → Option α} {r : α} (h : ¬ c) (k : Ev f r) : Ev (fun n => if c then g n else f n) r := by simpa only [if_neg h] using k
theorem Ev.bind_some {α β : Type} {o : Option α} {f : Nat → α → Option β} {a : α} {r : β} (h : o = some a) (k : Ev (fun n => f n a) r) : Ev (fun n => o.bind (f n)) r := by simpa only [h, Option.bind_some] using k
theorem Ev.eq {α : Type} {o : Option α} {r : α} (h : o = some r) : Ev (fun _ => o) r := ⟨0, fun _ _ => h⟩
theorem w64 {n : Int} (h1 : -9223372036854775808 ≤ n) (h2 : n < 9223372036854775808) : wrap64 n = n := by unfold wrap64; omega
theorem wrap_u64 (n : Int) : IntKind.u64.wrap n = n % 18446744073709551616 := by simp [IntKind.wrap, IntKind.bits, IntKind.signed]
theorem tmod_bd (n : Int) : -32 < Int.tmod n 32 ∧ Int.tmod n 32 < 32 ∧ Int.tmod n 32 % 32 = n % 32 := by
  rcases Int.le_total 0 n with h | h
  · rw [Int.tmod_eq_emod_of_nonneg h]; omega
  · have e : Int.tmod n 32 = -((-n) % 32) := by
      have := Int.neg_tmod (-n) 32
      rw [Int.neg_neg] at this
      rw [this, Int.tmod_eq_emod_of_nonneg (by omega)]
    rw [e]; omega
theorem w64n {n : Nat} (h : n < 9223372036854775808) : wrap64 (n : Int) = (n : Int) := w64 (by omega) (by omega)
theorem wf_u32 {n : Int} (h : (Lit.int .u32 n).wf = true) : ∃ m : Nat, n = (m : Int) ∧ m < 2 ^ 32 := by
  have h := bounds_u32 h
  exact ⟨n.toNat, by omega, by omega⟩
theorem wf_i64 {n : Int} (h : (Lit.int .i64 n).wf = true) : -9223372036854775808 ≤ n ∧ n ≤ 9223372036854775807 := bounds_i64 h
/-- A number brought between two others. -/
def cl (n lo hi : Int) : Int := if n < lo then lo else if n > hi then hi else n
theorem mnmx (n lo hi : Int) (h : lo ≤ hi) : mn (mx n lo) hi = cl n lo hi := by
  unfold mn mx cl; repeat' split
  all_goals omega
theorem cl_bd (n lo hi : Int) (h : lo ≤ hi) : lo ≤ cl n lo hi ∧ cl n lo hi ≤ hi := by
  unfold cl; repeat' split
  all_goals omega
theorem cl_nat (n : Int) (lo hi : Nat) (h : lo ≤ hi) : ∃ m : Nat, cl n lo hi = (m : Int) ∧ lo ≤ m ∧ m ≤ hi := by
  have := cl_bd n lo hi (by omega)
  exact ⟨(cl n lo hi).toNat, by omega, by omega, by omega⟩
theorem cl_id {n lo hi : Int} (h1 : lo ≤ n) (h2 : n ≤ hi) : cl n lo hi = n := by unfold cl; rw [if_neg (by omega), if_neg (by omega)]
theorem cl_cl (n lo hi : Int) (h : lo ≤ hi) : cl (cl n lo hi) lo hi = cl n lo hi := cl_id (cl_bd n lo hi h).1 (cl_bd n lo hi h).2

/-- The number of the bits that f tells, below n. -/
def sumB (f : Nat → Bool) : Nat → Nat
  | 0 => 0
  | n + 1 => sumB f n + (f n).toNat * 2 ^ n
theorem sumB_lt (f : Nat → Bool) (n : Nat) : sumB f n < 2 ^ n := by
  induction n with
  | zero => simp [sumB]
  | succ n ih => rw [sumB, Nat.pow_succ]; cases f n <;> simp <;> omega
theorem sumB_testBit (f : Nat → Bool) (n i : Nat) : (sumB f n).testBit i = (decide (i < n) && f i) := by
  induction n with
  | zero => simp [sumB]
  | succ n ih =>
    rw [sumB, Nat.add_comm, Nat.mul_comm, Nat.testBit_two_pow_mul_add _ (sumB_lt f n)]
    by_cases h : i < n
    · rw [if_pos h, ih]; simp [h]; intro; omega
    · rw [if_neg h]
      by_cases e : i = n
      · subst e; cases f i <;> simp
      · have : 0 < i - n := by omega
        have h2 : ¬ i < n + 1 := by omega
        cases f n <;> simp [h2]
        exact Nat.testBit_lt_two_pow (Nat.lt_of_lt_of_le (by decide : 1 < 2 ^ 1) (Nat.pow_le_pow_right (by decide) this))
theorem sumB_congr {f g : Nat → Bool} {n : Nat} (h : ∀ i, i < n → f i = g i) : sumB f n = sumB g n := by
  induction n with
  | zero => rfl
  | succ n ih => rw [sumB, sumB, ih (fun i hi => h i (by omega)), h n (by omega)]
theorem sumB_id (x n : Nat) : sumB x.testBit n = x % 2 ^ n := by
  apply Nat.eq_of_testBit_eq; intro i
  rw [sumB_testBit, Nat.testBit_mod_two_pow]
theorem bit_toNat (x i : Nat) : x / 2 ^ i % 2 = (x.testBit i).toNat := by
  rw [Nat.testBit_eq_decide_div_mod_eq]
  rcases Nat.mod_two_eq_zero_or_one (x / 2 ^ i) with h | h <;> simp [h]
theorem pow_lt32 {n : Nat} (h : n ≤ 31) : 2 ^ n < 4294967296 := Nat.lt_of_le_of_lt (Nat.pow_le_pow_right (by decide) h) (by decide)
theorem pow_le32 {n : Nat} (h : n ≤ 32) : 2 ^ n ≤ 4294967296 := Nat.le_trans (Nat.pow_le_pow_right (by decide) h) (by decide)
theorem testBit_lt32 {x i : Nat} (h : x < 2 ^ 32) (hi : 32 ≤ i) : x.testBit i = false := Nat.testBit_lt_two_pow (Nat.lt_of_lt_of_le h (Nat.pow_le_pow_right (by decide) hi))
theorem lt32_of_testBit {x : Nat} (h : ∀ i, 32 ≤ i → x.testBit i = false) : x < 2 ^ 32 := Nat.lt_pow_two_of_testBit x h

/-- A bit, at its place: no sum of bits passes 2^32. -/
theorem bit_step (s : Nat → Bool) (i : Nat) (hi : i ≤ 31) : ((((sumB s i : Nat) : Int) + (((((s i).toNat : Nat) : Int) * ((2 ^ i : Nat) : Int)) % 4294967296)) % 4294967296) = ((sumB s (i + 1) : Nat) : Int) := by
  have h1 := sumB_lt s (i + 1)
  have h2 := @pow_le32 (i + 1) (by omega)
  rw [sumB] at h1 ⊢
  rw [← Int.natCast_mul]
  omega

/-- The words' operations, as functions of natural numbers. -/
def zextN (x n : Nat) : Nat := x % 2 ^ n
def fieldN (x hi lo : Nat) : Nat := if hi < lo then 0 else x / 2 ^ lo % 2 ^ (hi - lo + 1)
def putN (x hi lo v : Nat) : Nat := sumB (fun i => if lo ≤ i ∧ i ≤ hi then v.testBit (i - lo) else x.testBit i) 32
def rotN (x n : Nat) : Nat := sumB (fun i => x.testBit ((i + n) % 32)) 32
def sextN (x n : Nat) : Nat := if n = 0 ∨ x.testBit (n - 1) = false then x % 2 ^ n else x % 2 ^ n + (2 ^ 32 - 2 ^ n)
def maskN (hi lo : Nat) : Nat := if hi < lo then 0 else (2 ^ (hi - lo + 1) - 1) * 2 ^ lo

theorem maskN_testBit (hi lo i : Nat) : (maskN hi lo).testBit i = decide (lo ≤ i ∧ i ≤ hi) := by
  unfold maskN
  split
  · simp; omega
  · rw [← Nat.shiftLeft_eq, Nat.testBit_shiftLeft, Nat.testBit_two_pow_sub_one]
    by_cases h1 : lo ≤ i <;> by_cases h2 : i ≤ hi <;> simp [h1, h2] <;> omega
theorem maskN_lt {hi lo : Nat} (h : hi ≤ 31) : maskN hi lo < 2 ^ 32 := by
  apply lt32_of_testBit
  intro i hi'; rw [maskN_testBit]; simp; omega
theorem zextN_lt {x n : Nat} (h : n ≤ 32) : zextN x n < 2 ^ 32 := Nat.lt_of_lt_of_le (Nat.mod_lt _ (Nat.two_pow_pos n)) (Nat.pow_le_pow_right (by decide) h)
theorem fieldN_lt {x hi lo : Nat} (h : hi ≤ 31) : fieldN x hi lo < 2 ^ 32 := by
  unfold fieldN; split
  · decide
  · exact Nat.lt_of_lt_of_le (Nat.mod_lt _ (Nat.two_pow_pos _)) (Nat.pow_le_pow_right (by decide) (by omega))
theorem putN_lt (x hi lo v : Nat) : putN x hi lo v < 2 ^ 32 := sumB_lt _ _
theorem rotN_lt (x n : Nat) : rotN x n < 2 ^ 32 := sumB_lt _ _
theorem sextN_lt {x n : Nat} (h : n ≤ 32) : sextN x n < 2 ^ 32 := by
  have h1 : x % 2 ^ n < 2 ^ n := Nat.mod_lt _ (Nat.two_pow_pos n)
  have h2 : 2 ^ n ≤ 2 ^ 32 := Nat.pow_le_pow_right (by decide) h
  unfold sextN; split <;> omega
theorem fieldN_testBit (x hi lo i : Nat) : (fieldN x hi lo).testBit i = (decide (lo + i ≤ hi) && x.testBit (lo + i)) := by
  unfold fieldN; split
  · simp; intro h; omega
  · rw [Nat.testBit_mod_two_pow, Nat.testBit_div_two_pow, Nat.add_comm i lo]
    congr 1
    simp; omega
theorem putN_testBit (x hi lo v i : Nat) : (putN x hi lo v).testBit i = (decide (i < 32) && if lo ≤ i ∧ i ≤ hi then v.testBit (i - lo) else x.testBit i) := sumB_testBit _ _ _
theorem rotN_testBit (x n i : Nat) : (rotN x n).testBit i = (decide (i < 32) && x.testBit ((i + n) % 32)) := sumB_testBit _ _ _

theorem field_mask (x hi lo : Nat) : (x &&& maskN hi lo) / 2 ^ lo = fieldN x hi lo := by
  apply Nat.eq_of_testBit_eq; intro i
  rw [fieldN_testBit, Nat.testBit_div_two_pow, Nat.testBit_and, maskN_testBit, Nat.add_comm i lo, Bool.and_comm]
  simp
theorem put_mask {x hi lo v : Nat} (hx : x < 2 ^ 32) (hh : hi ≤ 31) : (x &&& (4294967295 - maskN hi lo)) ||| ((v * 2 ^ lo % 4294967296) &&& maskN hi lo) = putN x hi lo v := by
  apply Nat.eq_of_testBit_eq; intro i
  have hm := @maskN_lt hi lo hh
  have e : 4294967295 - maskN hi lo = 2 ^ 32 - (maskN hi lo + 1) := by omega
  rw [putN_testBit, Nat.testBit_or, Nat.testBit_and, Nat.testBit_and, e, Nat.testBit_two_pow_sub_succ hm, maskN_testBit]
  rw [show (4294967296 : Nat) = 2 ^ 32 from rfl, Nat.testBit_mod_two_pow, ← Nat.shiftLeft_eq, Nat.testBit_shiftLeft]
  by_cases h : i < 32
  · by_cases h1 : lo ≤ i ∧ i ≤ hi
    · simp [h, h1]
    · simp [h, h1]
  · have := testBit_lt32 hx (Nat.le_of_not_lt h)
    simp [h, this]
theorem and_ones (x n : Nat) : x &&& (2 ^ n - 1) = zextN x n := Nat.and_two_pow_sub_one_eq_mod x n
theorem and_lt32 {x y : Nat} (h : x < 2 ^ 32) : x &&& y < 2 ^ 32 := by rw [Nat.and_comm]; exact Nat.and_lt_two_pow _ h

/-! Lists that are told by a function of the place. -/
def tab (n : Nat) (f : Nat → Int) : List Int := (List.range n).map f
theorem tab_length (n : Nat) (f : Nat → Int) : (tab n f).length = n := by simp [tab]
theorem rd_tab {n : Nat} {f : Nat → Int} {i : Nat} (h : i < n) : rd (tab n f) (i : Int) = f i := by
  unfold rd tab; simp [List.getD, h]
theorem rd_nat (l : List Int) (i : Nat) : rd l (i : Int) = l.getD i 0 := by unfold rd; simp
theorem tab_zero (f : Nat → Int) : tab 0 f = [] := rfl
theorem tab_snoc (n : Nat) (f : Nat → Int) : tab n f ++ [f n] = tab (n + 1) f := by simp [tab, List.range_succ]
theorem tab_congr {n : Nat} {f g : Nat → Int} (h : ∀ i, i < n → f i = g i) : tab n f = tab n g := by
  unfold tab; exact List.map_congr_left fun i hi => h i (List.mem_range.1 hi)
theorem tab_set (n i : Nat) (f : Nat → Int) (v : Int) : (tab n f).set i v = tab n (fun j => if j = i then v else f j) := by
  apply List.ext_getElem
  · simp [tab]
  · intro j h1 h2
    rw [List.getElem_set]
    simp [tab]
    by_cases h : i = j
    · simp [h]
    · rw [if_neg h, if_neg (fun e => h e.symm)]
theorem tab_rep (n : Nat) : List.replicate n (0 : Int) = tab n (fun _ => 0) := by simp [tab, List.map_const']
theorem tab_of (l : List Int) : l = tab l.length (fun i => l.getD i 0) := by
  apply List.ext_getElem
  · simp [tab]
  · intro i h1 h2; simp [tab, List.getD, h1]
theorem tab_mem {n : Nat} {f : Nat → Int} {x : Int} (h : x ∈ tab n f) : ∃ i, i < n ∧ x = f i := by
  unfold tab at h
  obtain ⟨i, hi, rfl⟩ := List.mem_map.1 h
  exact ⟨i, List.mem_range.1 hi, rfl⟩
/-- Bytes that are bytes. -/
def Byt (l : List Int) : Prop := ∀ x ∈ l, 0 ≤ x ∧ x ≤ 255
theorem byt_of {l : List Int} (h : ∀ x ∈ l, (Lit.int .u8 x).wf = true) : Byt l := fun x hx => bounds_u8 (h x hx)
theorem byt_rd {l : List Int} (h : Byt l) (i : Int) : 0 ≤ rd l i ∧ rd l i ≤ 255 := by
  unfold rd
  rw [List.getD_eq_getElem?_getD]
  rcases Nat.lt_or_ge i.toNat l.length with hl | hl
  · rw [List.getElem?_eq_getElem hl]; exact h _ (List.getElem_mem hl)
  · rw [List.getElem?_eq_none hl]; simp
theorem byt_getD {l : List Int} (h : Byt l) (i : Nat) : 0 ≤ l.getD i 0 ∧ l.getD i 0 ≤ 255 := by have := byt_rd h (i : Int); rwa [rd_nat] at this
theorem byt_tab {n : Nat} {f : Nat → Int} (h : ∀ i, i < n → 0 ≤ f i ∧ f i ≤ 255) : Byt (tab n f) := fun x hx => by
  obtain ⟨i, hi, rfl⟩ := tab_mem hx
  exact h i hi
theorem byt_take {l : List Int} (h : Byt l) (n : Nat) : Byt (l.take n) := fun x hx => h x (List.mem_of_mem_take hx)
theorem byt_drop {l : List Int} (h : Byt l) (n : Nat) : Byt (l.drop n) := fun x hx => h x (List.mem_of_mem_drop hx)
/-- The number that n bytes are, the lowest first. -/
def leN (f : Nat → Int) : Nat → Nat
  | 0 => 0
  | n + 1 => leN f n + (f n).toNat * 2 ^ (8 * n)
theorem leN_lt {f : Nat → Int} {n : Nat} (h : ∀ i, i < n → 0 ≤ f i ∧ f i ≤ 255) : leN f n < 2 ^ (8 * n) := by
  induction n with
  | zero => simp [leN]
  | succ n ih =>
    have h1 := ih (fun i hi => h i (by omega))
    have h2 := h n (by omega)
    rw [leN, show 8 * (n + 1) = 8 * n + 8 by omega, Nat.pow_add]
    have h3 : (f n).toNat * 2 ^ (8 * n) ≤ 255 * 2 ^ (8 * n) := Nat.mul_le_mul_right _ (by omega)
    omega
theorem leN_congr {f g : Nat → Int} {n : Nat} (h : ∀ i, i < n → f i = g i) : leN f n = leN g n := by
  induction n with
  | zero => rfl
  | succ n ih => rw [leN, leN, ih (fun i hi => h i (by omega)), h n (by omega)]
/-- Byte i of a number. -/
def byteN (x i : Nat) : Int := ((x / 2 ^ (8 * i) % 256 : Nat) : Int)
theorem byteN_bd (x i : Nat) : 0 ≤ byteN x i ∧ byteN x i ≤ 255 := by unfold byteN; omega
theorem leN_byteN (x n : Nat) : leN (byteN x) n = x % 2 ^ (8 * n) := by
  induction n with
  | zero => simp [leN, Nat.mod_one]
  | succ n ih =>
    rw [leN, ih, show 8 * (n + 1) = 8 * n + 8 by omega, Nat.pow_add, Nat.mod_mul]
    unfold byteN
    rw [Int.toNat_natCast, Nat.mul_comm (x / 2 ^ (8 * n) % 256)]
theorem byteN_leN {f : Nat → Int} {n : Nat} (h : ∀ i, i < n → 0 ≤ f i ∧ f i ≤ 255) {i : Nat} (hi : i < n) : byteN (leN f n) i = f i := by
  induction n with
  | zero => omega
  | succ n ih =>
    have h1 := leN_lt (fun j hj => h j (by omega) : ∀ j, j < n → 0 ≤ f j ∧ f j ≤ 255)
    have h2 := h n (by omega)
    have hp := Nat.two_pow_pos (8 * n)
    unfold byteN
    rw [leN]
    by_cases e : i = n
    · subst e
      rw [Nat.add_mul_div_right _ _ hp, Nat.div_eq_of_lt h1]
      omega
    · have := ih (fun j hj => h j (by omega)) (by omega)
      rw [← this]
      unfold byteN
      have e2 : 8 * n = 8 * i + 8 + (8 * n - 8 * i - 8) := by omega
      rw [e2, Nat.pow_add, Nat.pow_add, ← Nat.mul_assoc, ← Nat.mul_assoc]
      congr 1
      rw [show leN f n + (f n).toNat * 2 ^ (8 * i) * 2 ^ 8 * 2 ^ (8 * n - 8 * i - 8) = leN f n + ((f n).toNat * 2 ^ (8 * n - 8 * i - 8) * 2 ^ 8) * 2 ^ (8 * i) by
        rw [Nat.mul_assoc, Nat.mul_assoc, Nat.mul_assoc, Nat.mul_assoc]; congr 2; rw [Nat.mul_comm (2 ^ 8), ← Nat.mul_assoc, Nat.mul_comm (2 ^ (8 * i)), Nat.mul_assoc]; congr 1; rw [Nat.mul_comm]]
      rw [Nat.add_mul_div_right _ _ (Nat.two_pow_pos _), show (2 : Nat) ^ 8 = 256 from rfl, Nat.add_mul_mod_self_right]
theorem putN_byte (x k v : Nat) (hk : k < 4) (i : Nat) (hi : i < 4) : byteN (putN x (8 * k + 7) (8 * k) v) i = if i = k then byteN v 0 else byteN x i := by
  have key : ∀ y i, byteN y i = ((y / 2 ^ (8 * i) % 2 ^ 8 : Nat) : Int) := fun y i => rfl
  by_cases e : i = k
  · subst e
    rw [if_pos rfl, key, key]
    congr 1
    apply Nat.eq_of_testBit_eq; intro j
    rw [Nat.testBit_mod_two_pow, Nat.testBit_div_two_pow, Nat.testBit_mod_two_pow, putN_testBit, Nat.testBit_div_two_pow]
    by_cases hj : j < 8
    · rw [if_pos (by omega)]; simp [hj, show j + 8 * i < 32 by omega]
    · simp [hj]
  · rw [if_neg e, key, key]
    congr 1
    apply Nat.eq_of_testBit_eq; intro j
    rw [Nat.testBit_mod_two_pow, Nat.testBit_div_two_pow, Nat.testBit_mod_two_pow, putN_testBit, Nat.testBit_div_two_pow]
    by_cases hj : j < 8
    · rw [if_neg (by omega)]; simp [hj, show j + 8 * i < 32 by omega]
    · simp [hj]
theorem eq_of_bytes {x y : Nat} (hx : x < 2 ^ 32) (hy : y < 2 ^ 32) (h : ∀ i, i < 4 → byteN x i = byteN y i) : x = y := by
  have h1 := leN_byteN x 4
  have h2 := leN_byteN y 4
  rw [leN_congr h] at h1
  rw [Nat.mod_eq_of_lt hx] at h1
  rw [Nat.mod_eq_of_lt hy] at h2
  omega
/-- A word in which bytes are others. -/
def mergeN (x v : Nat) (at_ : Int) (size : Nat) : Nat := leN (fun i => if 0 ≤ (i : Int) - at_ ∧ (i : Int) - at_ < size then byteN v ((i : Int) - at_).toNat else byteN x i) 4
theorem mergeN_lt (x v : Nat) (a : Int) (s : Nat) : mergeN x v a s < 2 ^ 32 := by
  have : mergeN x v a s < 2 ^ (8 * 4) := by
    unfold mergeN
    apply leN_lt
    intro i _
    split <;> exact byteN_bd _ _
  exact this
theorem mergeN_all (x v : Nat) (hv : v < 2 ^ 32) : mergeN x v 0 4 = v := by
  have h : mergeN x v 0 4 = leN (byteN v) 4 := by
    unfold mergeN
    refine leN_congr fun i hi => ?_
    rw [if_pos ⟨by omega, by omega⟩]; congr 1
  rw [h, leN_byteN, Nat.mod_eq_of_lt hv]
end Go.Proofs.Ytmkipjmadmjfaaa.M

