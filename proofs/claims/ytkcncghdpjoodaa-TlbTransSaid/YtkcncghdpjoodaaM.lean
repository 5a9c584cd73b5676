/- Plain arithmetic of words of 32 bits: sums of bits, shifts, masks; no program in sight. -/
import Derived.Test.YtkcncghdpjoodaaWMore
import Derived.Laws.BitsAllLaws
import Derived.OpenShut
namespace Go.Proofs.Ytkcncghdpjoodaa.M
open Go.RowKit Go.Proofs.YtkcncghdpjoodaaW.PrintWords Go.Proofs.YtkcncghdpjoodaaW.PrintMore

theorem Ev.ite_pos {α : Type} {c : Prop} [Decidable c] {g f : Nat → Option α} {r : α} (h : c) (k : Ev g r) : Ev (fun n => if c then g n else f n) r := by simpa only [if_pos h] using k
theorem Ev.ite_neg {α : Type} {c : Prop} [Decidable c] {g f : Nat → Option α} {r : α} (h : ¬ c) (k : Ev f r) : Ev (fun n => if c then g n else f n) r := by simpa only [if_neg h] using k
theorem Ev.bind_some {α β : Type} {o : Option α} {f : Nat → α → Option β} {a : α} {r : β} (h : o = some a) (k : Ev (fun n => f n a) r) : Ev (fun n => o.bind (f n)) r := by simpa only [h, Option.bind_some] using k
theorem w64 {n : Int} (h1 : -9223372036854775808 ≤ n) (h2 : n < 9223372036854775808) : wrap64 n = n := by unfold wrap64; omega
theorem wrap_u64 (n : Int) : IntKind.u64.wrap n = n % 18446744073709551616 := by simp [IntKind.wrap, IntKind.bits, IntKind.signed]
theorem w64n {n : Nat} (h : n < 9223372036854775808) : wrap64 (n : Int) = (n : Int) := w64 (by omega) (by omega)
theorem wf_u32 {n : Int} (h : (Lit.int .u32 n).wf = true) : ∃ m : Nat, n = (m : Int) ∧ m < 2 ^ 32 := by
  have h := bounds_u32 h
  exact ⟨n.toNat, by omega, by omega⟩
/-- A number brought between two others. -/
def cl (n lo hi : Int) : Int := if n < lo then lo else if n > hi then hi else n
theorem mnmx (n lo hi : Int) (h : lo ≤ hi) : mn (mx n lo) hi = cl n lo hi := by
  unfold mn mx cl; repeat' split
  all_goals omega
theorem cl_bd (n lo hi : Int) (h : lo ≤ hi) : lo ≤ cl n lo hi ∧ cl n lo hi ≤ hi := by
  unfold cl; repeat' split
  all_goals omega
/-- The number of the bits that f tells, below n. -/
def sumB (f : Nat → Bool) : Nat → Nat
  | 0 => 0
  | n + 1 => sumB f n + (f n).toNat * 2 ^ n
theorem sumB_congr {f g : Nat → Bool} {n : Nat} (h : ∀ i, i < n → f i = g i) : sumB f n = sumB g n := by
  induction n with
  | zero => rfl
  | succ n ih => rw [sumB, sumB, ih (fun i hi => h i (by omega)), h n (by omega)]
theorem pow_le32 {n : Nat} (h : n ≤ 32) : 2 ^ n ≤ 4294967296 := Nat.le_trans (Nat.pow_le_pow_right (by decide) h) (by decide)
theorem lt32_of_testBit {x : Nat} (h : ∀ i, 32 ≤ i → x.testBit i = false) : x < 2 ^ 32 := Nat.lt_pow_two_of_testBit x h

def fieldN (x hi lo : Nat) : Nat := if hi < lo then 0 else x / 2 ^ lo % 2 ^ (hi - lo + 1)
def putN (x hi lo v : Nat) : Nat := sumB (fun i => if lo ≤ i ∧ i ≤ hi then v.testBit (i - lo) else x.testBit i) 32
def maskN (hi lo : Nat) : Nat := if hi < lo then 0 else (2 ^ (hi - lo + 1) - 1) * 2 ^ lo

theorem maskN_testBit (hi lo i : Nat) : (maskN hi lo).testBit i = decide (lo ≤ i ∧ i ≤ hi) := by
  unfold maskN
  split
  · simp; omega
  · rw [← Nat.shiftLeft_eq, Nat.testBit_shiftLeft, Nat.testBit_two_pow_sub_one]
    by_cases h1 : lo ≤ i <;> by_cases h2 : i ≤ hi <;> simp [h1, h2] <;> omega
theorem maskN_lt {hi lo : Nat} (h : hi ≤ 31) : maskN hi lo < 2 ^ 32 := by
  apply lt32_of_testBit
  intro i hi'; rw [maskN_testBit]; simp; omega
theorem fieldN_testBit (x hi lo i : Nat) : (fieldN x hi lo).testBit i = (decide (lo + i ≤ hi) && x.testBit (lo + i)) := by
  unfold fieldN; split
  · simp; intro h; omega
  · rw [Nat.testBit_mod_two_pow, Nat.testBit_div_two_pow, Nat.add_comm i lo]
    congr 1
    simp; omega
theorem field_mask (x hi lo : Nat) : (x &&& maskN hi lo) / 2 ^ lo = fieldN x hi lo := by
  apply Nat.eq_of_testBit_eq; intro i
  rw [fieldN_testBit, Nat.testBit_div_two_pow, Nat.testBit_and, maskN_testBit, Nat.add_comm i lo, Bool.and_comm]
  simp
/-! Lists that are told by a function of the place. -/
theorem rd_nat (l : List Int) (i : Nat) : rd l (i : Int) = l.getD i 0 := by unfold rd; simp
/-- Bytes that are bytes. -/
def Byt (l : List Int) : Prop := ∀ x ∈ l, 0 ≤ x ∧ x ≤ 255
theorem byt_of {l : List Int} (h : ∀ x ∈ l, (Lit.int .u8 x).wf = true) : Byt l := fun x hx => bounds_u8 (h x hx)
theorem byt_rd {l : List Int} (h : Byt l) (i : Int) : 0 ≤ rd l i ∧ rd l i ≤ 255 := by
  unfold rd
  rw [List.getD_eq_getElem?_getD]
  rcases Nat.lt_or_ge i.toNat l.length with hl | hl
  · rw [List.getElem?_eq_getElem hl]; exact h _ (List.getElem_mem hl)
  · rw [List.getElem?_eq_none hl]; simp
theorem byt_getD {l : List Int} (h : Byt l) (i : Nat) : 0 ≤ l.getD i 0 ∧ l.getD i 0 ≤ 255 := by have := byt_rd h (i : Int); rwa [rd_nat] at this
theorem byt_take {l : List Int} (h : Byt l) (n : Nat) : Byt (l.take n) := fun x hx => h x (List.mem_of_mem_take hx)
theorem byt_drop {l : List Int} (h : Byt l) (n : Nat) : Byt (l.drop n) := fun x hx => h x (List.mem_of_mem_drop hx)
/-- The number that n bytes are, the lowest first. -/
def leN (f : Nat → Int) : Nat → Nat
  | 0 => 0
  | n + 1 => leN f n + (f n).toNat * 2 ^ (8 * n)
theorem leN_lt {f : Nat → Int} {n : Nat} (h : ∀ i, i < n → 0 ≤ f i ∧ f i ≤ 255) : leN f n < 2 ^ (8 * n) := by
  induction n with
  | zero => simp [leN]
  | succ n ih =>
    have h1 := ih (fun i hi => h i (by omega))
    have h2 := h n (by omega)
    rw [leN, show 8 * (n + 1) = 8 * n + 8 by omega, Nat.pow_add]
    have h3 : (f n).toNat * 2 ^ (8 * n) ≤ 255 * 2 ^ (8 * n) := Nat.mul_le_mul_right _ (by omega)
    omega
theorem leN_congr {f g : Nat → Int} {n : Nat} (h : ∀ i, i < n → f i = g i) : leN f n = leN g n := by
  induction n with
  | zero => rfl
  | succ n ih => rw [leN, leN, ih (fun i hi => h i (by omega)), h n (by omega)]
end Go.Proofs.Ytkcncghdpjoodaa.M

