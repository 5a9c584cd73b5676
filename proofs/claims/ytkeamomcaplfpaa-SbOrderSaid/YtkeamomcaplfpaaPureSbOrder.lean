/- What the functions of package bits and of its reference compute, in natural numbers. -/
import Derived.Test.YtkeamomcaplfpaaPSbOrderx4
import Derived.Test.YtkeamomcaplfpaaM
import Derived.Test.YtkeamomcaplfpaaWfSbOrder
namespace Go.Proofs.Ytkeamomcaplfpaa.PSbOrder
open Go.RowKit Go.Proofs.YtkeamomcaplfpaaW.PrintWords Go.Proofs.YtkeamomcaplfpaaW.PrintMore Go.Proofs.Ytkeamomcaplfpaa.M
set_option linter.unusedVariables false
set_option linter.unusedSimpArgs false
theorem clamp_f (n lo hi : Int) (h : lo ≤ hi) : bits_clamp.f n lo hi = some (cl n lo hi) := by unfold bits_clamp.f; rw [mnmx n lo hi h]
theorem sameBytes_l0 (a b : List Int) (hl : a.length = b.length) (hm : a.length ≤ 4611686018427387904) (d : Nat) : ∀ i : Nat, i + d = a.length → (∀ j, j < i → a.getD j 0 = b.getD j 0) →
    Ev (fun k => cotterelsame_Bytes.l0 k a b (i : Int)) (decide (a = b)) := by
  induction d with
  | zero =>
    intro i hi h
    have e : a = b := by rw [tab_of a, tab_of b, ← hl]; exact tab_congr fun j hj => h j (by omega)
    refine Ev.step (fun k => cotterelsame_Bytes.l0.eq_2 ..) (Ev.ite_neg (by omega) (Ev.step (fun k => cotterelsame_Bytes.j1.eq_2 ..) (Ev.ite_neg (by decide) ?_)))
    rw [decide_eq_true e]; exact Ev.now _
  | succ d ih =>
    intro i hi h
    refine Ev.step (fun k => cotterelsame_Bytes.l0.eq_2 ..) (Ev.ite_pos (by omega) (Ev.step (fun k => cotterelsame_Bytes.j1.eq_2 ..) (Ev.ite_pos (by simp; omega) (Ev.ite_pos (by omega) (Ev.ite_pos (by omega) (Ev.ite_pos (by omega) ?_))))))
    rw [rd_nat, rd_nat]
    by_cases e : a.getD i 0 = b.getD i 0
    · refine Ev.ite_pos e ?_
      rw [w64 (by omega) (by omega)]
      exact ih (i + 1) (by omega) (fun j hj => by
        rcases Nat.lt_or_eq_of_le (Nat.lt_succ_iff.1 hj) with hj | rfl
        · exact h j hj
        · exact e)
    · refine Ev.ite_neg e ?_
      rw [decide_eq_false (fun h => e (by rw [h]))]; exact Ev.now _
theorem sameBytes_ev (a b : List Int) (hm : a.length ≤ 4611686018427387904) : Ev (fun k => cotterelsame_Bytes.f k a b) (decide (a = b)) := by
  unfold cotterelsame_Bytes.f
  by_cases hl : a.length = b.length
  · exact Ev.ite_pos (by omega) (sameBytes_l0 a b hl hm a.length 0 (by omega) (by simp))
  · refine Ev.ite_neg (by omega) ?_
    rw [decide_eq_false (fun h => hl (by rw [h]))]; exact Ev.now _
theorem Bytes_l0 (X n : Nat) (hX : X < 2 ^ 32) (hn : n ≤ 4) (d : Nat) : ∀ i : Nat, i + d = n → Ev (fun k => bits_Bytes.l0 k (X : Int) (tab n (fun j => if j < i then byteN X j else 0)) (n : Int) (i : Int)) (tab n (byteN X)) := by
  induction d with
  | zero =>
    intro i hi
    refine Ev.step (fun k => bits_Bytes.l0.eq_2 ..) (Ev.ite_neg (by omega) ?_)
    rw [tab_congr (g := byteN X) (fun j hj => by rw [if_pos (by omega)])]; exact Ev.now _
  | succ d ih =>
    intro i hi
    refine Ev.step (fun k => bits_Bytes.l0.eq_2 ..) (Ev.ite_pos (by omega) ?_)
    rw [w64 (n := 8 * (i : Int)) (by omega) (by omega), w64 (by omega) (by omega), tab_length]
    refine Ev.ite_pos (by omega) (Ev.ite_pos (by omega) (Ev.ite_pos (by omega) ?_))
    have e : shr .u32 (X : Int) (8 * (i : Int)) % 256 = byteN X i := by
      unfold shr byteN
      rw [show (8 * (i : Int)).toNat = 8 * i by omega, Nat.min_eq_left (by have : IntKind.bits .u32 = 32 := rfl; omega)]
      rw [show ((2 : Int) ^ (8 * i)) = ((2 ^ (8 * i) : Nat) : Int) by simp, ← Int.natCast_ediv]
      omega
    rw [e, Int.toNat_natCast, tab_set]
    have := ih (i + 1) (by omega)
    rw [tab_congr (g := fun j => if j < i + 1 then byteN X j else 0)]
    · exact this
    · intro j hj
      by_cases h1 : j = i
      · subst h1; simp
      · rw [if_neg h1]
        by_cases h2 : j < i
        · rw [if_pos h2, if_pos (by omega)]
        · rw [if_neg h2, if_neg (by omega)]
theorem Bytes_ev (X : Nat) (hX : X < 2 ^ 32) (n : Int) (m : Nat) (hm : cl n 0 4 = (m : Int)) (h : m ≤ 4) : Ev (fun k => bits_Bytes.f k (X : Int) n) (tab m (byteN X)) := by
  refine Ev.bind_some (clamp_f n 0 4 (by omega)) ?_
  rw [hm]
  refine Ev.ite_pos (by omega) (Ev.ite_pos (by omega) (Ev.bind_some rfl ?_))
  rw [Int.toNat_natCast, tab_rep, tab_length]
  exact Bytes_l0 X m hX h m 0 (by omega)

/- What the functions of package mem and of its reference compute, in natural numbers and lists. -/
/-- The cause why there is no such place. -/
def ckN (n A : Nat) (s : Int) : Int := if (s = 1 ∨ s = 2 ∨ s = 4) ∧ (A : Int) + s ≤ n then 0 else 9
theorem ckN_cases (n A : Nat) (s : Int) : (ckN n A s = 0 ∧ ∃ m : Nat, s = (m : Int) ∧ (m = 1 ∨ m = 2 ∨ m = 4) ∧ A + m ≤ n) ∨ ckN n A s = 9 := by
  unfold ckN
  split
  · rename_i h
    exact .inl ⟨rfl, s.toNat, by omega, by omega, by omega⟩
  · exact .inr rfl
theorem Check_f (l : List Int) (hl : l.length ≤ 4611686018427387904) (A : Nat) (hA : A < 2 ^ 32) (s : Int) : mem_Check.f l (A : Int) s = some (ckN l.length A s) := by
  unfold mem_Check.f ckN
  simp only [wrap_u64]
  by_cases h1 : s = 1
  · subst h1
    rw [if_pos rfl]
    by_cases c : A + 1 ≤ l.length
    · rw [if_neg (by omega), if_pos ⟨by omega, by omega⟩]
    · rw [if_pos (by omega), if_neg (by omega)]
  rw [if_neg h1]
  by_cases h2 : s = 2
  · subst h2
    rw [if_pos rfl]
    by_cases c : A + 2 ≤ l.length
    · rw [if_neg (by omega), if_pos ⟨by omega, by omega⟩]
    · rw [if_pos (by omega), if_neg (by omega)]
  rw [if_neg h2]
  by_cases h3 : s = 4
  · subst h3
    rw [if_pos rfl]
    by_cases c : A + 4 ≤ l.length
    · rw [if_neg (by omega), if_pos ⟨by omega, by omega⟩]
    · rw [if_pos (by omega), if_neg (by omega)]
  rw [if_neg h3, if_neg (by omega)]
/-- Memory in which m bytes from A on are V's. -/
def wrL (l : List Int) (A m V : Nat) : List Int := tab l.length (fun j => if A ≤ j ∧ j < A + m then byteN V (j - A) else l.getD j 0)
theorem wrL_length (l : List Int) (A m V : Nat) : (wrL l A m V).length = l.length := tab_length _ _
theorem wrL_zero (l : List Int) (A V : Nat) : wrL l A 0 V = l := by
  unfold wrL
  conv => rhs; rw [tab_of l]
  exact tab_congr fun j hj => if_neg (by omega)
theorem byt_wrL {l : List Int} (hb : Byt l) (A m V : Nat) : Byt (wrL l A m V) := byt_tab fun j _ => by
  split
  · exact byteN_bd _ _
  · exact byt_getD hb j
theorem wrL_getD (l : List Int) (A m V j : Nat) (hj : j < l.length) : (wrL l A m V).getD j 0 = if A ≤ j ∧ j < A + m then byteN V (j - A) else l.getD j 0 := by
  rw [← rd_nat]; unfold wrL; rw [rd_tab hj]
theorem splice_tab (l : List Int) (A m : Nat) (f : Nat → Int) (h : A + m ≤ l.length) : l.take A ++ tab m f ++ l.drop (A + m) = tab l.length (fun j => if A ≤ j ∧ j < A + m then f (j - A) else l.getD j 0) := by
  apply List.ext_getElem
  · simp [tab_length]; omega
  · intro j h1 h2
    rw [tab_length] at h2
    have e : (tab l.length (fun j => if A ≤ j ∧ j < A + m then f (j - A) else l.getD j 0))[j]'(by rw [tab_length]; exact h2) = if A ≤ j ∧ j < A + m then f (j - A) else l.getD j 0 := by simp [tab]
    rw [e]
    by_cases c1 : j < A
    · rw [if_neg (by omega), List.getElem_append_left (by simp [tab_length]; omega), List.getElem_append_left (by simp; omega)]
      simp [List.getD, h2]
    · by_cases c2 : j < A + m
      · rw [if_pos ⟨by omega, c2⟩, List.getElem_append_left (by simp [tab_length]; omega), List.getElem_append_right (by simp; omega)]
        simp [tab, Nat.min_eq_left (show A ≤ l.length by omega)]
      · rw [if_neg (by omega), List.getElem_append_right (by simp [tab_length]; omega)]
        simp [tab_length, List.getD, h2, Nat.min_eq_left (show A ≤ l.length by omega)]
        congr 1; omega
theorem Write_ev (l : List Int) (hl : l.length ≤ 140737488355327) (A V : Nat) (hA : A < 2 ^ 32) (hV : V < 2 ^ 32) (s : Int) :
    Ev (fun k => mem_Write.f k l (A : Int) s (V : Int)) (if ckN l.length A s = 0 then (wrL l A s.toNat V, 0) else ([], ckN l.length A s)) := by
  refine Ev.bind_some (Check_f l (by omega) A hA s) ?_
  rcases ckN_cases l.length A s with ⟨h0, m, rfl, hm, hle⟩ | h9
  · rw [if_pos h0]
    refine Ev.ite_pos h0 (Ev.bind_some (show slices_Clone_byte_byte.f l = some l from if_pos (by omega)) (Ev.bind (Bytes_ev V hV (m : Int) m (cl_id (by omega) (by omega)) (by omega)) ?_))
    rw [Int.toNat_natCast, Int.toNat_natCast, tab_length, Nat.min_eq_left (show m ≤ l.length - A by omega)]
    refine Ev.ite_pos (by omega) (Ev.ite_pos (by omega) ?_)
    rw [List.take_of_length_le (l := tab m (byteN V)) (by rw [tab_length]; omega), splice_tab l A m (byteN V) hle]
    exact Ev.now _
  · rw [if_neg (by omega)]
    exact Ev.ite_neg (by omega) (Ev.now _)

def W32 (x : S32) : Prop := (Lit.int .u32 x.f0).wf = true ∧ (Lit.int .u32 x.f1).wf = true ∧ (Lit.int .i64 x.f2).wf = true
/-- Where an access ends. -/
theorem end_f (A : Nat) (hA : A < 2 ^ 32) (n : Int) : sq_end.f (A : Int) n = some ((A : Int) + cl n 0 4) := by
  unfold sq_end.f
  have hc := cl_bd n 0 4 (by decide)
  rw [mnmx n 0 4 (by decide), wrap_u64, wrap_u64, Int.emod_eq_of_lt (a := (A : Int)) (by omega) (by omega), Int.emod_eq_of_lt (by omega) (by omega)]
def ovI (A : Nat) (n : Int) (B : Nat) (m : Int) : Bool := decide (mx (A : Int) B < mn ((A : Int) + cl n 0 4) ((B : Int) + cl m 0 4))
theorem ovI_iff (A : Nat) (n : Int) (B : Nat) (m : Int) : ovI A n B m = true ↔ (A : Int) < B + cl m 0 4 ∧ (B : Int) < A + cl n 0 4 ∧ 0 < cl n 0 4 ∧ 0 < cl m 0 4 := by
  unfold ovI mx mn
  rw [decide_eq_true_iff]
  repeat' split
  all_goals omega
theorem ovI_symm (A : Nat) (n : Int) (B : Nat) (m : Int) : ovI A n B m = ovI B m A n := by
  rw [Bool.eq_iff_iff, ovI_iff, ovI_iff]; omega
theorem Overlap_f (A B : Nat) (hA : A < 2 ^ 32) (hB : B < 2 ^ 32) (n m : Int) : sq_Overlap.f (A : Int) n (B : Int) m = some (ovI A n B m) := by
  unfold sq_Overlap.f ovI
  rw [end_f A hA n, Option.bind_some, end_f B hB m, Option.bind_some, wrap_u64, wrap_u64, Int.emod_eq_of_lt (a := (A : Int)) (by omega) (by omega), Int.emod_eq_of_lt (a := (B : Int)) (by omega) (by omega)]
theorem sbw {l : List S32} (h : ∀ y ∈ l, W32 y) {i : Nat} (hi : i < l.length) : ∃ A V : Nat, (rd_T32 l (i : Int)).f0 = (A : Int) ∧ A < 2 ^ 32 ∧ (rd_T32 l (i : Int)).f1 = (V : Int) ∧ V < 2 ^ 32 := by
  have hm : rd_T32 l (i : Int) ∈ l := by
    unfold rd_T32
    rw [Int.toNat_natCast, List.getD_eq_getElem?_getD, List.getElem?_eq_getElem hi]
    exact List.getElem_mem hi
  obtain ⟨h0, h1, _⟩ := h _ hm
  obtain ⟨A, e, hA⟩ := wf_u32 h0
  obtain ⟨V, e2, hV⟩ := wf_u32 h1
  exact ⟨A, V, e, hA, e2, hV⟩
def hasN (l : List S32) (A : Nat) (n : Int) (i : Nat) : Nat → Bool
  | 0 => false
  | d + 1 => ovI (rd_T32 l (i : Int)).f0.toNat (rd_T32 l (i : Int)).f2 A n || hasN l A n (i + 1) d
theorem Has_l (l : List S32) (hw : ∀ y ∈ l, W32 y) (hL : l.length < 2 ^ 62) (A : Nat) (hA : A < 2 ^ 32) (n : Int) (d : Nat) : ∀ i, i + d = l.length → Ev (fun k => sb_Has.l0 k (A : Int) n l (l.length : Int) (i : Int)) (hasN l A n i d) := by
  induction d with
  | zero => intro i hi; exact Ev.step (fun k => sb_Has.l0.eq_2 ..) (Ev.ite_neg (by omega) (Ev.now _))
  | succ d ih =>
    intro i hi
    obtain ⟨B, V, e, hB, _, _⟩ := sbw hw (show i < l.length by omega)
    refine Ev.step (fun k => sb_Has.l0.eq_2 ..) (Ev.ite_pos (by omega) (Ev.ite_pos (by omega) (Ev.ite_pos (by omega) ?_)))
    unfold hasN
    rw [e, Int.toNat_natCast]
    refine Ev.bind_some (Overlap_f B A hB hA _ _) ?_
    cases h : ovI B (rd_T32 l (i : Int)).f2 A n with
    | true => exact Ev.ite_pos rfl (Ev.now _)
    | false =>
      refine Ev.ite_neg (by decide) ?_
      rw [w64 (by omega) (by omega)]
      exact ih (i + 1) (by omega)
theorem Has_ev (l : List S32) (hw : ∀ y ∈ l, W32 y) (hL : l.length < 2 ^ 62) (A : Nat) (hA : A < 2 ^ 32) (n : Int) : Ev (fun k => sb_Has.f k l (A : Int) n) (hasN l A n 0 l.length) := by
  unfold sb_Has.f
  exact Has_l l hw hL A hA n l.length 0 (by omega)
theorem rdT32 (l : List S32) (i : Nat) : rd_T32 l (i : Int) = l.getD i z32 := by unfold rd_T32; rw [Int.toNat_natCast]
theorem take_snoc (l : List S32) (i : Nat) (h : i < l.length) : l.take i ++ [l.getD i z32] = l.take (i + 1) := by
  rw [List.getD_eq_getElem?_getD, List.getElem?_eq_getElem h, Option.getD_some, List.take_append_getElem]
def putN' (l : List S32) (x : S32) (most : Int) : List S32 × Bool := if (l.length : Int) ≥ cl most 0 8 then (l, false) else (l ++ [x], true)
theorem Put_f (l : List S32) (s A V n : Int) (b : Bool) (most : Int) : sb_Put.f l s A V n b most = some (putN' l ⟨A, V, n⟩ most) := by
  unfold sb_Put.f putN'
  rw [mnmx most 0 8 (by decide)]
  have := cl_bd most 0 8 (by decide)
  split
  · rfl
  · rw [if_pos (by omega)]
def popN (l : List S32) : List S32 × Int × Int × Int × Bool := if l.length = 0 then ([], 0, 0, 0, false) else (l.drop 1, (l.getD 0 z32).f0, (l.getD 0 z32).f1, (l.getD 0 z32).f2, true)
theorem Pop_f (l : List S32) : sb_Pop.f l = some (popN l) := by
  unfold sb_Pop.f popN
  by_cases h : l.length = 0
  · rw [if_pos (by omega), if_pos h]
  · rw [if_neg (by omega), if_neg h, if_pos (by omega), if_pos (by omega), if_pos (by omega), Int.toNat_natCast, List.take_length]
    rfl
/-- Memory behind a store. -/
def stepN (m : List Int) (s : S32) : List Int := if ckN m.length s.f0.toNat s.f2 = 0 then wrL m s.f0.toNat s.f2.toNat s.f1.toNat else m
theorem stepN_length (m : List Int) (s : S32) : (stepN m s).length = m.length := by
  unfold stepN; split
  · exact wrL_length _ _ _ _
  · rfl
def drN (l : List S32) (m : List Int) (i : Nat) : Nat → List Int
  | 0 => m
  | d + 1 => drN l (stepN m (rd_T32 l (i : Int))) (i + 1) d
theorem drN_length (l : List S32) (d : Nat) : ∀ m i, (drN l m i d).length = m.length := by
  induction d with
  | zero => intro m i; rfl
  | succ d ih => intro m i; unfold drN; rw [ih, stepN_length]
theorem Drain_l (l : List S32) (hw : ∀ y ∈ l, W32 y) (hL : l.length < 2 ^ 62) (d : Nat) : ∀ (m : List Int) i, m.length < 1000000 → i + d = l.length → Ev (fun k => sb_Drain.l0 k m l (l.length : Int) (i : Int)) (drN l m i d) := by
  induction d with
  | zero => intro m i hm hi; exact Ev.step (fun k => sb_Drain.l0.eq_2 ..) (Ev.ite_neg (by omega) (Ev.now _))
  | succ d ih =>
    intro m i hm hi
    obtain ⟨A, V, e, hA, e2, hV⟩ := sbw hw (show i < l.length by omega)
    have I := ih (stepN m (rd_T32 l (i : Int))) (i + 1) (by rw [stepN_length]; exact hm) (by omega)
    rw [show (((i + 1 : Nat) : Int)) = (i : Int) + 1 by omega] at I
    refine Ev.step (fun k => sb_Drain.l0.eq_2 ..) (Ev.ite_pos (by omega) (Ev.ite_pos (by omega) (Ev.ite_pos (by omega) ?_)))
    unfold drN
    rw [w64 (by omega) (by omega)]
    unfold stepN at I ⊢
    rw [e, e2, Int.toNat_natCast, Int.toNat_natCast] at I ⊢
    refine Ev.bind (Write_ev m (by omega) A V hA hV _) ?_
    by_cases c : ckN m.length A (rd_T32 l (i : Int)).f2 = 0
    · rw [if_pos c] at I
      rw [if_pos c, if_pos c]
      exact Ev.ite_pos rfl I
    · rw [if_neg c] at I
      rw [if_neg c, if_neg c]
      exact Ev.ite_neg c I
theorem Drain_ev (l : List S32) (hw : ∀ y ∈ l, W32 y) (hL : l.length < 2 ^ 62) (m : List Int) (hm : m.length < 1000000) : Ev (fun k => sb_Drain.f k l m) (drN l m 0 l.length) := by
  unfold sb_Drain.f
  exact Drain_l l hw hL l.length m 0 hm (by omega)
def conv (s : S28) : S32 := ⟨s.f1, s.f2, s.f3⟩
def drL : List S32 → List Int → List Int
  | [], m => m
  | s :: t, m => drL t (stepN m s)
theorem drN_drL (l : List S32) (d : Nat) : ∀ m i, i + d = l.length → drN l m i d = drL (l.drop i) m := by
  induction d with
  | zero => intro m i hi; rw [List.drop_eq_nil_of_le (by omega)]; rfl
  | succ d ih =>
    intro m i hi
    rw [List.drop_eq_getElem_cons (by omega : i < l.length)]
    unfold drN drL
    rw [ih _ _ (by omega)]
    have : rd_T32 l (i : Int) = l[i] := by
      rw [rdT32, List.getD_eq_getElem?_getD, List.getElem?_eq_getElem (by omega), Option.getD_some]
    rw [this]
theorem drL_length (l : List S32) : ∀ m, (drL l m).length = m.length := by
  induction l with
  | nil => intro m; rfl
  | cons s t ih => intro m; unfold drL; rw [ih, stepN_length]
theorem Drain_L (l : List S32) (hw : ∀ y ∈ l, W32 y) (hL : l.length < 2 ^ 62) (m : List Int) (hm : m.length < 1000000) : Ev (fun k => sb_Drain.f k l m) (drL l m) := by
  have := Drain_ev l hw hL m hm
  rw [drN_drL l l.length m 0 (by omega), List.drop_zero] at this
  exact this
theorem conv_w {l : List S28} (h : ∀ y ∈ l, W28 y) : ∀ y ∈ l.map conv, W32 y := by
  intro y hy
  obtain ⟨x, hx, rfl⟩ := List.mem_map.mp hy
  obtain ⟨_, h1, h2, h3, _⟩ := h x hx
  exact ⟨h1, h2, h3⟩
theorem rd28 {l : List S28} {i : Nat} (h : i < l.length) : rd_T28 l (i : Int) = l[i] := by
  unfold rd_T28; rw [Int.toNat_natCast, List.getD_eq_getElem?_getD, List.getElem?_eq_getElem h, Option.getD_some]
theorem ord_l1 (l : List S28) (hw : ∀ y ∈ l, W28 y) (hL : l.length ≤ 8) (ha : Ev (fun k => cotterellaw37_awake.f k) true) (all : List Int) (hal : all.length < 1000000) (d : Nat) :
    ∀ (i : Nat) (now : List Int), i + d = l.length → drL ((l.map conv).drop i) now = all → Ev (fun k => cotterellaw37_SbOrder.l1 k l ((l.map conv).drop i) all now (i : Int)) true := by
  have hW := conv_w hw
  induction d with
  | zero =>
    intro i now hi hn
    have hd : (l.map conv).drop i = [] := List.drop_eq_nil_of_le (by rw [List.length_map]; omega)
    rw [hd] at hn ⊢
    have hn : now = all := hn
    subst hn
    refine Ev.step (fun k => cotterellaw37_SbOrder.l1.eq_2 ..) (Ev.ite_neg (by omega) (Ev.ite_pos (by simp) ?_))
    exact Ev.bind (sameBytes_ev _ _ (by omega)) (Ev.ite_pos (by simp) (Ev.bind ha (Ev.now _)))
  | succ d ih =>
    intro i now hi hn
    have hlt : i < l.length := by omega
    have hltm : i < (l.map conv).length := by rw [List.length_map]; exact hlt
    have hcons : (l.map conv).drop i = conv l[i] :: (l.map conv).drop (i + 1) := by rw [List.drop_eq_getElem_cons hltm, List.getElem_map]
    have hnl : now.length < 1000000 := by rw [← hn, drL_length] at hal; exact hal
    have hWd : ∀ y ∈ (l.map conv).drop i, W32 y := fun y hy => hW y (List.mem_of_mem_drop hy)
    have hdl : ((l.map conv).drop i).length < 2 ^ 62 := by rw [List.length_drop, List.length_map]; omega
    have hdr := Drain_L _ hWd hdl now hnl
    rw [hn] at hdr
    have hpop : popN ((l.map conv).drop i) = ((l.map conv).drop (i + 1), l[i].f1, l[i].f2, l[i].f3, true) := by
      rw [hcons]
      unfold popN
      rw [if_neg (by simp)]
      rfl
    have hwi := hw _ (List.getElem_mem hlt)
    obtain ⟨A, eA, hA⟩ := wf_u32 hwi.2.1
    obtain ⟨V, eV, hV⟩ := wf_u32 hwi.2.2.1
    have hstep : stepN now (conv l[i]) = if ckN now.length A l[i].f3 = 0 then wrL now A l[i].f3.toNat V else now := by
      unfold stepN conv
      dsimp only
      rw [eA, eV, Int.toNat_natCast, Int.toNat_natCast]
    have I := ih (i + 1) (stepN now (conv l[i])) (by omega) (by rw [← hn, hcons]; rfl)
    rw [show (((i + 1 : Nat) : Int)) = (i : Int) + 1 by omega] at I
    refine Ev.step (fun k => cotterellaw37_SbOrder.l1.eq_2 ..) (Ev.ite_pos (by omega) (Ev.bind_some (Pop_f _) ?_))
    rw [hpop, rd28 hlt]
    refine Ev.ite_pos rfl (Ev.ite_pos (by omega) (Ev.ite_pos rfl (Ev.ite_pos rfl (Ev.ite_pos rfl (Ev.bind hdr (Ev.bind (sameBytes_ev _ _ (by omega)) ?_))))))
    rw [show (!decide (all = all)) = false by simp]
    refine Ev.step (fun k => cotterellaw37_SbOrder.j3.eq_2 ..) (Ev.ite_neg (by decide) ?_)
    dsimp only
    rw [w64 (by omega) (by omega), eA, eV]
    refine Ev.bind (Write_ev now (by omega) A V hA hV _) ?_
    rw [hstep] at I
    by_cases c : ckN now.length A l[i].f3 = 0
    · rw [if_pos c] at I
      rw [if_pos c]
      exact Ev.ite_pos rfl I
    · rw [if_neg c] at I
      rw [if_neg c]
      exact Ev.ite_neg c I
theorem ord_l0 (l : List S28) (hw : ∀ y ∈ l, W28 y) (hL : l.length ≤ 8) (ha : Ev (fun k => cotterellaw37_awake.f k) true) (m : List Int) (hm : m.length < 1000000) (d : Nat) :
    ∀ i : Nat, i + d = l.length → Ev (fun k => cotterellaw37_SbOrder.l0 k l m ((l.take i).map conv) (i : Int)) true := by
  induction d with
  | zero =>
    intro i hi
    obtain rfl : i = l.length := by omega
    rw [List.take_length]
    refine Ev.step (fun k => cotterellaw37_SbOrder.l0.eq_2 ..) (Ev.ite_neg (by omega) (Ev.bind (Drain_L _ (conv_w hw) (by rw [List.length_map]; omega) m hm) ?_))
    have := ord_l1 l hw hL ha (drL (l.map conv) m) (by rw [drL_length]; exact hm) l.length 0 m (by omega) (by rw [List.drop_zero])
    rw [List.drop_zero] at this
    exact this
  | succ d ih =>
    intro i hi
    have hlt : i < l.length := by omega
    have I := ih (i + 1) (by omega)
    rw [show (((i + 1 : Nat) : Int)) = (i : Int) + 1 by omega, ← List.take_append_getElem hlt, List.map_append] at I
    refine Ev.step (fun k => cotterellaw37_SbOrder.l0.eq_2 ..) (Ev.ite_pos (by omega) (Ev.ite_pos (by omega) (Ev.bind_some (Put_f _ _ _ _ _ _ _) ?_)))
    have hp : putN' ((l.take i).map conv) ⟨(rd_T28 l (i : Int)).f1, (rd_T28 l (i : Int)).f2, (rd_T28 l (i : Int)).f3⟩ 8 = ((l.take i).map conv ++ List.map conv [l[i]], true) := by
      unfold putN'
      rw [if_neg (by rw [List.length_map, List.length_take]; simp [cl]; omega), rd28 hlt]
      rfl
    rw [hp]
    refine Ev.ite_pos rfl ?_
    rw [w64 (by omega) (by omega)]
    exact I

theorem awake_ev : Ev (fun k => cotterellaw37_awake.f k) true := Ev.of (fun k => cotterellaw37_awake.mono k) (k := 40) (by decide +kernel)
end Go.Proofs.Ytkeamomcaplfpaa.PSbOrder
namespace Go.Proofs.Ytkeamomcaplfpaa.Pure
set_option linter.unusedVariables false
set_option linter.unusedSimpArgs false
open Go.RowKit Go.Proofs.Ytkeamomcaplfpaa.PSbOrder Go.Proofs.YtkeamomcaplfpaaW.PrintWords Go.Proofs.YtkeamomcaplfpaaW.PrintLast Go.Proofs.Ytkeamomcaplfpaa.M
theorem SbOrder : ∀ (x0 : List S28) (x1 : List Int), x0.length ≤ maxLen → (∀ y ∈ x0, W28 y) → x1.length ≤ maxLen → (∀ y ∈ x1, (Lit.int .u8 y).wf = true) → ∃ k, cotterellaw37_SbOrder.f k x0 x1 = some true := by
  intro l m _ hw _ _
  refine Ev.rounds ?_
  unfold cotterellaw37_SbOrder.f
  by_cases hc : (l.length : Int) > 8
  · exact Ev.ite_pos hc (Ev.step (fun k => cotterellaw37_SbOrder.j0.eq_2 ..) (Ev.ite_pos rfl (Ev.bind awake_ev (Ev.now _))))
  refine Ev.ite_neg hc (Ev.step (fun k => cotterellaw37_SbOrder.j0.eq_2 ..) ?_)
  by_cases hd : (m.length : Int) > 1024
  · exact Ev.ite_pos (by simpa using hd) (Ev.bind awake_ev (Ev.now _))
  refine Ev.ite_neg (by simpa using hd) ?_
  exact ord_l0 l hw (by omega) awake_ev m (by omega) l.length 0 (by omega)

