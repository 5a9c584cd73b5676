/- What a cache has at a place: both functions. -/
import Derived.Test.YtdkaclgfkgcmpaaBus
namespace Go.Proofs.Ytdkaclgfkgcmpaa.Abs
open Go Go.RowKit Fn
set_option linter.unusedVariables false
set_option linter.unusedSimpArgs false
set_option linter.unnecessarySimpa false
set_option maxRecDepth 100000
set_option maxHeartbeats 1000000
def bytesAt (w : Way) (a n : Nat) : List Int := (w.data.drop a).take n
theorem dataT_map (l : List Int) : dataT l = l.map (fun n => T.int .u8 n) := by
  unfold dataT
  induction l with
  | nil => rfl
  | cons x l ih => rw [List.flatMap_cons, ih]; rfl
theorem byte_at (l : List Way) (hw : ∀ w ∈ l, w.wf) (k : Nat) (hk : k < l.length) (j : Nat) (hj : j < 16) : (l.flatMap Way.enc)[k * 19 + 2 + j]? = ((wayN l k).data[j]?).map (fun n => T.int .u8 n) := by
  have hwk := wayN_wf hw hk
  rw [Nat.add_assoc, way_get l hw k hk (2 + j) (by omega)]
  show (wayN l k).enc[2 + j]? = _
  rw [enc_data, show 2 + j = j + 1 + 1 by omega, List.getElem?_cons_succ, List.getElem?_cons_succ, List.getElem?_append_left (by rw [data_len, hwk.2.2.1.1]; exact hj), dataT_map, List.getElem?_map]
theorem bytes_cut (l : List Way) (hw : ∀ w ∈ l, w.wf) (k : Nat) (hk : k < l.length) (a n : Nat) (h : a + n ≤ 16) : cut (l.flatMap Way.enc) (k * 19 + 2 + a * 1) (n * 1) = dataT (bytesAt (wayN l k) a n) := by
  apply List.ext_getElem?
  intro q
  rw [cut_get, dataT_map, List.getElem?_map]
  unfold bytesAt
  rw [List.getElem?_take, List.getElem?_drop, Nat.mul_one, Nat.mul_one]
  by_cases hq : q < n
  · rw [if_pos hq, if_pos hq, Nat.add_assoc _ a q, byte_at l hw k hk (a + q) (by omega)]
  · rw [if_neg hq, if_neg hq]; rfl

set_option maxHeartbeats 1000000
/-- May the k-th way of set s be? -/
def FineK (c : Cache) (s : Nat) (l : List Way) (k : Nat) : Prop :=
  0 ≤ (wayN l k).age ∧ (wayN l k).age < l.length ∧ (∀ j, j < k → (wayN l j).age ≠ (wayN l k).age) ∧ 0 ≤ (wayN l k).state ∧ (wayN l k).state ≤ 3 ∧ ((wayN l k).state = 0 → wayN l k = aged zeroW (wayN l k).age) ∧ ((wayN l k).state ≠ 0 → seti c (wayN l k).tag.toNat = s ∧ find c (wayN l k).tag.toNat = some k)
def FineP (c : Cache) (s : Nat) (l : List Way) : Prop := 1 ≤ l.length ∧ l.length ≤ 4 ∧ ∀ k, k < l.length → FineK c s l k
theorem eqL_asInt : ∀ x y : List T, eqL x y = true → x.map T.asInt = y.map T.asInt ∨ (∃ z ∈ x, ∀ k n, z ≠ .int k n)
  | [], [], _ => .inl rfl
  | a :: x, b :: y, h => by
    rw [eqL, Bool.and_eq_true] at h
    rcases eqL_asInt x y h.2 with h2 | ⟨z, hz, h2⟩
    · by_cases ha : ∃ k n, a = .int k n
      · obtain ⟨k, n, rfl⟩ := ha
        cases b <;> first | (have h1 := h.1; simp only [eq1, beq_iff_eq] at h1; subst h1; exact .inl (by simp only [List.map_cons, h2, T.asInt]); done) | (exact absurd h.1 (by simp [eq1]))
      · exact .inr ⟨a, List.mem_cons_self .., fun k n e => ha ⟨k, n, e⟩⟩
    · exact .inr ⟨z, List.mem_cons_of_mem _ hz, h2⟩
  | [], _ :: _, h => by simp [eqL] at h
  | _ :: _, [], h => by simp [eqL] at h
theorem dataT_asInt (l : List Int) : (dataT l).map T.asInt = l.map some := by rw [dataT_map, List.map_map]; rfl
theorem map_some_inj : ∀ {x y : List Int}, x.map some = y.map some → x = y
  | [], [], _ => rfl
  | a :: x, b :: y, h => by simp at h; rw [h.1, map_some_inj (x := x) (y := y) (by simpa using h.2)]
  | [], _ :: _, h => by simp at h
  | _ :: _, [], h => by simp at h
theorem fnd_first (l : List Way) (ln : Nat) : ∀ m k j, fnd l ln k m = some j → isAt ln (wayN l j) = true ∧ k ≤ j ∧ ∀ i, k ≤ i → i < j → isAt ln (wayN l i) = false
  | 0, _, _, h => by cases h
  | m + 1, k, j, h => by
    rw [fnd] at h
    by_cases hb : isAt ln ((l[k]?).getD default) = true
    · rw [if_pos hb] at h
      obtain rfl := Option.some.inj h
      exact ⟨hb, Nat.le_refl _, fun i h1 h2 => by omega⟩
    · rw [if_neg hb] at h
      obtain ⟨h1, h2, h3⟩ := fnd_first l ln m (k + 1) j h
      refine ⟨h1, by omega, fun i hi1 hi2 => ?_⟩
      by_cases hik : i = k
      · subst hik; exact (Bool.not_eq_true _).mp hb
      · exact h3 i (by omega) hi2
theorem fnd_has (l : List Way) (ln : Nat) : ∀ m k i, k ≤ i → i < k + m → isAt ln (wayN l i) = true → ∃ j, fnd l ln k m = some j
  | 0, _, _, h1, h2, _ => by omega
  | m + 1, k, i, h1, h2, h => by
    rw [fnd]
    by_cases hb : isAt ln ((l[k]?).getD default) = true
    · exact ⟨k, if_pos hb⟩
    · rw [if_neg hb]
      refine fnd_has l ln m (k + 1) i ?_ (by omega) h
      by_cases hik : i = k
      · subst hik; exact absurd h hb
      · omega

set_option maxHeartbeats 1000000
theorem bfalse {P : Prop} (h : ¬ P) : (false = true ↔ P) := ⟨fun e => (by cases e), fun e => absurd e h⟩
theorem btrue {P : Prop} (h : P) : (true = true ↔ P) := ⟨fun _ => h, fun _ => rfl⟩
theorem fin_bool {F : AFun} {t : Nat} {b : Bool} {P : Bool → Prop} (hF : F.res = [.tmp t]) (hP : P b) {s : List T} {g : Mem} {nx : Nat} (h : rho s (.tmp t) = .bool b) : ∃ v, (∃ b, v = .bool b ∧ P b) ∧ ∃ u ids, resT s g F.res = some u ∧ frz ⟨g, nx⟩ frzDepth u = some (v, ids) :=
  ⟨.bool b, ⟨b, rfl, hP⟩, .bool b, [], by rw [hF]; simp only [resT, resL, resOne, h], rfl⟩
/-- How often an age is among the first k. -/
def cntA (l : List Way) (a : Int) : Nat → Nat
  | 0 => 0
  | k + 1 => cntA l a k + if (wayN l k).age = a then 1 else 0
theorem cntA_le (l : List Way) (a : Int) : ∀ k, cntA l a k ≤ k
  | 0 => Nat.le_refl _
  | k + 1 => by have := cntA_le l a k; rw [cntA]; split <;> omega
def AgesP (l : List Way) : Prop := ∀ a : Nat, a < l.length → cntA l (a : Int) l.length = 1
def agesOut : ACode := match f60.body with | .seq _ (.seq _ (.seq (.seq _ (.block _ (.loop c))) _)) => c | _ => .skip
def agesIn : ACode := match agesOut with | .seq _ (.seq (.block _ (.seq _ (.seq (.seq _ (.block _ (.loop c))) _))) _) => c | _ => .skip
theorem ages_in (f : Bool) (l : List Way) (hw : ∀ w ∈ l, w.wf) (hlm : l.length ≤ 1000) (a : Nat) (Q : AExit → St → Prop)
    (hQe : ∀ st : St, st.s.length = 37 → rho st.s (.tmp 5) = .imm f l.length (l.flatMap Way.enc) → rho st.s (.tmp 6) = .int .i64 (a : Int) → rho st.s (.tmp 7) = .int .i64 (cntA l (a : Int) l.length : Int) → Q (.exit 2) st) :
    ∀ (m : Nat) (st : St), (∃ k : Nat, st.s.length = 37 ∧ rho st.s (.tmp 5) = .imm f l.length (l.flatMap Way.enc) ∧ rho st.s (.tmp 6) = .int .i64 (a : Int) ∧ rho st.s (.tmp 7) = .int .i64 (cntA l (a : Int) k : Int) ∧ rho st.s (.tmp 8) = .int .i64 (k : Int) ∧ k ≤ l.length ∧ m = l.length - k) → W ap (.loop agesIn) st Q := by
  refine W_loop _ ?_
  rintro m st ⟨k, hl, h5, h6, h7, h8, hk, hm⟩
  by_cases hend : k = l.length
  · have hlt : decide ((k : Int) < (l.length : Int)) = false := decide_eq_false (by omega)
    refine W_seq (W_seqn (W_region (fun k => by simp (decide := true) (disch := first | omega | simp (decide := true) only [List.length_set, hl]) only [sims, autos, simprocAttr, h5, h8, hlt]; rfl) ⟨rfl, W_false (by simp (decide := true) (disch := first | omega | simp (decide := true) only [List.length_set, hl]) only [sims, autos, simprocAttr] <;> rfl) (W_exit ?_)⟩))
    refine (.inr ⟨by simp, .inr ⟨by simp, hQe _ ?_ ?_ ?_ ?_⟩⟩)
    rotate_right 1
    · rw [← hend]
      simp (decide := true) (disch := first | omega | simp (decide := true) only [List.length_set, hl]) only [sims, autos, simprocAttr, h7]
    all_goals simp (decide := true) (disch := first | omega | simp (decide := true) only [List.length_set, hl]) only [sims, autos, simprocAttr, hl, h5, h6]
  have hlt : decide ((k : Int) < (l.length : Int)) = true := decide_eq_true (by omega)
  have hkl : k < l.length := by omega
  have hw2 : IntKind.i64.wrap ((k : Int) + 1) = ((k + 1 : Nat) : Int) := by rw [wrap_id (by omega)]; omega
  have hcle := cntA_le l (a : Int) k
  have hw3 : IntKind.i64.wrap ((cntA l (a : Int) k : Int) + 1) = ((cntA l (a : Int) k + 1 : Nat) : Int) := by rw [wrap_id (by omega)]; omega
  have hsucc : cntA l (a : Int) (k + 1) = cntA l (a : Int) k + if (wayN l k).age = (a : Int) then 1 else 0 := rfl
  have hcl := enc_len l hw
  have hag := age_at l hw k hkl
  have hb2 : k * 19 + 19 ≤ l.length * 19 := by omega
  have hb3 : k * 19 + 18 + 1 ≤ l.length * 19 := by omega
  generalize l.flatMap Way.enc = ws at *
  refine W_seqn (W_seqn (W_region (fun k => by simp (decide := true) (disch := first | omega | simp (decide := true) only [List.length_set, hl]) only [sims, autos, simprocAttr, h5, h8, hlt]; rfl) ⟨rfl, W_true (by simp (decide := true) (disch := first | omega | simp (decide := true) only [List.length_set, hl]) only [sims, autos, simprocAttr] <;> rfl) (W_skip ⟨rfl, ?_⟩)⟩))
  by_cases he : (wayN l k).age = (a : Int)
  · have e1 : ((wayN l k).age == (a : Int)) = true := by simp [he]
    rw [if_pos he] at hsucc
    refine W_seqn (W_block (W_seqn (W_region (fun k => by simp (decide := true) (disch := first | omega | simp (decide := true) only [List.length_set, hl]) only [sims, autos, simprocAttr, h5, h6, h8, hkl, hcl, hb2, hb3, hag, e1]; rfl) ⟨rfl, W_true (by simp (decide := true) (disch := first | omega | simp (decide := true) only [List.length_set, hl]) only [sims, autos, simprocAttr] <;> rfl) ?_⟩)))
    refine W_region (fun k => by simp (decide := true) (disch := first | omega | simp (decide := true) only [List.length_set, hl]) only [sims, autos, simprocAttr, h7, hw3]; rfl) (.inr (.inl ⟨by simp, rfl, ?_⟩))
    refine W_region (fun k => by simp (decide := true) (disch := first | omega | simp (decide := true) only [List.length_set, hl]) only [sims, autos, simprocAttr, h8, hw2]; rfl) ?_
    refine (.inl ⟨rfl, l.length - (k + 1), by omega, k + 1, ?_, ?_, ?_, ?_, ?_, by omega, rfl⟩)
    all_goals simp (decide := true) (disch := first | omega | simp (decide := true) only [List.length_set, hl]) only [sims, autos, simprocAttr, hl, h5, h6, hsucc]
  · have e1 : ((wayN l k).age == (a : Int)) = false := beq_eq_false_iff_ne.mpr he
    rw [if_neg he, Nat.add_zero] at hsucc
    refine W_seqn (W_block (W_seqn (W_region (fun k => by simp (decide := true) (disch := first | omega | simp (decide := true) only [List.length_set, hl]) only [sims, autos, simprocAttr, h5, h6, h8, hkl, hcl, hb2, hb3, hag, e1]; rfl) ⟨rfl, W_false (by simp (decide := true) (disch := first | omega | simp (decide := true) only [List.length_set, hl]) only [sims, autos, simprocAttr] <;> rfl) (W_skip (.inr (.inl ⟨by simp, rfl, ?_⟩)))⟩)))
    refine W_region (fun k => by simp (decide := true) (disch := first | omega | simp (decide := true) only [List.length_set, hl]) only [sims, autos, simprocAttr, h8, hw2]; rfl) ?_
    refine (.inl ⟨rfl, l.length - (k + 1), by omega, k + 1, ?_, ?_, ?_, ?_, ?_, by omega, rfl⟩)
    all_goals simp (decide := true) (disch := first | omega | simp (decide := true) only [List.length_set, hl]) only [sims, autos, simprocAttr, hl, h5, h6, h7, hsucc]
theorem ages_out (f : Bool) (l : List Way) (hw : ∀ w ∈ l, w.wf) (hlm : l.length ≤ 1000) (Q : AExit → St → Prop)
    (hQr : ∀ st : St, rho st.s (.tmp 4) = .bool false → ¬ AgesP l → Q .ret st) (hQe : ∀ st : St, st.s.length = 37 → AgesP l → Q (.exit 0) st) :
    ∀ (m : Nat) (st : St), (∃ a : Nat, st.s.length = 37 ∧ rho st.s (.tmp 5) = .imm f l.length (l.flatMap Way.enc) ∧ rho st.s (.tmp 6) = .int .i64 (a : Int) ∧ a ≤ l.length ∧ m = l.length - a ∧ (∀ j, j < a → cntA l (j : Int) l.length = 1)) → W ap (.loop agesOut) st Q := by
  refine W_loop _ ?_
  rintro m st ⟨a, hl, h5, h6, ha, hm, hall⟩
  by_cases hend : a = l.length
  · have hlt : decide ((a : Int) < (l.length : Int)) = false := decide_eq_false (by omega)
    refine W_seq (W_seqn (W_region (fun k => by simp (decide := true) (disch := first | omega | simp (decide := true) only [List.length_set, hl]) only [sims, autos, simprocAttr, h5, h6, hlt]; rfl) ⟨rfl, W_false (by simp (decide := true) (disch := first | omega | simp (decide := true) only [List.length_set, hl]) only [sims, autos, simprocAttr] <;> rfl) (W_exit ?_)⟩))
    refine (.inr ⟨by simp, .inr ⟨by simp, hQe _ ?_ (fun j hj => hall j (by omega))⟩⟩)
    simp (decide := true) (disch := first | omega | simp (decide := true) only [List.length_set, hl]) only [sims, autos, simprocAttr, hl]
  have hlt : decide ((a : Int) < (l.length : Int)) = true := decide_eq_true (by omega)
  have hal : a < l.length := by omega
  have hw2 : IntKind.i64.wrap ((a : Int) + 1) = ((a + 1 : Nat) : Int) := by rw [wrap_id (by omega)]; omega
  refine W_seqn (W_seqn (W_region (fun k => by simp (decide := true) (disch := first | omega | simp (decide := true) only [List.length_set, hl]) only [sims, autos, simprocAttr, h5, h6, hlt]; rfl) ⟨rfl, W_true (by simp (decide := true) (disch := first | omega | simp (decide := true) only [List.length_set, hl]) only [sims, autos, simprocAttr] <;> rfl) (W_skip ⟨rfl, ?_⟩)⟩))
  refine W_seq (W_block ?_)
  refine W_seqn (W_region (fun k => by simp (decide := true) (disch := first | omega | simp (decide := true) only [List.length_set, hl]) only [sims, autos, simprocAttr]; rfl) ⟨rfl, ?_⟩)
  refine W_seqn (W_seqn (W_region (fun k => by simp (decide := true) (disch := first | omega | simp (decide := true) only [List.length_set, hl]) only [sims, autos, simprocAttr]; rfl) ⟨rfl, W_block ?_⟩))
  refine ages_in f l hw hlm a _ (fun st hst h5 h6 h7 => ?_) (l.length - 0) _ ⟨0, ?_, ?_, ?_, ?_, ?_, by omega, rfl⟩
  · have hl := hst
    refine .inl ⟨rfl, rfl, ?_⟩
    by_cases h1 : cntA l (a : Int) l.length = 1
    · have e1 : ((cntA l (a : Int) l.length : Int) != 1) = false := by simp [h1]
      refine W_seqn (W_region (fun k => by simp (decide := true) (disch := first | omega | simp (decide := true) only [List.length_set, hl]) only [sims, autos, simprocAttr, h7, e1]; rfl) ⟨rfl, W_false (by simp (decide := true) (disch := first | omega | simp (decide := true) only [List.length_set, hl]) only [sims, autos, simprocAttr] <;> rfl) (W_skip (.inr (.inl ⟨by simp, .inl ⟨rfl, ?_⟩⟩)))⟩)
      refine W_region (fun k => by simp (decide := true) (disch := first | omega | simp (decide := true) only [List.length_set, hl]) only [sims, autos, simprocAttr, h6, hw2]; rfl) ?_
      refine (.inl ⟨rfl, l.length - (a + 1), by omega, a + 1, ?_, ?_, ?_, by omega, rfl, fun j hj => ?_⟩)
      rotate_right 1
      · by_cases hja : j = a
        · subst hja; exact h1
        · exact hall j (by omega)
      all_goals simp (decide := true) (disch := first | omega | simp (decide := true) only [List.length_set, hl]) only [sims, autos, simprocAttr, hl, h5]
    · have e1 : ((cntA l (a : Int) l.length : Int) != 1) = true := by simp; omega
      refine W_seqn (W_region (fun k => by simp (decide := true) (disch := first | omega | simp (decide := true) only [List.length_set, hl]) only [sims, autos, simprocAttr, h7, e1]; rfl) ⟨rfl, W_true (by simp (decide := true) (disch := first | omega | simp (decide := true) only [List.length_set, hl]) only [sims, autos, simprocAttr] <;> rfl) ?_⟩)
      refine W_seqn (W_region (fun k => by simp (decide := true) (disch := first | omega | simp (decide := true) only [List.length_set, hl]) only [sims, autos, simprocAttr]; rfl) ⟨rfl, W_ret ?_⟩)
      simp only [reduceCtorEq, false_and, false_or, or_false, exists_false, exists_const, ne_eq, not_false_eq_true, true_and, implies_true]
      refine hQr _ ?_ (fun h => h1 (h a hal))
      simp (decide := true) (disch := first | omega | simp (decide := true) only [List.length_set, hl]) only [sims, autos, simprocAttr]
  all_goals first | (simp (decide := true) (disch := first | omega | simp (decide := true) only [List.length_set, hl]) only [sims, autos, simprocAttr, hl, h5, h6]; done) | (simp (decide := true) (disch := first | omega | simp (decide := true) only [List.length_set, hl]) only [sims, autos, simprocAttr, hl, h5, h6]; rfl)
theorem ref_ages (c : Cache) (hc : c.wf) (s : Nat) (hs : s < c.sets.length) (hlm : (row c s).length ≤ 1000) : ∃ v, E ap 60 [.agg [setsT c], .int .i64 (s : Int)] v ∧ ∃ b, v = .bool b ∧ (b = true ↔ AgesP (row c s)) := by
  refine E_bodyV (F := f60) rfl rfl rfl (P := fun v => ∃ b, v = .bool b ∧ (b = true ↔ AgesP (row c s))) ?_
  generalize hs0 : (_ : List T) ++ List.replicate _ T.undef = s0
  have e0 : s0.length = 37 ∧ rho s0 (.tmp 0) = .agg [setsT c] ∧ rho s0 (.tmp 1) = .int .i64 (s : Int) := by subst hs0; exact ⟨rfl, rfl, rfl⟩
  clear hs0
  obtain ⟨hl, h0, h1⟩ := e0
  have hleaf : allLeaf [setsT c] = true := rfl
  have hsc : setsT c = .imm false c.sets.length (c.sets.flatMap (fun l => [rowT l])) := rfl
  have hrl := rows_len c
  have hrg := rows_get c s hs
  rw [show rowT (row c s) = .imm false (row c s).length ((row c s).flatMap Way.enc) from rfl] at hrg
  have hb : s * 1 + 1 ≤ c.sets.length := by omega
  have hw := (row_wf hc s hs).2
  refine W_seqn (W_region (fun k => by simp (decide := true) (disch := first | omega | simp (decide := true) only [List.length_set, hl]) only [sims, autos, simprocAttr, hps, h0, hleaf]; rfl) ⟨rfl, ?_⟩)
  refine W_seqn (W_region (fun k => by simp (decide := true) (disch := first | omega | simp (decide := true) only [List.length_set, hl]) only [sims, autos, simprocAttr, hps, h1, hsc, hrl, hs, hb, hrg]; rfl) ⟨rfl, ?_⟩)
  refine W_seq (W_seqn (W_region (fun k => by simp (decide := true) (disch := first | omega | simp (decide := true) only [List.length_set, hl]) only [sims, autos, simprocAttr, hps]; rfl) ⟨rfl, W_block ?_⟩))
  refine ages_out false (row c s) hw hlm _ (fun st h4 hno => ?_) (fun st hst hall => ?_) ((row c s).length - 0) _ ⟨0, ?_, ?_, ?_, by omega, rfl, fun j hj => by omega⟩
  · simp only [reduceCtorEq, false_and, false_or, or_false, exists_false, exists_const, ne_eq, not_false_eq_true, true_and, implies_true]
    exact ⟨rfl, fin_bool (F := f60) (b := false) (P := fun b => b = true ↔ AgesP (row c s)) rfl (bfalse hno) h4⟩
  · have hl := hst
    refine .inl ⟨rfl, .inl ⟨rfl, W_seqn (W_region (fun k => by simp (decide := true) (disch := first | omega | simp (decide := true) only [List.length_set, hl]) only [sims, autos, simprocAttr]; rfl) ⟨rfl, W_ret ?_⟩)⟩⟩
    refine ⟨rfl, fin_bool (F := f60) (b := true) (P := fun b => b = true ↔ AgesP (row c s)) rfl (btrue hall) ?_⟩
    simp (decide := true) (disch := first | omega | simp (decide := true) only [List.length_set, hl]) only [sims, autos, simprocAttr]
  all_goals first | (simp (decide := true) (disch := first | omega | simp (decide := true) only [List.length_set, hl]) only [sims, autos, simprocAttr, hps, hl]; done) | (simp (decide := true) (disch := first | omega | simp (decide := true) only [List.length_set, hl]) only [sims, autos, simprocAttr, hps, hl]; rfl)

set_option maxHeartbeats 1000000
def zeros : List Int := List.replicate 16 0
/-- Do two ways hold one line? -/
def Dup (l : List Way) (k j : Nat) : Prop := (wayN l k).state ≠ 0 ∧ (wayN l j).state ≠ 0 ∧ (wayN l k).tag = (wayN l j).tag
def TagsK (c : Cache) (s : Nat) (l : List Way) (k : Nat) : Prop :=
  0 ≤ (wayN l k).state ∧ (wayN l k).state ≤ 3 ∧ ((wayN l k).state = 0 → (wayN l k).tag = 0 ∧ (wayN l k).data = zeros) ∧ ((wayN l k).state ≠ 0 → seti c (wayN l k).tag.toNat = s) ∧ ∀ j, j < k → ¬ Dup l k j
def TagsP (c : Cache) (s : Nat) (l : List Way) : Prop := ∀ k, k < l.length → TagsK c s l k
theorem data_eq {d : List Int} (h : eqL (dataT d) (dataT zeros) = true) : d = zeros := by
  rcases eqL_asInt _ _ h with h | ⟨x, hx, h⟩
  · rw [dataT_asInt, dataT_asInt] at h
    exact map_some_inj h
  · obtain ⟨k, n, e⟩ := data_ints d x hx
    exact absurd e (h k n)
theorem data_conf {w : Way} (h : w.wf) : conf [some .u8, some .u8, some .u8, some .u8, some .u8, some .u8, some .u8, some .u8, some .u8, some .u8, some .u8, some .u8, some .u8, some .u8, some .u8, some .u8] (dataT w.data) = true := by
  have hd := conf_u8 w.data [] [] h.2.2.1.2
  rw [h.2.2.1.1] at hd
  have e : conf (List.replicate 16 (some .u8) ++ []) (w.data.flatMap (fun n => [T.int .u8 n]) ++ []) = true := by rw [hd]; rfl
  rw [List.append_nil, List.append_nil] at e
  exact e
theorem zeros_enc : dataT zeros = List.replicate 16 (.int .u8 0) := by rw [dataT_map]; rfl
theorem zeros_conf : conf [some .u8, some .u8, some .u8, some .u8, some .u8, some .u8, some .u8, some .u8, some .u8, some .u8, some .u8, some .u8, some .u8, some .u8, some .u8, some .u8] (dataT zeros) = true := by rw [zeros_enc]; rfl
def tagsOut : ACode := match f61.body with | .seq _ (.seq _ (.seq (.seq _ (.block _ (.loop c))) _)) => c | _ => .skip
def tagsIn : ACode := match tagsOut with | .seq _ (.seq (.block _ (.seq _ (.seq _ (.seq _ (.block _ (.loop c)))))) _) => c | _ => .skip
def TgI (c : Cache) (f : Bool) (l : List Way) (s k : Nat) (st : St) : Prop := st.s.length = 107 ∧ rho st.s (.tmp 1) = .int .i64 (s : Int) ∧ rho st.s (.tmp 2) = .ptr 0 0 ∧ rho st.s (.tmp 5) = .imm f l.length (l.flatMap Way.enc) ∧ rho st.s (.tmp 6) = .int .i64 (k : Int) ∧ st.g 0 = some [setsT c]
theorem tags_in (c : Cache) (f : Bool) (l : List Way) (hw : ∀ w ∈ l, w.wf) (hlm : l.length ≤ 1000) (s k : Nat) (hkl : k < l.length) (Q : AExit → St → Prop)
    (hQr : ∀ st : St, rho st.s (.tmp 4) = .bool false → ¬ (∀ j, j < k → ¬ Dup l k j) → Q .ret st) (hQe : ∀ st : St, TgI c f l s k st → (∀ j, j < k → ¬ Dup l k j) → Q (.exit 2) st) :
    ∀ (m : Nat) (st : St), (∃ j : Nat, TgI c f l s k st ∧ rho st.s (.tmp 7) = .int .i64 (j : Int) ∧ j ≤ k ∧ m = k - j ∧ (∀ i, i < j → ¬ Dup l k i)) → W ap (.loop tagsIn) st Q := by
  refine W_loop _ ?_
  rintro m st ⟨j, ⟨hl, h1, h2, h5, h6, g0⟩, h7, hj, hm, hall⟩
  by_cases hend : j = k
  · have hlt : decide ((j : Int) < (k : Int)) = false := decide_eq_false (by omega)
    refine W_seq (W_seqn (W_region (fun k => by simp (decide := true) (disch := first | omega | simp (decide := true) only [List.length_set, hl]) only [sims, autos, simprocAttr, h6, h7, hlt]; rfl) ⟨rfl, W_false (by simp (decide := true) (disch := first | omega | simp (decide := true) only [List.length_set, hl]) only [sims, autos, simprocAttr] <;> rfl) (W_exit ?_)⟩))
    refine (.inr ⟨by simp, .inr ⟨by simp, hQe _ ⟨?_, ?_, ?_, ?_, ?_, g0⟩ (fun i hi => hall i (by omega))⟩⟩)
    all_goals simp (decide := true) (disch := first | omega | simp (decide := true) only [List.length_set, hl]) only [sims, autos, simprocAttr, hl, h1, h2, h5, h6]
  have hlt : decide ((j : Int) < (k : Int)) = true := decide_eq_true (by omega)
  have hjl : j < l.length := by omega
  have hw2 : IntKind.i64.wrap ((j : Int) + 1) = ((j + 1 : Nat) : Int) := by rw [wrap_id (by omega)]; omega
  have hcl := enc_len l hw
  have gk0 : (l.flatMap Way.enc)[k * 19]? = some (.int .i64 (wayN l k).state) := by have := way_get l hw k hkl 0 (by omega); rw [Nat.add_zero] at this; exact this
  have gj0 : (l.flatMap Way.enc)[j * 19]? = some (.int .i64 (wayN l j).state) := by have := way_get l hw j hjl 0 (by omega); rw [Nat.add_zero] at this; exact this
  have gk1 : (l.flatMap Way.enc)[k * 19 + 1]? = some (.int .u32 (wayN l k).tag) := way_get l hw k hkl 1 (by omega)
  have gj1 : (l.flatMap Way.enc)[j * 19 + 1]? = some (.int .u32 (wayN l j).tag) := way_get l hw j hjl 1 (by omega)
  have b1 : k * 19 + 19 ≤ l.length * 19 := by omega
  have b2 : j * 19 + 19 ≤ l.length * 19 := by omega
  have b3 : k * 19 + 1 ≤ l.length * 19 := by omega
  have b4 : j * 19 + 1 ≤ l.length * 19 := by omega
  have b5 : k * 19 + 1 + 1 ≤ l.length * 19 := by omega
  have b6 : j * 19 + 1 + 1 ≤ l.length * 19 := by omega
  have next : ∀ st' : St, TgI c f l s k st' → rho st'.s (.tmp 7) = .int .i64 (j : Int) → ¬ Dup l k j → W ap (.region [⟨some 78, .mv (.tmp 7), none⟩, ⟨some 79, .bin .add (.tmp 78) (.con (.int .i64 1)), none⟩, ⟨some 7, .mv (.tmp 79), none⟩] []) st' (fun e s' => (e = .normal ∧ ∃ m', m' < m ∧ ∃ j : Nat, TgI c f l s k s' ∧ rho s'.s (.tmp 7) = .int .i64 (j : Int) ∧ j ≤ k ∧ m' = k - j ∧ (∀ i, i < j → ¬ Dup l k i)) ∨ (e ≠ .normal ∧ Q e s')) := by
    rintro ⟨sl, g, nx⟩ ⟨hl, h1, h2, h5, h6, g0⟩ h7 hD
    simp only at hl h1 h2 h5 h6 g0 h7
    refine W_region (fun k => by simp (decide := true) (disch := first | omega | simp (decide := true) only [List.length_set, hl]) only [sims, autos, simprocAttr, h7, hw2]; rfl) ?_
    refine .inl ⟨rfl, k - (j + 1), by omega, j + 1, ⟨?_, ?_, ?_, ?_, ?_, g0⟩, ?_, by omega, rfl, fun i hi => ?_⟩
    rotate_right 1
    · by_cases hij : i = j
      · subst hij; exact hD
      · exact hall i (by omega)
    all_goals simp (decide := true) (disch := first | omega | simp (decide := true) only [List.length_set, hl]) only [sims, autos, simprocAttr, hl, h1, h2, h5, h6]
  have hD : Dup l k j = ((wayN l k).state ≠ 0 ∧ (wayN l j).state ≠ 0 ∧ (wayN l k).tag = (wayN l j).tag) := rfl
  generalize hwsE : l.flatMap Way.enc = ws at *
  refine W_seqn (W_seqn (W_region (fun k => by simp (decide := true) (disch := first | omega | simp (decide := true) only [List.length_set, hl]) only [sims, autos, simprocAttr, h6, h7, hlt]; rfl) ⟨rfl, W_true (by simp (decide := true) (disch := first | omega | simp (decide := true) only [List.length_set, hl]) only [sims, autos, simprocAttr] <;> rfl) (W_skip ⟨rfl, ?_⟩)⟩))
  by_cases hk0 : (wayN l k).state = 0
  · have e1 : ((wayN l k).state != 0) = false := by simp [hk0]
    refine W_seqn (W_block (W_seqn (W_region (fun k => by simp (decide := true) (disch := first | omega | simp (decide := true) only [List.length_set, hl]) only [sims, autos, simprocAttr, h5, h6, h7, hkl, hcl, b1, b3, gk0, e1]; rfl) ⟨rfl, W_false (by simp (decide := true) (disch := first | omega | simp (decide := true) only [List.length_set, hl]) only [sims, autos, simprocAttr] <;> rfl) (W_skip (.inr (.inl ⟨by simp, rfl, ?_⟩)))⟩)))
    refine next _ ⟨?_, ?_, ?_, ?_, ?_, g0⟩ ?_ (fun h => by rw [hD] at h; exact h.1 hk0)
    all_goals simp (decide := true) (disch := first | omega | simp (decide := true) only [List.length_set, hl]) only [sims, autos, simprocAttr, hl, h1, h2, h5, h6, h7, hwsE]
  have e1 : ((wayN l k).state != 0) = true := bne_iff_ne.mpr hk0
  by_cases hj0 : (wayN l j).state = 0
  · have e2 : ((wayN l j).state != 0) = false := by simp [hj0]
    refine W_seqn (W_block (W_seqn (W_region (fun k => by simp (decide := true) (disch := first | omega | simp (decide := true) only [List.length_set, hl]) only [sims, autos, simprocAttr, h5, h6, h7, hkl, hjl, hcl, b1, b2, b3, b4, gk0, gj0, e1, e2]; rfl) ⟨rfl, W_false (by simp (decide := true) (disch := first | omega | simp (decide := true) only [List.length_set, hl]) only [sims, autos, simprocAttr] <;> rfl) (W_skip (.inr (.inl ⟨by simp, rfl, ?_⟩)))⟩)))
    refine next _ ⟨?_, ?_, ?_, ?_, ?_, g0⟩ ?_ (fun h => by rw [hD] at h; exact h.2.1 hj0)
    all_goals simp (decide := true) (disch := first | omega | simp (decide := true) only [List.length_set, hl]) only [sims, autos, simprocAttr, hl, h1, h2, h5, h6, h7, hwsE]
  have e2 : ((wayN l j).state != 0) = true := bne_iff_ne.mpr hj0
  by_cases ht : (wayN l k).tag = (wayN l j).tag
  · have e3 : ((wayN l k).tag == (wayN l j).tag) = true := by simp [ht]
    refine W_seq (W_block (W_seqn (W_region (fun k => by simp (decide := true) (disch := first | omega | simp (decide := true) only [List.length_set, hl]) only [sims, autos, simprocAttr, h5, h6, h7, hkl, hjl, hcl, b1, b2, b3, b4, b5, b6, gk0, gj0, gk1, gj1, e1, e2, e3]; rfl) ⟨rfl, W_true (by simp (decide := true) (disch := first | omega | simp (decide := true) only [List.length_set, hl]) only [sims, autos, simprocAttr] <;> rfl) ?_⟩)))
    refine W_seqn (W_region (fun k => by simp (decide := true) (disch := first | omega | simp (decide := true) only [List.length_set, hl]) only [sims, autos, simprocAttr]; rfl) ⟨rfl, W_ret ?_⟩)
    simp only [reduceCtorEq, false_and, false_or, or_false, exists_false, exists_const, ne_eq, not_false_eq_true, true_and, implies_true]
    refine hQr _ ?_ (fun h => h j (by omega) (by rw [hD]; exact ⟨hk0, hj0, ht⟩))
    simp (decide := true) (disch := first | omega | simp (decide := true) only [List.length_set, hl]) only [sims, autos, simprocAttr]
  · have e3 : ((wayN l k).tag == (wayN l j).tag) = false := beq_eq_false_iff_ne.mpr ht
    refine W_seqn (W_block (W_seqn (W_region (fun k => by simp (decide := true) (disch := first | omega | simp (decide := true) only [List.length_set, hl]) only [sims, autos, simprocAttr, h5, h6, h7, hkl, hjl, hcl, b1, b2, b3, b4, b5, b6, gk0, gj0, gk1, gj1, e1, e2, e3]; rfl) ⟨rfl, W_false (by simp (decide := true) (disch := first | omega | simp (decide := true) only [List.length_set, hl]) only [sims, autos, simprocAttr] <;> rfl) (W_skip (.inr (.inl ⟨by simp, rfl, ?_⟩)))⟩)))
    refine next _ ⟨?_, ?_, ?_, ?_, ?_, g0⟩ ?_ (fun h => by rw [hD] at h; exact ht h.2.2)
    all_goals simp (decide := true) (disch := first | omega | simp (decide := true) only [List.length_set, hl]) only [sims, autos, simprocAttr, hl, h1, h2, h5, h6, h7, hwsE]
theorem tags_out (c : Cache) (s : Nat) (hs : s < c.sets.length) (f : Bool) (l : List Way) (hw : ∀ w ∈ l, w.wf) (hlm : l.length ≤ 1000) (Q : AExit → St → Prop)
    (hQr : ∀ st : St, rho st.s (.tmp 4) = .bool false → ¬ TagsP c s l → Q .ret st) (hQe : ∀ st : St, st.s.length = 107 → TagsP c s l → Q (.exit 0) st) :
    ∀ (m : Nat) (st : St), (∃ k : Nat, TgI c f l s k st ∧ k ≤ l.length ∧ m = l.length - k ∧ (∀ j, j < k → TagsK c s l j)) → W ap (.loop tagsOut) st Q := by
  refine W_loop _ ?_
  rintro m st ⟨k, ⟨hl, h1, h2, h5, h6, g0⟩, hk, hm, hall⟩
  by_cases hend : k = l.length
  · have hlt : decide ((k : Int) < (l.length : Int)) = false := decide_eq_false (by omega)
    refine W_seq (W_seqn (W_region (fun k => by simp (decide := true) (disch := first | omega | simp (decide := true) only [List.length_set, hl]) only [sims, autos, simprocAttr, h5, h6, hlt]; rfl) ⟨rfl, W_false (by simp (decide := true) (disch := first | omega | simp (decide := true) only [List.length_set, hl]) only [sims, autos, simprocAttr] <;> rfl) (W_exit ?_)⟩))
    refine (.inr ⟨by simp, .inr ⟨by simp, hQe _ ?_ (fun j hj => hall j (by omega))⟩⟩)
    simp (decide := true) (disch := first | omega | simp (decide := true) only [List.length_set, hl]) only [sims, autos, simprocAttr, hl]
  have hlt : decide ((k : Int) < (l.length : Int)) = true := decide_eq_true (by omega)
  have hkl : k < l.length := by omega
  have hw2 : IntKind.i64.wrap ((k : Int) + 1) = ((k + 1 : Nat) : Int) := by rw [wrap_id (by omega)]; omega
  have hwk := wayN_wf hw hkl
  have hcl := enc_len l hw
  have gk0 : (l.flatMap Way.enc)[k * 19]? = some (.int .i64 (wayN l k).state) := by have := way_get l hw k hkl 0 (by omega); rw [Nat.add_zero] at this; exact this
  have gk1 : (l.flatMap Way.enc)[k * 19 + 1]? = some (.int .u32 (wayN l k).tag) := way_get l hw k hkl 1 (by omega)
  have gkd : cut (l.flatMap Way.enc) (k * 19 + 2) 16 = dataT (wayN l k).data := by
    have := bytes_cut l hw k hkl 0 16 (by omega)
    rw [Nat.zero_mul, Nat.add_zero, Nat.mul_one] at this
    rw [this]; unfold bytesAt
    rw [List.drop_zero, List.take_of_length_le (by rw [hwk.2.2.1.1]; exact Nat.le_refl _)]
  have b1 : k * 19 + 19 ≤ l.length * 19 := by omega
  have b3 : k * 19 + 1 ≤ l.length * 19 := by omega
  have b5 : k * 19 + 1 + 1 ≤ l.length * 19 := by omega
  have b7 : k * 19 + 2 + 16 ≤ l.length * 19 := by omega
  have hcf := data_conf hwk
  have hcz := zeros_conf
  have htw := wf_u32 hwk.2.1
  obtain ⟨ln, hln⟩ : ∃ ln : Nat, (wayN l k).tag = (ln : Int) := ⟨(wayN l k).tag.toNat, by omega⟩
  have hlnb : ln ≤ 4294967295 := by omega
  have htn : (wayN l k).tag.toNat = ln := by omega
  have hKdef : TagsK c s l k = (0 ≤ (wayN l k).state ∧ (wayN l k).state ≤ 3 ∧ ((wayN l k).state = 0 → (wayN l k).tag = 0 ∧ (wayN l k).data = zeros) ∧ ((wayN l k).state ≠ 0 → seti c ln = s) ∧ ∀ j, j < k → ¬ Dup l k j) := by unfold TagsK; rw [htn]
  have bad : ¬ TagsK c s l k → ¬ TagsP c s l := fun h h' => h (h' k hkl)
  obtain ⟨N2, c38⟩ := (ref_set c ln hlnb).call ap69 (fun g => rfl)
  have q38 := c38 N2 (Nat.le_refl _)
  rw [if_neg (show ¬ c.sets.length = 0 by omega)] at q38
  have hcut : cut [setsT c] 0 1 = [setsT c] := rfl
  have hbody : tagsOut = tagsOut := rfl
  conv at hbody => rhs; simp only [tagsOut, f61]
  simp only [← zeros_enc] at hbody
  rw [hbody]
  clear hbody
  have hdz : eqL (dataT (wayN l k).data) (dataT zeros) = true → (wayN l k).data = zeros := data_eq
  have hdr : (wayN l k).data = zeros → eqL (dataT (wayN l k).data) (dataT zeros) = true := fun h => by rw [h]; exact eqL_ints _ (data_ints _)
  generalize dataT zeros = dz at *
  generalize dataT (wayN l k).data = dk at *
  refine W_seqn (W_seqn (W_region (fun k => by simp (decide := true) (disch := first | omega | simp (decide := true) only [List.length_set, hl]) only [sims, autos, simprocAttr, h5, h6, hlt]; rfl) ⟨rfl, W_true (by simp (decide := true) (disch := first | omega | simp (decide := true) only [List.length_set, hl]) only [sims, autos, simprocAttr] <;> rfl) (W_skip ⟨rfl, ?_⟩)⟩))
  have hin := tags_in c f l hw hlm s k hkl
  have rest : ∀ st' : St, TgI c f l s k st' → (0 ≤ (wayN l k).state ∧ (wayN l k).state ≤ 3 ∧ ((wayN l k).state = 0 → (wayN l k).tag = 0 ∧ (wayN l k).data = zeros) ∧ ((wayN l k).state ≠ 0 → seti c ln = s)) → W ap (.seq (.region [⟨some 7, .mv (.con (.int .i64 0)), none⟩] []) (.block 2 (.loop tagsIn))) st' (fun e s' => (e = .normal ∧ TgI c f l s k s' ∧ TagsK c s l k) ∨ (e = .ret ∧ Q .ret s')) := by
    rintro ⟨sl, g, nx⟩ ⟨hl, h1, h2, h5, h6, g0⟩ hpre
    simp only at hl h1 h2 h5 h6 g0
    refine W_seqn (W_region (fun k => by simp (decide := true) (disch := first | omega | simp (decide := true) only [List.length_set, hl]) only [sims, autos, simprocAttr]; rfl) ⟨rfl, W_block ?_⟩)
    refine hin _ (fun st h4 hno => ?_) (fun st hT hall => ?_) (k - 0) _ ⟨0, ⟨?_, ?_, ?_, ?_, ?_, g0⟩, ?_, by omega, rfl, fun i hi => by omega⟩
    · simp only [reduceCtorEq, false_and, false_or, or_false, exists_false, exists_const, ne_eq, not_false_eq_true, true_and, implies_true]
      exact hQr _ h4 (bad (fun h => by rw [hKdef] at h; exact hno h.2.2.2.2))
    · refine .inl ⟨rfl, .inl ⟨rfl, hT, ?_⟩⟩
      rw [hKdef]
      exact ⟨hpre.1, hpre.2.1, hpre.2.2.1, hpre.2.2.2, hall⟩
    all_goals first | (simp (decide := true) (disch := first | omega | simp (decide := true) only [List.length_set, hl]) only [sims, autos, simprocAttr, hl, h1, h2, h5, h6]; done) | (simp (decide := true) (disch := first | omega | simp (decide := true) only [List.length_set, hl]) only [sims, autos, simprocAttr, hl, h1, h2, h5, h6]; rfl)
  have hinE : tagsIn = tagsIn := rfl
  conv at hinE => rhs; simp only [tagsIn, tagsOut, f61]
  rw [hinE] at rest
  clear hin hinE
  have next : ∀ st' : St, TgI c f l s k st' → TagsK c s l k → W ap (.region [⟨some 17, .mv (.tmp 6), none⟩, ⟨some 18, .bin .add (.tmp 17) (.con (.int .i64 1)), none⟩, ⟨some 6, .mv (.tmp 18), none⟩] []) st' (fun e s' => (e = .normal ∧ ∃ m', m' < m ∧ ∃ k : Nat, TgI c f l s k s' ∧ k ≤ l.length ∧ m' = l.length - k ∧ (∀ j, j < k → TagsK c s l j)) ∨ (e ≠ .normal ∧ Q e s')) := by
    rintro ⟨sl, g, nx⟩ ⟨hl, h1, h2, h5, h6, g0⟩ hK
    simp only at hl h1 h2 h5 h6 g0
    refine W_region (fun k => by simp (decide := true) (disch := first | omega | simp (decide := true) only [List.length_set, hl]) only [sims, autos, simprocAttr, h6, hw2]; rfl) ?_
    refine .inl ⟨rfl, l.length - (k + 1), by omega, k + 1, ⟨?_, ?_, ?_, ?_, ?_, g0⟩, by omega, rfl, fun j hj => ?_⟩
    rotate_right 1
    · by_cases hjk : j = k
      · subst hjk; exact hK
      · exact hall j (by omega)
    all_goals simp (decide := true) (disch := first | omega | simp (decide := true) only [List.length_set, hl]) only [sims, autos, simprocAttr, hl, h1, h2, h5, h6]
  generalize hwsE : l.flatMap Way.enc = ws at *
  by_cases hs0 : (wayN l k).state < 0
  · have d1 : decide ((wayN l k).state < 0) = true := decide_eq_true hs0
    refine W_seq (W_block (W_seq (W_seqn (W_region (fun k => by simp (decide := true) (disch := first | omega | simp (decide := true) only [List.length_set, hl]) only [sims, autos, simprocAttr, h5, h6, hkl, hcl, b1, b3, gk0, d1]; rfl) ⟨rfl, W_true (by simp (decide := true) (disch := first | omega | simp (decide := true) only [List.length_set, hl]) only [sims, autos, simprocAttr] <;> rfl) ?_⟩))))
    refine W_seqn (W_region (fun k => by simp (decide := true) (disch := first | omega | simp (decide := true) only [List.length_set, hl]) only [sims, autos, simprocAttr]; rfl) ⟨rfl, W_ret ?_⟩)
    simp only [reduceCtorEq, false_and, false_or, or_false, exists_false, exists_const, ne_eq, not_false_eq_true, true_and, implies_true]
    refine hQr _ ?_ (bad (fun h => by rw [hKdef] at h; omega))
    simp (decide := true) (disch := first | omega | simp (decide := true) only [List.length_set, hl]) only [sims, autos, simprocAttr]
  have d1 : decide ((wayN l k).state < 0) = false := decide_eq_false hs0
  by_cases hs3 : (wayN l k).state > 3
  · have d2 : decide ((wayN l k).state > 3) = true := decide_eq_true hs3
    refine W_seq (W_block (W_seq (W_seqn (W_region (fun k => by simp (decide := true) (disch := first | omega | simp (decide := true) only [List.length_set, hl]) only [sims, autos, simprocAttr, h5, h6, hkl, hcl, b1, b3, gk0, d1, d2]; rfl) ⟨rfl, W_true (by simp (decide := true) (disch := first | omega | simp (decide := true) only [List.length_set, hl]) only [sims, autos, simprocAttr] <;> rfl) ?_⟩))))
    refine W_seqn (W_region (fun k => by simp (decide := true) (disch := first | omega | simp (decide := true) only [List.length_set, hl]) only [sims, autos, simprocAttr]; rfl) ⟨rfl, W_ret ?_⟩)
    simp only [reduceCtorEq, false_and, false_or, or_false, exists_false, exists_const, ne_eq, not_false_eq_true, true_and, implies_true]
    refine hQr _ ?_ (bad (fun h => by rw [hKdef] at h; omega))
    simp (decide := true) (disch := first | omega | simp (decide := true) only [List.length_set, hl]) only [sims, autos, simprocAttr]
  have d2 : decide ((wayN l k).state > 3) = false := decide_eq_false hs3
  refine W_seq (W_block (W_seqn (W_seqn (W_region (fun k => by simp (decide := true) (disch := first | omega | simp (decide := true) only [List.length_set, hl]) only [sims, autos, simprocAttr, h5, h6, hkl, hcl, b1, b3, gk0, d1, d2]; rfl) ⟨rfl, W_false (by simp (decide := true) (disch := first | omega | simp (decide := true) only [List.length_set, hl]) only [sims, autos, simprocAttr] <;> rfl) (W_skip ⟨rfl, ?_⟩)⟩))))
  by_cases hz : (wayN l k).state = 0
  · have e1 : ((wayN l k).state == 0) = true := by simp [hz]
    have e1' : ((wayN l k).state != 0) = false := by simp [hz]
    by_cases ht0 : (wayN l k).tag = 0
    · have e2 : ((wayN l k).tag != 0) = false := by simp [ht0]
      cases hq : eqL dk dz with
      | false =>
        refine W_seq (W_seqn (W_region (fun k => by simp (decide := true) (disch := first | omega | simp (decide := true) only [List.length_set, hl]) only [sims, autos, simprocAttr, hps, h5, h6, hkl, hcl, b1, b3, b5, b7, gk0, gk1, gkd, e1, e1', e2, hcf, hcz, hq]; rfl) ⟨rfl, W_true (by simp (decide := true) (disch := first | omega | simp (decide := true) only [List.length_set, hl]) only [sims, autos, simprocAttr] <;> rfl) ?_⟩))
        refine W_seqn (W_region (fun k => by simp (decide := true) (disch := first | omega | simp (decide := true) only [List.length_set, hl]) only [sims, autos, simprocAttr]; rfl) ⟨rfl, W_ret ?_⟩)
        simp only [reduceCtorEq, false_and, false_or, or_false, exists_false, exists_const, ne_eq, not_false_eq_true, true_and, implies_true]
        refine hQr _ ?_ (bad (fun h => by
          rw [hKdef] at h
          have := hdr (h.2.2.1 hz).2
          rw [hq] at this; cases this))
        simp (decide := true) (disch := first | omega | simp (decide := true) only [List.length_set, hl]) only [sims, autos, simprocAttr]
      | true =>
        refine W_seqn (W_seqn (W_region (fun k => by simp (decide := true) (disch := first | omega | simp (decide := true) only [List.length_set, hl]) only [sims, autos, simprocAttr, hps, h5, h6, hkl, hcl, b1, b3, b5, b7, gk0, gk1, gkd, e1, e1', e2, hcf, hcz, hq]; rfl) ⟨rfl, W_false (by simp (decide := true) (disch := first | omega | simp (decide := true) only [List.length_set, hl]) only [sims, autos, simprocAttr] <;> rfl) (W_skip ⟨rfl, ?_⟩)⟩))
        refine (rest _ ⟨?_, ?_, ?_, ?_, ?_, ?_⟩ ⟨by omega, by omega, fun _ => ⟨ht0, hdz hq⟩, fun h => absurd hz h⟩).mono ?_
        · simp (decide := true) (disch := first | omega | simp (decide := true) only [List.length_set, hl]) only [sims, autos, simprocAttr, hl]
        · simp (decide := true) (disch := first | omega | simp (decide := true) only [List.length_set, hl]) only [sims, autos, simprocAttr, h1]
        · simp (decide := true) (disch := first | omega | simp (decide := true) only [List.length_set, hl]) only [sims, autos, simprocAttr, h2]
        · simp (decide := true) (disch := first | omega | simp (decide := true) only [List.length_set, hl]) only [sims, autos, simprocAttr, h5, hwsE]
        · simp (decide := true) (disch := first | omega | simp (decide := true) only [List.length_set, hl]) only [sims, autos, simprocAttr, h6]
        · exact g0
        · rintro e s' (⟨rfl, hT, hK⟩ | ⟨rfl, hq⟩)
          · exact .inr (.inl ⟨by simp, .inl ⟨rfl, next _ hT hK⟩⟩)
          · simp only [reduceCtorEq, false_and, false_or, or_false, exists_false, exists_const, ne_eq, not_false_eq_true, true_and, implies_true]
            exact hq
    · have e2 : ((wayN l k).tag != 0) = true := bne_iff_ne.mpr ht0
      refine W_seq (W_seqn (W_region (fun k => by simp (decide := true) (disch := first | omega | simp (decide := true) only [List.length_set, hl]) only [sims, autos, simprocAttr, hps, h5, h6, hkl, hcl, b1, b3, b5, b7, gk0, gk1, e1, e1', e2]; rfl) ⟨rfl, W_true (by simp (decide := true) (disch := first | omega | simp (decide := true) only [List.length_set, hl]) only [sims, autos, simprocAttr] <;> rfl) ?_⟩))
      refine W_seqn (W_region (fun k => by simp (decide := true) (disch := first | omega | simp (decide := true) only [List.length_set, hl]) only [sims, autos, simprocAttr]; rfl) ⟨rfl, W_ret ?_⟩)
      simp only [reduceCtorEq, false_and, false_or, or_false, exists_false, exists_const, ne_eq, not_false_eq_true, true_and, implies_true]
      refine hQr _ ?_ (bad (fun h => by rw [hKdef] at h; exact ht0 (h.2.2.1 hz).1))
      simp (decide := true) (disch := first | omega | simp (decide := true) only [List.length_set, hl]) only [sims, autos, simprocAttr]
  · have e1 : ((wayN l k).state == 0) = false := beq_eq_false_iff_ne.mpr hz
    have e1' : ((wayN l k).state != 0) = true := bne_iff_ne.mpr hz
    rw [hln] at gk1
    by_cases hse : seti c ln = s
    · have e2 : ((seti c ln : Int) != (s : Int)) = false := by simp [hse]
      refine W_seqn (W_seqn (W_regionN ⟨N2, by simp (decide := true) (disch := first | omega | simp (decide := true) only [List.length_set, hl]) only [sims, autos, simprocAttr, hps, h1, h2, g0, hcut, h5, h6, hkl, hcl, b1, b3, b5, gk0, gk1, e1, e1', e2, ap69, p69, n69, q38]; rfl⟩ ⟨rfl, W_false (by simp (decide := true) (disch := first | omega | simp (decide := true) only [List.length_set, hl]) only [sims, autos, simprocAttr] <;> rfl) (W_skip ⟨rfl, ?_⟩)⟩))
      refine (rest _ ⟨?_, ?_, ?_, ?_, ?_, ?_⟩ ⟨by omega, by omega, fun h => absurd h hz, fun _ => hse⟩).mono ?_
      · simp (decide := true) (disch := first | omega | simp (decide := true) only [List.length_set, hl]) only [sims, autos, simprocAttr, hl]
      · simp (decide := true) (disch := first | omega | simp (decide := true) only [List.length_set, hl]) only [sims, autos, simprocAttr, h1]
      · simp (decide := true) (disch := first | omega | simp (decide := true) only [List.length_set, hl]) only [sims, autos, simprocAttr, h2]
      · simp (decide := true) (disch := first | omega | simp (decide := true) only [List.length_set, hl]) only [sims, autos, simprocAttr, h5, hwsE]
      · simp (decide := true) (disch := first | omega | simp (decide := true) only [List.length_set, hl]) only [sims, autos, simprocAttr, h6]
      · exact g0
      · rintro e s' (⟨rfl, hT, hK⟩ | ⟨rfl, hq⟩)
        · exact .inr (.inl ⟨by simp, .inl ⟨rfl, next _ hT hK⟩⟩)
        · simp only [reduceCtorEq, false_and, false_or, or_false, exists_false, exists_const, ne_eq, not_false_eq_true, true_and, implies_true]
          exact hq
    · have e2 : ((seti c ln : Int) != (s : Int)) = true := by simp; omega
      refine W_seq (W_seqn (W_regionN ⟨N2, by simp (decide := true) (disch := first | omega | simp (decide := true) only [List.length_set, hl]) only [sims, autos, simprocAttr, hps, h1, h2, g0, hcut, h5, h6, hkl, hcl, b1, b3, b5, gk0, gk1, e1, e1', e2, ap69, p69, n69, q38]; rfl⟩ ⟨rfl, W_true (by simp (decide := true) (disch := first | omega | simp (decide := true) only [List.length_set, hl]) only [sims, autos, simprocAttr] <;> rfl) ?_⟩))
      refine W_seqn (W_region (fun k => by simp (decide := true) (disch := first | omega | simp (decide := true) only [List.length_set, hl]) only [sims, autos, simprocAttr]; rfl) ⟨rfl, W_ret ?_⟩)
      simp only [reduceCtorEq, false_and, false_or, or_false, exists_false, exists_const, ne_eq, not_false_eq_true, true_and, implies_true]
      refine hQr _ ?_ (bad (fun h => by rw [hKdef] at h; exact hse (h.2.2.2.1 hz)))
      simp (decide := true) (disch := first | omega | simp (decide := true) only [List.length_set, hl]) only [sims, autos, simprocAttr]
theorem ref_tags (c : Cache) (hc : c.wf) (s : Nat) (hs : s < c.sets.length) (hlm : (row c s).length ≤ 1000) : ∃ v, E ap 61 [.agg [setsT c], .int .i64 (s : Int)] v ∧ ∃ b, v = .bool b ∧ (b = true ↔ TagsP c s (row c s)) := by
  refine E_bodyV (F := f61) rfl rfl rfl (P := fun v => ∃ b, v = .bool b ∧ (b = true ↔ TagsP c s (row c s))) ?_
  generalize hs0 : (_ : List T) ++ List.replicate _ T.undef = s0
  have e0 : s0.length = 107 ∧ rho s0 (.tmp 0) = .agg [setsT c] ∧ rho s0 (.tmp 1) = .int .i64 (s : Int) := by subst hs0; exact ⟨rfl, rfl, rfl⟩
  clear hs0
  obtain ⟨hl, h0, h1⟩ := e0
  have hleaf : allLeaf [setsT c] = true := rfl
  have hsc : setsT c = .imm false c.sets.length (c.sets.flatMap (fun l => [rowT l])) := rfl
  have hrl := rows_len c
  have hrg := rows_get c s hs
  rw [show rowT (row c s) = .imm false (row c s).length ((row c s).flatMap Way.enc) from rfl] at hrg
  have hb : s * 1 + 1 ≤ c.sets.length := by omega
  have hw := (row_wf hc s hs).2
  refine W_seqn (W_region (fun k => by simp (decide := true) (disch := first | omega | simp (decide := true) only [List.length_set, hl]) only [sims, autos, simprocAttr, hps, h0, hleaf]; rfl) ⟨rfl, ?_⟩)
  refine W_seqn (W_region (fun k => by simp (decide := true) (disch := first | omega | simp (decide := true) only [List.length_set, hl]) only [sims, autos, simprocAttr, hps, h1, hsc, hrl, hs, hb, hrg]; rfl) ⟨rfl, ?_⟩)
  refine W_seq (W_seqn (W_region (fun k => by simp (decide := true) (disch := first | omega | simp (decide := true) only [List.length_set, hl]) only [sims, autos, simprocAttr, hps]; rfl) ⟨rfl, W_block ?_⟩))
  refine tags_out c s hs false (row c s) hw hlm _ (fun st h4 hno => ?_) (fun st hst hall => ?_) ((row c s).length - 0) _ ⟨0, ⟨?_, ?_, ?_, ?_, ?_, ?_⟩, by omega, rfl, fun j hj => by omega⟩
  · simp only [reduceCtorEq, false_and, false_or, or_false, exists_false, exists_const, ne_eq, not_false_eq_true, true_and, implies_true]
    exact ⟨rfl, fin_bool (F := f61) (b := false) (P := fun b => b = true ↔ TagsP c s (row c s)) rfl (bfalse hno) h4⟩
  · have hl := hst
    refine .inl ⟨rfl, .inl ⟨rfl, W_seqn (W_region (fun k => by simp (decide := true) (disch := first | omega | simp (decide := true) only [List.length_set, hl]) only [sims, autos, simprocAttr]; rfl) ⟨rfl, W_ret ?_⟩)⟩⟩
    refine ⟨rfl, fin_bool (F := f61) (b := true) (P := fun b => b = true ↔ TagsP c s (row c s)) rfl (btrue hall) ?_⟩
    simp (decide := true) (disch := first | omega | simp (decide := true) only [List.length_set, hl]) only [sims, autos, simprocAttr]
  all_goals first | (simp (decide := true) (disch := first | omega | simp (decide := true) only [List.length_set, hl]) only [sims, autos, simprocAttr, hps, hl, h1]; done) | (simp (decide := true) (disch := first | omega | simp (decide := true) only [List.length_set, hl]) only [sims, autos, simprocAttr, hps, hl, h1, hsc]; done) | (simp (decide := true) (disch := first | omega | simp (decide := true) only [List.length_set, hl]) only [sims, autos, simprocAttr, hps, hl, h1]; rfl)

set_option maxHeartbeats 1000000
/-! Ages: each once, or none twice. -/

def sumC (f : Nat → Nat) : Nat → Nat
  | 0 => 0
  | n + 1 => sumC f n + f n
theorem sumC_add (f g : Nat → Nat) : ∀ n, sumC (fun a => f a + g a) n = sumC f n + sumC g n
  | 0 => rfl
  | n + 1 => by rw [sumC, sumC_add f g n, sumC, sumC]; omega
theorem sumC_one (x : Int) : ∀ n : Nat, sumC (fun a => if x = (a : Int) then 1 else 0) n = if 0 ≤ x ∧ x < n then 1 else 0
  | 0 => by rw [sumC, if_neg (by omega)]
  | n + 1 => by
    rw [sumC, sumC_one x n]
    by_cases h : 0 ≤ x ∧ x < n
    · rw [if_pos h, if_neg (by omega), if_pos (by omega)]
    · by_cases h2 : x = (n : Int)
      · rw [if_neg h, if_pos h2, if_pos (by omega)]
      · rw [if_neg h, if_neg h2, if_neg (by omega)]
def inR (l : List Way) (n : Nat) : Nat → Nat
  | 0 => 0
  | k + 1 => inR l n k + if 0 ≤ (wayN l k).age ∧ (wayN l k).age < n then 1 else 0
theorem dbl (l : List Way) (n : Nat) : ∀ k, sumC (fun a => cntA l (a : Int) k) n = inR l n k
  | 0 => by
    have h : ∀ m, sumC (fun a => cntA l (a : Int) 0) m = 0 := by
      intro m
      induction m with
      | zero => rfl
      | succ j ih => rw [sumC, ih]; rfl
    rw [h]; rfl
  | k + 1 => by
    have e : (fun a : Nat => cntA l (a : Int) (k + 1)) = fun a : Nat => cntA l (a : Int) k + (if (wayN l k).age = (a : Int) then 1 else 0) := rfl
    rw [e, sumC_add, dbl l n k, sumC_one, inR]
theorem inR_le (l : List Way) (n : Nat) : ∀ k, inR l n k ≤ k
  | 0 => Nat.le_refl _
  | k + 1 => by have := inR_le l n k; rw [inR]; split <;> omega
theorem inR_all (l : List Way) (n : Nat) : ∀ k, (inR l n k = k ↔ ∀ i, i < k → 0 ≤ (wayN l i).age ∧ (wayN l i).age < n)
  | 0 => ⟨fun _ i h => by omega, fun _ => rfl⟩
  | k + 1 => by
    have h1 := inR_le l n k
    have ih := inR_all l n k
    rw [inR]
    constructor
    · intro h i hi
      split at h
      · rename_i hk
        by_cases hik : i = k
        · subst hik; exact hk
        · exact ih.mp (by omega) i (by omega)
      · omega
    · intro h
      rw [if_pos (h k (by omega)), ih.mpr (fun i hi => h i (by omega))]
theorem cnt_zero (l : List Way) (a : Int) : ∀ k, (∀ j, j < k → (wayN l j).age ≠ a) → cntA l a k = 0
  | 0, _ => rfl
  | k + 1, h => by rw [cntA, cnt_zero l a k (fun j hj => h j (by omega)), if_neg (h k (by omega))]
theorem cnt_le1 (l : List Way) (a : Int) : ∀ k, (∀ i, i < k → ∀ j, j < i → (wayN l j).age ≠ (wayN l i).age) → cntA l a k ≤ 1
  | 0, _ => by show 0 ≤ 1; omega
  | k + 1, h => by
    rw [cntA]
    by_cases hk : (wayN l k).age = a
    · rw [if_pos hk, cnt_zero l a k (fun j hj => by rw [← hk]; exact h k (by omega) j hj)]; omega
    · rw [if_neg hk]
      exact cnt_le1 l a k (fun i hi => h i (by omega))
theorem cnt_mono (l : List Way) (a : Int) (k : Nat) : ∀ d, cntA l a k ≤ cntA l a (k + d)
  | 0 => Nat.le_refl _
  | d + 1 => by have := cnt_mono l a k d; rw [← Nat.add_assoc, cntA]; split <;> omega
theorem sum_ones (f : Nat → Nat) : ∀ n, (∀ a, a < n → f a ≤ 1) → sumC f n ≤ n ∧ (sumC f n = n → ∀ a, a < n → f a = 1)
  | 0, _ => ⟨Nat.le_refl _, fun _ a h => by omega⟩
  | n + 1, h => by
    obtain ⟨h1, h2⟩ := sum_ones f n (fun a ha => h a (by omega))
    have h3 := h n (by omega)
    rw [sumC]
    refine ⟨by omega, fun he a ha => ?_⟩
    by_cases hn : a = n
    · subst hn; omega
    · exact h2 (by omega) a (by omega)
theorem sum_const (f : Nat → Nat) : ∀ n, (∀ a, a < n → f a = 1) → sumC f n = n
  | 0, _ => rfl
  | n + 1, h => by rw [sumC, sum_const f n (fun a ha => h a (by omega)), h n (by omega)]
theorem ages_iff (l : List Way) : AgesP l ↔ ∀ k, k < l.length → 0 ≤ (wayN l k).age ∧ (wayN l k).age < l.length ∧ ∀ j, j < k → (wayN l j).age ≠ (wayN l k).age := by
  have hd := dbl l l.length l.length
  have hin := inR_all l l.length l.length
  constructor
  · intro h k hk
    rw [sum_const _ _ h] at hd
    have hr := hin.mp hd.symm
    refine ⟨(hr k hk).1, (hr k hk).2, fun j hj he => ?_⟩
    obtain ⟨h1, h2⟩ := hr k hk
    have hc := h (wayN l k).age.toNat (by omega)
    rw [show (((wayN l k).age.toNat : Nat) : Int) = (wayN l k).age by omega] at hc
    have c1 : cntA l (wayN l k).age (j + 1) = cntA l (wayN l k).age j + 1 := by rw [cntA, if_pos he]
    have c2 : cntA l (wayN l k).age (k + 1) = cntA l (wayN l k).age k + 1 := by rw [cntA, if_pos rfl]
    have m1 := cnt_mono l (wayN l k).age (j + 1) (k - (j + 1))
    have m2 := cnt_mono l (wayN l k).age (k + 1) (l.length - (k + 1))
    rw [show j + 1 + (k - (j + 1)) = k by omega] at m1
    rw [show k + 1 + (l.length - (k + 1)) = l.length by omega] at m2
    omega
  · intro h
    have h1 : inR l l.length l.length = l.length := hin.mpr (fun i hi => ⟨(h i hi).1, (h i hi).2.1⟩)
    rw [h1] at hd
    exact (sum_ones _ _ (fun a _ => cnt_le1 l (a : Int) l.length (fun i hi => (h i hi).2.2))).2 hd
theorem isAt_iff (ln : Nat) (w : Way) : isAt ln w = true ↔ w.tag = (ln : Int) ∧ w.state ≠ 0 := by
  unfold isAt; simp
theorem fine_iff (c : Cache) (hc : c.wf) (s : Nat) (hs : s < c.sets.length) : FineP c s (row c s) ↔ 1 ≤ (row c s).length ∧ (row c s).length ≤ 4 ∧ AgesP (row c s) ∧ TagsP c s (row c s) := by
  have hw := (row_wf hc s hs).2
  have hfd : ∀ ln, seti c ln = s → find c ln = fnd (row c s) ln 0 (row c s).length := fun ln h => by unfold find; rw [if_neg (by omega), h]
  have htag : ∀ k, k < (row c s).length → (((wayN (row c s) k).tag.toNat : Nat) : Int) = (wayN (row c s) k).tag := fun k hk => by have := wf_u32 (wayN_wf hw hk).2.1; omega
  rw [ages_iff]
  unfold FineP TagsP
  constructor
  · rintro ⟨h1, h2, h3⟩
    refine ⟨h1, h2, fun k hk => ⟨(h3 k hk).1, (h3 k hk).2.1, (h3 k hk).2.2.1⟩, fun k hk => ?_⟩
    obtain ⟨a1, a2, a3, a4, a5, a6, a7⟩ := h3 k hk
    refine ⟨a4, a5, fun hz => ?_, fun hz => (a7 hz).1, fun j hj ⟨d1, d2, d3⟩ => ?_⟩
    · have e := a6 hz
      exact ⟨by rw [e]; rfl, by rw [e]; rfl⟩
    · obtain ⟨b1, b2⟩ := a7 d1
      rw [hfd _ b1] at b2
      have := (fnd_first _ _ _ _ _ b2).2.2 j (by omega) hj
      rw [(isAt_iff _ _).mpr ⟨by rw [← d3, htag k hk], d2⟩] at this
      cases this
  · rintro ⟨h1, h2, h3, h4⟩
    refine ⟨h1, h2, fun k hk => ?_⟩
    obtain ⟨a1, a2, a3⟩ := h3 k hk
    obtain ⟨t1, t2, t3, t4, t5⟩ := h4 k hk
    refine ⟨a1, a2, a3, t1, t2, fun hz => ?_, fun hz => ⟨t4 hz, ?_⟩⟩
    · obtain ⟨e1, e2⟩ := t3 hz
      show wayN (row c s) k = ⟨0, 0, List.replicate 16 0, (wayN (row c s) k).age⟩
      have : ∀ w : Way, w.state = 0 → w.tag = 0 → w.data = zeros → w = ⟨0, 0, List.replicate 16 0, w.age⟩ := by
        intro w h1 h2 h3
        cases w
        simp only at h1 h2 h3
        rw [h1, h2, h3]; rfl
      exact this _ hz e1 e2
    · rw [hfd _ (t4 hz)]
      obtain ⟨j, hj⟩ := fnd_has (row c s) (wayN (row c s) k).tag.toNat (row c s).length 0 k (by omega) (by omega) ((isAt_iff _ _).mpr ⟨(htag k hk).symm, hz⟩)
      obtain ⟨f1, f2, f3⟩ := fnd_first _ _ _ _ _ hj
      rw [hj]
      by_cases hjk : j = k
      · rw [hjk]
      · by_cases hlt : k < j
        · have := f3 k (by omega) hlt
          rw [(isAt_iff _ _).mpr ⟨(htag k hk).symm, hz⟩] at this
          cases this
        · obtain ⟨g1, g2⟩ := (isAt_iff _ _).mp f1
          exact absurd ⟨hz, g2, by rw [g1, htag k hk]⟩ (t5 j (by omega))
def RightP (c : Cache) : Prop := 1 ≤ c.sets.length ∧ c.sets.length ≤ 8 ∧ ∀ s, s < c.sets.length → (row c s).length = (row c 0).length ∧ FineP c s (row c s)
theorem ap60 : ap 60 = some f60 := rfl
theorem p60 : f60.pure = true := rfl
theorem n60 : f60.nat = none := rfl
theorem ap61 : ap 61 = some f61 := rfl
theorem p61 : f61.pure = true := rfl
theorem n61 : f61.nat = none := rfl

set_option maxHeartbeats 1000000
def rgLoop : ACode := match f45.body with | .seq _ (.seq _ (.seq (.seq _ (.block _ (.loop c))) _)) => c | _ => .skip
theorem rg_loop (c : Cache) (hc : c.wf) (hfit : Fit c.sets) (Q : AExit → St → Prop)
    (hQr : ∀ st : St, rho st.s (.tmp 2) = .bool false → ¬ (∀ s, s < c.sets.length → (row c s).length = (row c 0).length ∧ FineP c s (row c s)) → Q .ret st) (hQe : ∀ st : St, st.s.length = 55 → (∀ s, s < c.sets.length → (row c s).length = (row c 0).length ∧ FineP c s (row c s)) → Q (.exit 0) st) :
    ∀ (m : Nat) (st : St), (∃ s : Nat, st.s.length = 55 ∧ rho st.s (.tmp 1) = .ptr 0 0 ∧ st.g 0 = some [setsT c] ∧ rho st.s (.tmp 3) = .int .i64 (s : Int) ∧ s ≤ c.sets.length ∧ m = c.sets.length - s ∧ (∀ j, j < s → (row c j).length = (row c 0).length ∧ FineP c j (row c j))) → W ap (.loop rgLoop) st Q := by
  refine W_loop _ ?_
  rintro m st ⟨s, hl, h1, g0, h3, hs, hm, hall⟩
  have hN := hfit.1
  have hsc : setsT c = .imm false c.sets.length (c.sets.flatMap (fun l => [rowT l])) := rfl
  have hrl := rows_len c
  by_cases hend : s = c.sets.length
  · have hlt : decide ((s : Int) < (c.sets.length : Int)) = false := decide_eq_false (by omega)
    rw [hsc] at g0
    refine W_seq (W_seqn (W_region (fun k => by simp (decide := true) (disch := first | omega | simp (decide := true) only [List.length_set, hl]) only [sims, autos, simprocAttr, h1, g0, h3, hlt]; rfl) ⟨rfl, W_false (by simp (decide := true) (disch := first | omega | simp (decide := true) only [List.length_set, hl]) only [sims, autos, simprocAttr] <;> rfl) (W_exit ?_)⟩))
    refine (.inr ⟨by simp, .inr ⟨by simp, hQe _ ?_ (fun j hj => hall j (by omega))⟩⟩)
    simp (decide := true) (disch := first | omega | simp (decide := true) only [List.length_set, hl]) only [sims, autos, simprocAttr, hl]
  have hlt : decide ((s : Int) < (c.sets.length : Int)) = true := decide_eq_true (by omega)
  have hsl : s < c.sets.length := by omega
  have h0l : 0 < c.sets.length := by omega
  have hw2 : IntKind.i64.wrap ((s : Int) + 1) = ((s + 1 : Nat) : Int) := by rw [wrap_id (by omega)]; omega
  have hrg := rows_get c s hsl
  have hrg0 := rows_get c 0 h0l
  rw [show rowT (row c s) = .imm false (row c s).length ((row c s).flatMap Way.enc) from rfl] at hrg
  rw [show rowT (row c 0) = .imm false (row c 0).length ((row c 0).flatMap Way.enc) from rfl] at hrg0
  have hb : s * 1 + 1 ≤ c.sets.length := by omega
  have hb0 : 0 * 1 + 1 ≤ c.sets.length := by omega
  have hrb := (fit_row hfit s hsl).1
  obtain ⟨v, hv, b, rfl, hiff⟩ := ref_ages c hc s hsl (by omega)
  obtain ⟨v', hv', b', rfl, hiff'⟩ := ref_tags c hc s hsl (by omega)
  obtain ⟨N1, c32⟩ := hv.call ap60 (fun g => rfl)
  obtain ⟨N2, c33⟩ := hv'.call ap61 (fun g => rfl)
  have q32 := c32 (N1 + N2) (by omega)
  have q33 := c33 (N1 + N2) (by omega)
  have hfi := fine_iff c hc s hsl
  have bad : ¬ ((row c s).length = (row c 0).length ∧ FineP c s (row c s)) → ¬ (∀ s, s < c.sets.length → (row c s).length = (row c 0).length ∧ FineP c s (row c s)) := fun h h' => h (h' s hsl)
  have hcut : cut [T.imm false c.sets.length (c.sets.flatMap (fun l => [rowT l]))] 0 1 = [T.imm false c.sets.length (c.sets.flatMap (fun l => [rowT l]))] := rfl
  rw [hsc] at q32 q33 g0
  generalize c.sets.flatMap (fun l => [rowT l]) = rows at *
  refine W_seqn (W_seqn (W_region (fun k => by simp (decide := true) (disch := first | omega | simp (decide := true) only [List.length_set, hl]) only [sims, autos, simprocAttr, h1, g0, h3, hlt]; rfl) ⟨rfl, W_true (by simp (decide := true) (disch := first | omega | simp (decide := true) only [List.length_set, hl]) only [sims, autos, simprocAttr] <;> rfl) (W_skip ⟨rfl, ?_⟩)⟩))
  refine W_seq (W_block ?_)
  refine W_seqn (W_region (fun k => by simp (decide := true) (disch := first | omega | simp (decide := true) only [List.length_set, hl]) only [sims, autos, simprocAttr, h1, g0, h3, hrl, hsl, hb, hrg]; rfl) ⟨rfl, ?_⟩)
  by_cases a1 : ((row c s).length : Int) < 1
  · have d1 : decide (((row c s).length : Int) < 1) = true := decide_eq_true a1
    refine W_seqn (W_region (fun k => by simp (decide := true) (disch := first | omega | simp (decide := true) only [List.length_set, hl]) only [sims, autos, simprocAttr, hps, d1]; rfl) ⟨rfl, W_true (by simp (decide := true) (disch := first | omega | simp (decide := true) only [List.length_set, hl]) only [sims, autos, simprocAttr] <;> rfl) ?_⟩)
    refine W_seqn (W_region (fun k => by simp (decide := true) (disch := first | omega | simp (decide := true) only [List.length_set, hl]) only [sims, autos, simprocAttr]; rfl) ⟨rfl, W_ret ?_⟩)
    simp only [reduceCtorEq, false_and, false_or, or_false, exists_false, exists_const, ne_eq, not_false_eq_true, true_and, implies_true]
    refine hQr _ ?_ (bad (fun h => by have := h.2.1; omega))
    simp (decide := true) (disch := first | omega | simp (decide := true) only [List.length_set, hl]) only [sims, autos, simprocAttr]
  have d1 : decide (((row c s).length : Int) < 1) = false := decide_eq_false a1
  by_cases a2 : ((row c s).length : Int) > 4
  · have d2 : decide (((row c s).length : Int) > 4) = true := decide_eq_true a2
    refine W_seqn (W_region (fun k => by simp (decide := true) (disch := first | omega | simp (decide := true) only [List.length_set, hl]) only [sims, autos, simprocAttr, hps, d1, d2]; rfl) ⟨rfl, W_true (by simp (decide := true) (disch := first | omega | simp (decide := true) only [List.length_set, hl]) only [sims, autos, simprocAttr] <;> rfl) ?_⟩)
    refine W_seqn (W_region (fun k => by simp (decide := true) (disch := first | omega | simp (decide := true) only [List.length_set, hl]) only [sims, autos, simprocAttr]; rfl) ⟨rfl, W_ret ?_⟩)
    simp only [reduceCtorEq, false_and, false_or, or_false, exists_false, exists_const, ne_eq, not_false_eq_true, true_and, implies_true]
    refine hQr _ ?_ (bad (fun h => by have := h.2.2.1; omega))
    simp (decide := true) (disch := first | omega | simp (decide := true) only [List.length_set, hl]) only [sims, autos, simprocAttr]
  have d2 : decide (((row c s).length : Int) > 4) = false := decide_eq_false a2
  by_cases hlen : (row c s).length = (row c 0).length
  · have e1 : (((row c s).length : Int) != ((row c 0).length : Int)) = false := by simp [hlen]
    cases b with
    | false =>
      refine W_seqn (W_regionN ⟨N1 + N2, by simp (decide := true) (disch := first | omega | simp (decide := true) only [List.length_set, hl]) only [sims, autos, simprocAttr, hps, h1, g0, h3, hrl, h0l, hb0, hrg0, hcut, d1, d2, e1, ap60, p60, n60, q32]; rfl⟩ ⟨rfl, W_true (by simp (decide := true) (disch := first | omega | simp (decide := true) only [List.length_set, hl]) only [sims, autos, simprocAttr] <;> rfl) ?_⟩)
      refine W_seqn (W_region (fun k => by simp (decide := true) (disch := first | omega | simp (decide := true) only [List.length_set, hl]) only [sims, autos, simprocAttr]; rfl) ⟨rfl, W_ret ?_⟩)
      simp only [reduceCtorEq, false_and, false_or, or_false, exists_false, exists_const, ne_eq, not_false_eq_true, true_and, implies_true]
      refine hQr _ ?_ (bad (fun h => by have := hiff.mpr (hfi.mp h.2).2.2.1; cases this))
      simp (decide := true) (disch := first | omega | simp (decide := true) only [List.length_set, hl]) only [sims, autos, simprocAttr]
    | true =>
      cases b' with
      | false =>
        refine W_seqn (W_regionN ⟨N1 + N2, by simp (decide := true) (disch := first | omega | simp (decide := true) only [List.length_set, hl]) only [sims, autos, simprocAttr, hps, h1, g0, h3, hrl, h0l, hb0, hrg0, hcut, d1, d2, e1, ap60, p60, n60, q32, ap61, p61, n61, q33]; rfl⟩ ⟨rfl, W_true (by simp (decide := true) (disch := first | omega | simp (decide := true) only [List.length_set, hl]) only [sims, autos, simprocAttr] <;> rfl) ?_⟩)
        refine W_seqn (W_region (fun k => by simp (decide := true) (disch := first | omega | simp (decide := true) only [List.length_set, hl]) only [sims, autos, simprocAttr]; rfl) ⟨rfl, W_ret ?_⟩)
        simp only [reduceCtorEq, false_and, false_or, or_false, exists_false, exists_const, ne_eq, not_false_eq_true, true_and, implies_true]
        refine hQr _ ?_ (bad (fun h => by have := hiff'.mpr (hfi.mp h.2).2.2.2; cases this))
        simp (decide := true) (disch := first | omega | simp (decide := true) only [List.length_set, hl]) only [sims, autos, simprocAttr]
      | true =>
        refine W_seqn (W_regionN ⟨N1 + N2, by simp (decide := true) (disch := first | omega | simp (decide := true) only [List.length_set, hl]) only [sims, autos, simprocAttr, hps, h1, g0, h3, hrl, h0l, hb0, hrg0, hcut, d1, d2, e1, ap60, p60, n60, q32, ap61, p61, n61, q33]; rfl⟩ ⟨rfl, W_false (by simp (decide := true) (disch := first | omega | simp (decide := true) only [List.length_set, hl]) only [sims, autos, simprocAttr] <;> rfl) (W_skip (.inr (.inl ⟨by simp, .inl ⟨rfl, ?_⟩⟩)))⟩)
        refine W_region (fun k => by simp (decide := true) (disch := first | omega | simp (decide := true) only [List.length_set, hl]) only [sims, autos, simprocAttr, h3, hw2]; rfl) ?_
        refine .inl ⟨rfl, c.sets.length - (s + 1), by omega, s + 1, ?_, ?_, ?_, ?_, by omega, rfl, fun j hj => ?_⟩
        rotate_right 1
        · by_cases hjs : j = s
          · subst hjs; exact ⟨hlen, hfi.mpr ⟨by omega, by omega, hiff.mp rfl, hiff'.mp rfl⟩⟩
          · exact hall j (by omega)
        all_goals simp (decide := true) (disch := first | omega | simp (decide := true) only [List.length_set, hl]) only [sims, autos, simprocAttr, hl, h1, g0, hsc]
  · have e1 : (((row c s).length : Int) != ((row c 0).length : Int)) = true := by simp; omega
    refine W_seqn (W_regionN ⟨0, by simp (decide := true) (disch := first | omega | simp (decide := true) only [List.length_set, hl]) only [sims, autos, simprocAttr, hps, h1, g0, h3, hrl, h0l, hb0, hrg0, hcut, d1, d2, e1]; rfl⟩ ⟨rfl, W_true (by simp (decide := true) (disch := first | omega | simp (decide := true) only [List.length_set, hl]) only [sims, autos, simprocAttr] <;> rfl) ?_⟩)
    refine W_seqn (W_region (fun k => by simp (decide := true) (disch := first | omega | simp (decide := true) only [List.length_set, hl]) only [sims, autos, simprocAttr]; rfl) ⟨rfl, W_ret ?_⟩)
    simp only [reduceCtorEq, false_and, false_or, or_false, exists_false, exists_const, ne_eq, not_false_eq_true, true_and, implies_true]
    refine hQr _ ?_ (bad (fun h => hlen h.1))
    simp (decide := true) (disch := first | omega | simp (decide := true) only [List.length_set, hl]) only [sims, autos, simprocAttr]
theorem ref_right (c : Cache) (hc : c.wf) (hfit : Fit c.sets) : ∃ v, E ap 45 [.agg [setsT c]] v ∧ ∃ b, v = .bool b ∧ (b = true ↔ RightP c) := by
  refine E_bodyV (F := f45) rfl rfl rfl (P := fun v => ∃ b, v = .bool b ∧ (b = true ↔ RightP c)) ?_
  generalize hs0 : (_ : List T) ++ List.replicate _ T.undef = s0
  have e0 : s0.length = 55 ∧ rho s0 (.tmp 0) = .agg [setsT c] := by subst hs0; exact ⟨rfl, rfl⟩
  clear hs0
  obtain ⟨hl, h0⟩ := e0
  have hleaf : allLeaf [setsT c] = true := rfl
  have hsc : setsT c = .imm false c.sets.length (c.sets.flatMap (fun l => [rowT l])) := rfl
  have hdef : RightP c = (1 ≤ c.sets.length ∧ c.sets.length ≤ 8 ∧ ∀ s, s < c.sets.length → (row c s).length = (row c 0).length ∧ FineP c s (row c s)) := rfl
  refine W_seqn (W_region (fun k => by simp (decide := true) (disch := first | omega | simp (decide := true) only [List.length_set, hl]) only [sims, autos, simprocAttr, hps, h0, hleaf]; rfl) ⟨rfl, ?_⟩)
  by_cases ha : (c.sets.length : Int) < 1
  · have d1 : decide ((c.sets.length : Int) < 1) = true := decide_eq_true ha
    refine W_seq (W_seqn (W_region (fun k => by simp (decide := true) (disch := first | omega | simp (decide := true) only [List.length_set, hl]) only [sims, autos, simprocAttr, hps, hsc, d1]; rfl) ⟨rfl, W_true (by simp (decide := true) (disch := first | omega | simp (decide := true) only [List.length_set, hl]) only [sims, autos, simprocAttr] <;> rfl) ?_⟩))
    refine W_seqn (W_region (fun k => by simp (decide := true) (disch := first | omega | simp (decide := true) only [List.length_set, hl]) only [sims, autos, simprocAttr]; rfl) ⟨rfl, W_ret ?_⟩)
    simp only [reduceCtorEq, false_and, false_or, or_false, exists_false, exists_const, ne_eq, not_false_eq_true, true_and, implies_true]
    refine ⟨rfl, fin_bool (F := f45) (b := false) (P := fun b => b = true ↔ RightP c) rfl (bfalse (fun h => by rw [hdef] at h; omega)) ?_⟩
    simp (decide := true) (disch := first | omega | simp (decide := true) only [List.length_set, hl]) only [sims, autos, simprocAttr]
  have d1 : decide ((c.sets.length : Int) < 1) = false := decide_eq_false ha
  by_cases ha2 : (c.sets.length : Int) > 8
  · have d2 : decide ((c.sets.length : Int) > 8) = true := decide_eq_true ha2
    refine W_seq (W_seqn (W_region (fun k => by simp (decide := true) (disch := first | omega | simp (decide := true) only [List.length_set, hl]) only [sims, autos, simprocAttr, hps, hsc, d1, d2]; rfl) ⟨rfl, W_true (by simp (decide := true) (disch := first | omega | simp (decide := true) only [List.length_set, hl]) only [sims, autos, simprocAttr] <;> rfl) ?_⟩))
    refine W_seqn (W_region (fun k => by simp (decide := true) (disch := first | omega | simp (decide := true) only [List.length_set, hl]) only [sims, autos, simprocAttr]; rfl) ⟨rfl, W_ret ?_⟩)
    simp only [reduceCtorEq, false_and, false_or, or_false, exists_false, exists_const, ne_eq, not_false_eq_true, true_and, implies_true]
    refine ⟨rfl, fin_bool (F := f45) (b := false) (P := fun b => b = true ↔ RightP c) rfl (bfalse (fun h => by rw [hdef] at h; omega)) ?_⟩
    simp (decide := true) (disch := first | omega | simp (decide := true) only [List.length_set, hl]) only [sims, autos, simprocAttr]
  have d2 : decide ((c.sets.length : Int) > 8) = false := decide_eq_false ha2
  refine W_seqn (W_seqn (W_region (fun k => by simp (decide := true) (disch := first | omega | simp (decide := true) only [List.length_set, hl]) only [sims, autos, simprocAttr, hps, hsc, d1, d2]; rfl) ⟨rfl, W_false (by simp (decide := true) (disch := first | omega | simp (decide := true) only [List.length_set, hl]) only [sims, autos, simprocAttr] <;> rfl) (W_skip ⟨rfl, ?_⟩)⟩))
  refine W_seq (W_seqn (W_region (fun k => by simp (decide := true) (disch := first | omega | simp (decide := true) only [List.length_set, hl]) only [sims, autos, simprocAttr, hps]; rfl) ⟨rfl, W_block ?_⟩))
  refine rg_loop c hc hfit _ (fun st h2 hno => ?_) (fun st hst hall => ?_) (c.sets.length - 0) _ ⟨0, ?_, ?_, ?_, ?_, by omega, rfl, fun j hj => by omega⟩
  · simp only [reduceCtorEq, false_and, false_or, or_false, exists_false, exists_const, ne_eq, not_false_eq_true, true_and, implies_true]
    exact ⟨rfl, fin_bool (F := f45) (b := false) (P := fun b => b = true ↔ RightP c) rfl (bfalse (fun h => hno h.2.2)) h2⟩
  · have hl := hst
    refine .inl ⟨rfl, .inl ⟨rfl, W_seqn (W_region (fun k => by simp (decide := true) (disch := first | omega | simp (decide := true) only [List.length_set, hl]) only [sims, autos, simprocAttr]; rfl) ⟨rfl, W_ret ?_⟩)⟩⟩
    refine ⟨rfl, fin_bool (F := f45) (b := true) (P := fun b => b = true ↔ RightP c) rfl (btrue ⟨by omega, by omega, hall⟩) ?_⟩
    simp (decide := true) (disch := first | omega | simp (decide := true) only [List.length_set, hl]) only [sims, autos, simprocAttr]
  all_goals first | (simp (decide := true) (disch := first | omega | simp (decide := true) only [List.length_set, hl]) only [sims, autos, simprocAttr, hps, hl]; done) | (simp (decide := true) (disch := first | omega | simp (decide := true) only [List.length_set, hl]) only [sims, autos, simprocAttr, hps, hl, hsc]; done) | (simp (decide := true) (disch := first | omega | simp (decide := true) only [List.length_set, hl]) only [sims, autos, simprocAttr, hps, hl]; rfl)

set_option maxHeartbeats 1000000
/-- May the k-th of the m ways of set s of n be? -/
def WayOK (n m s : Nat) (l : List Way) (k : Nat) : Prop :=
  0 ≤ (wayN l k).age ∧ (wayN l k).age < m ∧ (∀ j, j < m → j ≠ k → (wayN l j).age ≠ (wayN l k).age) ∧ 0 ≤ (wayN l k).state ∧ (wayN l k).state ≤ 3 ∧ ((wayN l k).state = 0 → (wayN l k).tag = 0 ∧ (wayN l k).data = zeros) ∧ ((wayN l k).state ≠ 0 → (wayN l k).tag.toNat % n = s) ∧ ((wayN l k).state ≠ 0 → ∀ j, j < m → j ≠ k → (wayN l j).state ≠ 0 → (wayN l j).tag ≠ (wayN l k).tag)
def RowOK (n m s : Nat) (l : List Way) : Prop := l.length = m ∧ ∀ k, k < m → WayOK n m s l k
def RightQ (n m : Nat) (R : List (List Way)) : Prop := R.length = n ∧ 1 ≤ n ∧ n ≤ 8 ∧ 1 ≤ m ∧ m ≤ 4 ∧ ∀ s, s < n → RowOK n m s ((R[s]?).getD [])
theorem right_q (c : Cache) (hc : c.wf) : RightP c ↔ ∃ m, RightQ c.sets.length m c.sets := by
  constructor
  · rintro ⟨h1, h2, h3⟩
    obtain ⟨h4, h5⟩ := h3 0 (by omega)
    refine ⟨(row c 0).length, rfl, h1, h2, h5.1, h5.2.1, fun s hs => ?_⟩
    show RowOK _ _ _ (row c s)
    obtain ⟨h6, h7⟩ := h3 s hs
    obtain ⟨_, _, h8, h9⟩ := (fine_iff c hc s hs).mp h7
    rw [ages_iff] at h8
    rw [← h6]
    refine ⟨rfl, fun k hk => ?_⟩
    obtain ⟨a1, a2, a3⟩ := h8 k hk
    obtain ⟨t1, t2, t3, t4, t5⟩ := h9 k hk
    refine ⟨a1, a2, fun j hj hjk => ?_, t1, t2, t3, t4, fun hz j hj hjk hjz he => ?_⟩
    · rcases Nat.lt_or_gt_of_ne hjk with h | h
      · exact a3 j h
      · exact fun e => (h8 j hj).2.2 k h e.symm
    · rcases Nat.lt_or_gt_of_ne hjk with h | h
      · exact t5 j h ⟨hz, hjz, he.symm⟩
      · exact (h9 j hj).2.2.2.2 k h ⟨hjz, hz, he⟩
  · rintro ⟨m, h0, h1, h2, h3, h4, h5⟩
    refine ⟨h1, h2, fun s hs => ?_⟩
    have hr : ∀ s, s < c.sets.length → (row c s).length = m := fun s hs => (h5 s hs).1
    refine ⟨by rw [hr s hs, hr 0 (by omega)], (fine_iff c hc s hs).mpr ⟨by rw [hr s hs]; exact h3, by rw [hr s hs]; exact h4, ?_, ?_⟩⟩
    · rw [ages_iff, hr s hs]
      intro k hk
      obtain ⟨a1, a2, a3, _⟩ := (h5 s hs).2 k hk
      exact ⟨a1, a2, fun j hj => a3 j (by omega) (by omega)⟩
    · intro k hk
      rw [hr s hs] at hk
      obtain ⟨a1, a2, a3, t1, t2, t3, t4, t5⟩ := (h5 s hs).2 k hk
      exact ⟨t1, t2, t3, t4, fun j hj ⟨d1, d2, d3⟩ => t5 d1 j (by omega) (by omega) d2 d3.symm⟩
theorem wayN_setq (l : List Way) (k : Nat) (h : k < l.length) (x : Way) (j : Nat) : wayN (l.set k x) j = if j = k then x else wayN l j := by
  unfold wayN
  rw [List.getElem?_set]
  by_cases hjk : k = j
  · rw [if_pos hjk, if_pos hjk.symm, if_pos h]; rfl
  · rw [if_neg hjk, if_neg (fun e => hjk e.symm)]
theorem rowok_set {n m s : Nat} {l : List Way} (h : RowOK n m s l) {k : Nat} (hk : k < m) {x : Way} (ha : x.age = (wayN l k).age) (hs : 0 ≤ x.state ∧ x.state ≤ 3) (hz : x.state = 0 → x.tag = 0 ∧ x.data = zeros) (ht : x.state ≠ 0 → x.tag.toNat % n = s) (hd : x.state ≠ 0 → ∀ j, j < m → j ≠ k → (wayN l j).state ≠ 0 → (wayN l j).tag ≠ x.tag) : RowOK n m s (l.set k x) := by
  have hw := fun j => wayN_setq l k (by rw [h.1]; exact hk) x j
  refine ⟨by rw [List.length_set]; exact h.1, fun j hj => ?_⟩
  obtain ⟨a1, a2, a3, t1, t2, t3, t4, t5⟩ := h.2 j hj
  obtain ⟨b1, b2, b3, _⟩ := h.2 k hk
  unfold WayOK
  rw [hw j]
  by_cases hjk : j = k
  · subst hjk
    rw [if_pos rfl, ha]
    refine ⟨b1, b2, fun i hi hik => ?_, hs.1, hs.2, hz, ht, fun h0 i hi hik => ?_⟩
    · rw [hw i, if_neg hik]; exact b3 i hi hik
    · rw [hw i, if_neg hik]; exact hd h0 i hi hik
  · rw [if_neg hjk]
    refine ⟨a1, a2, fun i hi hij => ?_, t1, t2, t3, t4, fun h0 i hi hij => ?_⟩
    · rw [hw i]
      by_cases hik : i = k
      · subst hik; rw [if_pos rfl, ha]; exact a3 i hi hij
      · rw [if_neg hik]; exact a3 i hi hij
    · rw [hw i]
      by_cases hik : i = k
      · subst hik
        rw [if_pos rfl]
        exact fun h1 e => hd h1 j hj hjk h0 e.symm
      · rw [if_neg hik]; exact t5 h0 i hi hij
theorem wayN_map (l : List Way) (f : Way → Way) (j : Nat) (h : j < l.length) : wayN (l.map f) j = f (wayN l j) := by
  unfold wayN; rw [List.getElem?_map, List.getElem?_eq_getElem h]; rfl
theorem wayN_touch (l : List Way) (w : Nat) (hw : w < l.length) (j : Nat) (hj : j < l.length) : wayN (touchL l w) j = if j = w then aged (wayN l w) 0 else up (wayN l w).age (wayN l j) := by
  unfold touchL
  rw [wayN_setq _ _ (by rw [bump_len]; exact hw), bump_all]
  by_cases h : j = w
  · rw [if_pos h, if_pos h, wayN_map _ _ _ hw]
    unfold up aged
    split <;> rfl
  · rw [if_neg h, if_neg h, wayN_map _ _ _ hj]
theorem up_state (a : Int) (x : Way) : (up a x).state = x.state ∧ (up a x).tag = x.tag ∧ (up a x).data = x.data ∧ (up a x).age = if x.age < a then x.age + 1 else x.age := by
  unfold up aged; split <;> exact ⟨rfl, rfl, rfl, rfl⟩
theorem touch_keep (l : List Way) (w : Nat) (hw : w < l.length) (j : Nat) (hj : j < l.length) : (wayN (touchL l w) j).state = (wayN l j).state ∧ (wayN (touchL l w) j).tag = (wayN l j).tag ∧ (wayN (touchL l w) j).data = (wayN l j).data ∧ (wayN (touchL l w) j).age = if j = w then 0 else if (wayN l j).age < (wayN l w).age then (wayN l j).age + 1 else (wayN l j).age := by
  rw [wayN_touch l w hw j hj]
  by_cases h : j = w
  · subst h; rw [if_pos rfl, if_pos rfl]; exact ⟨rfl, rfl, rfl, rfl⟩
  · rw [if_neg h, if_neg h]; exact up_state _ _
theorem rowok_touch {n m s : Nat} {l : List Way} (h : RowOK n m s l) {w : Nat} (hw : w < m) : RowOK n m s (touchL l w) := by
  have hk := fun j (hj : j < m) => touch_keep l w (by rw [h.1]; exact hw) j (by rw [h.1]; exact hj)
  obtain ⟨w1, w2, w3, _⟩ := h.2 w hw
  refine ⟨by rw [touch_len]; exact h.1, fun j hj => ?_⟩
  obtain ⟨a1, a2, a3, t1, t2, t3, t4, t5⟩ := h.2 j hj
  obtain ⟨k1, k2, k3, k4⟩ := hk j hj
  unfold WayOK
  rw [k1, k2, k3, k4]
  have hne := fun i (hi : i < m) (hij : i ≠ j) => a3 i hi hij
  refine ⟨?_, ?_, fun i hi hij => ?_, t1, t2, t3, t4, fun h0 i hi hij => ?_⟩
  · split
    · omega
    · split <;> omega
  · split
    · omega
    · rename_i hjw
      have := a3 w hw (fun e => hjw e.symm)
      split <;> omega
  · obtain ⟨i1, i2, i3, _⟩ := h.2 i hi
    have e1 := a3 i hi hij
    rw [(hk i hi).2.2.2]
    by_cases hiw : i = w
    · by_cases hjw : j = w
      · omega
      · rw [if_pos hiw, if_neg hjw]
        have e2 := a3 w hw (fun e => hjw e.symm)
        split <;> omega
    · have e3 := i3 w hw (fun e => hiw e.symm)
      by_cases hjw : j = w
      · rw [if_neg hiw, if_pos hjw]
        split <;> omega
      · rw [if_neg hiw, if_neg hjw]
        have e2 := a3 w hw (fun e => hjw e.symm)
        split <;> split <;> omega
  · rw [(hk i hi).1, (hk i hi).2.1]
    exact t5 h0 i hi hij
theorem rightq_set {n m : Nat} {R : List (List Way)} (h : RightQ n m R) {i : Nat} (hi : i < n) {l : List Way} (hl : RowOK n m i l) : RightQ n m (R.set i l) := by
  obtain ⟨h0, h1, h2, h3, h4, h5⟩ := h
  refine ⟨by rw [List.length_set]; exact h0, h1, h2, h3, h4, fun s hs => ?_⟩
  rw [List.getElem?_set]
  by_cases his : i = s
  · subst his; rw [if_pos rfl, if_pos (by omega)]; exact hl
  · rw [if_neg his]; exact h5 s hs
theorem row_of (R : List (List Way)) (s : Nat) : row ⟨R⟩ s = (R[s]?).getD [] := rfl
theorem find_lt' {c : Cache} {ln k : Nat} (h : find c ln = some k) : isAt ln (wayN (row c (seti c ln)) k) = true := by
  unfold find at h
  split at h
  · cases h
  · exact (fnd_first _ _ _ _ _ h).1
theorem find_uniq {n m : Nat} {c : Cache} (h : RightQ n m c.sets) {ln k : Nat} (hk : k < m) (hat : isAt ln (wayN (row c (ln % n)) k) = true) : find c ln = some k := by
  obtain ⟨h0, h1, h2, h3, h4, h5⟩ := h
  have hse : seti c ln = ln % n := by unfold seti; rw [h0]
  have hr : RowOK n m (ln % n) (row c (ln % n)) := h5 _ (Nat.mod_lt _ h1)
  unfold find
  rw [if_neg (by omega), hse]
  obtain ⟨j, hj⟩ := fnd_has (row c (ln % n)) ln (row c (ln % n)).length 0 k (by omega) (by rw [hr.1]; omega) hat
  rw [hj]
  obtain ⟨f1, f2, f3⟩ := fnd_first _ _ _ _ _ hj
  by_cases hjk : j = k
  · rw [hjk]
  · by_cases hlt : k < j
    · rw [f3 k (by omega) hlt] at hat; cases hat
    · obtain ⟨g1, g2⟩ := (isAt_iff _ _).mp f1
      obtain ⟨g3, g4⟩ := (isAt_iff _ _).mp hat
      exact absurd (by rw [g1, g3]) ((hr.2 k hk).2.2.2.2.2.2.2 g4 j (by omega) hjk g2)
theorem rightq_upd {n m : Nat} {c : Cache} (h : RightQ n m c.sets) {s k : Nat} (hs : s < n) (hk : k < m) {x : Way} (ha : x.age = (wayN (row c s) k).age) (ht : x.tag = (wayN (row c s) k).tag) (h0 : (wayN (row c s) k).state ≠ 0) (hx : 1 ≤ x.state ∧ x.state ≤ 3) : RightQ n m (c.sets.set s ((row c s).set k x)) := by
  have hr : RowOK n m s (row c s) := h.2.2.2.2.2 s hs
  obtain ⟨a1, a2, a3, t1, t2, t3, t4, t5⟩ := hr.2 k hk
  refine rightq_set h hs (rowok_set hr hk ha (by omega) (by omega) (fun _ => ?_) (fun _ j hj hjk hz => ?_))
  · rw [ht]; exact t4 h0
  · rw [ht]; exact t5 h0 j hj hjk hz
theorem find_in {n m : Nat} {c : Cache} (h : RightQ n m c.sets) {ln k : Nat} (hf : find c ln = some k) : k < m ∧ seti c ln = ln % n ∧ ln % n < n ∧ (wayN (row c (ln % n)) k).tag = (ln : Int) ∧ (wayN (row c (ln % n)) k).state ≠ 0 := by
  obtain ⟨h1, h2⟩ := find_lt hf
  have hse : seti c ln = ln % n := by unfold seti; rw [h.1]
  have hlt : ln % n < n := Nat.mod_lt _ h.2.1
  have hr : RowOK n m (ln % n) (row c (ln % n)) := h.2.2.2.2.2 _ hlt
  have h3 := (isAt_iff _ _).mp (find_lt' hf)
  rw [hse] at h2 h3
  exact ⟨by rw [hr.1] at h2; exact h2, hse, hlt, h3.1, h3.2⟩
theorem rightq_setR {n m : Nat} {c : Cache} (h : RightQ n m c.sets) (ln : Nat) (st : Int) : RightQ n m (setR c ln st) := by
  unfold setR
  cases hf : find c ln with
  | none => exact h
  | some k =>
    obtain ⟨hk, hse, hlt, h1, h2⟩ := find_in h hf
    simp only
    split
    · exact h
    · rename_i hst
      rw [hse]
      have hr : RowOK n m (ln % n) (row c (ln % n)) := h.2.2.2.2.2 _ hlt
      unfold setW
      by_cases hz : st = 0
      · rw [if_pos hz]
        exact rightq_set h hlt (rowok_set hr hk rfl ⟨Int.le_refl 0, by show (0 : Int) ≤ 3; decide⟩ (fun _ => ⟨rfl, rfl⟩) (fun h0 => absurd rfl h0) (fun h0 => absurd rfl h0))
      · rw [if_neg hz]
        exact rightq_upd h hlt hk rfl rfl h2 (by show 1 ≤ st ∧ st ≤ 3; omega)
/-- A filled cache. -/
theorem fill_is {n m : Nat} {c : Cache} (h : RightQ n m c.sets) (ln : Nat) (st : Int) (hst : 1 ≤ st ∧ st ≤ 3) (data : List Int) :
    ∃ k, k < m ∧ ln % n < n ∧ fillR c ln st data = (c.sets.set (ln % n) (touchL ((row c (ln % n)).set k (fillW (wayN (row c (ln % n)) k) ln st data)) k), goneW (wayN (row c (ln % n)) k) ln) ∧ RightQ n m (fillR c ln st data).1 ∧ find ⟨(fillR c ln st data).1⟩ ln = some k ∧ (∀ j, j < m → j ≠ k → (wayN (row c (ln % n)) j).state ≠ 0 → (wayN (row c (ln % n)) j).tag ≠ (ln : Int)) := by
  have h' := h
  obtain ⟨h0, h1, h2, h3, h4, h5⟩ := h'
  have hse : seti c ln = ln % n := by unfold seti; rw [h0]
  have hlt : ln % n < n := Nat.mod_lt _ h1
  have hr : RowOK n m (ln % n) (row c (ln % n)) := h5 _ hlt
  have hz : ¬ c.sets.length = 0 := by omega
  obtain ⟨v1, v2, v3⟩ := victim_lt c ln hz (by rw [hse, hr.1]; omega)
  rw [hse, hr.1] at v3
  have hd : ∀ j, j < m → j ≠ (victim c ln).2 → (wayN (row c (ln % n)) j).state ≠ 0 → (wayN (row c (ln % n)) j).tag ≠ (ln : Int) := by
    intro j hj hjk hjz he
    have hf := find_uniq h hj ((isAt_iff _ _).mpr ⟨he, hjz⟩)
    unfold victim at hjk
    rw [hf] at hjk
    exact hjk rfl
  have hf : fillR c ln st data = (touchR (c.sets.set (seti c ln) ((row c (seti c ln)).set (victim c ln).2 (fillW (wayN (row c (seti c ln)) (victim c ln).2) ln st data))) (seti c ln : Int) ((victim c ln).2 : Int), goneW (wayN (row c (seti c ln)) (victim c ln).2) ln) := if_neg (by rw [hse, hr.1]; omega)
  rw [hse] at hf
  generalize hk : (victim c ln).2 = k at *
  have hx : (fillW (wayN (row c (ln % n)) k) ln st data).state = st := rfl
  have hro : RowOK n m (ln % n) ((row c (ln % n)).set k (fillW (wayN (row c (ln % n)) k) ln st data)) := rowok_set hr v3 rfl (by rw [hx]; omega) (by rw [hx]; omega) (fun _ => rfl) (fun _ j hj hjk hz => hd j hj hjk hz)
  have hq := rightq_set h hlt hro
  have hil : ln % n < (c.sets.set (ln % n) ((row c (ln % n)).set k (fillW (wayN (row c (ln % n)) k) ln st data))).length := by rw [hq.1]; exact hlt
  have hge : (c.sets.set (ln % n) ((row c (ln % n)).set k (fillW (wayN (row c (ln % n)) k) ln st data)))[ln % n] = (row c (ln % n)).set k (fillW (wayN (row c (ln % n)) k) ln st data) := by rw [List.getElem_set_self]
  have ht := touch_some _ (ln % n) k hil (by rw [hge, hro.1]; exact v3)
  rw [hge, List.set_set] at ht
  rw [ht] at hf
  have hqr : RightQ n m (fillR c ln st data).1 := by rw [hf]; exact rightq_set h hlt (rowok_touch hro v3)
  refine ⟨k, v3, hlt, hf, hqr, ?_, hd⟩
  refine find_uniq (c := ⟨(fillR c ln st data).1⟩) hqr v3 ?_
  rw [hf]
  show isAt ln (wayN (row ⟨c.sets.set (ln % n) _⟩ (ln % n)) k) = true
  rw [row_of, List.getElem?_set, if_pos rfl, if_pos (by omega), Option.getD_some]
  obtain ⟨k1, k2, _⟩ := touch_keep _ k (by rw [hro.1]; exact v3) k (by rw [hro.1]; exact v3)
  rw [isAt_iff, k1, k2, wayN_setq _ _ (by rw [hr.1]; exact v3), if_pos rfl]
  exact ⟨rfl, by rw [hx]; omega⟩
/-- The way that was filled. -/
theorem fill_way {n m : Nat} {c : Cache} (h : RightQ n m c.sets) (ln : Nat) (st : Int) (hst : 1 ≤ st ∧ st ≤ 3) (data : List Int) {k : Nat} (hfd : find ⟨(fillR c ln st data).1⟩ ln = some k) :
    k < m ∧ (wayN (row ⟨(fillR c ln st data).1⟩ (ln % n)) k).age = 0 ∧ (wayN (row ⟨(fillR c ln st data).1⟩ (ln % n)) k).data = data ∧ (wayN (row ⟨(fillR c ln st data).1⟩ (ln % n)) k).state = st := by
  obtain ⟨k', hk, hlt, hf, hq, hfd', hd⟩ := fill_is h ln st hst data
  rw [hfd] at hfd'
  obtain rfl := Option.some.inj hfd'
  have hri : RowOK n m (ln % n) (row c (ln % n)) := h.2.2.2.2.2 _ hlt
  have hil : ln % n < c.sets.length := by rw [h.1]; exact hlt
  have hroi : row ⟨(fillR c ln st data).1⟩ (ln % n) = touchL ((row c (ln % n)).set k (fillW (wayN (row c (ln % n)) k) ln st data)) k := by
    rw [hf, row_of, List.getElem?_set, if_pos rfl, if_pos hil]; rfl
  have hsl : ((row c (ln % n)).set k (fillW (wayN (row c (ln % n)) k) ln st data)).length = m := by rw [List.length_set, hri.1]
  rw [hroi]
  obtain ⟨k1, k2, k3, k4⟩ := touch_keep _ k (by rw [hsl]; exact hk) k (by rw [hsl]; exact hk)
  rw [k4, k3, k1, if_pos rfl, wayN_setq _ _ (by rw [hri.1]; exact hk), if_pos rfl]
  exact ⟨hk, rfl, rfl, rfl⟩
set_option maxHeartbeats 1000000
theorem wayOf_of {n m : Nat} {c : Cache} (h : RightQ n m c.sets) {x k : Nat} (hk : k < m) (ht : (wayN (row c (x % n)) k).tag = (x : Int)) (hs : (wayN (row c (x % n)) k).state ≠ 0) : find c x = some k ∧ wayOf c x = wayN (row c (x % n)) k := by
  have hf := find_uniq h hk ((isAt_iff x _).mpr ⟨ht, hs⟩)
  have hse : seti c x = x % n := by unfold seti; rw [h.1]
  exact ⟨hf, by unfold wayOf; rw [hf, hse]; rfl⟩
theorem wayOf_cases {n m : Nat} {c : Cache} (h : RightQ n m c.sets) (x : Nat) : (∃ k, k < m ∧ find c x = some k ∧ wayOf c x = wayN (row c (x % n)) k ∧ (wayN (row c (x % n)) k).tag = (x : Int) ∧ (wayN (row c (x % n)) k).state ≠ 0) ∨ (find c x = none ∧ wayOf c x = zeroW ∧ ∀ k, k < m → (wayN (row c (x % n)) k).tag = (x : Int) → (wayN (row c (x % n)) k).state = 0) := by
  cases hf : find c x with
  | some k =>
    obtain ⟨hk, hse, hlt, ht, hs⟩ := find_in h hf
    exact .inl ⟨k, hk, rfl, (wayOf_of h hk ht hs).2, ht, hs⟩
  | none =>
    refine .inr ⟨rfl, by unfold wayOf; rw [hf], fun k hk ht => Classical.byContradiction fun hs => ?_⟩
    rw [(wayOf_of h hk ht hs).1] at hf
    cases hf
theorem mod_lt' {n m : Nat} {R : List (List Way)} (h : RightQ n m R) (x : Nat) : x % n < n := Nat.mod_lt _ h.2.1
theorem row_setq {R : List (List Way)} (s : Nat) (l : List Way) (t : Nat) (hs : s < R.length) : row ⟨R.set s l⟩ t = if t = s then l else row ⟨R⟩ t := by
  unfold row
  by_cases h : t = s
  · subst h; rw [if_pos rfl, List.getElem?_set_self hs]; rfl
  · rw [if_neg h, List.getElem?_set_ne (fun e => h e.symm)]
theorem rowlen {n m : Nat} {c : Cache} (h : RightQ n m c.sets) (s : Nat) (hs : s < n) : (row c s).length = m := (h.2.2.2.2.2 s hs).1
/-- Behind a change of one way of a row. -/
theorem wayOf_upd {n m : Nat} {c : Cache} (h : RightQ n m c.sets) {s k : Nat} (hs : s < n) (hk : k < m) (w : Way) (hR : RightQ n m (c.sets.set s ((row c s).set k w))) (x : Nat) (hx : w.state ≠ 0 → w.tag ≠ (x : Int)) (ho : (wayN (row c s) k).state ≠ 0 → (wayN (row c s) k).tag ≠ (x : Int)) : wayOf ⟨c.sets.set s ((row c s).set k w)⟩ x = wayOf c x := by
  have hsl : s < c.sets.length := by rw [h.1]; exact hs
  have hkl : k < (row c s).length := by rw [rowlen h s hs]; exact hk
  have hrow := row_setq (R := c.sets) s ((row c s).set k w) (x % n) hsl
  rcases wayOf_cases h x with ⟨j, hj, hf, e, ht, hst⟩ | ⟨hf, e, hno⟩
  · have hw : wayN (row ⟨c.sets.set s ((row c s).set k w)⟩ (x % n)) j = wayN (row c (x % n)) j := by
      rw [hrow]
      by_cases hx2 : x % n = s
      · rw [if_pos hx2, wayN_setq _ _ hkl]
        have hjk : j ≠ k := fun e => by
          subst e
          rw [hx2] at ht hst
          exact ho hst ht
        rw [if_neg hjk, hx2]
      · rw [if_neg hx2]
    have := (wayOf_of hR hj (by rw [hw]; exact ht) (by rw [hw]; exact hst)).2
    rw [this, hw, e]
  · rcases wayOf_cases hR x with ⟨j, hj, hf', e', ht, hst⟩ | ⟨hf', e', _⟩
    · exfalso
      rw [hrow] at ht hst
      by_cases hx2 : x % n = s
      · rw [if_pos hx2, wayN_setq _ _ hkl] at ht hst
        by_cases hjk : j = k
        · rw [if_pos hjk] at ht hst
          exact hx hst ht
        · rw [if_neg hjk, ← hx2] at ht hst
          exact hst (hno j hj ht)
      · rw [if_neg hx2] at ht hst
        exact hst (hno j hj ht)
    · rw [e', e]
theorem setR_some {n m : Nat} {c : Cache} (h : RightQ n m c.sets) {ln k : Nat} {st : Int} (hst : 0 ≤ st ∧ st ≤ 3) (hf : find c ln = some k) : setR c ln st = c.sets.set (ln % n) ((row c (ln % n)).set k (setW (wayN (row c (ln % n)) k) st)) := by
  have hse : seti c ln = ln % n := by unfold seti; rw [h.1]
  unfold setR
  rw [hf]
  simp only
  rw [if_neg (by omega), hse]
theorem setR_none {c : Cache} {ln : Nat} {st : Int} (hf : find c ln = none) : setR c ln st = c.sets := by unfold setR; rw [hf]
/-- Other lines are as they were. -/
theorem set_other {n m : Nat} {c : Cache} (h : RightQ n m c.sets) (ln : Nat) {st : Int} (hst : 0 ≤ st ∧ st ≤ 3) (x : Nat) (hx : x ≠ ln) : wayOf ⟨setR c ln st⟩ x = wayOf c x := by
  have hq := rightq_setR h ln st
  cases hf : find c ln with
  | none => rw [setR_none hf]
  | some k =>
    obtain ⟨hk, hse, hlt, ht, hs⟩ := find_in h hf
    rw [setR_some h hst hf] at hq ⊢
    refine wayOf_upd h hlt hk _ hq x (fun hw => ?_) (fun _ => by rw [ht]; omega)
    have : st ≠ 0 := fun e => hw (by unfold setW; rw [if_pos e]; rfl)
    have e : setW (wayN (row c (ln % n)) k) st = stW (wayN (row c (ln % n)) k) st := by unfold setW; rw [if_neg this]
    rw [e]
    show (wayN (row c (ln % n)) k).tag ≠ _
    rw [ht]; omega
/-- The line itself has its new state, and its bytes. -/
theorem set_same {n m : Nat} {c : Cache} (h : RightQ n m c.sets) (ln : Nat) {st : Int} (hst : 0 ≤ st ∧ st ≤ 3) (hs0 : (wayOf c ln).state ≠ 0) : (wayOf ⟨setR c ln st⟩ ln).state = st ∧ (st ≠ 0 → (wayOf ⟨setR c ln st⟩ ln).data = (wayOf c ln).data) := by
  have hq := rightq_setR h ln st
  rcases wayOf_cases h ln with ⟨k, hk, hf, e, ht, hs⟩ | ⟨_, e, _⟩
  · rw [setR_some h hst hf] at hq ⊢
    have hlt := mod_lt' h ln
    have hsl : ln % n < c.sets.length := by rw [h.1]; exact hlt
    have hkl : k < (row c (ln % n)).length := by rw [rowlen h _ hlt]; exact hk
    have hrow := row_setq (R := c.sets) (ln % n) ((row c (ln % n)).set k (setW (wayN (row c (ln % n)) k) st)) (ln % n) hsl
    rw [if_pos rfl] at hrow
    have hw : ∀ j, wayN (row ⟨c.sets.set (ln % n) ((row c (ln % n)).set k (setW (wayN (row c (ln % n)) k) st))⟩ (ln % n)) j = if j = k then setW (wayN (row c (ln % n)) k) st else wayN (row c (ln % n)) j := fun j => by rw [hrow, wayN_setq _ _ hkl]
    by_cases h0 : st = 0
    · refine ⟨?_, fun h => absurd h0 h⟩
      rcases wayOf_cases hq ln with ⟨j, hj, hf', e', ht', hs'⟩ | ⟨_, e', _⟩
      · exfalso
        rw [hw] at ht' hs'
        by_cases hjk : j = k
        · rw [if_pos hjk] at hs'
          exact hs' (by unfold setW; rw [if_pos h0]; rfl)
        · rw [if_neg hjk] at ht' hs'
          have := (wayOf_of h hj ht' hs').1
          rw [hf] at this
          exact hjk (Option.some.inj this).symm
      · rw [e', h0]; rfl
    · have hwk := hw k
      rw [if_pos rfl] at hwk
      have e2 : setW (wayN (row c (ln % n)) k) st = stW (wayN (row c (ln % n)) k) st := by unfold setW; rw [if_neg h0]
      rw [e2] at hwk
      have := (wayOf_of hq hk (by rw [e2, hwk]; exact ht) (by rw [e2, hwk]; exact h0)).2
      rw [e2] at this ⊢
      rw [this, hwk, e]
      exact ⟨rfl, fun _ => rfl⟩
  · rw [e] at hs0
    exact absurd rfl hs0
theorem set_none {n m : Nat} {c : Cache} (h : RightQ n m c.sets) (ln : Nat) (st : Int) (hs0 : (wayOf c ln).state = 0) : setR c ln st = c.sets := by
  rcases wayOf_cases h ln with ⟨k, hk, hf, e, ht, hs⟩ | ⟨hf, _, _⟩
  · rw [e] at hs0; exact absurd hs0 hs
  · exact setR_none hf
/-- Touching changes ages alone. -/
theorem touch_still {n m : Nat} {c : Cache} (h : RightQ n m c.sets) {s w : Nat} (hs : s < n) (hw : w < m) (x : Nat) : (wayOf ⟨c.sets.set s (touchL (row c s) w)⟩ x).state = (wayOf c x).state ∧ (wayOf ⟨c.sets.set s (touchL (row c s) w)⟩ x).data = (wayOf c x).data ∧ (wayOf ⟨c.sets.set s (touchL (row c s) w)⟩ x).tag = (wayOf c x).tag := by
  have hsl : s < c.sets.length := by rw [h.1]; exact hs
  have hwl : w < (row c s).length := by rw [rowlen h s hs]; exact hw
  have hq : RightQ n m (c.sets.set s (touchL (row c s) w)) := rightq_set h hs (rowok_touch (h.2.2.2.2.2 s hs) hw)
  have hrow := row_setq (R := c.sets) s (touchL (row c s) w) (x % n) hsl
  have hk : ∀ j, j < m → (wayN (row ⟨c.sets.set s (touchL (row c s) w)⟩ (x % n)) j).state = (wayN (row c (x % n)) j).state ∧ (wayN (row ⟨c.sets.set s (touchL (row c s) w)⟩ (x % n)) j).tag = (wayN (row c (x % n)) j).tag ∧ (wayN (row ⟨c.sets.set s (touchL (row c s) w)⟩ (x % n)) j).data = (wayN (row c (x % n)) j).data := fun j hj => by
    rw [hrow]
    by_cases hx : x % n = s
    · rw [if_pos hx, hx]
      obtain ⟨a, b, d, _⟩ := touch_keep (row c s) w hwl j (by rw [rowlen h s hs]; exact hj)
      exact ⟨a, b, d⟩
    · rw [if_neg hx]
      exact ⟨rfl, rfl, rfl⟩
  rcases wayOf_cases h x with ⟨j, hj, hf, e, ht, hst⟩ | ⟨hf, e, hno⟩
  · obtain ⟨a, b, d⟩ := hk j hj
    have := (wayOf_of hq hj (by rw [b]; exact ht) (by rw [a]; exact hst)).2
    rw [this, e]
    exact ⟨a, d, b⟩
  · rcases wayOf_cases hq x with ⟨j, hj, hf', e', ht, hst⟩ | ⟨hf', e', _⟩
    · obtain ⟨a, b, d⟩ := hk j hj
      rw [b] at ht
      rw [a] at hst
      exact absurd (hno j hj ht) hst
    · rw [e', e]; exact ⟨rfl, rfl, rfl⟩
/-- What filling makes of it. -/
theorem fill_map {n m : Nat} {c : Cache} (hc : c.wf) (h : RightQ n m c.sets) (ln : Nat) {st : Int} (hst : 1 ≤ st ∧ st ≤ 3) (data : List Int) :
    RightQ n m (fillR c ln st data).1 ∧ (wayOf ⟨(fillR c ln st data).1⟩ ln).state = st ∧ (wayOf ⟨(fillR c ln st data).1⟩ ln).data = data ∧
    ((fillR c ln st data).2.state ≠ 0 → ∃ x : Nat, x ≠ ln ∧ (fillR c ln st data).2.tag = (x : Int) ∧ wayOf c x = (fillR c ln st data).2 ∧ (wayOf ⟨(fillR c ln st data).1⟩ x).state = 0) ∧
    ∀ x : Nat, x ≠ ln → ¬ ((fillR c ln st data).2.state ≠ 0 ∧ (fillR c ln st data).2.tag = (x : Int)) → (wayOf ⟨(fillR c ln st data).1⟩ x).state = (wayOf c x).state ∧ (wayOf ⟨(fillR c ln st data).1⟩ x).data = (wayOf c x).data := by
  obtain ⟨k, hk, hlt, hfr, hq, hfd, hd⟩ := fill_is h ln st hst data
  obtain ⟨hk2, _, hdat, hsta⟩ := fill_way h ln st hst data hfd
  have hro : RowOK n m (ln % n) (row c (ln % n)) := h.2.2.2.2.2 _ hlt
  have hsl : ln % n < c.sets.length := by rw [h.1]; exact hlt
  have hkl : k < (row c (ln % n)).length := by rw [rowlen h _ hlt]; exact hk
  have hwk := hro.2 k hk
  have hr1 : RowOK n m (ln % n) ((row c (ln % n)).set k (fillW (wayN (row c (ln % n)) k) ln st data)) := by
    refine rowok_set hro hk rfl (by show 0 ≤ st ∧ st ≤ 3; omega) (fun e => absurd e (by show ¬ st = 0; omega)) (fun _ => ?_) (fun _ j hj hjk hs => hd j hj hjk hs)
    show ((ln : Nat) : Int).toNat % n = ln % n
    rw [Int.toNat_natCast]
  have hq1 : RightQ n m (c.sets.set (ln % n) ((row c (ln % n)).set k (fillW (wayN (row c (ln % n)) k) ln st data))) := rightq_set h hlt hr1
  have hrow1 := row_setq (R := c.sets) (ln % n) ((row c (ln % n)).set k (fillW (wayN (row c (ln % n)) k) ln st data))
  have hR : (fillR c ln st data).1 = (c.sets.set (ln % n) ((row c (ln % n)).set k (fillW (wayN (row c (ln % n)) k) ln st data))).set (ln % n) (touchL (row ⟨c.sets.set (ln % n) ((row c (ln % n)).set k (fillW (wayN (row c (ln % n)) k) ln st data))⟩ (ln % n)) k) := by
    rw [hfr, hrow1 _ hsl, if_pos rfl, List.set_set]
  have hts := fun x => touch_still (c := ⟨c.sets.set (ln % n) ((row c (ln % n)).set k (fillW (wayN (row c (ln % n)) k) ln st data))⟩) hq1 hlt hk x
  have hg : (fillR c ln st data).2 = goneW (wayN (row c (ln % n)) k) ln := by rw [hfr]
  have hstill : ∀ x, (wayOf ⟨(fillR c ln st data).1⟩ x).state = (wayOf ⟨c.sets.set (ln % n) ((row c (ln % n)).set k (fillW (wayN (row c (ln % n)) k) ln st data))⟩ x).state ∧ (wayOf ⟨(fillR c ln st data).1⟩ x).data = (wayOf ⟨c.sets.set (ln % n) ((row c (ln % n)).set k (fillW (wayN (row c (ln % n)) k) ln st data))⟩ x).data := fun x => by
    rw [hR]; exact ⟨(hts x).1, (hts x).2.1⟩
  have hln := (wayOf_of hq (c := ⟨(fillR c ln st data).1⟩) hk (x := ln) ?_ ?_).2
  rotate_left
  · obtain ⟨hk3, hse, _, ht, _⟩ := find_in (c := ⟨(fillR c ln st data).1⟩) hq hfd
    exact ht
  · rw [← ((fill_way h ln st hst data hfd).2.2.2)] at hst
    omega
  refine ⟨hq, ?_, ?_, ?_, ?_⟩
  · rw [hln]; exact hsta
  · rw [hln]; exact hdat
  · rw [hg]
    intro hgs
    have hgo : ¬ ((wayN (row c (ln % n)) k).state = 0 ∨ (wayN (row c (ln % n)) k).tag = (ln : Int)) := fun e => hgs (by unfold goneW; rw [if_pos e]; rfl)
    have hge : goneW (wayN (row c (ln % n)) k) ln = wayN (row c (ln % n)) k := by unfold goneW; rw [if_neg hgo]
    rw [hge]
    have hs0 : (wayN (row c (ln % n)) k).state ≠ 0 := fun e => hgo (.inl e)
    have htn : (wayN (row c (ln % n)) k).tag ≠ (ln : Int) := fun e => hgo (.inr e)
    have hmod := hwk.2.2.2.2.2.2.1 hs0
    have hww : (wayN (row c (ln % n)) k).wf := wayN_wf (row_wf hc _ hsl).2 hkl
    have htr := wf_u32 hww.2.1
    obtain ⟨x, hx⟩ : ∃ x : Nat, (wayN (row c (ln % n)) k).tag = (x : Int) := ⟨(wayN (row c (ln % n)) k).tag.toNat, by omega⟩
    rw [hx, Int.toNat_natCast] at hmod
    have hxl : x ≠ ln := fun e => htn (by rw [hx, e])
    have hw0 := wayOf_of h (x := x) hk (by rw [hmod]; exact hx) (by rw [hmod]; exact hs0)
    refine ⟨x, hxl, hx, by rw [hw0.2, hmod], ?_⟩
    rw [(hstill x).1]
    rcases wayOf_cases (c := ⟨c.sets.set (ln % n) ((row c (ln % n)).set k (fillW (wayN (row c (ln % n)) k) ln st data))⟩) hq1 x with ⟨j, hj, hf', e', ht, hst'⟩ | ⟨_, e', _⟩
    · exfalso
      rw [hrow1 _ hsl, if_pos hmod, wayN_setq _ _ hkl] at ht hst'
      by_cases hjk : j = k
      · rw [if_pos hjk] at ht
        have : ((ln : Nat) : Int) = (x : Int) := ht
        omega
      · rw [if_neg hjk] at ht hst'
        have := (wayOf_of h (x := x) hj (by rw [hmod]; exact ht) (by rw [hmod]; exact hst')).1
        rw [hw0.1] at this
        exact hjk (Option.some.inj this).symm
    · rw [e']; rfl
  · intro x hx hno
    rw [hg] at hno
    obtain ⟨a, b⟩ := hstill x
    have hu := wayOf_upd h hlt hk (fillW (wayN (row c (ln % n)) k) ln st data) hq1 x (fun _ => by show (ln : Int) ≠ (x : Int); omega) (fun hs0 ht => ?_)
    · rw [a, b, hu]; exact ⟨rfl, rfl⟩
    · apply hno
      have hgo : ¬ ((wayN (row c (ln % n)) k).state = 0 ∨ (wayN (row c (ln % n)) k).tag = (ln : Int)) := fun e => e.elim hs0 (fun e => by rw [ht] at e; omega)
      have hge : goneW (wayN (row c (ln % n)) k) ln = wayN (row c (ln % n)) k := by unfold goneW; rw [if_neg hgo]
      rw [hge]
      exact ⟨hs0, ht⟩
end Go.Proofs.Ytdkaclgfkgcmpaa.Abs
