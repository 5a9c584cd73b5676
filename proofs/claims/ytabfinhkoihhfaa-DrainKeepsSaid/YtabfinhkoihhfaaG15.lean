/- Words of other seats' texts, as they are used here: Tags Right Right2. -/
import Derived.Test.YtabfinhkoihhfaaG14
namespace Go.Proofs.Ytabfinhkoihhfaa.Abs
open Go Go.RowKit Fn
set_option linter.unusedVariables false
set_option linter.unusedSimpArgs false
set_option linter.unnecessarySimpa false
set_option maxRecDepth 100000
set_option maxHeartbeats 4000000

def zeros : List Int := List.replicate 16 0
def Dup (l : List Way) (k j : Nat) : Prop := (wayN l k).state ≠ 0 ∧ (wayN l j).state ≠ 0 ∧ (wayN l k).tag = (wayN l j).tag
def TagsK (c : Cache) (s : Nat) (l : List Way) (k : Nat) : Prop :=
  0 ≤ (wayN l k).state ∧ (wayN l k).state ≤ 3 ∧ ((wayN l k).state = 0 → (wayN l k).tag = 0 ∧ (wayN l k).data = zeros) ∧ ((wayN l k).state ≠ 0 → seti c (wayN l k).tag.toNat = s) ∧ ∀ j, j < k → ¬ Dup l k j
def TagsP (c : Cache) (s : Nat) (l : List Way) : Prop := ∀ k, k < l.length → TagsK c s l k
theorem data_eq {d : List Int} (h : eqL (dataT d) (dataT zeros) = true) : d = zeros := by
  rcases eqL_asInt _ _ h with h | ⟨x, hx, h⟩
  · rw [dataT_asInt, dataT_asInt] at h
    exact map_some_inj h
  · obtain ⟨k, n, e⟩ := data_ints d x hx
    exact absurd e (h k n)
theorem data_conf {w : Way} (h : w.wf) : conf [some .u8, some .u8, some .u8, some .u8, some .u8, some .u8, some .u8, some .u8, some .u8, some .u8, some .u8, some .u8, some .u8, some .u8, some .u8, some .u8] (dataT w.data) = true := by
  have hd := conf_u8 w.data [] [] h.2.2.1.2
  rw [h.2.2.1.1] at hd
  have e : conf (List.replicate 16 (some .u8) ++ []) (w.data.flatMap (fun n => [T.int .u8 n]) ++ []) = true := by rw [hd]; rfl
  rw [List.append_nil, List.append_nil] at e
  exact e
theorem zeros_enc : dataT zeros = List.replicate 16 (.int .u8 0) := by rw [dataT_map]; rfl
theorem zeros_conf : conf [some .u8, some .u8, some .u8, some .u8, some .u8, some .u8, some .u8, some .u8, some .u8, some .u8, some .u8, some .u8, some .u8, some .u8, some .u8, some .u8] (dataT zeros) = true := by rw [zeros_enc]; rfl
def tagsOut : ACode := match f39.body with | .seq _ (.seq _ (.seq (.seq _ (.block _ (.loop c))) _)) => c | _ => .skip
def tagsIn : ACode := match tagsOut with | .seq _ (.seq (.block _ (.seq _ (.seq _ (.seq _ (.block _ (.loop c)))))) _) => c | _ => .skip
def TgI (c : Cache) (f : Bool) (l : List Way) (s k : Nat) (st : St) : Prop := st.s.length = 107 ∧ rho st.s (.tmp 1) = .int .i64 (s : Int) ∧ rho st.s (.tmp 2) = .ptr 0 0 ∧ rho st.s (.tmp 5) = .imm f l.length (l.flatMap Way.enc) ∧ rho st.s (.tmp 6) = .int .i64 (k : Int) ∧ st.g 0 = some [setsT c]
theorem tags_in (c : Cache) (f : Bool) (l : List Way) (hw : ∀ w ∈ l, w.wf) (hlm : l.length ≤ 1000) (s k : Nat) (hkl : k < l.length) (Q : AExit → St → Prop)
    (hQr : ∀ st : St, rho st.s (.tmp 4) = .bool false → ¬ (∀ j, j < k → ¬ Dup l k j) → Q .ret st) (hQe : ∀ st : St, TgI c f l s k st → (∀ j, j < k → ¬ Dup l k j) → Q (.exit 2) st) :
    ∀ (m : Nat) (st : St), (∃ j : Nat, TgI c f l s k st ∧ rho st.s (.tmp 7) = .int .i64 (j : Int) ∧ j ≤ k ∧ m = k - j ∧ (∀ i, i < j → ¬ Dup l k i)) → W ap (.loop tagsIn) st Q := by
  refine W_loop _ ?_
  rintro m st ⟨j, ⟨hl, h1, h2, h5, h6, g0⟩, h7, hj, hm, hall⟩
  by_cases hend : j = k
  · have hlt : decide ((j : Int) < (k : Int)) = false := decide_eq_false (by omega)
    refine W_seq (W_seqn (W_region (fun k => by simp +decide (disch := first | omega | simp +decide only [List.length_set, hl]) only [sa, simprocAttr, h6, h7, hlt]; rfl) ⟨rfl, W_false (by simp +decide (disch := first | omega | simp +decide only [List.length_set, hl]) only [sa, simprocAttr] <;> rfl) (W_exit ?_)⟩))
    refine (.inr ⟨by simp, .inr ⟨by simp, hQe _ ⟨?_, ?_, ?_, ?_, ?_, g0⟩ (fun i hi => hall i (by omega))⟩⟩)
    all_goals simp +decide (disch := first | omega | simp +decide only [List.length_set, hl]) only [sa, simprocAttr, hl, h1, h2, h5, h6]
  have hlt : decide ((j : Int) < (k : Int)) = true := decide_eq_true (by omega)
  have hjl : j < l.length := by omega
  have hw2 : IntKind.i64.wrap ((j : Int) + 1) = ((j + 1 : Nat) : Int) := by rw [wrap_id (by omega)]; omega
  have hcl := enc_len l hw
  have gk0 : (l.flatMap Way.enc)[k * 19]? = some (.int .i64 (wayN l k).state) := by have := way_get l hw k hkl 0 (by omega); rw [Nat.add_zero] at this; exact this
  have gj0 : (l.flatMap Way.enc)[j * 19]? = some (.int .i64 (wayN l j).state) := by have := way_get l hw j hjl 0 (by omega); rw [Nat.add_zero] at this; exact this
  have gk1 : (l.flatMap Way.enc)[k * 19 + 1]? = some (.int .u32 (wayN l k).tag) := way_get l hw k hkl 1 (by omega)
  have gj1 : (l.flatMap Way.enc)[j * 19 + 1]? = some (.int .u32 (wayN l j).tag) := way_get l hw j hjl 1 (by omega)
  have b1 : k * 19 + 19 ≤ l.length * 19 := by omega
  have b2 : j * 19 + 19 ≤ l.length * 19 := by omega
  have b3 : k * 19 + 1 ≤ l.length * 19 := by omega
  have b4 : j * 19 + 1 ≤ l.length * 19 := by omega
  have b5 : k * 19 + 1 + 1 ≤ l.length * 19 := by omega
  have b6 : j * 19 + 1 + 1 ≤ l.length * 19 := by omega
  have next : ∀ st' : St, TgI c f l s k st' → rho st'.s (.tmp 7) = .int .i64 (j : Int) → ¬ Dup l k j → W ap (.region [⟨some 78, .mv (.tmp 7), none⟩, ⟨some 79, .bin .add (.tmp 78) (.con (.int .i64 1)), none⟩, ⟨some 7, .mv (.tmp 79), none⟩] []) st' (fun e s' => (e = .normal ∧ ∃ m', m' < m ∧ ∃ j : Nat, TgI c f l s k s' ∧ rho s'.s (.tmp 7) = .int .i64 (j : Int) ∧ j ≤ k ∧ m' = k - j ∧ (∀ i, i < j → ¬ Dup l k i)) ∨ (e ≠ .normal ∧ Q e s')) := by
    rintro ⟨sl, g, nx⟩ ⟨hl, h1, h2, h5, h6, g0⟩ h7 hD
    simp only at hl h1 h2 h5 h6 g0 h7
    refine W_region (fun k => by simp +decide (disch := first | omega | simp +decide only [List.length_set, hl]) only [sa, simprocAttr, h7, hw2]; rfl) ?_
    refine .inl ⟨rfl, k - (j + 1), by omega, j + 1, ⟨?_, ?_, ?_, ?_, ?_, g0⟩, ?_, by omega, rfl, fun i hi => ?_⟩
    rotate_right 1
    · by_cases hij : i = j
      · subst hij; exact hD
      · exact hall i (by omega)
    all_goals simp +decide (disch := first | omega | simp +decide only [List.length_set, hl]) only [sa, simprocAttr, hl, h1, h2, h5, h6]
  have hD : Dup l k j = ((wayN l k).state ≠ 0 ∧ (wayN l j).state ≠ 0 ∧ (wayN l k).tag = (wayN l j).tag) := rfl
  generalize hwsE : l.flatMap Way.enc = ws at *
  refine W_seqn (W_seqn (W_region (fun k => by simp +decide (disch := first | omega | simp +decide only [List.length_set, hl]) only [sa, simprocAttr, h6, h7, hlt]; rfl) ⟨rfl, W_true (by simp +decide (disch := first | omega | simp +decide only [List.length_set, hl]) only [sa, simprocAttr] <;> rfl) (W_skip ⟨rfl, ?_⟩)⟩))
  by_cases hk0 : (wayN l k).state = 0
  · have e1 : ((wayN l k).state != 0) = false := by simp [hk0]
    refine W_seqn (W_block (W_seqn (W_region (fun k => by simp +decide (disch := first | omega | simp +decide only [List.length_set, hl]) only [sa, simprocAttr, h5, h6, h7, hkl, hcl, b1, b3, gk0, e1]; rfl) ⟨rfl, W_false (by simp +decide (disch := first | omega | simp +decide only [List.length_set, hl]) only [sa, simprocAttr] <;> rfl) (W_skip (.inr (.inl ⟨by simp, rfl, ?_⟩)))⟩)))
    refine next _ ⟨?_, ?_, ?_, ?_, ?_, g0⟩ ?_ (fun h => by rw [hD] at h; exact h.1 hk0)
    all_goals simp +decide (disch := first | omega | simp +decide only [List.length_set, hl]) only [sa, simprocAttr, hl, h1, h2, h5, h6, h7, hwsE]
  have e1 : ((wayN l k).state != 0) = true := bne_iff_ne.mpr hk0
  by_cases hj0 : (wayN l j).state = 0
  · have e2 : ((wayN l j).state != 0) = false := by simp [hj0]
    refine W_seqn (W_block (W_seqn (W_region (fun k => by simp +decide (disch := first | omega | simp +decide only [List.length_set, hl]) only [sa, simprocAttr, h5, h6, h7, hkl, hjl, hcl, b1, b2, b3, b4, gk0, gj0, e1, e2]; rfl) ⟨rfl, W_false (by simp +decide (disch := first | omega | simp +decide only [List.length_set, hl]) only [sa, simprocAttr] <;> rfl) (W_skip (.inr (.inl ⟨by simp, rfl, ?_⟩)))⟩)))
    refine next _ ⟨?_, ?_, ?_, ?_, ?_, g0⟩ ?_ (fun h => by rw [hD] at h; exact h.2.1 hj0)
    all_goals simp +decide (disch := first | omega | simp +decide only [List.length_set, hl]) only [sa, simprocAttr, hl, h1, h2, h5, h6, h7, hwsE]
  have e2 : ((wayN l j).state != 0) = true := bne_iff_ne.mpr hj0
  by_cases ht : (wayN l k).tag = (wayN l j).tag
  · have e3 : ((wayN l k).tag == (wayN l j).tag) = true := by simp [ht]
    refine W_seq (W_block (W_seqn (W_region (fun k => by simp +decide (disch := first | omega | simp +decide only [List.length_set, hl]) only [sa, simprocAttr, h5, h6, h7, hkl, hjl, hcl, b1, b2, b3, b4, b5, b6, gk0, gj0, gk1, gj1, e1, e2, e3]; rfl) ⟨rfl, W_true (by simp +decide (disch := first | omega | simp +decide only [List.length_set, hl]) only [sa, simprocAttr] <;> rfl) ?_⟩)))
    refine W_seqn (W_region (fun k => by simp +decide (disch := first | omega | simp +decide only [List.length_set, hl]) only [sa, simprocAttr]; rfl) ⟨rfl, W_ret ?_⟩)
    simp only [reduceCtorEq, false_and, false_or, or_false, exists_false, exists_const, ne_eq, not_false_eq_true, true_and, implies_true]
    refine hQr _ ?_ (fun h => h j (by omega) (by rw [hD]; exact ⟨hk0, hj0, ht⟩))
    simp +decide (disch := first | omega | simp +decide only [List.length_set, hl]) only [sa, simprocAttr]
  · have e3 : ((wayN l k).tag == (wayN l j).tag) = false := beq_eq_false_iff_ne.mpr ht
    refine W_seqn (W_block (W_seqn (W_region (fun k => by simp +decide (disch := first | omega | simp +decide only [List.length_set, hl]) only [sa, simprocAttr, h5, h6, h7, hkl, hjl, hcl, b1, b2, b3, b4, b5, b6, gk0, gj0, gk1, gj1, e1, e2, e3]; rfl) ⟨rfl, W_false (by simp +decide (disch := first | omega | simp +decide only [List.length_set, hl]) only [sa, simprocAttr] <;> rfl) (W_skip (.inr (.inl ⟨by simp, rfl, ?_⟩)))⟩)))
    refine next _ ⟨?_, ?_, ?_, ?_, ?_, g0⟩ ?_ (fun h => by rw [hD] at h; exact ht h.2.2)
    all_goals simp +decide (disch := first | omega | simp +decide only [List.length_set, hl]) only [sa, simprocAttr, hl, h1, h2, h5, h6, h7, hwsE]
theorem tags_out (c : Cache) (s : Nat) (hs : s < c.sets.length) (f : Bool) (l : List Way) (hw : ∀ w ∈ l, w.wf) (hlm : l.length ≤ 1000) (Q : AExit → St → Prop)
    (hQr : ∀ st : St, rho st.s (.tmp 4) = .bool false → ¬ TagsP c s l → Q .ret st) (hQe : ∀ st : St, st.s.length = 107 → TagsP c s l → Q (.exit 0) st) :
    ∀ (m : Nat) (st : St), (∃ k : Nat, TgI c f l s k st ∧ k ≤ l.length ∧ m = l.length - k ∧ (∀ j, j < k → TagsK c s l j)) → W ap (.loop tagsOut) st Q := by
  refine W_loop _ ?_
  rintro m st ⟨k, ⟨hl, h1, h2, h5, h6, g0⟩, hk, hm, hall⟩
  by_cases hend : k = l.length
  · have hlt : decide ((k : Int) < (l.length : Int)) = false := decide_eq_false (by omega)
    refine W_seq (W_seqn (W_region (fun k => by simp +decide (disch := first | omega | simp +decide only [List.length_set, hl]) only [sa, simprocAttr, h5, h6, hlt]; rfl) ⟨rfl, W_false (by simp +decide (disch := first | omega | simp +decide only [List.length_set, hl]) only [sa, simprocAttr] <;> rfl) (W_exit ?_)⟩))
    refine (.inr ⟨by simp, .inr ⟨by simp, hQe _ ?_ (fun j hj => hall j (by omega))⟩⟩)
    simp +decide (disch := first | omega | simp +decide only [List.length_set, hl]) only [sa, simprocAttr, hl]
  have hlt : decide ((k : Int) < (l.length : Int)) = true := decide_eq_true (by omega)
  have hkl : k < l.length := by omega
  have hw2 : IntKind.i64.wrap ((k : Int) + 1) = ((k + 1 : Nat) : Int) := by rw [wrap_id (by omega)]; omega
  have hwk := wayN_wf hw hkl
  have hcl := enc_len l hw
  have gk0 : (l.flatMap Way.enc)[k * 19]? = some (.int .i64 (wayN l k).state) := by have := way_get l hw k hkl 0 (by omega); rw [Nat.add_zero] at this; exact this
  have gk1 : (l.flatMap Way.enc)[k * 19 + 1]? = some (.int .u32 (wayN l k).tag) := way_get l hw k hkl 1 (by omega)
  have gkd : cut (l.flatMap Way.enc) (k * 19 + 2) 16 = dataT (wayN l k).data := by
    have := bytes_cut l hw k hkl 0 16 (by omega)
    rw [Nat.zero_mul, Nat.add_zero, Nat.mul_one] at this
    rw [this]; unfold bytesAt
    rw [List.drop_zero, List.take_of_length_le (by rw [hwk.2.2.1.1]; exact Nat.le_refl _)]
  have b1 : k * 19 + 19 ≤ l.length * 19 := by omega
  have b3 : k * 19 + 1 ≤ l.length * 19 := by omega
  have b5 : k * 19 + 1 + 1 ≤ l.length * 19 := by omega
  have b7 : k * 19 + 2 + 16 ≤ l.length * 19 := by omega
  have hcf := data_conf hwk
  have hcz := zeros_conf
  have htw := wf_u32 hwk.2.1
  obtain ⟨ln, hln⟩ : ∃ ln : Nat, (wayN l k).tag = (ln : Int) := ⟨(wayN l k).tag.toNat, by omega⟩
  have hlnb : ln ≤ 4294967295 := by omega
  have htn : (wayN l k).tag.toNat = ln := by omega
  have hKdef : TagsK c s l k = (0 ≤ (wayN l k).state ∧ (wayN l k).state ≤ 3 ∧ ((wayN l k).state = 0 → (wayN l k).tag = 0 ∧ (wayN l k).data = zeros) ∧ ((wayN l k).state ≠ 0 → seti c ln = s) ∧ ∀ j, j < k → ¬ Dup l k j) := by unfold TagsK; rw [htn]
  have bad : ¬ TagsK c s l k → ¬ TagsP c s l := fun h h' => h (h' k hkl)
  obtain ⟨N2, c38⟩ := (ref_set c ln hlnb).call ap47 (fun g => rfl)
  have q38 := c38 N2 (Nat.le_refl _)
  rw [if_neg (show ¬ c.sets.length = 0 by omega)] at q38
  have hcut : cut [setsT c] 0 1 = [setsT c] := rfl
  have hbody : tagsOut = tagsOut := rfl
  conv at hbody => rhs; simp only [tagsOut, f39]
  simp only [← zeros_enc] at hbody
  rw [hbody]
  clear hbody
  have hdz : eqL (dataT (wayN l k).data) (dataT zeros) = true → (wayN l k).data = zeros := data_eq
  have hdr : (wayN l k).data = zeros → eqL (dataT (wayN l k).data) (dataT zeros) = true := fun h => by rw [h]; exact eqL_ints _ (data_ints _)
  generalize dataT zeros = dz at *
  generalize dataT (wayN l k).data = dk at *
  refine W_seqn (W_seqn (W_region (fun k => by simp +decide (disch := first | omega | simp +decide only [List.length_set, hl]) only [sa, simprocAttr, h5, h6, hlt]; rfl) ⟨rfl, W_true (by simp +decide (disch := first | omega | simp +decide only [List.length_set, hl]) only [sa, simprocAttr] <;> rfl) (W_skip ⟨rfl, ?_⟩)⟩))
  have hin := tags_in c f l hw hlm s k hkl
  have rest : ∀ st' : St, TgI c f l s k st' → (0 ≤ (wayN l k).state ∧ (wayN l k).state ≤ 3 ∧ ((wayN l k).state = 0 → (wayN l k).tag = 0 ∧ (wayN l k).data = zeros) ∧ ((wayN l k).state ≠ 0 → seti c ln = s)) → W ap (.seq (.region [⟨some 7, .mv (.con (.int .i64 0)), none⟩] []) (.block 2 (.loop tagsIn))) st' (fun e s' => (e = .normal ∧ TgI c f l s k s' ∧ TagsK c s l k) ∨ (e = .ret ∧ Q .ret s')) := by
    rintro ⟨sl, g, nx⟩ ⟨hl, h1, h2, h5, h6, g0⟩ hpre
    simp only at hl h1 h2 h5 h6 g0
    refine W_seqn (W_region (fun k => by simp +decide (disch := first | omega | simp +decide only [List.length_set, hl]) only [sa, simprocAttr]; rfl) ⟨rfl, W_block ?_⟩)
    refine hin _ (fun st h4 hno => ?_) (fun st hT hall => ?_) (k - 0) _ ⟨0, ⟨?_, ?_, ?_, ?_, ?_, g0⟩, ?_, by omega, rfl, fun i hi => by omega⟩
    · simp only [reduceCtorEq, false_and, false_or, or_false, exists_false, exists_const, ne_eq, not_false_eq_true, true_and, implies_true]
      exact hQr _ h4 (bad (fun h => by rw [hKdef] at h; exact hno h.2.2.2.2))
    · refine .inl ⟨rfl, .inl ⟨rfl, hT, ?_⟩⟩
      rw [hKdef]
      exact ⟨hpre.1, hpre.2.1, hpre.2.2.1, hpre.2.2.2, hall⟩
    all_goals first | (simp +decide (disch := first | omega | simp +decide only [List.length_set, hl]) only [sa, simprocAttr, hl, h1, h2, h5, h6]; done) | (simp +decide (disch := first | omega | simp +decide only [List.length_set, hl]) only [sa, simprocAttr, hl, h1, h2, h5, h6]; rfl)
  have hinE : tagsIn = tagsIn := rfl
  conv at hinE => rhs; simp only [tagsIn, tagsOut, f39]
  rw [hinE] at rest
  clear hin hinE
  have next : ∀ st' : St, TgI c f l s k st' → TagsK c s l k → W ap (.region [⟨some 17, .mv (.tmp 6), none⟩, ⟨some 18, .bin .add (.tmp 17) (.con (.int .i64 1)), none⟩, ⟨some 6, .mv (.tmp 18), none⟩] []) st' (fun e s' => (e = .normal ∧ ∃ m', m' < m ∧ ∃ k : Nat, TgI c f l s k s' ∧ k ≤ l.length ∧ m' = l.length - k ∧ (∀ j, j < k → TagsK c s l j)) ∨ (e ≠ .normal ∧ Q e s')) := by
    rintro ⟨sl, g, nx⟩ ⟨hl, h1, h2, h5, h6, g0⟩ hK
    simp only at hl h1 h2 h5 h6 g0
    refine W_region (fun k => by simp +decide (disch := first | omega | simp +decide only [List.length_set, hl]) only [sa, simprocAttr, h6, hw2]; rfl) ?_
    refine .inl ⟨rfl, l.length - (k + 1), by omega, k + 1, ⟨?_, ?_, ?_, ?_, ?_, g0⟩, by omega, rfl, fun j hj => ?_⟩
    rotate_right 1
    · by_cases hjk : j = k
      · subst hjk; exact hK
      · exact hall j (by omega)
    all_goals simp +decide (disch := first | omega | simp +decide only [List.length_set, hl]) only [sa, simprocAttr, hl, h1, h2, h5, h6]
  generalize hwsE : l.flatMap Way.enc = ws at *
  by_cases hs0 : (wayN l k).state < 0
  · have d1 : decide ((wayN l k).state < 0) = true := decide_eq_true hs0
    refine W_seq (W_block (W_seq (W_seqn (W_region (fun k => by simp +decide (disch := first | omega | simp +decide only [List.length_set, hl]) only [sa, simprocAttr, h5, h6, hkl, hcl, b1, b3, gk0, d1]; rfl) ⟨rfl, W_true (by simp +decide (disch := first | omega | simp +decide only [List.length_set, hl]) only [sa, simprocAttr] <;> rfl) ?_⟩))))
    refine W_seqn (W_region (fun k => by simp +decide (disch := first | omega | simp +decide only [List.length_set, hl]) only [sa, simprocAttr]; rfl) ⟨rfl, W_ret ?_⟩)
    simp only [reduceCtorEq, false_and, false_or, or_false, exists_false, exists_const, ne_eq, not_false_eq_true, true_and, implies_true]
    refine hQr _ ?_ (bad (fun h => by rw [hKdef] at h; omega))
    simp +decide (disch := first | omega | simp +decide only [List.length_set, hl]) only [sa, simprocAttr]
  have d1 : decide ((wayN l k).state < 0) = false := decide_eq_false hs0
  by_cases hs3 : (wayN l k).state > 3
  · have d2 : decide ((wayN l k).state > 3) = true := decide_eq_true hs3
    refine W_seq (W_block (W_seq (W_seqn (W_region (fun k => by simp +decide (disch := first | omega | simp +decide only [List.length_set, hl]) only [sa, simprocAttr, h5, h6, hkl, hcl, b1, b3, gk0, d1, d2]; rfl) ⟨rfl, W_true (by simp +decide (disch := first | omega | simp +decide only [List.length_set, hl]) only [sa, simprocAttr] <;> rfl) ?_⟩))))
    refine W_seqn (W_region (fun k => by simp +decide (disch := first | omega | simp +decide only [List.length_set, hl]) only [sa, simprocAttr]; rfl) ⟨rfl, W_ret ?_⟩)
    simp only [reduceCtorEq, false_and, false_or, or_false, exists_false, exists_const, ne_eq, not_false_eq_true, true_and, implies_true]
    refine hQr _ ?_ (bad (fun h => by rw [hKdef] at h; omega))
    simp +decide (disch := first | omega | simp +decide only [List.length_set, hl]) only [sa, simprocAttr]
  have d2 : decide ((wayN l k).state > 3) = false := decide_eq_false hs3
  refine W_seq (W_block (W_seqn (W_seqn (W_region (fun k => by simp +decide (disch := first | omega | simp +decide only [List.length_set, hl]) only [sa, simprocAttr, h5, h6, hkl, hcl, b1, b3, gk0, d1, d2]; rfl) ⟨rfl, W_false (by simp +decide (disch := first | omega | simp +decide only [List.length_set, hl]) only [sa, simprocAttr] <;> rfl) (W_skip ⟨rfl, ?_⟩)⟩))))
  by_cases hz : (wayN l k).state = 0
  · have e1 : ((wayN l k).state == 0) = true := by simp [hz]
    have e1' : ((wayN l k).state != 0) = false := by simp [hz]
    by_cases ht0 : (wayN l k).tag = 0
    · have e2 : ((wayN l k).tag != 0) = false := by simp [ht0]
      cases hq : eqL dk dz with
      | false =>
        refine W_seq (W_seqn (W_region (fun k => by simp +decide (disch := first | omega | simp +decide only [List.length_set, hl]) only [sa, simprocAttr, hps, h5, h6, hkl, hcl, b1, b3, b5, b7, gk0, gk1, gkd, e1, e1', e2, hcf, hcz, hq]; rfl) ⟨rfl, W_true (by simp +decide (disch := first | omega | simp +decide only [List.length_set, hl]) only [sa, simprocAttr] <;> rfl) ?_⟩))
        refine W_seqn (W_region (fun k => by simp +decide (disch := first | omega | simp +decide only [List.length_set, hl]) only [sa, simprocAttr]; rfl) ⟨rfl, W_ret ?_⟩)
        simp only [reduceCtorEq, false_and, false_or, or_false, exists_false, exists_const, ne_eq, not_false_eq_true, true_and, implies_true]
        refine hQr _ ?_ (bad (fun h => by
          rw [hKdef] at h
          have := hdr (h.2.2.1 hz).2
          rw [hq] at this; cases this))
        simp +decide (disch := first | omega | simp +decide only [List.length_set, hl]) only [sa, simprocAttr]
      | true =>
        refine W_seqn (W_seqn (W_region (fun k => by simp +decide (disch := first | omega | simp +decide only [List.length_set, hl]) only [sa, simprocAttr, hps, h5, h6, hkl, hcl, b1, b3, b5, b7, gk0, gk1, gkd, e1, e1', e2, hcf, hcz, hq]; rfl) ⟨rfl, W_false (by simp +decide (disch := first | omega | simp +decide only [List.length_set, hl]) only [sa, simprocAttr] <;> rfl) (W_skip ⟨rfl, ?_⟩)⟩))
        refine (rest _ ⟨?_, ?_, ?_, ?_, ?_, ?_⟩ ⟨by omega, by omega, fun _ => ⟨ht0, hdz hq⟩, fun h => absurd hz h⟩).mono ?_
        · simp +decide (disch := first | omega | simp +decide only [List.length_set, hl]) only [sa, simprocAttr, hl]
        · simp +decide (disch := first | omega | simp +decide only [List.length_set, hl]) only [sa, simprocAttr, h1]
        · simp +decide (disch := first | omega | simp +decide only [List.length_set, hl]) only [sa, simprocAttr, h2]
        · simp +decide (disch := first | omega | simp +decide only [List.length_set, hl]) only [sa, simprocAttr, h5, hwsE]
        · simp +decide (disch := first | omega | simp +decide only [List.length_set, hl]) only [sa, simprocAttr, h6]
        · exact g0
        · rintro e s' (⟨rfl, hT, hK⟩ | ⟨rfl, hq⟩)
          · exact .inr (.inl ⟨by simp, .inl ⟨rfl, next _ hT hK⟩⟩)
          · simp only [reduceCtorEq, false_and, false_or, or_false, exists_false, exists_const, ne_eq, not_false_eq_true, true_and, implies_true]
            exact hq
    · have e2 : ((wayN l k).tag != 0) = true := bne_iff_ne.mpr ht0
      refine W_seq (W_seqn (W_region (fun k => by simp +decide (disch := first | omega | simp +decide only [List.length_set, hl]) only [sa, simprocAttr, hps, h5, h6, hkl, hcl, b1, b3, b5, b7, gk0, gk1, e1, e1', e2]; rfl) ⟨rfl, W_true (by simp +decide (disch := first | omega | simp +decide only [List.length_set, hl]) only [sa, simprocAttr] <;> rfl) ?_⟩))
      refine W_seqn (W_region (fun k => by simp +decide (disch := first | omega | simp +decide only [List.length_set, hl]) only [sa, simprocAttr]; rfl) ⟨rfl, W_ret ?_⟩)
      simp only [reduceCtorEq, false_and, false_or, or_false, exists_false, exists_const, ne_eq, not_false_eq_true, true_and, implies_true]
      refine hQr _ ?_ (bad (fun h => by rw [hKdef] at h; exact ht0 (h.2.2.1 hz).1))
      simp +decide (disch := first | omega | simp +decide only [List.length_set, hl]) only [sa, simprocAttr]
  · have e1 : ((wayN l k).state == 0) = false := beq_eq_false_iff_ne.mpr hz
    have e1' : ((wayN l k).state != 0) = true := bne_iff_ne.mpr hz
    rw [hln] at gk1
    by_cases hse : seti c ln = s
    · have e2 : ((seti c ln : Int) != (s : Int)) = false := by simp [hse]
      refine W_seqn (W_seqn (W_regionN ⟨N2, by simp +decide (disch := first | omega | simp +decide only [List.length_set, hl]) only [sa, simprocAttr, hps, h1, h2, g0, hcut, h5, h6, hkl, hcl, b1, b3, b5, gk0, gk1, e1, e1', e2, ap47, p47, n47, q38]; rfl⟩ ⟨rfl, W_false (by simp +decide (disch := first | omega | simp +decide only [List.length_set, hl]) only [sa, simprocAttr] <;> rfl) (W_skip ⟨rfl, ?_⟩)⟩))
      refine (rest _ ⟨?_, ?_, ?_, ?_, ?_, ?_⟩ ⟨by omega, by omega, fun h => absurd h hz, fun _ => hse⟩).mono ?_
      · simp +decide (disch := first | omega | simp +decide only [List.length_set, hl]) only [sa, simprocAttr, hl]
      · simp +decide (disch := first | omega | simp +decide only [List.length_set, hl]) only [sa, simprocAttr, h1]
      · simp +decide (disch := first | omega | simp +decide only [List.length_set, hl]) only [sa, simprocAttr, h2]
      · simp +decide (disch := first | omega | simp +decide only [List.length_set, hl]) only [sa, simprocAttr, h5, hwsE]
      · simp +decide (disch := first | omega | simp +decide only [List.length_set, hl]) only [sa, simprocAttr, h6]
      · exact g0
      · rintro e s' (⟨rfl, hT, hK⟩ | ⟨rfl, hq⟩)
        · exact .inr (.inl ⟨by simp, .inl ⟨rfl, next _ hT hK⟩⟩)
        · simp only [reduceCtorEq, false_and, false_or, or_false, exists_false, exists_const, ne_eq, not_false_eq_true, true_and, implies_true]
          exact hq
    · have e2 : ((seti c ln : Int) != (s : Int)) = true := by simp; omega
      refine W_seq (W_seqn (W_regionN ⟨N2, by simp +decide (disch := first | omega | simp +decide only [List.length_set, hl]) only [sa, simprocAttr, hps, h1, h2, g0, hcut, h5, h6, hkl, hcl, b1, b3, b5, gk0, gk1, e1, e1', e2, ap47, p47, n47, q38]; rfl⟩ ⟨rfl, W_true (by simp +decide (disch := first | omega | simp +decide only [List.length_set, hl]) only [sa, simprocAttr] <;> rfl) ?_⟩))
      refine W_seqn (W_region (fun k => by simp +decide (disch := first | omega | simp +decide only [List.length_set, hl]) only [sa, simprocAttr]; rfl) ⟨rfl, W_ret ?_⟩)
      simp only [reduceCtorEq, false_and, false_or, or_false, exists_false, exists_const, ne_eq, not_false_eq_true, true_and, implies_true]
      refine hQr _ ?_ (bad (fun h => by rw [hKdef] at h; exact hse (h.2.2.2.1 hz)))
      simp +decide (disch := first | omega | simp +decide only [List.length_set, hl]) only [sa, simprocAttr]
theorem ref_tags (c : Cache) (hc : c.wf) (s : Nat) (hs : s < c.sets.length) (hlm : (row c s).length ≤ 1000) : ∃ v, E ap 39 [.agg [setsT c], .int .i64 (s : Int)] v ∧ ∃ b, v = .bool b ∧ (b = true ↔ TagsP c s (row c s)) := by
  refine E_bodyV (F := f39) rfl rfl rfl (P := fun v => ∃ b, v = .bool b ∧ (b = true ↔ TagsP c s (row c s))) ?_
  generalize hs0 : (_ : List T) ++ List.replicate _ T.undef = s0
  have e0 : s0.length = 107 ∧ rho s0 (.tmp 0) = .agg [setsT c] ∧ rho s0 (.tmp 1) = .int .i64 (s : Int) := by subst hs0; exact ⟨rfl, rfl, rfl⟩
  clear hs0
  obtain ⟨hl, h0, h1⟩ := e0
  have hleaf : allLeaf [setsT c] = true := rfl
  have hsc : setsT c = .imm false c.sets.length (c.sets.flatMap (fun l => [rowT l])) := rfl
  have hrl := rows_len c
  have hrg := rows_get c s hs
  rw [show rowT (row c s) = .imm false (row c s).length ((row c s).flatMap Way.enc) from rfl] at hrg
  have hb : s * 1 + 1 ≤ c.sets.length := by omega
  have hw := (row_wf hc s hs).2
  refine W_seqn (W_region (fun k => by simp +decide (disch := first | omega | simp +decide only [List.length_set, hl]) only [sa, simprocAttr, hps, h0, hleaf]; rfl) ⟨rfl, ?_⟩)
  refine W_seqn (W_region (fun k => by simp +decide (disch := first | omega | simp +decide only [List.length_set, hl]) only [sa, simprocAttr, hps, h1, hsc, hrl, hs, hb, hrg]; rfl) ⟨rfl, ?_⟩)
  refine W_seq (W_seqn (W_region (fun k => by simp +decide (disch := first | omega | simp +decide only [List.length_set, hl]) only [sa, simprocAttr, hps]; rfl) ⟨rfl, W_block ?_⟩))
  refine tags_out c s hs false (row c s) hw hlm _ (fun st h4 hno => ?_) (fun st hst hall => ?_) ((row c s).length - 0) _ ⟨0, ⟨?_, ?_, ?_, ?_, ?_, ?_⟩, by omega, rfl, fun j hj => by omega⟩
  · simp only [reduceCtorEq, false_and, false_or, or_false, exists_false, exists_const, ne_eq, not_false_eq_true, true_and, implies_true]
    exact ⟨rfl, fin_bool (F := f39) (b := false) (P := fun b => b = true ↔ TagsP c s (row c s)) rfl (bfalse hno) h4⟩
  · have hl := hst
    refine .inl ⟨rfl, .inl ⟨rfl, W_seqn (W_region (fun k => by simp +decide (disch := first | omega | simp +decide only [List.length_set, hl]) only [sa, simprocAttr]; rfl) ⟨rfl, W_ret ?_⟩)⟩⟩
    refine ⟨rfl, fin_bool (F := f39) (b := true) (P := fun b => b = true ↔ TagsP c s (row c s)) rfl (btrue hall) ?_⟩
    simp +decide (disch := first | omega | simp +decide only [List.length_set, hl]) only [sa, simprocAttr]
  all_goals first | (simp +decide (disch := first | omega | simp +decide only [List.length_set, hl]) only [sa, simprocAttr, hps, hl, h1]; done) | (simp +decide (disch := first | omega | simp +decide only [List.length_set, hl]) only [sa, simprocAttr, hps, hl, h1, hsc]; done) | (simp +decide (disch := first | omega | simp +decide only [List.length_set, hl]) only [sa, simprocAttr, hps, hl, h1]; rfl)
/-! Ages: each once, or none twice. -/

def sumC (f : Nat → Nat) : Nat → Nat
  | 0 => 0
  | n + 1 => sumC f n + f n
theorem sumC_add (f g : Nat → Nat) : ∀ n, sumC (fun a => f a + g a) n = sumC f n + sumC g n
  | 0 => rfl
  | n + 1 => by rw [sumC, sumC_add f g n, sumC, sumC]; omega
theorem sumC_one (x : Int) : ∀ n : Nat, sumC (fun a => if x = (a : Int) then 1 else 0) n = if 0 ≤ x ∧ x < n then 1 else 0
  | 0 => by rw [sumC, if_neg (by omega)]
  | n + 1 => by
    rw [sumC, sumC_one x n]
    by_cases h : 0 ≤ x ∧ x < n
    · rw [if_pos h, if_neg (by omega), if_pos (by omega)]
    · by_cases h2 : x = (n : Int)
      · rw [if_neg h, if_pos h2, if_pos (by omega)]
      · rw [if_neg h, if_neg h2, if_neg (by omega)]
def inR (l : List Way) (n : Nat) : Nat → Nat
  | 0 => 0
  | k + 1 => inR l n k + if 0 ≤ (wayN l k).age ∧ (wayN l k).age < n then 1 else 0
theorem dbl (l : List Way) (n : Nat) : ∀ k, sumC (fun a => cntA l (a : Int) k) n = inR l n k
  | 0 => by
    have h : ∀ m, sumC (fun a => cntA l (a : Int) 0) m = 0 := by
      intro m
      induction m with
      | zero => rfl
      | succ j ih => rw [sumC, ih]; rfl
    rw [h]; rfl
  | k + 1 => by
    have e : (fun a : Nat => cntA l (a : Int) (k + 1)) = fun a : Nat => cntA l (a : Int) k + (if (wayN l k).age = (a : Int) then 1 else 0) := rfl
    rw [e, sumC_add, dbl l n k, sumC_one, inR]
theorem inR_le (l : List Way) (n : Nat) : ∀ k, inR l n k ≤ k
  | 0 => Nat.le_refl _
  | k + 1 => by have := inR_le l n k; rw [inR]; split <;> omega
theorem inR_all (l : List Way) (n : Nat) : ∀ k, (inR l n k = k ↔ ∀ i, i < k → 0 ≤ (wayN l i).age ∧ (wayN l i).age < n)
  | 0 => ⟨fun _ i h => by omega, fun _ => rfl⟩
  | k + 1 => by
    have h1 := inR_le l n k
    have ih := inR_all l n k
    rw [inR]
    constructor
    · intro h i hi
      split at h
      · rename_i hk
        by_cases hik : i = k
        · subst hik; exact hk
        · exact ih.mp (by omega) i (by omega)
      · omega
    · intro h
      rw [if_pos (h k (by omega)), ih.mpr (fun i hi => h i (by omega))]
theorem cnt_zero (l : List Way) (a : Int) : ∀ k, (∀ j, j < k → (wayN l j).age ≠ a) → cntA l a k = 0
  | 0, _ => rfl
  | k + 1, h => by rw [cntA, cnt_zero l a k (fun j hj => h j (by omega)), if_neg (h k (by omega))]
theorem cnt_le1 (l : List Way) (a : Int) : ∀ k, (∀ i, i < k → ∀ j, j < i → (wayN l j).age ≠ (wayN l i).age) → cntA l a k ≤ 1
  | 0, _ => by show 0 ≤ 1; omega
  | k + 1, h => by
    rw [cntA]
    by_cases hk : (wayN l k).age = a
    · rw [if_pos hk, cnt_zero l a k (fun j hj => by rw [← hk]; exact h k (by omega) j hj)]; omega
    · rw [if_neg hk]
      exact cnt_le1 l a k (fun i hi => h i (by omega))
theorem cnt_mono (l : List Way) (a : Int) (k : Nat) : ∀ d, cntA l a k ≤ cntA l a (k + d)
  | 0 => Nat.le_refl _
  | d + 1 => by have := cnt_mono l a k d; rw [← Nat.add_assoc, cntA]; split <;> omega
theorem sum_ones (f : Nat → Nat) : ∀ n, (∀ a, a < n → f a ≤ 1) → sumC f n ≤ n ∧ (sumC f n = n → ∀ a, a < n → f a = 1)
  | 0, _ => ⟨Nat.le_refl _, fun _ a h => by omega⟩
  | n + 1, h => by
    obtain ⟨h1, h2⟩ := sum_ones f n (fun a ha => h a (by omega))
    have h3 := h n (by omega)
    rw [sumC]
    refine ⟨by omega, fun he a ha => ?_⟩
    by_cases hn : a = n
    · subst hn; omega
    · exact h2 (by omega) a (by omega)
theorem sum_const (f : Nat → Nat) : ∀ n, (∀ a, a < n → f a = 1) → sumC f n = n
  | 0, _ => rfl
  | n + 1, h => by rw [sumC, sum_const f n (fun a ha => h a (by omega)), h n (by omega)]
theorem ages_iff (l : List Way) : AgesP l ↔ ∀ k, k < l.length → 0 ≤ (wayN l k).age ∧ (wayN l k).age < l.length ∧ ∀ j, j < k → (wayN l j).age ≠ (wayN l k).age := by
  have hd := dbl l l.length l.length
  have hin := inR_all l l.length l.length
  constructor
  · intro h k hk
    rw [sum_const _ _ h] at hd
    have hr := hin.mp hd.symm
    refine ⟨(hr k hk).1, (hr k hk).2, fun j hj he => ?_⟩
    obtain ⟨h1, h2⟩ := hr k hk
    have hc := h (wayN l k).age.toNat (by omega)
    rw [show (((wayN l k).age.toNat : Nat) : Int) = (wayN l k).age by omega] at hc
    have c1 : cntA l (wayN l k).age (j + 1) = cntA l (wayN l k).age j + 1 := by rw [cntA, if_pos he]
    have c2 : cntA l (wayN l k).age (k + 1) = cntA l (wayN l k).age k + 1 := by rw [cntA, if_pos rfl]
    have m1 := cnt_mono l (wayN l k).age (j + 1) (k - (j + 1))
    have m2 := cnt_mono l (wayN l k).age (k + 1) (l.length - (k + 1))
    rw [show j + 1 + (k - (j + 1)) = k by omega] at m1
    rw [show k + 1 + (l.length - (k + 1)) = l.length by omega] at m2
    omega
  · intro h
    have h1 : inR l l.length l.length = l.length := hin.mpr (fun i hi => ⟨(h i hi).1, (h i hi).2.1⟩)
    rw [h1] at hd
    exact (sum_ones _ _ (fun a _ => cnt_le1 l (a : Int) l.length (fun i hi => (h i hi).2.2))).2 hd
theorem isAt_iff (ln : Nat) (w : Way) : isAt ln w = true ↔ w.tag = (ln : Int) ∧ w.state ≠ 0 := by
  unfold isAt; simp
theorem fine_iff (c : Cache) (hc : c.wf) (s : Nat) (hs : s < c.sets.length) : FineP c s (row c s) ↔ 1 ≤ (row c s).length ∧ (row c s).length ≤ 4 ∧ AgesP (row c s) ∧ TagsP c s (row c s) := by
  have hw := (row_wf hc s hs).2
  have hfd : ∀ ln, seti c ln = s → find c ln = fnd (row c s) ln 0 (row c s).length := fun ln h => by unfold find; rw [if_neg (by omega), h]
  have htag : ∀ k, k < (row c s).length → (((wayN (row c s) k).tag.toNat : Nat) : Int) = (wayN (row c s) k).tag := fun k hk => by have := wf_u32 (wayN_wf hw hk).2.1; omega
  rw [ages_iff]
  unfold FineP TagsP
  constructor
  · rintro ⟨h1, h2, h3⟩
    refine ⟨h1, h2, fun k hk => ⟨(h3 k hk).1, (h3 k hk).2.1, (h3 k hk).2.2.1⟩, fun k hk => ?_⟩
    obtain ⟨a1, a2, a3, a4, a5, a6, a7⟩ := h3 k hk
    refine ⟨a4, a5, fun hz => ?_, fun hz => (a7 hz).1, fun j hj ⟨d1, d2, d3⟩ => ?_⟩
    · have e := a6 hz
      exact ⟨by rw [e]; rfl, by rw [e]; rfl⟩
    · obtain ⟨b1, b2⟩ := a7 d1
      rw [hfd _ b1] at b2
      have := (fnd_first _ _ _ _ _ b2).2.2 j (by omega) hj
      rw [(isAt_iff _ _).mpr ⟨by rw [← d3, htag k hk], d2⟩] at this
      cases this
  · rintro ⟨h1, h2, h3, h4⟩
    refine ⟨h1, h2, fun k hk => ?_⟩
    obtain ⟨a1, a2, a3⟩ := h3 k hk
    obtain ⟨t1, t2, t3, t4, t5⟩ := h4 k hk
    refine ⟨a1, a2, a3, t1, t2, fun hz => ?_, fun hz => ⟨t4 hz, ?_⟩⟩
    · obtain ⟨e1, e2⟩ := t3 hz
      show wayN (row c s) k = ⟨0, 0, List.replicate 16 0, (wayN (row c s) k).age⟩
      have : ∀ w : Way, w.state = 0 → w.tag = 0 → w.data = zeros → w = ⟨0, 0, List.replicate 16 0, w.age⟩ := by
        intro w h1 h2 h3
        cases w
        simp only at h1 h2 h3
        rw [h1, h2, h3]; rfl
      exact this _ hz e1 e2
    · rw [hfd _ (t4 hz)]
      obtain ⟨j, hj⟩ := fnd_has (row c s) (wayN (row c s) k).tag.toNat (row c s).length 0 k (by omega) (by omega) ((isAt_iff _ _).mpr ⟨(htag k hk).symm, hz⟩)
      obtain ⟨f1, f2, f90003⟩ := fnd_first _ _ _ _ _ hj
      rw [hj]
      by_cases hjk : j = k
      · rw [hjk]
      · by_cases hlt : k < j
        · have := f90003 k (by omega) hlt
          rw [(isAt_iff _ _).mpr ⟨(htag k hk).symm, hz⟩] at this
          cases this
        · obtain ⟨g1, g2⟩ := (isAt_iff _ _).mp f1
          exact absurd ⟨hz, g2, by rw [g1, htag k hk]⟩ (t5 j (by omega))
def RightP (c : Cache) : Prop := 1 ≤ c.sets.length ∧ c.sets.length ≤ 8 ∧ ∀ s, s < c.sets.length → (row c s).length = (row c 0).length ∧ FineP c s (row c s)
theorem ap38 : ap 38 = some f38 := rfl
theorem p38 : f38.pure = true := rfl
theorem n38 : f38.nat = none := rfl
theorem ap39 : ap 39 = some f39 := rfl
theorem p39 : f39.pure = true := rfl
theorem n39 : f39.nat = none := rfl
def rgLoop : ACode := match f23.body with | .seq _ (.seq _ (.seq (.seq _ (.block _ (.loop c))) _)) => c | _ => .skip
theorem rg_loop (c : Cache) (hc : c.wf) (hfit : Fit c.sets) (Q : AExit → St → Prop)
    (hQr : ∀ st : St, rho st.s (.tmp 2) = .bool false → ¬ (∀ s, s < c.sets.length → (row c s).length = (row c 0).length ∧ FineP c s (row c s)) → Q .ret st) (hQe : ∀ st : St, st.s.length = 55 → (∀ s, s < c.sets.length → (row c s).length = (row c 0).length ∧ FineP c s (row c s)) → Q (.exit 0) st) :
    ∀ (m : Nat) (st : St), (∃ s : Nat, st.s.length = 55 ∧ rho st.s (.tmp 1) = .ptr 0 0 ∧ st.g 0 = some [setsT c] ∧ rho st.s (.tmp 3) = .int .i64 (s : Int) ∧ s ≤ c.sets.length ∧ m = c.sets.length - s ∧ (∀ j, j < s → (row c j).length = (row c 0).length ∧ FineP c j (row c j))) → W ap (.loop rgLoop) st Q := by
  refine W_loop _ ?_
  rintro m st ⟨s, hl, h1, g0, h3, hs, hm, hall⟩
  have hN := hfit.1
  have hsc : setsT c = .imm false c.sets.length (c.sets.flatMap (fun l => [rowT l])) := rfl
  have hrl := rows_len c
  by_cases hend : s = c.sets.length
  · have hlt : decide ((s : Int) < (c.sets.length : Int)) = false := decide_eq_false (by omega)
    rw [hsc] at g0
    refine W_seq (W_seqn (W_region (fun k => by simp +decide (disch := first | omega | simp +decide only [List.length_set, hl]) only [sa, simprocAttr, h1, g0, h3, hlt]; rfl) ⟨rfl, W_false (by simp +decide (disch := first | omega | simp +decide only [List.length_set, hl]) only [sa, simprocAttr] <;> rfl) (W_exit ?_)⟩))
    refine (.inr ⟨by simp, .inr ⟨by simp, hQe _ ?_ (fun j hj => hall j (by omega))⟩⟩)
    simp +decide (disch := first | omega | simp +decide only [List.length_set, hl]) only [sa, simprocAttr, hl]
  have hlt : decide ((s : Int) < (c.sets.length : Int)) = true := decide_eq_true (by omega)
  have hsl : s < c.sets.length := by omega
  have h0l : 0 < c.sets.length := by omega
  have hw2 : IntKind.i64.wrap ((s : Int) + 1) = ((s + 1 : Nat) : Int) := by rw [wrap_id (by omega)]; omega
  have hrg := rows_get c s hsl
  have hrg0 := rows_get c 0 h0l
  rw [show rowT (row c s) = .imm false (row c s).length ((row c s).flatMap Way.enc) from rfl] at hrg
  rw [show rowT (row c 0) = .imm false (row c 0).length ((row c 0).flatMap Way.enc) from rfl] at hrg0
  have hb : s * 1 + 1 ≤ c.sets.length := by omega
  have hb0 : 0 * 1 + 1 ≤ c.sets.length := by omega
  have hrb := (fit_row hfit s hsl).1
  obtain ⟨v, hv, b, rfl, hiff⟩ := ref_ages c hc s hsl (by omega)
  obtain ⟨v', hv', b', rfl, hiff'⟩ := ref_tags c hc s hsl (by omega)
  obtain ⟨N1, c32⟩ := hv.call ap38 (fun g => rfl)
  obtain ⟨N2, c33⟩ := hv'.call ap39 (fun g => rfl)
  have q32 := c32 (N1 + N2) (by omega)
  have q33 := c33 (N1 + N2) (by omega)
  have hfi := fine_iff c hc s hsl
  have bad : ¬ ((row c s).length = (row c 0).length ∧ FineP c s (row c s)) → ¬ (∀ s, s < c.sets.length → (row c s).length = (row c 0).length ∧ FineP c s (row c s)) := fun h h' => h (h' s hsl)
  have hcut : cut [T.imm false c.sets.length (c.sets.flatMap (fun l => [rowT l]))] 0 1 = [T.imm false c.sets.length (c.sets.flatMap (fun l => [rowT l]))] := rfl
  rw [hsc] at q32 q33 g0
  generalize c.sets.flatMap (fun l => [rowT l]) = rows at *
  refine W_seqn (W_seqn (W_region (fun k => by simp +decide (disch := first | omega | simp +decide only [List.length_set, hl]) only [sa, simprocAttr, h1, g0, h3, hlt]; rfl) ⟨rfl, W_true (by simp +decide (disch := first | omega | simp +decide only [List.length_set, hl]) only [sa, simprocAttr] <;> rfl) (W_skip ⟨rfl, ?_⟩)⟩))
  refine W_seq (W_block ?_)
  refine W_seqn (W_region (fun k => by simp +decide (disch := first | omega | simp +decide only [List.length_set, hl]) only [sa, simprocAttr, h1, g0, h3, hrl, hsl, hb, hrg]; rfl) ⟨rfl, ?_⟩)
  by_cases a1 : ((row c s).length : Int) < 1
  · have d1 : decide (((row c s).length : Int) < 1) = true := decide_eq_true a1
    refine W_seqn (W_region (fun k => by simp +decide (disch := first | omega | simp +decide only [List.length_set, hl]) only [sa, simprocAttr, hps, d1]; rfl) ⟨rfl, W_true (by simp +decide (disch := first | omega | simp +decide only [List.length_set, hl]) only [sa, simprocAttr] <;> rfl) ?_⟩)
    refine W_seqn (W_region (fun k => by simp +decide (disch := first | omega | simp +decide only [List.length_set, hl]) only [sa, simprocAttr]; rfl) ⟨rfl, W_ret ?_⟩)
    simp only [reduceCtorEq, false_and, false_or, or_false, exists_false, exists_const, ne_eq, not_false_eq_true, true_and, implies_true]
    refine hQr _ ?_ (bad (fun h => by have := h.2.1; omega))
    simp +decide (disch := first | omega | simp +decide only [List.length_set, hl]) only [sa, simprocAttr]
  have d1 : decide (((row c s).length : Int) < 1) = false := decide_eq_false a1
  by_cases a2 : ((row c s).length : Int) > 4
  · have d2 : decide (((row c s).length : Int) > 4) = true := decide_eq_true a2
    refine W_seqn (W_region (fun k => by simp +decide (disch := first | omega | simp +decide only [List.length_set, hl]) only [sa, simprocAttr, hps, d1, d2]; rfl) ⟨rfl, W_true (by simp +decide (disch := first | omega | simp +decide only [List.length_set, hl]) only [sa, simprocAttr] <;> rfl) ?_⟩)
    refine W_seqn (W_region (fun k => by simp +decide (disch := first | omega | simp +decide only [List.length_set, hl]) only [sa, simprocAttr]; rfl) ⟨rfl, W_ret ?_⟩)
    simp only [reduceCtorEq, false_and, false_or, or_false, exists_false, exists_const, ne_eq, not_false_eq_true, true_and, implies_true]
    refine hQr _ ?_ (bad (fun h => by have := h.2.2.1; omega))
    simp +decide (disch := first | omega | simp +decide only [List.length_set, hl]) only [sa, simprocAttr]
  have d2 : decide (((row c s).length : Int) > 4) = false := decide_eq_false a2
  by_cases hlen : (row c s).length = (row c 0).length
  · have e1 : (((row c s).length : Int) != ((row c 0).length : Int)) = false := by simp [hlen]
    cases b with
    | false =>
      refine W_seqn (W_regionN ⟨N1 + N2, by simp +decide (disch := first | omega | simp +decide only [List.length_set, hl]) only [sa, simprocAttr, hps, h1, g0, h3, hrl, h0l, hb0, hrg0, hcut, d1, d2, e1, ap38, p38, n38, q32]; rfl⟩ ⟨rfl, W_true (by simp +decide (disch := first | omega | simp +decide only [List.length_set, hl]) only [sa, simprocAttr] <;> rfl) ?_⟩)
      refine W_seqn (W_region (fun k => by simp +decide (disch := first | omega | simp +decide only [List.length_set, hl]) only [sa, simprocAttr]; rfl) ⟨rfl, W_ret ?_⟩)
      simp only [reduceCtorEq, false_and, false_or, or_false, exists_false, exists_const, ne_eq, not_false_eq_true, true_and, implies_true]
      refine hQr _ ?_ (bad (fun h => by have := hiff.mpr (hfi.mp h.2).2.2.1; cases this))
      simp +decide (disch := first | omega | simp +decide only [List.length_set, hl]) only [sa, simprocAttr]
    | true =>
      cases b' with
      | false =>
        refine W_seqn (W_regionN ⟨N1 + N2, by simp +decide (disch := first | omega | simp +decide only [List.length_set, hl]) only [sa, simprocAttr, hps, h1, g0, h3, hrl, h0l, hb0, hrg0, hcut, d1, d2, e1, ap38, p38, n38, q32, ap39, p39, n39, q33]; rfl⟩ ⟨rfl, W_true (by simp +decide (disch := first | omega | simp +decide only [List.length_set, hl]) only [sa, simprocAttr] <;> rfl) ?_⟩)
        refine W_seqn (W_region (fun k => by simp +decide (disch := first | omega | simp +decide only [List.length_set, hl]) only [sa, simprocAttr]; rfl) ⟨rfl, W_ret ?_⟩)
        simp only [reduceCtorEq, false_and, false_or, or_false, exists_false, exists_const, ne_eq, not_false_eq_true, true_and, implies_true]
        refine hQr _ ?_ (bad (fun h => by have := hiff'.mpr (hfi.mp h.2).2.2.2; cases this))
        simp +decide (disch := first | omega | simp +decide only [List.length_set, hl]) only [sa, simprocAttr]
      | true =>
        refine W_seqn (W_regionN ⟨N1 + N2, by simp +decide (disch := first | omega | simp +decide only [List.length_set, hl]) only [sa, simprocAttr, hps, h1, g0, h3, hrl, h0l, hb0, hrg0, hcut, d1, d2, e1, ap38, p38, n38, q32, ap39, p39, n39, q33]; rfl⟩ ⟨rfl, W_false (by simp +decide (disch := first | omega | simp +decide only [List.length_set, hl]) only [sa, simprocAttr] <;> rfl) (W_skip (.inr (.inl ⟨by simp, .inl ⟨rfl, ?_⟩⟩)))⟩)
        refine W_region (fun k => by simp +decide (disch := first | omega | simp +decide only [List.length_set, hl]) only [sa, simprocAttr, h3, hw2]; rfl) ?_
        refine .inl ⟨rfl, c.sets.length - (s + 1), by omega, s + 1, ?_, ?_, ?_, ?_, by omega, rfl, fun j hj => ?_⟩
        rotate_right 1
        · by_cases hjs : j = s
          · subst hjs; exact ⟨hlen, hfi.mpr ⟨by omega, by omega, hiff.mp rfl, hiff'.mp rfl⟩⟩
          · exact hall j (by omega)
        all_goals simp +decide (disch := first | omega | simp +decide only [List.length_set, hl]) only [sa, simprocAttr, hl, h1, g0, hsc]
  · have e1 : (((row c s).length : Int) != ((row c 0).length : Int)) = true := by simp; omega
    refine W_seqn (W_regionN ⟨0, by simp +decide (disch := first | omega | simp +decide only [List.length_set, hl]) only [sa, simprocAttr, hps, h1, g0, h3, hrl, h0l, hb0, hrg0, hcut, d1, d2, e1]; rfl⟩ ⟨rfl, W_true (by simp +decide (disch := first | omega | simp +decide only [List.length_set, hl]) only [sa, simprocAttr] <;> rfl) ?_⟩)
    refine W_seqn (W_region (fun k => by simp +decide (disch := first | omega | simp +decide only [List.length_set, hl]) only [sa, simprocAttr]; rfl) ⟨rfl, W_ret ?_⟩)
    simp only [reduceCtorEq, false_and, false_or, or_false, exists_false, exists_const, ne_eq, not_false_eq_true, true_and, implies_true]
    refine hQr _ ?_ (bad (fun h => hlen h.1))
    simp +decide (disch := first | omega | simp +decide only [List.length_set, hl]) only [sa, simprocAttr]
theorem ref_right (c : Cache) (hc : c.wf) (hfit : Fit c.sets) : ∃ v, E ap 23 [.agg [setsT c]] v ∧ ∃ b, v = .bool b ∧ (b = true ↔ RightP c) := by
  refine E_bodyV (F := f23) rfl rfl rfl (P := fun v => ∃ b, v = .bool b ∧ (b = true ↔ RightP c)) ?_
  generalize hs0 : (_ : List T) ++ List.replicate _ T.undef = s0
  have e0 : s0.length = 55 ∧ rho s0 (.tmp 0) = .agg [setsT c] := by subst hs0; exact ⟨rfl, rfl⟩
  clear hs0
  obtain ⟨hl, h0⟩ := e0
  have hleaf : allLeaf [setsT c] = true := rfl
  have hsc : setsT c = .imm false c.sets.length (c.sets.flatMap (fun l => [rowT l])) := rfl
  have hdef : RightP c = (1 ≤ c.sets.length ∧ c.sets.length ≤ 8 ∧ ∀ s, s < c.sets.length → (row c s).length = (row c 0).length ∧ FineP c s (row c s)) := rfl
  refine W_seqn (W_region (fun k => by simp +decide (disch := first | omega | simp +decide only [List.length_set, hl]) only [sa, simprocAttr, hps, h0, hleaf]; rfl) ⟨rfl, ?_⟩)
  by_cases ha : (c.sets.length : Int) < 1
  · have d1 : decide ((c.sets.length : Int) < 1) = true := decide_eq_true ha
    refine W_seq (W_seqn (W_region (fun k => by simp +decide (disch := first | omega | simp +decide only [List.length_set, hl]) only [sa, simprocAttr, hps, hsc, d1]; rfl) ⟨rfl, W_true (by simp +decide (disch := first | omega | simp +decide only [List.length_set, hl]) only [sa, simprocAttr] <;> rfl) ?_⟩))
    refine W_seqn (W_region (fun k => by simp +decide (disch := first | omega | simp +decide only [List.length_set, hl]) only [sa, simprocAttr]; rfl) ⟨rfl, W_ret ?_⟩)
    simp only [reduceCtorEq, false_and, false_or, or_false, exists_false, exists_const, ne_eq, not_false_eq_true, true_and, implies_true]
    refine ⟨rfl, fin_bool (F := f23) (b := false) (P := fun b => b = true ↔ RightP c) rfl (bfalse (fun h => by rw [hdef] at h; omega)) ?_⟩
    simp +decide (disch := first | omega | simp +decide only [List.length_set, hl]) only [sa, simprocAttr]
  have d1 : decide ((c.sets.length : Int) < 1) = false := decide_eq_false ha
  by_cases ha2 : (c.sets.length : Int) > 8
  · have d2 : decide ((c.sets.length : Int) > 8) = true := decide_eq_true ha2
    refine W_seq (W_seqn (W_region (fun k => by simp +decide (disch := first | omega | simp +decide only [List.length_set, hl]) only [sa, simprocAttr, hps, hsc, d1, d2]; rfl) ⟨rfl, W_true (by simp +decide (disch := first | omega | simp +decide only [List.length_set, hl]) only [sa, simprocAttr] <;> rfl) ?_⟩))
    refine W_seqn (W_region (fun k => by simp +decide (disch := first | omega | simp +decide only [List.length_set, hl]) only [sa, simprocAttr]; rfl) ⟨rfl, W_ret ?_⟩)
    simp only [reduceCtorEq, false_and, false_or, or_false, exists_false, exists_const, ne_eq, not_false_eq_true, true_and, implies_true]
    refine ⟨rfl, fin_bool (F := f23) (b := false) (P := fun b => b = true ↔ RightP c) rfl (bfalse (fun h => by rw [hdef] at h; omega)) ?_⟩
    simp +decide (disch := first | omega | simp +decide only [List.length_set, hl]) only [sa, simprocAttr]
  have d2 : decide ((c.sets.length : Int) > 8) = false := decide_eq_false ha2
  refine W_seqn (W_seqn (W_region (fun k => by simp +decide (disch := first | omega | simp +decide only [List.length_set, hl]) only [sa, simprocAttr, hps, hsc, d1, d2]; rfl) ⟨rfl, W_false (by simp +decide (disch := first | omega | simp +decide only [List.length_set, hl]) only [sa, simprocAttr] <;> rfl) (W_skip ⟨rfl, ?_⟩)⟩))
  refine W_seq (W_seqn (W_region (fun k => by simp +decide (disch := first | omega | simp +decide only [List.length_set, hl]) only [sa, simprocAttr, hps]; rfl) ⟨rfl, W_block ?_⟩))
  refine rg_loop c hc hfit _ (fun st h2 hno => ?_) (fun st hst hall => ?_) (c.sets.length - 0) _ ⟨0, ?_, ?_, ?_, ?_, by omega, rfl, fun j hj => by omega⟩
  · simp only [reduceCtorEq, false_and, false_or, or_false, exists_false, exists_const, ne_eq, not_false_eq_true, true_and, implies_true]
    exact ⟨rfl, fin_bool (F := f23) (b := false) (P := fun b => b = true ↔ RightP c) rfl (bfalse (fun h => hno h.2.2)) h2⟩
  · have hl := hst
    refine .inl ⟨rfl, .inl ⟨rfl, W_seqn (W_region (fun k => by simp +decide (disch := first | omega | simp +decide only [List.length_set, hl]) only [sa, simprocAttr]; rfl) ⟨rfl, W_ret ?_⟩)⟩⟩
    refine ⟨rfl, fin_bool (F := f23) (b := true) (P := fun b => b = true ↔ RightP c) rfl (btrue ⟨by omega, by omega, hall⟩) ?_⟩
    simp +decide (disch := first | omega | simp +decide only [List.length_set, hl]) only [sa, simprocAttr]
  all_goals first | (simp +decide (disch := first | omega | simp +decide only [List.length_set, hl]) only [sa, simprocAttr, hps, hl]; done) | (simp +decide (disch := first | omega | simp +decide only [List.length_set, hl]) only [sa, simprocAttr, hps, hl, hsc]; done) | (simp +decide (disch := first | omega | simp +decide only [List.length_set, hl]) only [sa, simprocAttr, hps, hl]; rfl)
end Go.Proofs.Ytabfinhkoihhfaa.Abs
