/- May stores be? Are two buffers one? The given functions' walks. -/
import Derived.Test.YtabfinhkoihhfaaSb37
namespace Go.Proofs.Ytabfinhkoihhfaa.Abs
open Go Go.RowKit Fn
set_option linter.unusedVariables false
set_option linter.unusedSimpArgs false
set_option linter.unnecessarySimpa false
set_option maxRecDepth 100000
set_option maxHeartbeats 4000000

theorem qCK : ap 17 = some f17 := rfl
theorem rCK : f17.pure = true := rfl
theorem sCK : f17.nat = none := rfl
def srLoop : ACode := match f6.body with | .seq _ (.seq _ (.seq (.seq _ (.block _ (.loop c))) _)) => c | _ => .skip
theorem sr_loop (m : Coh) (hml : m.mem.length ≤ 4096) (fl : Bool) (l : List Sb) (hw : ∀ s ∈ l, s.wf) (hl20 : l.length ≤ 8) (Q : AExit → St → Prop)
    (hQr : ∀ st : St, rho st.s (.tmp 4) = .bool false → Q .ret st) (hQe : ∀ st : St, st.s.length = 53 → (∀ s ∈ l, sbOk m.mem.length s) → Q (.exit 0) st) :
    ∀ (n : Nat) (st : St), (∃ i : Nat, st.s.length = 53 ∧ rho st.s (.tmp 0) = .imm fl l.length (l.flatMap Sb.enc) ∧ rho st.s (.tmp 1) = memT m ∧ rho st.s (.tmp 5) = .int .i64 (i : Int) ∧ (∀ j (h : j < l.length), j < i → sbOk m.mem.length l[j]) ∧ i ≤ l.length ∧ n = l.length - i) → W ap (.loop srLoop) st Q := by
  refine W_loop _ ?_
  rintro n st ⟨i, hl, h0, h1, h5, hok, hi, hn⟩
  by_cases hend : i = l.length
  · have hlt : decide ((i : Int) < (l.length : Int)) = false := decide_eq_false (by omega)
    refine W_seq (W_seqn (W_region (fun k => by simp +decide (disch := first | omega | simp +decide only [List.length_set, hl]) only [sa, simprocAttr, hps, h0, h5, hlt]; rfl) ⟨rfl, W_fls (W_exit (.inr ⟨by simp, .inr ⟨by simp, hQe _ ?_ (fun s hm => ?_)⟩⟩))⟩))
    · simp +decide (disch := first | omega | simp +decide only [List.length_set, hl]) only [sa, simprocAttr, hps, hl]
    · obtain ⟨j, hj, e⟩ := List.mem_iff_getElem.mp hm
      rw [← e]; exact hok j hj (by omega)
  have hil : i < l.length := by omega
  have hlt : decide ((i : Int) < (l.length : Int)) = true := decide_eq_true (by omega)
  have hw2 : IntKind.i64.wrap ((i : Int) + 1) = ((i + 1 : Nat) : Int) := by rw [wrap_id (by omega)]; omega
  have hcl := sb_cells l
  have hb3 : i * 3 + 3 ≤ l.length * 3 := by omega
  have hb0 : i * 3 + 1 ≤ l.length * 3 := by omega
  have hb2 : i * 3 + 2 + 1 ≤ l.length * 3 := by omega
  have g0 := sb_get l i hil 0 (by omega)
  have g2 := sb_get l i hil 2 (by omega)
  have hswf := hw _ (List.getElem_mem hil)
  have hok' : sbOk m.mem.length l[i] → ∀ j (h : j < l.length), j < i + 1 → sbOk m.mem.length l[j] := fun hh j hj hji => by
    by_cases e : j = i
    · subst e; exact hh
    · exact hok j hj (by omega)
  generalize l[i] = s at *
  have ha := wf_u32 hswf.1
  have hd := wf_u32 hswf.2.1
  obtain ⟨ad, hd', sz⟩ : ∃ ad : Nat, s.addr = (ad : Int) ∧ ad ≤ 4294967295 := ⟨s.addr.toNat, by omega, by omega⟩
  have had := sz
  obtain ⟨dn, edn, hdn⟩ : ∃ dn : Nat, s.data = (dn : Int) ∧ dn ≤ 4294967295 := ⟨s.data.toNat, by omega, by omega⟩
  have hse : s.enc = [.int .u32 (ad : Int), .int .u32 (dn : Int), .int .i64 s.size] := by show [T.int .u32 s.addr] ++ ([T.int .u32 s.data] ++ [T.int .i64 s.size]) = _; rw [hd', edn]; rfl
  rw [hse] at g0 g2
  have k0 : (l.flatMap Sb.enc)[i * 3]? = some (.int .u32 (ad : Int)) := g0
  have k9 : (l.flatMap Sb.enc)[i * 3 + 2]? = some (.int .i64 s.size) := g2
  clear g0 g2
  have hmk : ∀ z : Nat, s.size = (z : Int) → (z = 1 ∨ z = 2 ∨ z = 4) → ad % z = 0 → ad + z ≤ m.mem.length → sbOk m.mem.length s := fun z e hz h1 h2 => ⟨ad, z, dn, hd', e, edn, had, hdn, hz, h1, h2⟩
  generalize s.size = size at *
  generalize hcs : l.flatMap Sb.enc = cs at *
  refine W_seqn (W_seqn (W_region (fun k => by simp +decide (disch := first | omega | simp +decide only [List.length_set, hl]) only [sa, simprocAttr, hps, h0, h5, hlt]; rfl) ⟨rfl, W_tru (W_skip ⟨rfl, ?_⟩)⟩))
  refine W_seq (W_block ?_)
  refine W_cut (fun t => t.s.length = 53 ∧ rho t.s (.tmp 0) = .imm fl l.length cs ∧ rho t.s (.tmp 1) = memT m ∧ rho t.s (.tmp 5) = .int .i64 (i : Int) ∧ rho t.s (.tmp 6) = .int .i64 size) (W_region (fun k => by simp +decide (disch := first | omega | simp +decide only [List.length_set, hl]) only [sa, simprocAttr, hps, h0, h5, hil, hcl, hb2, hb3, k9]; rfl) ⟨rfl, ?_, ?_, ?_, ?_, ?_⟩) ?_
  case refine_6 =>
    clear hl h0 h1 h5
    rintro st ⟨hl, h0, h1, h5, h6⟩
    have bad : ∀ t : St, t.s.length = 53 → W ap (.seq (.region [⟨some 4, .mv (.con (.bool false)), none⟩] []) .ret) t (fun e st => e = .ret ∧ Q .ret st) := by
      intro t hl
      refine W_seqn (W_region (fun k => by simp +decide (disch := first | omega | simp +decide only [List.length_set, hl]) only [sa, simprocAttr, hps]; rfl) ⟨rfl, W_ret ⟨rfl, hQr _ ?_⟩⟩)
      simp +decide (disch := first | omega | simp +decide only [List.length_set, hl]) only [sa, simprocAttr]
    by_cases c3 : size = 1 ∨ size = 2 ∨ size = 4
    · obtain ⟨z, rfl, hz⟩ : ∃ z : Nat, size = (z : Int) ∧ (z = 1 ∨ z = 2 ∨ z = 4) := ⟨size.toNat, by omega, by omega⟩
      have hz3 : ((z : Int) != 1) = false ∨ ((z : Int) != 1) = true ∧ (((z : Int) != 2) = false ∨ ((z : Int) != 2) = true ∧ ((z : Int) != 4) = false) := by
        rcases hz with rfl | rfl | rfl
        · exact .inl rfl
        · exact .inr ⟨rfl, .inl rfl⟩
        · exact .inr ⟨rfl, .inr ⟨rfl, rfl⟩⟩
      have w1 : IntKind.u32.wrap (z : Int) = (z : Int) := by rw [wrap_u32]; omega
      have hz0 : ((z : Int) = 0) = False := eq_false (by omega)
      have htm : (ad : Int).tmod (z : Int) = ((ad % z : Nat) : Int) := by rw [Int.tmod_eq_emod_of_nonneg (by omega)]; exact (Int.natCast_emod _ _).symm
      obtain ⟨N, q⟩ := (ref_check m hml ad had (z : Int) (by omega)).call qCK (fun g => rfl)
      have q := q N (Nat.le_refl _)
      by_cases c4 : ad % z = 0
      · have e4 : (((ad % z : Nat) : Int) != 0) = false := by rw [c4]; rfl
        by_cases c5 : (ad : Int) + (z : Int) ≤ (m.mem.length : Int)
        · rw [if_pos c5] at q
          have hgo := hok' (hmk z rfl hz c4 (by omega))
          refine W_cut (fun t => t.s.length = 53 ∧ rho t.s (.tmp 0) = .imm fl l.length cs ∧ rho t.s (.tmp 1) = memT m ∧ rho t.s (.tmp 5) = .int .i64 (i : Int) ∧ rho t.s (.tmp 52) = .bool false) ?_ ?_
          · rcases hz3 with k1 | ⟨k1, k2 | ⟨k2, k3⟩⟩
            · refine W_regionN ⟨N, by simp +decide (disch := first | omega | simp +decide only [List.length_set, hl]) only [sa, simprocAttr, hps, h0, h1, h5, h6, k1, hil, hcl, hb0, hb3, k0, Nat.add_zero, w1, hz0, htm, e4, qCK, rCK, sCK, q]; rfl⟩ ⟨rfl, ?_, ?_, ?_, ?_, ?_⟩ <;> simp +decide (disch := first | omega | simp +decide only [List.length_set, hl]) only [sa, simprocAttr, hps, hl, h0, h1, h5]
            · refine W_regionN ⟨N, by simp +decide (disch := first | omega | simp +decide only [List.length_set, hl]) only [sa, simprocAttr, hps, h0, h1, h5, h6, k1, k2, hil, hcl, hb0, hb3, k0, Nat.add_zero, w1, hz0, htm, e4, qCK, rCK, sCK, q]; rfl⟩ ⟨rfl, ?_, ?_, ?_, ?_, ?_⟩ <;> simp +decide (disch := first | omega | simp +decide only [List.length_set, hl]) only [sa, simprocAttr, hps, hl, h0, h1, h5]
            · refine W_regionN ⟨N, by simp +decide (disch := first | omega | simp +decide only [List.length_set, hl]) only [sa, simprocAttr, hps, h0, h1, h5, h6, k1, k2, k3, hil, hcl, hb0, hb3, k0, Nat.add_zero, w1, hz0, htm, e4, qCK, rCK, sCK, q]; rfl⟩ ⟨rfl, ?_, ?_, ?_, ?_, ?_⟩ <;> simp +decide (disch := first | omega | simp +decide only [List.length_set, hl]) only [sa, simprocAttr, hps, hl, h0, h1, h5]
          · clear hl h0 h1 h5 h6 q
            rintro t ⟨hl, h0, h1, h5, h52⟩
            refine W_false h52 (W_skip (.inr (.inl ⟨by simp, .inl ⟨rfl, ?_⟩⟩)))
            refine W_region (fun k => by simp +decide (disch := first | omega | simp +decide only [List.length_set, hl]) only [sa, simprocAttr, hps, h5, hw2]; rfl) (.inl ⟨rfl, l.length - (i + 1), by omega, i + 1, ?_, ?_, ?_, ?_, hgo, by omega, rfl⟩)
            all_goals simp +decide (disch := first | omega | simp +decide only [List.length_set, hl]) only [sa, simprocAttr, hps, hl, h0, h1]
        · rw [if_neg c5] at q
          refine W_cut (fun t => t.s.length = 53 ∧ rho t.s (.tmp 52) = .bool true) ?_ ?_
          · rcases hz3 with k1 | ⟨k1, k2 | ⟨k2, k3⟩⟩
            · refine W_regionN ⟨N, by simp +decide (disch := first | omega | simp +decide only [List.length_set, hl]) only [sa, simprocAttr, hps, h0, h1, h5, h6, k1, hil, hcl, hb0, hb3, k0, Nat.add_zero, w1, hz0, htm, e4, qCK, rCK, sCK, q]; rfl⟩ ⟨rfl, ?_, ?_⟩ <;> simp +decide (disch := first | omega | simp +decide only [List.length_set, hl]) only [sa, simprocAttr, hps, hl]
            · refine W_regionN ⟨N, by simp +decide (disch := first | omega | simp +decide only [List.length_set, hl]) only [sa, simprocAttr, hps, h0, h1, h5, h6, k1, k2, hil, hcl, hb0, hb3, k0, Nat.add_zero, w1, hz0, htm, e4, qCK, rCK, sCK, q]; rfl⟩ ⟨rfl, ?_, ?_⟩ <;> simp +decide (disch := first | omega | simp +decide only [List.length_set, hl]) only [sa, simprocAttr, hps, hl]
            · refine W_regionN ⟨N, by simp +decide (disch := first | omega | simp +decide only [List.length_set, hl]) only [sa, simprocAttr, hps, h0, h1, h5, h6, k1, k2, k3, hil, hcl, hb0, hb3, k0, Nat.add_zero, w1, hz0, htm, e4, qCK, rCK, sCK, q]; rfl⟩ ⟨rfl, ?_, ?_⟩ <;> simp +decide (disch := first | omega | simp +decide only [List.length_set, hl]) only [sa, simprocAttr, hps, hl]
          · rintro t ⟨hl, h52⟩
            refine W_true h52 ((bad t hl).mono (fun e s h => ?_))
            rw [h.1]; exact .inr (.inl ⟨by simp, .inr ⟨by simp, .inr ⟨by simp, h.2⟩⟩⟩)
      · have e4 : (((ad % z : Nat) : Int) != 0) = true := by simp; omega
        refine W_cut (fun t => t.s.length = 53 ∧ rho t.s (.tmp 52) = .bool true) ?_ ?_
        · rcases hz3 with k1 | ⟨k1, k2 | ⟨k2, k3⟩⟩
          · refine W_region (fun k => by simp +decide (disch := first | omega | simp +decide only [List.length_set, hl]) only [sa, simprocAttr, hps, h0, h5, h6, k1, hil, hcl, hb0, hb3, k0, Nat.add_zero, w1, hz0, htm, e4]; rfl) ⟨rfl, ?_, ?_⟩ <;> simp +decide (disch := first | omega | simp +decide only [List.length_set, hl]) only [sa, simprocAttr, hps, hl]
          · refine W_region (fun k => by simp +decide (disch := first | omega | simp +decide only [List.length_set, hl]) only [sa, simprocAttr, hps, h0, h5, h6, k1, k2, hil, hcl, hb0, hb3, k0, Nat.add_zero, w1, hz0, htm, e4]; rfl) ⟨rfl, ?_, ?_⟩ <;> simp +decide (disch := first | omega | simp +decide only [List.length_set, hl]) only [sa, simprocAttr, hps, hl]
          · refine W_region (fun k => by simp +decide (disch := first | omega | simp +decide only [List.length_set, hl]) only [sa, simprocAttr, hps, h0, h5, h6, k1, k2, k3, hil, hcl, hb0, hb3, k0, Nat.add_zero, w1, hz0, htm, e4]; rfl) ⟨rfl, ?_, ?_⟩ <;> simp +decide (disch := first | omega | simp +decide only [List.length_set, hl]) only [sa, simprocAttr, hps, hl]
        · rintro t ⟨hl, h52⟩
          refine W_true h52 ((bad t hl).mono (fun e s h => ?_))
          rw [h.1]; exact .inr (.inl ⟨by simp, .inr ⟨by simp, .inr ⟨by simp, h.2⟩⟩⟩)
    · have k1 : (size != 1) = true := by simp; omega
      have k2 : (size != 2) = true := by simp; omega
      have k3 : (size != 4) = true := by simp; omega
      refine W_cut (fun t => t.s.length = 53 ∧ rho t.s (.tmp 52) = .bool true) ?_ ?_
      · refine W_region (fun k => by simp +decide (disch := first | omega | simp +decide only [List.length_set, hl]) only [sa, simprocAttr, hps, h6, k1, k2, k3]; rfl) ⟨rfl, ?_, ?_⟩ <;> simp +decide (disch := first | omega | simp +decide only [List.length_set, hl]) only [sa, simprocAttr, hps, hl]
      · rintro t ⟨hl, h52⟩
        refine W_true h52 ((bad t hl).mono (fun e s h => ?_))
        rw [h.1]; exact .inr (.inl ⟨by simp, .inr ⟨by simp, .inr ⟨by simp, h.2⟩⟩⟩)
  all_goals simp +decide (disch := first | omega | simp +decide only [List.length_set, hl]) only [sa, simprocAttr, hps, hl, h0, h1, h5]
theorem ref_sbright (m : Coh) (hml : m.mem.length ≤ 4096) (fl : Bool) (l : List Sb) (hw : ∀ s ∈ l, s.wf) : ∃ v, E ap 6 [.imm fl l.length (l.flatMap Sb.enc), memT m] v ∧ ∃ b, v = .bool b ∧ (b = true → l.length ≤ 8 ∧ ∀ s ∈ l, sbOk m.mem.length s) := by
  refine E_bodyV (F := f6) rfl rfl rfl (P := fun v => ∃ b, v = .bool b ∧ (b = true → l.length ≤ 8 ∧ ∀ s ∈ l, sbOk m.mem.length s)) ?_
  generalize hs0 : (_ : List T) ++ List.replicate _ T.undef = s0
  have e0 : s0.length = 53 ∧ rho s0 (.tmp 0) = .imm fl l.length (l.flatMap Sb.enc) ∧ rho s0 (.tmp 1) = memT m := by subst hs0; exact ⟨rfl, rfl, rfl⟩
  clear hs0
  obtain ⟨hl, h0, h1⟩ := e0
  refine W_seqn (W_region (fun k => by simp +decide (disch := first | omega | simp +decide only [List.length_set, hl]) only [sa, simprocAttr, hps]; rfl) ⟨rfl, ?_⟩)
  by_cases c8 : l.length ≤ 8
  · have d8 : decide ((l.length : Int) > 8) = false := decide_eq_false (by omega)
    refine W_seqn (W_seqn (W_region (fun k => by simp +decide (disch := first | omega | simp +decide only [List.length_set, hl]) only [sa, simprocAttr, hps, h0, d8]; rfl) ⟨rfl, W_fls (W_skip ⟨rfl, ?_⟩)⟩))
    refine W_seq (W_seqn (W_region (fun k => by simp +decide (disch := first | omega | simp +decide only [List.length_set, hl]) only [sa, simprocAttr, hps]; rfl) ⟨rfl, W_block ?_⟩))
    refine sr_loop m hml fl l hw c8 _ (fun st h4 => ?_) (fun st hl hall => ?_) (l.length - 0) _ ⟨0, ?_, ?_, ?_, ?_, fun j _ hj => absurd hj (by omega), by omega, rfl⟩
    · simp only [reduceCtorEq, false_and, false_or, or_false, exists_false, exists_const, ne_eq, not_false_eq_true, true_and, implies_true]
      exact ⟨rfl, fin_bool (F := f6) (b := false) (P := fun b => b = true → l.length ≤ 8 ∧ ∀ s ∈ l, sbOk m.mem.length s) rfl (fun h => by cases h) h4⟩
    · refine .inl ⟨rfl, .inl ⟨rfl, ?_⟩⟩
      refine W_seqn (W_region (fun k => by simp +decide (disch := first | omega | simp +decide only [List.length_set, hl]) only [sa, simprocAttr, hps]; rfl) ⟨rfl, W_ret ?_⟩)
      refine ⟨rfl, fin_bool (F := f6) (b := true) (P := fun b => b = true → l.length ≤ 8 ∧ ∀ s ∈ l, sbOk m.mem.length s) rfl (fun _ => ⟨c8, hall⟩) ?_⟩
      simp +decide (disch := first | omega | simp +decide only [List.length_set, hl]) only [sa, simprocAttr]
    all_goals first | (simp +decide (disch := first | omega | simp +decide only [List.length_set, hl]) only [sa, simprocAttr, hps, hl, h0, h1]; done) | (simp +decide (disch := first | omega | simp +decide only [List.length_set, hl]) only [sa, simprocAttr, hps, hl, h0, h1]; rfl)
  · have d8 : decide ((l.length : Int) > 8) = true := decide_eq_true (by omega)
    refine W_seq (W_seqn (W_region (fun k => by simp +decide (disch := first | omega | simp +decide only [List.length_set, hl]) only [sa, simprocAttr, hps, h0, d8]; rfl) ⟨rfl, W_tru ?_⟩))
    refine W_seqn (W_region (fun k => by simp +decide (disch := first | omega | simp +decide only [List.length_set, hl]) only [sa, simprocAttr, hps]; rfl) ⟨rfl, W_ret ?_⟩)
    simp only [reduceCtorEq, false_and, false_or, or_false, exists_false, exists_const, ne_eq, not_false_eq_true, true_and, implies_true]
    refine ⟨rfl, fin_bool (F := f6) (b := false) (P := fun b => b = true → l.length ≤ 8 ∧ ∀ s ∈ l, sbOk m.mem.length s) rfl (fun h => by cases h) ?_⟩
    simp +decide (disch := first | omega | simp +decide only [List.length_set, hl]) only [sa, simprocAttr]
/-! ### Two buffers that are one -/
def ssLoop : ACode := match f12.body with | .seq _ (.seq _ (.seq (.seq _ (.block _ (.loop c))) _)) => c | _ => .skip
theorem sb_ints (s : Sb) : ∀ x ∈ s.enc, ∃ k n, x = .int k n := by
  intro x hx
  have hx : x ∈ [T.int .u32 s.addr, T.int .u32 s.data, T.int .i64 s.size] := hx
  simp only [List.mem_cons, List.not_mem_nil, or_false] at hx
  rcases hx with rfl | rfl | rfl <;> exact ⟨_, _, rfl⟩
theorem conf1_u32 {n : Int} (h : (Lit.int .u32 n).wf = true) : conf1 (some .u32) (.int .u32 n) = true := by
  have hh := wf_u32 h
  have e : conf1 (some .u32) (.int .u32 n) = (true && (decide ((0 : Int) ≤ n) && decide (n ≤ 2 ^ 32 - 1))) := rfl
  rw [e, decide_eq_true hh.1, decide_eq_true (by omega)]; rfl
theorem conf1_i64 {n : Int} (h : (Lit.int .i64 n).wf = true) : conf1 (some .i64) (.int .i64 n) = true := by
  have hh := wf_i64 h
  have e : conf1 (some .i64) (.int .i64 n) = (true && (decide (IntKind.i64.min ≤ n) && decide (n ≤ IntKind.i64.max))) := rfl
  have e1 : IntKind.i64.min = -9223372036854775808 := rfl
  have e2 : IntKind.i64.max = 9223372036854775807 := rfl
  rw [e, e1, e2, decide_eq_true hh.1, decide_eq_true hh.2]; rfl
theorem sb_conf {s : Sb} (h : s.wf) : conf [some .u32, some .u32, some .i64] s.enc = true := by
  show (conf1 (some .u32) (.int .u32 s.addr) && (conf1 (some .u32) (.int .u32 s.data) && (conf1 (some .i64) (.int .i64 s.size) && true))) = true
  rw [conf1_u32 h.1, conf1_u32 h.2.1, conf1_i64 h.2.2]; rfl
theorem ss_loop (fa fb : Bool) (l : List Sb) (hw : ∀ s ∈ l, s.wf) (hL : l.length ≤ 1000) (Q : AExit → St → Prop)
    (hQe : ∀ st : St, st.s.length = 32 → Q (.exit 0) st) :
    ∀ (n : Nat) (st : St), (∃ i : Nat, st.s.length = 32 ∧ rho st.s (.tmp 0) = .imm fa l.length (l.flatMap Sb.enc) ∧ rho st.s (.tmp 1) = .imm fb l.length (l.flatMap Sb.enc) ∧ rho st.s (.tmp 5) = .int .i64 (i : Int) ∧ i ≤ l.length ∧ n = l.length - i) → W ap (.loop ssLoop) st Q := by
  refine W_loop _ ?_
  rintro n st ⟨i, hl, h0, h1, h5, hi, hn⟩
  by_cases hend : i = l.length
  · have hlt : decide ((i : Int) < (l.length : Int)) = false := decide_eq_false (by omega)
    refine W_seq (W_seqn (W_region (fun k => by simp +decide (disch := first | omega | simp +decide only [List.length_set, hl]) only [sa, simprocAttr, hps, h0, h1, h5, hlt]; rfl) ⟨rfl, W_fls (W_exit (.inr ⟨by simp, .inr ⟨by simp, hQe _ ?_⟩⟩))⟩))
    simp +decide (disch := first | omega | simp +decide only [List.length_set, hl]) only [sa, simprocAttr, hps, hl]
  have hil : i < l.length := by omega
  have hlt : decide ((i : Int) < (l.length : Int)) = true := decide_eq_true (by omega)
  have hw2 : IntKind.i64.wrap ((i : Int) + 1) = ((i + 1 : Nat) : Int) := by rw [wrap_id (by omega)]; omega
  have hcl := sb_cells l
  have hb3 : i * 3 + 3 ≤ l.length * 3 := by omega
  have hg := sb_cut l i hil 0 3 (by omega)
  rw [Nat.add_zero] at hg
  have hce : cut (l[i]).enc 0 3 = (l[i]).enc := cut_all rfl
  rw [hce] at hg
  have hconf : conf [some .u32, some .u32, some .i64] (l[i]).enc = true := sb_conf (hw _ (List.getElem_mem hil))
  have heq : eqL (l[i]).enc (l[i]).enc = true := eqL_ints _ (sb_ints _)
  generalize (l[i]).enc = se at *
  generalize l.flatMap Sb.enc = cs at *
  refine W_seqn (W_seqn (W_region (fun k => by simp +decide (disch := first | omega | simp +decide only [List.length_set, hl]) only [sa, simprocAttr, hps, h0, h1, h5, hlt]; rfl) ⟨rfl, W_tru (W_skip ⟨rfl, ?_⟩)⟩))
  refine W_seqn (W_block (W_seqn (W_region (fun k => by simp +decide (disch := first | omega | simp +decide only [List.length_set, hl]) only [sa, simprocAttr, hps, h0, h1, h5, hil, hb3, hcl, hg, hconf, heq]; rfl) ⟨rfl, W_fls (W_skip (.inr (.inl ⟨by simp, rfl, ?_⟩)))⟩)))
  refine W_region (fun k => by simp +decide (disch := first | omega | simp +decide only [List.length_set, hl]) only [sa, simprocAttr, hps, h5, hw2]; rfl) (.inl ⟨rfl, l.length - (i + 1), by omega, i + 1, ?_, ?_, ?_, ?_, by omega, rfl⟩)
  all_goals simp +decide (disch := first | omega | simp +decide only [List.length_set, hl]) only [sa, simprocAttr, hps, hl, h0, h1]
theorem same_sbs (fa fb : Bool) (l : List Sb) (hw : ∀ s ∈ l, s.wf) (hL : l.length ≤ 1000) : E ap 12 [.imm fa l.length (l.flatMap Sb.enc), .imm fb l.length (l.flatMap Sb.enc)] (.bool true) := by
  refine E_body (F := f12) rfl rfl rfl ?_
  generalize hs0 : (_ : List T) ++ List.replicate _ T.undef = s0
  have e0 : s0.length = 32 ∧ rho s0 (.tmp 0) = .imm fa l.length (l.flatMap Sb.enc) ∧ rho s0 (.tmp 1) = .imm fb l.length (l.flatMap Sb.enc) := by subst hs0; exact ⟨rfl, rfl, rfl⟩
  clear hs0
  obtain ⟨hl, h0, h1⟩ := e0
  have e1 : ((l.length : Int) != (l.length : Int)) = false := by simp
  refine W_seqn (W_region (fun k => by simp +decide (disch := first | omega | simp +decide only [List.length_set, hl]) only [sa, simprocAttr, hps]; rfl) ⟨rfl, ?_⟩)
  refine W_seqn (W_seqn (W_region (fun k => by simp +decide (disch := first | omega | simp +decide only [List.length_set, hl]) only [sa, simprocAttr, hps, h0, h1, e1]; rfl) ⟨rfl, W_fls (W_skip ⟨rfl, ?_⟩)⟩))
  refine W_seq (W_seqn (W_region (fun k => by simp +decide (disch := first | omega | simp +decide only [List.length_set, hl]) only [sa, simprocAttr, hps]; rfl) ⟨rfl, W_block ?_⟩))
  refine ss_loop fa fb l hw hL _ (fun st hl => ?_) (l.length - 0) _ ⟨0, ?_, ?_, ?_, ?_, by omega, rfl⟩
  · refine .inl ⟨rfl, .inl ⟨rfl, ?_⟩⟩
    refine W_seqn (W_region (fun k => by simp +decide (disch := first | omega | simp +decide only [List.length_set, hl]) only [sa, simprocAttr, hps]; rfl) ⟨rfl, W_ret ?_⟩)
    refine fin_of (F := f12) rfl (fun _ => rfl) ?_
    simp +decide (disch := first | omega | simp +decide only [List.length_set, hl]) only [sa, simprocAttr]
  all_goals first | (simp +decide (disch := first | omega | simp +decide only [List.length_set, hl]) only [sa, simprocAttr, hps, hl, h0, h1]; done) | (simp +decide (disch := first | omega | simp +decide only [List.length_set, hl]) only [sa, simprocAttr, hps, hl, h0, h1]; rfl)
end Go.Proofs.Ytabfinhkoihhfaa.Abs
