/- May a way be, may a system be? The program's walk. -/
import Derived.Test.YtikeeegkndnnfaaStates
namespace Go.Proofs.Ytikeeegkndnnfaa.Abs
open Go Go.RowKit Fn
set_option linter.unusedVariables false
set_option linter.unusedSimpArgs false
set_option linter.unnecessarySimpa false
set_option maxRecDepth 100000
set_option maxHeartbeats 4000000

def haveN (L : List Int) : Nat → Nat
  | 0 => 0
  | i + 1 => haveN L i + if (at0 L i != 0) = true then 1 else 0
def onlyN (L : List Int) : Nat → Bool
  | 0 => false
  | i + 1 => onlyN L i || (at0 L i == 2 || at0 L i == 3)
theorem haveN_le (L : List Int) : ∀ n, haveN L n ≤ n
  | 0 => Nat.le_refl _
  | n + 1 => by have := haveN_le L n; rw [haveN]; split <;> omega
theorem have_pos (L : List Int) : ∀ n, rngN L n → haveN L n = posN L n ∧ onlyN L n = aloneN L n
  | 0, _ => ⟨rfl, rfl⟩
  | n + 1, h => by
    obtain ⟨i1, i2⟩ := have_pos L n (fun i hi => h i (by omega))
    have hx := h n (by omega)
    rw [haveN, posN, onlyN, aloneN, i1, i2]
    generalize at0 L n = x at *
    refine ⟨?_, ?_⟩
    · by_cases h0 : x = 0
      · subst h0; rfl
      · rw [if_pos (by simpa using h0), if_pos (by omega)]
    · by_cases h1 : x > 1
      · rw [decide_eq_true h1]
        have : x = 2 ∨ x = 3 := by omega
        rcases this with rfl | rfl <;> rfl
      · rw [decide_eq_false h1]
        have : x = 0 ∨ x = 1 := by omega
        rcases this with rfl | rfl <;> rfl
def blLoop : ACode := match f49.body with | .seq _ (.seq _ (.seq (.seq _ (.block _ (.loop c))) _)) => c | _ => .skip
def BlI (f : Bool) (L : List Int) (i : Nat) (st : St) : Prop := st.s.length = 38 ∧ rho st.s (.tmp 0) = .imm f L.length (lgT L) ∧ rho st.s (.tmp 3) = .int .i64 (haveN L i : Int) ∧ rho st.s (.tmp 4) = .bool (onlyN L i) ∧ rho st.s (.tmp 7) = .imm f L.length (lgT L) ∧ rho st.s (.tmp 8) = .int .i64 (L.length : Int) ∧ rho st.s (.tmp 9) = .int .i64 (i : Int)
theorem bl_loop (f : Bool) (L : List Int) (hL : L.length ≤ 1000) (Q : AExit → St → Prop)
    (hQe : ∀ st : St, BlI f L L.length st → Q (.exit 0) st) :
    ∀ (n : Nat) (st : St), (∃ i : Nat, BlI f L i st ∧ i ≤ L.length ∧ n = L.length - i) → W ap (.loop blLoop) st Q := by
  refine W_loop _ ?_
  rintro n st ⟨i, hI, hi, hn⟩
  have hI' := hI
  obtain ⟨hl, h0, h3, h4, h7, h8, h9⟩ := hI'
  by_cases hend : i = L.length
  · have hlt : decide ((i : Int) < (L.length : Int)) = false := decide_eq_false (by omega)
    rw [hend] at h3 h4 h9 hlt
    refine W_seqn (W_region (fun k => by simp (decide := true) (disch := first | omega | simp (decide := true) only [List.length_set, hl]) only [sims, autos, simprocAttr, hps, h8, h9, hlt]; rfl) ⟨rfl, ?_⟩)
    refine W_seq (W_fls (W_exit (.inr ⟨by simp, .inr ⟨by simp, hQe _ ⟨?_, ?_, ?_, ?_, ?_, ?_, ?_⟩⟩⟩)))
    all_goals simp (decide := true) (disch := first | omega | simp (decide := true) only [List.length_set, hl]) only [sims, autos, simprocAttr, hps, hl, h0, h3, h4, h7, h8, h9]
  have hil : i < L.length := by omega
  have hlt : decide ((i : Int) < (L.length : Int)) = true := decide_eq_true (by omega)
  have hw2 : IntKind.i64.wrap ((i : Int) + 1) = ((i + 1 : Nat) : Int) := by rw [wrap_id (by omega)]; omega
  have hhl := haveN_le L i
  have hw3 : IntKind.i64.wrap ((haveN L i : Int) + 1) = ((haveN L i + 1 : Nat) : Int) := by rw [wrap_id (by omega)]; omega
  have hg := lgT_get L i hil
  have hcl : (lgT L).length = L.length := by unfold lgT; rw [List.length_map]
  have hb : i * 1 + 1 ≤ L.length := by omega
  have hh : haveN L (i + 1) = haveN L i + if (at0 L i != 0) = true then 1 else 0 := rfl
  have ho : onlyN L (i + 1) = (onlyN L i || (at0 L i == 2 || at0 L i == 3)) := rfl
  refine W_seqn (W_region (fun k => by simp (decide := true) (disch := first | omega | simp (decide := true) only [List.length_set, hl]) only [sims, autos, simprocAttr, hps, h8, h9, hlt]; rfl) ⟨rfl, ?_⟩)
  refine W_seqn (W_tru (W_skip ⟨rfl, ?_⟩))
  refine W_seqn (W_block ?_)
  generalize hcs : lgT L = cs at *
  refine W_seqn (W_region (fun k => by simp (decide := true) (disch := first | omega | simp (decide := true) only [List.length_set, hl]) only [sims, autos, simprocAttr, hps, h7, h9, hil, hcl, hb, hg]; rfl) ⟨rfl, ?_⟩)
  generalize at0 L i = x at *
  refine W_cut (fun t => t.s.length = 38 ∧ rho t.s (.tmp 0) = .imm f L.length cs ∧ rho t.s (.tmp 3) = .int .i64 (haveN L (i + 1) : Int) ∧ rho t.s (.tmp 4) = .bool (onlyN L i) ∧ rho t.s (.tmp 6) = .int .i64 x ∧ rho t.s (.tmp 7) = .imm f L.length cs ∧ rho t.s (.tmp 8) = .int .i64 (L.length : Int) ∧ rho t.s (.tmp 9) = .int .i64 (i : Int)) ?_ ?_
  · by_cases hx : x = 0
    · have e1 : (x != 0) = false := by rw [hx]; rfl
      rw [if_neg (by rw [e1]; simp)] at hh
      refine W_seqn (W_region (fun k => by simp (decide := true) (disch := first | omega | simp (decide := true) only [List.length_set, hl]) only [sims, autos, simprocAttr, hps, e1]; rfl) ⟨rfl, W_fls (W_skip ⟨rfl, ?_, ?_, ?_, ?_, ?_, ?_, ?_, ?_⟩)⟩)
      all_goals simp (decide := true) (disch := first | omega | simp (decide := true) only [List.length_set, hl]) only [sims, autos, simprocAttr, hps, hl, h0, h3, h4, h7, h8, h9, hh, Nat.add_zero]
    · have e1 : (x != 0) = true := by simpa using hx
      rw [if_pos e1] at hh
      refine W_seqn (W_region (fun k => by simp (decide := true) (disch := first | omega | simp (decide := true) only [List.length_set, hl]) only [sims, autos, simprocAttr, hps, e1]; rfl) ⟨rfl, W_tru (W_region (fun k => by simp (decide := true) (disch := first | omega | simp (decide := true) only [List.length_set, hl]) only [sims, autos, simprocAttr, hps, h3, hw3]; rfl) ⟨rfl, ?_, ?_, ?_, ?_, ?_, ?_, ?_, ?_⟩)⟩)
      all_goals simp (decide := true) (disch := first | omega | simp (decide := true) only [List.length_set, hl]) only [sims, autos, simprocAttr, hps, hl, h0, h4, h7, h8, h9, hh]
  · clear hl h0 h3 h4 h7 h8 h9 hI
    rintro t ⟨hl, h0, h3, h4, h6, h7, h8, h9⟩
    have fin : ∀ t' : St, t'.s.length = 38 → rho t'.s (.tmp 0) = rho t.s (.tmp 0) → rho t'.s (.tmp 3) = rho t.s (.tmp 3) → rho t'.s (.tmp 4) = .bool (onlyN L (i + 1)) → rho t'.s (.tmp 7) = rho t.s (.tmp 7) → rho t'.s (.tmp 8) = rho t.s (.tmp 8) → rho t'.s (.tmp 9) = rho t.s (.tmp 9) → W ap (.region [⟨some 26, .bin .add (.tmp 9) (.con (.int .i64 1)), none⟩, ⟨some 9, .mv (.tmp 26), none⟩] []) t' (fun e s' => (e = .normal ∧ ∃ n', n' < n ∧ ∃ i, BlI f L i s' ∧ i ≤ L.length ∧ n' = L.length - i) ∨ (e ≠ .normal ∧ Q e s')) := by
      intro t' hl e0 e3 e4 e7 e8 e9
      have h9' := e9.trans h9
      refine W_region (fun k => by simp (decide := true) (disch := first | omega | simp (decide := true) only [List.length_set, hl]) only [sims, autos, simprocAttr, hps, h9', hw2]; rfl) (.inl ⟨rfl, L.length - (i + 1), by omega, i + 1, ⟨?_, ?_, ?_, ?_, ?_, ?_, ?_⟩, by omega, rfl⟩)
      case refine_2 => rw [hcs]; simp (decide := true) (disch := first | omega | simp (decide := true) only [List.length_set, hl]) only [sims, autos, simprocAttr, hps, e0, h0]
      case refine_5 => rw [hcs]; simp (decide := true) (disch := first | omega | simp (decide := true) only [List.length_set, hl]) only [sims, autos, simprocAttr, hps, e7, h7]
      all_goals simp (decide := true) (disch := first | omega | simp (decide := true) only [List.length_set, hl]) only [sims, autos, simprocAttr, hps, hl, e3, e4, e8, h3, h8]
    cases hon : onlyN L i with
    | true =>
      rw [hon] at h4 ho
      rw [Bool.true_or] at ho
      rw [ho] at fin
      refine W_region (fun k => by simp (decide := true) (disch := first | omega | simp (decide := true) only [List.length_set, hl]) only [sims, autos, simprocAttr, hps, h4]; rfl) (.inr (.inl ⟨by simp, rfl, ?_⟩))
      refine fin _ ?_ ?_ ?_ ?_ ?_ ?_ ?_ <;> simp (decide := true) (disch := first | omega | simp (decide := true) only [List.length_set, hl]) only [sims, autos, simprocAttr, hps, hl]
    | false =>
      rw [hon] at h4 ho
      rw [Bool.false_or] at ho
      cases h2 : (x == 2) with
      | true =>
        rw [h2, Bool.true_or] at ho
        rw [ho] at fin
        refine W_region (fun k => by simp (decide := true) (disch := first | omega | simp (decide := true) only [List.length_set, hl]) only [sims, autos, simprocAttr, hps, h4, h6, h2]; rfl) (.inr (.inl ⟨by simp, rfl, ?_⟩))
        refine fin _ ?_ ?_ ?_ ?_ ?_ ?_ ?_ <;> simp (decide := true) (disch := first | omega | simp (decide := true) only [List.length_set, hl]) only [sims, autos, simprocAttr, hps, hl]
      | false =>
        rw [h2, Bool.false_or] at ho
        rw [ho] at fin
        refine W_region (fun k => by simp (decide := true) (disch := first | omega | simp (decide := true) only [List.length_set, hl]) only [sims, autos, simprocAttr, hps, h4, h6, h2]; rfl) (.inr (.inl ⟨by simp, rfl, ?_⟩))
        refine fin _ ?_ ?_ ?_ ?_ ?_ ?_ ?_ <;> simp (decide := true) (disch := first | omega | simp (decide := true) only [List.length_set, hl]) only [sims, autos, simprocAttr, hps, hl]
theorem qLGL : ap 49 = some f49 := rfl
theorem rLGL : f49.pure = true := rfl
theorem sLGL : f49.nat = none := rfl
theorem bus_legal (L : List Int) (hL : L.length ≤ 1000) (f : Bool) : ∃ v, E ap 49 [.imm f L.length (lgT L)] v ∧ ∃ b, v = .bool b ∧ (b = true ↔ LegalP L) := by
  refine E_bodyV (F := f49) rfl rfl rfl (P := fun v => ∃ b, v = .bool b ∧ (b = true ↔ LegalP L)) ?_
  generalize hs0 : (_ : List T) ++ List.replicate _ T.undef = s0
  have e0 : s0.length = 38 ∧ rho s0 (.tmp 0) = .imm f L.length (lgT L) := by subst hs0; exact ⟨rfl, rfl⟩
  clear hs0
  obtain ⟨hl, h0⟩ := e0
  refine W_seqn (W_region (fun k => by simp (decide := true) (disch := first | omega | simp (decide := true) only [List.length_set, hl]) only [sims, autos, simprocAttr, hps]; rfl) ⟨rfl, ?_⟩)
  refine W_seqn (W_region (fun k => by simp (decide := true) (disch := first | omega | simp (decide := true) only [List.length_set, hl]) only [sims, autos, simprocAttr, hps]; rfl) ⟨rfl, ?_⟩)
  refine W_seq (W_seqn (W_region (fun k => by simp (decide := true) (disch := first | omega | simp (decide := true) only [List.length_set, hl]) only [sims, autos, simprocAttr, hps, h0]; rfl) ⟨rfl, W_block ?_⟩))
  refine bl_loop f L hL _ (fun st hI => ?_) (L.length - 0) _ ⟨0, ⟨?_, ?_, ?_, ?_, ?_, ?_, ?_⟩, by omega, rfl⟩
  · obtain ⟨hl, h0, h3, h4, h7, h8, h9⟩ := hI
    refine .inl ⟨rfl, .inl ⟨rfl, ?_⟩⟩
    obtain ⟨N, q⟩ := (ctf_run f L hL).call qCTF (fun g => by rfl)
    have q := q N (Nat.le_refl _)
    have hur := unk_rng L L.length
    cases hu : unkN L L.length with
    | true =>
      rw [hu] at q hur
      have hnr : ¬ LegalP L := fun h => by have := hur.mpr h.1; cases this
      generalize lgT L = cs at *
      refine W_seqn (W_regionN ⟨N, by simp (decide := true) (disch := first | omega | simp (decide := true) only [List.length_set, hl]) only [sims, autos, simprocAttr, hps, h0, qCTF, rCTF, sCTF, q]; rfl⟩ ⟨rfl, W_ret ?_⟩)
      refine ⟨rfl, fin_bool (F := f49) (b := false) (P := fun b => b = true ↔ LegalP L) rfl (bfalse hnr) ?_⟩
      simp (decide := true) (disch := first | omega | simp (decide := true) only [List.length_set, hl]) only [sims, autos, simprocAttr]
    | false =>
      rw [hu] at q hur
      have hr := hur.mp rfl
      obtain ⟨i1, i2⟩ := have_pos L L.length hr
      rw [i1] at h3
      rw [i2] at h4
      have hdef : LegalP L = (rngN L L.length ∧ (aloneN L L.length = false ∨ posN L L.length = 1)) := rfl
      generalize lgT L = cs at *
      cases ha : aloneN L L.length with
      | false =>
        rw [ha] at h4
        refine W_seqn (W_regionN ⟨N, by simp (decide := true) (disch := first | omega | simp (decide := true) only [List.length_set, hl]) only [sims, autos, simprocAttr, hps, h0, h3, h4, qCTF, rCTF, sCTF, q]; rfl⟩ ⟨rfl, W_ret ?_⟩)
        refine ⟨rfl, fin_bool (F := f49) (b := true) (P := fun b => b = true ↔ LegalP L) rfl (btrue ⟨hr, .inl ha⟩) ?_⟩
        simp (decide := true) (disch := first | omega | simp (decide := true) only [List.length_set, hl]) only [sims, autos, simprocAttr]
      | true =>
        rw [ha] at h4
        by_cases hp : posN L L.length = 1
        · have e1 : ((posN L L.length : Int) == 1) = true := by rw [hp]; rfl
          refine W_seqn (W_regionN ⟨N, by simp (decide := true) (disch := first | omega | simp (decide := true) only [List.length_set, hl]) only [sims, autos, simprocAttr, hps, h0, h3, h4, e1, qCTF, rCTF, sCTF, q]; rfl⟩ ⟨rfl, W_ret ?_⟩)
          refine ⟨rfl, fin_bool (F := f49) (b := true) (P := fun b => b = true ↔ LegalP L) rfl (btrue ⟨hr, .inr hp⟩) ?_⟩
          simp (decide := true) (disch := first | omega | simp (decide := true) only [List.length_set, hl]) only [sims, autos, simprocAttr]
        · have e1 : ((posN L L.length : Int) == 1) = false := by simp; omega
          refine W_seqn (W_regionN ⟨N, by simp (decide := true) (disch := first | omega | simp (decide := true) only [List.length_set, hl]) only [sims, autos, simprocAttr, hps, h0, h3, h4, e1, qCTF, rCTF, sCTF, q]; rfl⟩ ⟨rfl, W_ret ?_⟩)
          refine ⟨rfl, fin_bool (F := f49) (b := false) (P := fun b => b = true ↔ LegalP L) rfl (bfalse (fun h => by rw [hdef] at h; rcases h.2 with h | h; rw [ha] at h; cases h; exact hp h)) ?_⟩
          simp (decide := true) (disch := first | omega | simp (decide := true) only [List.length_set, hl]) only [sims, autos, simprocAttr]
  all_goals first | (simp (decide := true) (disch := first | omega | simp (decide := true) only [List.length_set, hl]) only [sims, autos, simprocAttr, hl, h0]; done) | (simp (decide := true) (disch := first | omega | simp (decide := true) only [List.length_set, hl]) only [sims, autos, simprocAttr, hl, h0]; rfl)
/-! ### Are two pieces of memory one? -/
def eqN (a b : List Int) (n : Nat) : Prop := ∀ i, i < n → at0 a i = at0 b i
theorem eqN_all {a b : List Int} (hl : a.length = b.length) : eqN a b a.length ↔ a = b := by
  constructor
  · intro h
    apply List.ext_getElem hl
    intro i h1 h2
    have := h i h1
    unfold at0 at this
    rw [List.getElem?_eq_getElem h1, List.getElem?_eq_getElem h2] at this
    exact this
  · rintro rfl i _; rfl
theorem u8_get (m : List Int) (i : Nat) (h : i < m.length) : (m.flatMap u8T)[i * 1]? = some (.int .u8 m[i]) := by
  have := flat_get (f := u8T) (k := 1) (fun _ => rfl) m i h 0 (by omega)
  rw [Nat.add_zero] at this
  rw [this]; rfl
theorem u8_at (L : List Int) (i : Nat) (h : i < L.length) : (L.flatMap u8T)[i * 1]? = some (.int .u8 (at0 L i)) := by
  rw [u8_get L i h]; unfold at0; rw [List.getElem?_eq_getElem h]; rfl
def eqLoop : ACode := match f41.body with | .seq _ (.seq _ (.seq (.seq _ (.block _ (.loop c))) _)) => c | _ => .skip
theorem eq_loop (fa fb : Bool) (a b : List Int) (hab : a.length = b.length) (hL : a.length ≤ 1024) (Q : AExit → St → Prop)
    (hQr : ∀ st : St, rho st.s (.tmp 4) = .bool false → a ≠ b → Q .ret st) (hQe : ∀ st : St, st.s.length = 26 → a = b → Q (.exit 0) st) :
    ∀ (n : Nat) (st : St), (∃ i : Nat, st.s.length = 26 ∧ rho st.s (.tmp 0) = .imm fa a.length (a.flatMap u8T) ∧ rho st.s (.tmp 1) = .imm fb b.length (b.flatMap u8T) ∧ rho st.s (.tmp 12) = .int .i64 (a.length : Int) ∧ rho st.s (.tmp 13) = .int .i64 (i : Int) ∧ eqN a b i ∧ i ≤ a.length ∧ n = a.length - i) → W ap (.loop eqLoop) st Q := by
  refine W_loop _ ?_
  rintro n st ⟨i, hl, h0, h1, h12, h13, he, hi, hn⟩
  by_cases hend : i = a.length
  · have hlt : decide ((i : Int) < (a.length : Int)) = false := decide_eq_false (by omega)
    rw [hend] at he
    refine W_seqn (W_region (fun k => by simp (decide := true) (disch := first | omega | simp (decide := true) only [List.length_set, hl]) only [sims, autos, simprocAttr, hps, h12, h13, hlt]; rfl) ⟨rfl, ?_⟩)
    refine W_seq (W_fls (W_exit (.inr ⟨by simp, .inr ⟨by simp, hQe _ ?_ ((eqN_all hab).mp he)⟩⟩)))
    simp (decide := true) (disch := first | omega | simp (decide := true) only [List.length_set, hl]) only [sims, autos, simprocAttr, hps, hl]
  have hil : i < a.length := by omega
  have hib : i < b.length := by omega
  have hlt : decide ((i : Int) < (a.length : Int)) = true := decide_eq_true (by omega)
  have hw2 : IntKind.i64.wrap ((i : Int) + 1) = ((i + 1 : Nat) : Int) := by rw [wrap_id (by omega)]; omega
  have hga := u8_at a i hil
  have hgb := u8_at b i hib
  have hla := u8_len a
  have hlb := u8_len b
  have hba : i * 1 + 1 ≤ a.length := by omega
  have hbb : i * 1 + 1 ≤ b.length := by omega
  refine W_seqn (W_region (fun k => by simp (decide := true) (disch := first | omega | simp (decide := true) only [List.length_set, hl]) only [sims, autos, simprocAttr, hps, h12, h13, hlt]; rfl) ⟨rfl, ?_⟩)
  refine W_seqn (W_tru (W_skip ⟨rfl, ?_⟩))
  generalize a.flatMap u8T = ca at *
  generalize b.flatMap u8T = cb at *
  by_cases hx : at0 a i = at0 b i
  · have e1 : (at0 a i != at0 b i) = false := by rw [hx]; simp
    refine W_seqn (W_block ?_)
    refine W_seqn (W_region (fun k => by simp (decide := true) (disch := first | omega | simp (decide := true) only [List.length_set, hl]) only [sims, autos, simprocAttr, hps, h13]; rfl) ⟨rfl, ?_⟩)
    refine W_seqn (W_region (fun k => by simp (decide := true) (disch := first | omega | simp (decide := true) only [List.length_set, hl]) only [sims, autos, simprocAttr, hps, h0, h1, hil, hib, hla, hlb, hba, hbb, hga, hgb, e1]; rfl) ⟨rfl, W_fls (W_skip (.inr (.inl ⟨by simp, rfl, ?_⟩)))⟩)
    refine W_region (fun k => by simp (decide := true) (disch := first | omega | simp (decide := true) only [List.length_set, hl]) only [sims, autos, simprocAttr, hps, h13, hw2]; rfl) (.inl ⟨rfl, a.length - (i + 1), by omega, i + 1, ?_, ?_, ?_, ?_, ?_, fun j hj => ?_, by omega, rfl⟩)
    case refine_6 =>
      by_cases hji : j = i
      · rw [hji]; exact hx
      · exact he j (by omega)
    all_goals simp (decide := true) (disch := first | omega | simp (decide := true) only [List.length_set, hl]) only [sims, autos, simprocAttr, hps, hl, h0, h1, h12]
  · have e1 : (at0 a i != at0 b i) = true := by simpa using hx
    refine W_seq (W_block ?_)
    refine W_seqn (W_region (fun k => by simp (decide := true) (disch := first | omega | simp (decide := true) only [List.length_set, hl]) only [sims, autos, simprocAttr, hps, h13]; rfl) ⟨rfl, ?_⟩)
    refine W_seqn (W_region (fun k => by simp (decide := true) (disch := first | omega | simp (decide := true) only [List.length_set, hl]) only [sims, autos, simprocAttr, hps, h0, h1, hil, hib, hla, hlb, hba, hbb, hga, hgb, e1]; rfl) ⟨rfl, W_tru ?_⟩)
    refine W_seqn (W_region (fun k => by simp (decide := true) (disch := first | omega | simp (decide := true) only [List.length_set, hl]) only [sims, autos, simprocAttr, hps]; rfl) ⟨rfl, W_ret ?_⟩)
    simp only [reduceCtorEq, false_and, false_or, or_false, exists_false, exists_const, ne_eq, not_false_eq_true, true_and, implies_true]
    refine hQr _ ?_ (fun e => hx (by rw [e]))
    simp (decide := true) (disch := first | omega | simp (decide := true) only [List.length_set, hl]) only [sims, autos, simprocAttr]
theorem qEQL : ap 41 = some f41 := rfl
theorem rEQL : f41.pure = true := rfl
theorem sEQL : f41.nat = none := rfl
theorem bytes_equal (fa fb : Bool) (a b : List Int) (hab : a.length = b.length) (hL : a.length ≤ 1024) : E ap 41 [.imm fa a.length (a.flatMap u8T), .imm fb b.length (b.flatMap u8T)] (.bool (decide (a = b))) := by
  refine E_body (F := f41) rfl rfl rfl ?_
  generalize hs0 : (_ : List T) ++ List.replicate _ T.undef = s0
  have e0 : s0.length = 26 ∧ rho s0 (.tmp 0) = .imm fa a.length (a.flatMap u8T) ∧ rho s0 (.tmp 1) = .imm fb b.length (b.flatMap u8T) := by subst hs0; exact ⟨rfl, rfl, rfl⟩
  clear hs0
  obtain ⟨hl, h0, h1⟩ := e0
  have e1 : ((a.length : Int) != (b.length : Int)) = false := by rw [hab]; simp
  refine W_seqn (W_region (fun k => by simp (decide := true) (disch := first | omega | simp (decide := true) only [List.length_set, hl]) only [sims, autos, simprocAttr, hps]; rfl) ⟨rfl, ?_⟩)
  refine W_seqn (W_seqn (W_region (fun k => by simp (decide := true) (disch := first | omega | simp (decide := true) only [List.length_set, hl]) only [sims, autos, simprocAttr, hps, h0, h1, e1]; rfl) ⟨rfl, W_fls (W_skip ⟨rfl, ?_⟩)⟩))
  refine W_seq (W_seqn (W_region (fun k => by simp (decide := true) (disch := first | omega | simp (decide := true) only [List.length_set, hl]) only [sims, autos, simprocAttr, hps, h0]; rfl) ⟨rfl, W_block ?_⟩))
  refine eq_loop fa fb a b hab hL _ (fun st h4 hne => ?_) (fun st hl he => ?_) (a.length - 0) _ ⟨0, ?_, ?_, ?_, ?_, ?_, fun j hj => absurd hj (by omega), by omega, rfl⟩
  · simp only [reduceCtorEq, false_and, false_or, or_false, exists_false, exists_const, ne_eq, not_false_eq_true, true_and, implies_true]
    rw [decide_eq_false hne]
    exact fin_of (F := f41) rfl (fun _ => rfl) h4
  · refine .inl ⟨rfl, .inl ⟨rfl, ?_⟩⟩
    rw [decide_eq_true he]
    refine W_seqn (W_region (fun k => by simp (decide := true) (disch := first | omega | simp (decide := true) only [List.length_set, hl]) only [sims, autos, simprocAttr, hps]; rfl) ⟨rfl, W_ret ?_⟩)
    refine fin_of (F := f41) rfl (fun _ => rfl) ?_
    simp (decide := true) (disch := first | omega | simp (decide := true) only [List.length_set, hl]) only [sims, autos, simprocAttr]
  all_goals simp (decide := true) (disch := first | omega | simp (decide := true) only [List.length_set, hl]) only [sims, autos, simprocAttr, hps, hl, h0, h1]
end Go.Proofs.Ytikeeegkndnnfaa.Abs
