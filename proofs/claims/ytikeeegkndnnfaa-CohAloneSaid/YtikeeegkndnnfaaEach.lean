/- Each way of each cache is shown to a function: the program's walk, for any function that may be shown them. -/
import Derived.Test.YtikeeegkndnnfaaLegal4
namespace Go.Proofs.Ytikeeegkndnnfaa.Abs
open Go Go.RowKit Fn
set_option linter.unusedVariables false
set_option linter.unusedSimpArgs false
set_option linter.unnecessarySimpa false
set_option maxRecDepth 100000
set_option maxHeartbeats 4000000

section
variable {α : Type}
def foW (f : α → Way → α) (l : List Way) (a : α) : Nat → α
  | 0 => a
  | w + 1 => f (foW f l a w) (wayN l w)
def foS (f : α → Way → α) (c : Cache) (a : α) : Nat → α
  | 0 => a
  | s + 1 => foW f (row c s) (foS f c a s) (row c s).length
def foK (f : α → Way → α) (m : Coh) (a : α) : Nat → α
  | 0 => a
  | k + 1 => foS f (cacheAt m k) (foK f m a k) (cacheAt m k).sets.length
def gW (good : Way → Prop) (l : List Way) (n : Nat) : Prop := ∀ w, w < n → good (wayN l w)
def gS (good : Way → Prop) (c : Cache) (n : Nat) : Prop := ∀ s, s < n → gW good (row c s) (row c s).length
def gK (good : Way → Prop) (m : Coh) (n : Nat) : Prop := ∀ k, k < n → gS good (cacheAt m k) (cacheAt m k).sets.length
/-- A function that may be shown ways: it goes on from state to state, and says no where a way is not good. -/
structure Shows (C P : Nat) (FC : AFun) (f : α → Way → α) (J : α → Mem → Nat → Prop) (good : Way → Prop) : Prop where
  hap : ap C = some FC
  hp : FC.pure = false
  hn : FC.nat = none
  hau : FC.auto = false
  st : ∀ a g nx g' nx', J a g nx → nx ≤ nx' → (∀ t, t < nx → g' t = g t) → J a g' nx'
  go : ∀ a w g nx, w.wf → J a g nx → ∃ N b g' nx', (∀ k, N ≤ k → runBody (ev ap k) FC [.agg w.enc, .ptr P 0] g nx = some (.bool b, g', nx')) ∧ (b = true → good w ∧ J (f a w) g' nx') ∧ (b = false → ¬ good w)
end
def EaS (m : Coh) (C P k : Nat) (st : St) : Prop := st.s.length = 38 ∧ rho st.s (.tmp 1) = .fn C [] [.ptr P 0] ∧ rho st.s (.tmp 12) = cachT m ∧ rho st.s (.tmp 13) = .int .i64 (m.caches.length : Int) ∧ rho st.s (.tmp 14) = .int .i64 (k : Int)
def EaR (c : Cache) (s : Nat) (st : St) : Prop := rho st.s (.tmp 19) = setsT c ∧ rho st.s (.tmp 20) = .int .i64 (c.sets.length : Int) ∧ rho st.s (.tmp 21) = .int .i64 (s : Int)
def eaL1 : ACode := match f27.body with | .seq _ (.seq (.seq _ (.block _ (.loop c))) _) => c | _ => .skip
def eaL2 : ACode := match eaL1 with | .seq _ (.seq _ (.seq (.block _ (.seq _ (.seq _ (.block _ (.loop c))))) _)) => c | _ => .skip
def eaL3 : ACode := match eaL2 with | .seq _ (.seq _ (.seq (.block _ (.seq _ (.seq _ (.block _ (.loop c))))) _)) => c | _ => .skip
theorem ea3_loop {α : Type} {C P : Nat} {FC : AFun} {f : α → Way → α} {J : α → Mem → Nat → Prop} {good : Way → Prop} (H : Shows C P FC f J good) (m : Coh) (k s : Nat) (c : Cache) (l : List Way) (hw : ∀ w ∈ l, w.wf) (hmx : l.length ≤ 1000) (a0 : α) (Q : AExit → St → Prop)
    (hQe : ∀ st : St, EaS m C P k st → EaR c s st → J (foW f l a0 l.length) st.g st.nx → gW good l l.length → Q (.exit 4) st)
    (hQr : ∀ st : St, rho st.s (.tmp 4) = .bool false → ¬ gW good l l.length → Q .ret st) :
    ∀ (n : Nat) (st : St), (∃ w : Nat, EaS m C P k st ∧ EaR c s st ∧ rho st.s (.tmp 25) = .imm false l.length (l.flatMap Way.enc) ∧ rho st.s (.tmp 26) = .int .i64 (l.length : Int) ∧ rho st.s (.tmp 27) = .int .i64 (w : Int) ∧ J (foW f l a0 w) st.g st.nx ∧ gW good l w ∧ w ≤ l.length ∧ n = l.length - w) → W ap (.loop eaL3) st Q := by
  refine W_loop _ ?_
  rintro n st ⟨w, ⟨hl, h1, h12, h13, h14⟩, ⟨h19, h20, h21⟩, h25, h26, h27, hJ, hg, hwl, hn⟩
  by_cases hend : w = l.length
  · subst hend
    have hlt : decide ((l.length : Int) < (l.length : Int)) = false := decide_eq_false (by omega)
    refine W_seqn (W_region (fun k => by simp (decide := true) (disch := first | omega | simp (decide := true) only [List.length_set, hl]) only [sims, autos, simprocAttr, hps, h26, h27, hlt]; rfl) ⟨rfl, ?_⟩)
    refine W_seq (W_fls (W_exit (.inr ⟨by simp, .inr ⟨by simp, hQe _ ⟨?_, ?_, ?_, ?_, ?_⟩ ⟨?_, ?_, ?_⟩ (H.st _ _ _ _ _ hJ (by show st.nx ≤ st.nx + 1; omega) (fun _ _ => rfl)) hg⟩⟩)))
    all_goals simp (decide := true) (disch := first | omega | simp (decide := true) only [List.length_set, hl]) only [sims, autos, simprocAttr, hps, hl, h1, h12, h13, h14, h19, h20, h21]
  have hwlt : w < l.length := by omega
  have hlt : decide ((w : Int) < (l.length : Int)) = true := decide_eq_true (by omega)
  have hw2 : IntKind.i64.wrap ((w : Int) + 1) = ((w + 1 : Nat) : Int) := by rw [wrap_id (by omega)]; omega
  have hfl := flat_lenM (f := Way.enc) l (fun w h => way_len (hw w h))
  have hb2 : w * 19 + 19 ≤ l.length * 19 := by omega
  have hwc : cut (l.flatMap Way.enc) (w * 19) 19 = (wayN l w).enc := by
    rw [flat_cutM l (fun w h => way_len (hw w h)) w hwlt]; unfold wayN; rw [List.getElem?_eq_getElem hwlt]; rfl
  have hwy := wayN_wf hw hwlt
  have hyl := way_len hwy
  have hyf := leaf_ints _ (way_ints (wayN l w))
  have hsp : splice zeroW.enc 0 (wayN l w).enc = (wayN l w).enc := splice_all (by rw [hyl]; rfl)
  have hzl : zeroW.enc.length = 19 := rfl
  have hzleaf := zenc_leaf
  have hcw : cut (wayN l w).enc 0 19 = (wayN l w).enc := cut_all (by omega)
  have hgo := H.go (foW f l a0 w) (wayN l w)
  have hfo : foW f l a0 (w + 1) = f (foW f l a0 w) (wayN l w) := rfl
  have hgs : good (wayN l w) → gW good l (w + 1) := fun h j hj => by
    by_cases hjw : j = w
    · rw [hjw]; exact h
    · exact hg j (by omega)
  have hgn : ¬ good (wayN l w) → ¬ gW good l l.length := fun h e => h (e w hwlt)
  have hap := H.hap
  have hp := H.hp
  have hnn := H.hn
  have hau := H.hau
  have hbody : eaL3 = eaL3 := rfl
  conv at hbody => rhs; simp only [eaL3, eaL2, eaL1, f27]
  simp only [← zero_enc] at hbody
  rw [hbody]
  clear hbody
  generalize (wayN l w) = x at *
  generalize x.enc = ow at *
  generalize zeroW.enc = zc at *
  have hfl2 : (l.flatMap Way.enc).length = l.length * 19 := hfl
  generalize l.flatMap Way.enc = ws at *
  refine W_seqn (W_region (fun k => by simp (decide := true) (disch := first | omega | simp (decide := true) only [List.length_set, hl]) only [sims, autos, simprocAttr, hps, h26, h27, hlt]; rfl) ⟨rfl, ?_⟩)
  refine W_seqn (W_tru (W_skip ⟨rfl, ?_⟩))
  refine W_seq (W_block ?_)
  refine W_cut (fun t => EaS m C P k t ∧ EaR c s t ∧ rho t.s (.tmp 25) = .imm false l.length ws ∧ rho t.s (.tmp 26) = .int .i64 (l.length : Int) ∧ rho t.s (.tmp 27) = .int .i64 (w : Int) ∧ J (foW f l a0 w) t.g t.nx ∧ ∃ p, rho t.s (.tmp 10) = .ptr p 0 ∧ t.g p = some ow) (W_region (fun k => by simp (decide := true) (disch := first | omega | simp (decide := true) only [List.length_set, hl]) only [sims, autos, simprocAttr, hps, h25, h27, hwlt, hfl2, hb2, hwc, hyl, hyf, hzl, hzleaf, hsp]; rfl) ⟨rfl, ⟨?_, ?_, ?_, ?_, ?_⟩, ⟨?_, ?_, ?_⟩, ?_, ?_, ?_, H.st _ _ _ _ _ hJ ?_ (fun t ht => ?_), st.nx + 1 + 1 + 1, ?_, ?_⟩) ?_
  case refine_12 => show st.nx ≤ st.nx + 1 + 4; omega
  case refine_16 =>
    clear hl h1 h12 h13 h14 h19 h20 h21 h25 h26 h27 hJ
    rintro st ⟨⟨hl, h1, h12, h13, h14⟩, ⟨h19, h20, h21⟩, h25, h26, h27, hJ, p, h10, gp⟩
    obtain ⟨N, b, g', nx', q, ht, hf⟩ := hgo st.g (st.nx + 4) hwy (H.st _ _ _ _ _ hJ (by omega) (fun _ _ => rfl))
    have q := q N (Nat.le_refl _)
    cases b with
    | true =>
      obtain ⟨hgd, hJ'⟩ := ht rfl
      refine W_seqn (W_regionN ⟨N, by simp (decide := true) (disch := first | omega | simp (decide := true) only [List.length_set, hl]) only [sims, autos, simprocAttr, hps, h1, h10, gp, hyl, hcw, hap, hp, hnn, hau, evI, q]; rfl⟩ ⟨rfl, W_fls (W_skip (.inr (.inl ⟨by simp, .inl ⟨rfl, ?_⟩⟩)))⟩)
      refine W_region (fun k => by simp (decide := true) (disch := first | omega | simp (decide := true) only [List.length_set, hl]) only [sims, autos, simprocAttr, hps, h27, hw2]; rfl) (.inl ⟨rfl, l.length - (w + 1), by omega, w + 1, ⟨?_, ?_, ?_, ?_, ?_⟩, ⟨?_, ?_, ?_⟩, ?_, ?_, ?_, ?_, hgs hgd, by omega, rfl⟩)
      case refine_12 => rw [hfo]; exact H.st _ _ _ _ _ hJ' (by show nx' ≤ nx' + 2; omega) (fun _ _ => rfl)
      all_goals simp (decide := true) (disch := first | omega | simp (decide := true) only [List.length_set, hl]) only [sims, autos, simprocAttr, hps, hl, h1, h12, h13, h14, h19, h20, h21, h25, h26]
    | false =>
      refine W_seqn (W_regionN ⟨N, by simp (decide := true) (disch := first | omega | simp (decide := true) only [List.length_set, hl]) only [sims, autos, simprocAttr, hps, h1, h10, gp, hyl, hcw, hap, hp, hnn, hau, evI, q]; rfl⟩ ⟨rfl, W_tru ?_⟩)
      refine W_seqn (W_region (fun k => by simp (decide := true) (disch := first | omega | simp (decide := true) only [List.length_set, hl]) only [sims, autos, simprocAttr, hps]; rfl) ⟨rfl, W_ret ?_⟩)
      simp only [reduceCtorEq, false_and, false_or, or_false, exists_false, exists_const, ne_eq, not_false_eq_true, true_and, implies_true]
      refine hQr _ ?_ (hgn (hf rfl))
      simp (decide := true) (disch := first | omega | simp (decide := true) only [List.length_set, hl]) only [sims, autos, simprocAttr]
  all_goals simp (decide := true) (disch := first | omega | simp (decide := true) only [List.length_set, hl]) only [sims, autos, simprocAttr, hps, hl, h1, h12, h13, h14, h19, h20, h21, h25, h26, h27]
theorem ea2_loop {α : Type} {C P : Nat} {FC : AFun} {f : α → Way → α} {J : α → Mem → Nat → Prop} {good : Way → Prop} (H : Shows C P FC f J good) (m : Coh) (k : Nat) (c : Cache) (hc : c.wf) (hfit : Fit c.sets) (a0 : α) (Q : AExit → St → Prop)
    (hQe : ∀ st : St, EaS m C P k st → J (foS f c a0 c.sets.length) st.g st.nx → gS good c c.sets.length → Q (.exit 2) st)
    (hQr : ∀ st : St, rho st.s (.tmp 4) = .bool false → ¬ gS good c c.sets.length → Q .ret st) :
    ∀ (n : Nat) (st : St), (∃ s : Nat, EaS m C P k st ∧ EaR c s st ∧ J (foS f c a0 s) st.g st.nx ∧ gS good c s ∧ s ≤ c.sets.length ∧ n = c.sets.length - s) → W ap (.loop eaL2) st Q := by
  refine W_loop _ ?_
  rintro n st ⟨s, ⟨hl, h1, h12, h13, h14⟩, ⟨h19, h20, h21⟩, hJ, hg, hsl, hn⟩
  have hS8 := hfit.1
  have hsc : setsT c = .imm false c.sets.length (c.sets.flatMap (fun l => [rowT l])) := rfl
  by_cases hend : s = c.sets.length
  · have hlt : decide ((s : Int) < (c.sets.length : Int)) = false := decide_eq_false (by omega)
    rw [hend] at hJ hg
    refine W_seqn (W_region (fun k => by simp (decide := true) (disch := first | omega | simp (decide := true) only [List.length_set, hl]) only [sims, autos, simprocAttr, hps, h20, h21, hlt]; rfl) ⟨rfl, ?_⟩)
    refine W_seq (W_fls (W_exit (.inr ⟨by simp, .inr ⟨by simp, hQe _ ⟨?_, ?_, ?_, ?_, ?_⟩ (H.st _ _ _ _ _ hJ (by show st.nx ≤ st.nx + 1; omega) (fun _ _ => rfl)) hg⟩⟩)))
    all_goals simp (decide := true) (disch := first | omega | simp (decide := true) only [List.length_set, hl]) only [sims, autos, simprocAttr, hps, hl, h1, h12, h13, h14]
  have hslt : s < c.sets.length := by omega
  have hlt : decide ((s : Int) < (c.sets.length : Int)) = true := decide_eq_true (by omega)
  have hw2 : IntKind.i64.wrap ((s : Int) + 1) = ((s + 1 : Nat) : Int) := by rw [wrap_id (by omega)]; omega
  have hrow := rows_get c s hslt
  have hrl := rows_len c
  have hb1 : s * 1 + 1 ≤ c.sets.length := by omega
  have hrw := row_wf hc s hslt
  have hrm : (row c s).length ≤ 1000 := by unfold row; rw [List.getElem?_eq_getElem hslt]; exact (hfit.big.2 _ (List.getElem_mem hslt)).1
  have hrt : rowT (row c s) = .imm false (row c s).length ((row c s).flatMap Way.enc) := rfl
  rw [hrt] at hrow
  rw [hsc] at h19
  generalize hrs : c.sets.flatMap (fun l => [rowT l]) = rows at *
  refine W_seqn (W_region (fun k => by simp (decide := true) (disch := first | omega | simp (decide := true) only [List.length_set, hl]) only [sims, autos, simprocAttr, hps, h20, h21, hlt]; rfl) ⟨rfl, ?_⟩)
  refine W_seqn (W_tru (W_skip ⟨rfl, ?_⟩))
  refine W_seq (W_block (W_seqn (W_region (fun k => by simp (decide := true) (disch := first | omega | simp (decide := true) only [List.length_set, hl]) only [sims, autos, simprocAttr, hps, h19, h21, hslt, hrl, hb1, hrow]; rfl) ⟨rfl, W_seqn (W_region (fun k => by simp (decide := true) (disch := first | omega | simp (decide := true) only [List.length_set, hl]) only [sims, autos, simprocAttr, hps]; rfl) ⟨rfl, W_block ?_⟩)⟩)))
  refine ea3_loop H m k s c (row c s) hrw.2 hrm (foS f c a0 s) _ (fun st hS hR hJ hgr => ?_) (fun st h4 hno => ?_) ((row c s).length - 0) _ ⟨0, ⟨?_, ?_, ?_, ?_, ?_⟩, ⟨?_, ?_, ?_⟩, ?_, ?_, ?_, H.st _ _ _ _ _ hJ ?_ (fun _ _ => rfl), fun w h => absurd h (by omega), by omega, rfl⟩
  · obtain ⟨hl, h1, h12, h13, h14⟩ := hS
    obtain ⟨h19, h20, h21⟩ := hR
    refine .inl ⟨rfl, .inr (.inl ⟨by simp, .inl ⟨rfl, ?_⟩⟩)⟩
    refine W_region (fun k => by simp (decide := true) (disch := first | omega | simp (decide := true) only [List.length_set, hl]) only [sims, autos, simprocAttr, hps, h21, hw2]; rfl) (.inl ⟨rfl, c.sets.length - (s + 1), by omega, s + 1, ⟨?_, ?_, ?_, ?_, ?_⟩, ⟨?_, ?_, ?_⟩, ?_, fun j hj => ?_, by omega, rfl⟩)
    case refine_9 => exact H.st _ _ _ _ _ hJ (by show st.nx ≤ st.nx + 2; omega) (fun _ _ => rfl)
    case refine_10 =>
      by_cases hjs : j = s
      · rw [hjs]; exact hgr
      · exact hg j (by omega)
    all_goals simp (decide := true) (disch := first | omega | simp (decide := true) only [List.length_set, hl]) only [sims, autos, simprocAttr, hps, hl, h1, h12, h13, h14, h19, h20, h21]
  · simp only [reduceCtorEq, false_and, false_or, or_false, exists_false, exists_const, ne_eq, not_false_eq_true, true_and, implies_true]
    exact hQr st h4 (fun e => hno (e s hslt))
  case refine_14 => show st.nx ≤ st.nx + 1 + 3 + 3; omega
  case refine_8 => rw [hsc]; simp (decide := true) (disch := first | omega | simp (decide := true) only [List.length_set, hl]) only [sims, autos, simprocAttr, hps, h19]
  all_goals simp (decide := true) (disch := first | omega | simp (decide := true) only [List.length_set, hl]) only [sims, autos, simprocAttr, hps, hl, h1, h12, h13, h14, h20, h21]
theorem ea1_loop {α : Type} {C P : Nat} {FC : AFun} {f : α → Way → α} {J : α → Mem → Nat → Prop} {good : Way → Prop} (H : Shows C P FC f J good) (m : Coh) (hok : Ok m) (a0 : α) (Q : AExit → St → Prop)
    (hQe : ∀ st : St, st.s.length = 38 → J (foK f m a0 m.caches.length) st.g st.nx → gK good m m.caches.length → Q (.exit 0) st)
    (hQr : ∀ st : St, rho st.s (.tmp 4) = .bool false → ¬ gK good m m.caches.length → Q .ret st) :
    ∀ (n : Nat) (st : St), (∃ k : Nat, EaS m C P k st ∧ J (foK f m a0 k) st.g st.nx ∧ gK good m k ∧ k ≤ m.caches.length ∧ n = m.caches.length - k) → W ap (.loop eaL1) st Q := by
  refine W_loop _ ?_
  rintro n st ⟨k, ⟨hl, h1, h12, h13, h14⟩, hJ, hg, hkl, hn⟩
  have hc4 := hok.2.2.1
  have hcc : cachT m = .imm false m.caches.length (m.caches.flatMap Cache.enc) := rfl
  by_cases hend : k = m.caches.length
  · have hlt : decide ((k : Int) < (m.caches.length : Int)) = false := decide_eq_false (by omega)
    rw [hend] at hJ hg
    refine W_seqn (W_region (fun k => by simp (decide := true) (disch := first | omega | simp (decide := true) only [List.length_set, hl]) only [sims, autos, simprocAttr, hps, h13, h14, hlt]; rfl) ⟨rfl, ?_⟩)
    refine W_seq (W_fls (W_exit (.inr ⟨by simp, .inr ⟨by simp, hQe _ ?_ (H.st _ _ _ _ _ hJ (by show st.nx ≤ st.nx + 1; omega) (fun _ _ => rfl)) hg⟩⟩)))
    simp (decide := true) (disch := first | omega | simp (decide := true) only [List.length_set, hl]) only [sims, autos, simprocAttr, hps, hl]
  have hklt : k < m.caches.length := by omega
  have hlt : decide ((k : Int) < (m.caches.length : Int)) = true := decide_eq_true (by omega)
  have hw2 : IntKind.i64.wrap ((k : Int) + 1) = ((k + 1 : Nat) : Int) := by rw [wrap_id (by omega)]; omega
  have hcl := caches_len m
  have hcg := caches_cut m k hklt
  have hcg2 := caches_get m k hklt
  have hcw := cacheAt_wf hok.1 k hklt
  have hfit := hok.2.2.2 k hklt
  have hb : k * 1 + 1 ≤ m.caches.length := by omega
  have hsc : setsT (cacheAt m k) = .imm false (cacheAt m k).sets.length ((cacheAt m k).sets.flatMap (fun l => [rowT l])) := rfl
  rw [hcc] at h12
  have hst : splice [T.imm true 0 []] 0 [setsT (cacheAt m k)] = [setsT (cacheAt m k)] := rfl
  have hleaf : allLeaf [setsT (cacheAt m k)] = true := rfl
  rw [hsc] at hcg hst hleaf hcg2
  generalize hrs : (cacheAt m k).sets.flatMap (fun l => [rowT l]) = rows at *
  generalize hcs : m.caches.flatMap Cache.enc = ccs at *
  refine W_seqn (W_region (fun k => by simp (decide := true) (disch := first | omega | simp (decide := true) only [List.length_set, hl]) only [sims, autos, simprocAttr, hps, h13, h14, hlt]; rfl) ⟨rfl, ?_⟩)
  refine W_seqn (W_tru (W_skip ⟨rfl, ?_⟩))
  refine W_seq (W_block (W_seqn (W_region (fun k => by simp (decide := true) (disch := first | omega | simp (decide := true) only [List.length_set, hl]) only [sims, autos, simprocAttr, hps, h12, h14, hklt, hcl, hb, hcg, hcg2, hst, hleaf]; rfl) ⟨rfl, W_seqn (W_region (fun k => by simp (decide := true) (disch := first | omega | simp (decide := true) only [List.length_set, hl]) only [sims, autos, simprocAttr, hps, hcg, hcg2, hst, hleaf]; rfl) ⟨rfl, W_block ?_⟩)⟩)))
  refine ea2_loop H m k (cacheAt m k) hcw hfit (foK f m a0 k) _ (fun st hS hJ hgr => ?_) (fun st h4 hno => ?_) ((cacheAt m k).sets.length - 0) _ ⟨0, ⟨?_, ?_, ?_, ?_, ?_⟩, ⟨?_, ?_, ?_⟩, H.st _ _ _ _ _ hJ ?_ (fun t ht => ?_), fun w h => absurd h (by omega), by omega, rfl⟩
  · obtain ⟨hl, h1, h12, h13, h14⟩ := hS
    refine .inl ⟨rfl, .inr (.inl ⟨by simp, .inl ⟨rfl, ?_⟩⟩)⟩
    refine W_region (fun k => by simp (decide := true) (disch := first | omega | simp (decide := true) only [List.length_set, hl]) only [sims, autos, simprocAttr, hps, h14, hw2]; rfl) (.inl ⟨rfl, m.caches.length - (k + 1), by omega, k + 1, ⟨?_, ?_, ?_, ?_, ?_⟩, ?_, fun j hj => ?_, by omega, rfl⟩)
    case refine_6 => exact H.st _ _ _ _ _ hJ (by show st.nx ≤ st.nx + 2; omega) (fun _ _ => rfl)
    case refine_7 =>
      by_cases hjk : j = k
      · rw [hjk]; exact hgr
      · exact hg j (by omega)
    all_goals simp (decide := true) (disch := first | omega | simp (decide := true) only [List.length_set, hl]) only [sims, autos, simprocAttr, hps, hl, h1, h12, h13, h14]
  · simp only [reduceCtorEq, false_and, false_or, or_false, exists_false, exists_const, ne_eq, not_false_eq_true, true_and, implies_true]
    exact hQr st h4 (fun e => hno (e k hklt))
  case refine_11 => show st.nx ≤ st.nx + 1 + 4 + 4; omega
  case refine_5 => rw [hcc]; simp (decide := true) (disch := first | omega | simp (decide := true) only [List.length_set, hl]) only [sims, autos, simprocAttr, hps, h12]
  case refine_8 => rw [hsc]; simp (decide := true) (disch := first | omega | simp (decide := true) only [List.length_set, hl]) only [sims, autos, simprocAttr, hps]
  all_goals simp (decide := true) (disch := first | omega | simp (decide := true) only [List.length_set, hl]) only [sims, autos, simprocAttr, hps, hl, h1, h13, h14]
/-- THE WALK. -/
theorem each_run {α : Type} {C P : Nat} {FC : AFun} {f : α → Way → α} {J : α → Mem → Nat → Prop} {good : Way → Prop} (H : Shows C P FC f J good) (m : Coh) (hok : Ok m) (a0 : α) (g : Mem) (nx : Nat) (hJ : J a0 g nx) :
    ∃ N v g' nx', (∀ k, N ≤ k → runBody (ev ap k) f27 [.agg [memT m, cachT m], .fn C [] [.ptr P 0]] g nx = some (v, g', nx')) ∧ ∃ b, v = .bool b ∧ (b = true → gK good m m.caches.length ∧ J (foK f m a0 m.caches.length) g' nx') ∧ (b = false → ¬ gK good m m.caches.length) := by
  refine EI_bodyV (P := fun v g' nx' => ∃ b, v = .bool b ∧ (b = true → gK good m m.caches.length ∧ J (foK f m a0 m.caches.length) g' nx') ∧ (b = false → ¬ gK good m m.caches.length)) ?_
  generalize hs0 : (_ : List T) ++ List.replicate _ T.undef = s0
  have e0 : s0.length = 38 ∧ rho s0 (.tmp 0) = .agg [memT m, cachT m] ∧ rho s0 (.tmp 1) = .fn C [] [.ptr P 0] := by subst hs0; exact ⟨rfl, rfl, rfl⟩
  clear hs0
  obtain ⟨hl, h0, h1⟩ := e0
  have hleaf : allLeaf [memT m, cachT m] = true := rfl
  have hcc : cachT m = .imm false m.caches.length (m.caches.flatMap Cache.enc) := rfl
  refine W_seqn (W_region (fun k => by simp (decide := true) (disch := first | omega | simp (decide := true) only [List.length_set, hl]) only [sims, autos, simprocAttr, hps, h0, hleaf]; rfl) ⟨rfl, ?_⟩)
  refine W_seq (W_seqn (W_region (fun k => by simp (decide := true) (disch := first | omega | simp (decide := true) only [List.length_set, hl]) only [sims, autos, simprocAttr, hps, hcc]; rfl) ⟨rfl, W_block ?_⟩))
  refine ea1_loop H m hok a0 _ (fun st hl hJ hg => ?_) (fun st h4 hno => ?_) (m.caches.length - 0) _ ⟨0, ⟨?_, ?_, ?_, ?_, ?_⟩, H.st _ _ _ _ _ hJ ?_ (fun t ht => ?_), fun w h => absurd h (by omega), by omega, rfl⟩
  · refine .inl ⟨rfl, .inl ⟨rfl, ?_⟩⟩
    refine W_seqn (W_region (fun k => by simp (decide := true) (disch := first | omega | simp (decide := true) only [List.length_set, hl]) only [sims, autos, simprocAttr, hps]; rfl) ⟨rfl, W_ret ?_⟩)
    refine ⟨rfl, .bool true, res_one (F := f27) rfl ?_, true, rfl, fun _ => ⟨hg, H.st _ _ _ _ _ hJ (by show st.nx ≤ st.nx + 1; omega) (fun _ _ => rfl)⟩, fun h => by cases h⟩
    simp (decide := true) (disch := first | omega | simp (decide := true) only [List.length_set, hl]) only [sims, autos, simprocAttr]
  · simp only [reduceCtorEq, false_and, false_or, or_false, exists_false, exists_const, ne_eq, not_false_eq_true, true_and, implies_true]
    exact ⟨rfl, .bool false, res_one (F := f27) rfl h4, false, rfl, fun h => by (cases h), fun _ => hno⟩
  case refine_8 => show nx ≤ nx + 2 + 4; omega
  all_goals simp (decide := true) (disch := first | omega | simp (decide := true) only [List.length_set, hl]) only [sims, autos, simprocAttr, hps, hl, h1, hcc]
end Go.Proofs.Ytikeeegkndnnfaa.Abs
