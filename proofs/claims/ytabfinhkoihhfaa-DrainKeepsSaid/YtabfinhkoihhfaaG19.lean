/- Words of other seats' texts, as they are used here: Snd2 Snd3. -/
import Derived.Test.YtabfinhkoihhfaaG18
namespace Go.Proofs.Ytabfinhkoihhfaa.Abs
open Go Go.RowKit Fn
set_option linter.unusedVariables false
set_option linter.unusedSimpArgs false
set_option linter.unnecessarySimpa false
set_option maxRecDepth 100000
set_option maxHeartbeats 4000000

theorem ap46s : ap 27 = some f27 := rfl
theorem p46s : f27.pure = true := rfl
theorem n46s : f27.nat = none := rfl
theorem SnS.step {m : Coh} {k i w : Nat} {st : St} (h : SnS m k i w st) {s' : List T} {d : Nat} (hl : s'.length = 101) (h1 : rho s' (.tmp 1) = rho st.s (.tmp 1)) (h3 : rho s' (.tmp 3) = rho st.s (.tmp 3)) (h4 : rho s' (.tmp 4) = rho st.s (.tmp 4)) (h5 : rho s' (.tmp 5) = rho st.s (.tmp 5)) : SnS m k i w ⟨s', st.g, st.nx + d⟩ := by
  obtain ⟨_, a1, a2, a3, a4, a5, a6⟩ := h
  exact ⟨hl, h1.trans a1, a2, by show 1 ≤ st.nx + d; omega, h3.trans a4, h4.trans a5, h5.trans a6⟩
theorem sn_rest (m : Coh) (hok : Ok m) (k i w : Nat) (x : Way) (hx : x.wf) (ln : Nat) (hln : x.tag = (ln : Int)) (hlb : ln ≤ 4294967295) (p : Nat) (st : St) (hS : SnS m k i w st) (hC : SnC x p st) :
    W ap snRest st (fun e s => (e = .normal ∧ SnS m k i w s ∧ LegalP (stL m ln)) ∨ (e = .ret ∧ rho s.s (.tmp 2) = .bool false ∧ ¬ LegalP (stL m ln))) := by
  obtain ⟨hl, h1, g0, hnx, h3, h4, h5⟩ := hS
  obtain ⟨h6, gp, hp, hpn⟩ := hC
  have hc4 := hok.2.2.1
  have e0 : allLeaf ([] : List T) = true := rfl
  refine W_cut (fun t => SnS m k i w t ∧ SnC x p t ∧ SnA m ln p 0 t) (W_region (fun k => by simp +decide (disch := first | omega | simp +decide only [List.length_set, hl]) only [sa, simprocAttr, e0]; rfl) ⟨rfl, ⟨?_, ?_, ?_, ?_, ?_, ?_, ?_⟩, ⟨?_, ?_, hp, ?_⟩, st.nx, ?_, ?_, hpn, ?_⟩) ?_
  case refine_4 => show 1 ≤ st.nx + 2; omega
  case refine_10 => show p < st.nx + 2; omega
  case refine_13 => show st.nx < st.nx + 2; omega
  case refine_14 =>
    intro st ⟨hS, hC, t, h7, gt, hpt, htn⟩
    have hS' := hS
    obtain ⟨hl, h1, g0, hnx, h3, h4, h5⟩ := hS'
    obtain ⟨h6, gp, hp, hpn⟩ := hC
    refine W_seq (W_seqn (W_region (fun k => by simp +decide (disch := first | omega | simp +decide only [List.length_set, hl]) only [sa, simprocAttr]; rfl) ⟨rfl, W_block ?_⟩))
    refine sn4_loop m hok k i w x hx ln hln hlb p _ (fun st' hS hC hA => ?_) (m.caches.length - 0) _ ⟨0, hS.step (d := 1) ?_ ?_ ?_ ?_ ?_, ⟨?_, gp, hp, ?_⟩, ⟨t, ?_, gt, hpt, ?_⟩, ?_, by omega, rfl⟩
    case refine_8 => show p < st.nx + 1; omega
    case refine_10 => show t < st.nx + 1; omega
    case refine_1 =>
      have hS' := hS
      obtain ⟨hl, h1, g0, hnx, h3, h4, h5⟩ := hS'
      obtain ⟨t, h7, gt, hpt, htn⟩ := hA
      refine .inl ⟨rfl, .inl ⟨rfl, ?_⟩⟩
      have hLl := stL_len m ln
      have htk : (lgT (stL m ln)).take m.caches.length = lgT (stL m ln) := List.take_of_length_le (by unfold lgT; rw [List.length_map, hLl]; omega)
      rw [htk] at gt
      have hll : (lgT (stL m ln)).length = m.caches.length := by unfold lgT; rw [List.length_map, hLl]
      have hla : ListAt (fun _ => True) st'.g (.own t 0 m.caches.length 1) (lgT (stL m ln)) := .inr ⟨t, trivial, by rw [hll], gt⟩
      obtain ⟨f, ids, e1, _⟩ := hla.frz (d := 10) (nx := 0) (frzAll_int _ (lgT_ints _))
      rw [hll] at e1
      obtain ⟨v, hv, b, rfl, hiff⟩ := ref_legal (stL m ln) (by omega) f
      rw [hLl] at hv
      obtain ⟨N, c46⟩ := hv.callF ap46s (UpL.refl _) (bool_up _) rfl
      have hf1 : frzL ⟨st'.g, 0⟩ frzDepth [.own t 0 m.caches.length 1] = some ([.imm f m.caches.length (lgT (stL m ln))], ids) := by
        unfold frzL
        rw [show frzDepth = 12 from rfl, frzAll]
        simp only [e1, frzAll, List.append_nil]
      have q46 := c46 N (Nat.le_refl _) st'.g _ ids hf1
      cases b with
      | true =>
        refine W_seqn (W_regionN ⟨N, by simp +decide (disch := first | omega | simp +decide only [List.length_set, hl]) only [sa, simprocAttr, hps, h7, ap46s, p46s, n46s, q46]; rfl⟩ ⟨rfl, W_fls (W_skip (.inl ⟨rfl, hS.step ?_ ?_ ?_ ?_ ?_, hiff.mp rfl⟩))⟩)
        all_goals simp +decide (disch := first | omega | simp +decide only [List.length_set, hl]) only [sa, simprocAttr, hl, h1, h3, h4, h5]
      | false =>
        refine W_seqn (W_regionN ⟨N, by simp +decide (disch := first | omega | simp +decide only [List.length_set, hl]) only [sa, simprocAttr, hps, h7, ap46s, p46s, n46s, q46]; rfl⟩ ⟨rfl, W_tru ?_⟩)
        refine W_seqn (W_region (fun k => by simp +decide (disch := first | omega | simp +decide only [List.length_set, hl]) only [sa, simprocAttr]; rfl) ⟨rfl, W_ret (.inr ⟨rfl, ?_, fun h => by have := hiff.mpr h; cases this⟩)⟩)
        simp +decide (disch := first | omega | simp +decide only [List.length_set, hl]) only [sa, simprocAttr]
    all_goals simp +decide (disch := first | omega | simp +decide only [List.length_set, hl]) only [sa, simprocAttr, hl, h1, h3, h4, h5, h6, h7]
  all_goals simp +decide (disch := first | omega | simp +decide only [List.length_set, hl]) only [sa, simprocAttr, hps, hl, h1, h3, h4, h5, h6, g0, gp]
  all_goals rfl
theorem ap23s : ap 24 = some f24 := rfl
theorem p23s : f24.pure = true := rfl
theorem n23s : f24.nat = none := rfl
theorem ap44s : ap 25 = some f25 := rfl
theorem p44s : f25.pure = true := rfl
theorem n44s : f25.nat = none := rfl
theorem sn3_loop (m : Coh) (hok : Ok m) (k : Nat) (hk : k < m.caches.length) (i : Nat) (hi : i < (cacheAt m k).sets.length) (Q : AExit → St → Prop)
    (hQr : ∀ st : St, rho st.s (.tmp 2) = .bool false → ¬ SoundW m (row (cacheAt m k) i) (row (cacheAt m k) i).length → Q .ret st)
    (hQe : ∀ (st : St) (w : Nat), SnS m k i w st → SoundW m (row (cacheAt m k) i) (row (cacheAt m k) i).length → Q (.exit 4) st) :
    ∀ (n : Nat) (st : St), (∃ w : Nat, SnS m k i w st ∧ SoundW m (row (cacheAt m k) i) w ∧ w ≤ (row (cacheAt m k) i).length ∧ n = (row (cacheAt m k) i).length - w) → W ap (.loop snL3) st Q := by
  refine W_loop _ ?_
  rintro n st ⟨w, hS, hall, hw, hn⟩
  have hS0 := hS
  obtain ⟨hl, h1, g0, hnx, h3, h4, h5⟩ := hS
  have hcw := cacheAt_wf hok.1 k hk
  have hrw := (row_wf hcw i hi).2
  have hfit := fit_row (hok.2.2.2 k hk) i hi
  have hcl := caches_len m
  have hcg := caches_get m k hk
  have hcc : cachT m = .imm false m.caches.length (m.caches.flatMap Cache.enc) := rfl
  have hsc : setsT (cacheAt m k) = .imm false (cacheAt m k).sets.length ((cacheAt m k).sets.flatMap (fun l => [rowT l])) := rfl
  rw [hsc] at hcg
  have hrl := rows_len (cacheAt m k)
  have hrg := rows_get (cacheAt m k) i hi
  have hrt : rowT (row (cacheAt m k) i) = .imm false (row (cacheAt m k) i).length ((row (cacheAt m k) i).flatMap Way.enc) := rfl
  rw [hrt] at hrg
  have hwl := enc_len (row (cacheAt m k) i) hrw
  have hwc := flat_cutM (f := Way.enc) (row (cacheAt m k) i) (fun w h => way_len (hrw w h)) w
  have hwy := fun h => wayN_wf (k := w) hrw h
  have hwe := fun h => wayN_eq (l := row (cacheAt m k) i) (k := w) h
  have hS8 := (hok.2.2.2 k hk).1
  have hb : k * 1 + 1 ≤ m.caches.length := by omega
  have hb1 : i * 1 + 1 ≤ (cacheAt m k).sets.length := by omega
  have hmm := hok.2.1
  generalize (cacheAt m k).sets.flatMap (fun l => [rowT l]) = rows at *
  generalize row (cacheAt m k) i = l at *
  generalize (cacheAt m k).sets.length = S at *
  by_cases hend : w = l.length
  · subst hend
    have hlt : decide ((l.length : Int) < (l.length : Int)) = false := decide_eq_false (by omega)
    rw [hcc] at g0
    generalize m.caches.flatMap Cache.enc = ccs at *
    refine W_seq (W_seqn (W_region (fun k => by simp +decide (disch := first | omega | simp +decide only [List.length_set, hl]) only [sa, simprocAttr, h1, g0, h3, h4, h5, hk, hb, hcl, hcg, hi, hb1, hrl, hrg, hlt]; rfl) ⟨rfl, W_fls (W_exit (.inr ⟨by simp, .inr ⟨by simp, hQe _ l.length (hS0.step ?_ ?_ ?_ ?_ ?_) hall⟩⟩))⟩))
    all_goals simp +decide (disch := first | omega | simp +decide only [List.length_set, hl]) only [sa, simprocAttr, hl, h1, h3, h4, h5]
  have hlt : decide ((w : Int) < (l.length : Int)) = true := decide_eq_true (by omega)
  have hwlt : w < l.length := by omega
  have hwc := hwc hwlt
  have hwy := hwy hwlt
  rw [← hwe hwlt] at hwc
  have hb2 : w * 19 + 19 ≤ l.length * 19 := by omega
  have hw2 : IntKind.i64.wrap ((w : Int) + 1) = ((w + 1 : Nat) : Int) := by rw [wrap_id (by omega)]; omega
  have bad : ¬ SoundX m (wayN l w) → ¬ SoundW m l l.length := fun h h' => h (h' w hwlt)
  have good : SoundX m (wayN l w) → SoundW m l (w + 1) := fun h j hj => by
    by_cases hjw : j = w
    · subst hjw; exact h
    · exact hall j (by omega)
  have next : ∀ st' : St, SnS m k i w st' → SoundX m (wayN l w) → W ap (.region [⟨some 46, .mv (.tmp 5), none⟩, ⟨some 47, .bin .add (.tmp 46) (.con (.int .i64 1)), none⟩, ⟨some 5, .mv (.tmp 47), none⟩] []) st' (fun e s' => (e = .normal ∧ ∃ n', n' < n ∧ ∃ w : Nat, SnS m k i w s' ∧ SoundW m l w ∧ w ≤ l.length ∧ n' = l.length - w) ∨ (e ≠ .normal ∧ Q e s')) := by
    rintro st' ⟨hl, h1, g0, hnx, h3, h4, h5⟩ hX
    refine W_region (fun k => by simp +decide (disch := first | omega | simp +decide only [List.length_set, hl]) only [sa, simprocAttr, h5, hw2]; rfl) ?_
    refine .inl ⟨rfl, l.length - (w + 1), by omega, w + 1, ⟨?_, ?_, g0, ?_, ?_, ?_, ?_⟩, good hX, by omega, rfl⟩
    case refine_3 => show 1 ≤ st'.nx + 3; omega
    all_goals simp +decide (disch := first | omega | simp +decide only [List.length_set, hl]) only [sa, simprocAttr, hl, h1, h3, h4]
  have hyl := way_len hwy
  have hyf := leaf_ints _ (way_ints (wayN l w))
  have hys := way_state (wayN l w)
  have hyt := way_tag (wayN l w)
  have hyd : cut (wayN l w).enc (0 + 2) 16 = (wayN l w).data.flatMap u8T := way_data (wayN l w) hwy
  have hsp : splice zeroW.enc 0 (wayN l w).enc = (wayN l w).enc := splice_all (by rw [hyl]; rfl)
  have hzl : zeroW.enc.length = 19 := rfl
  have hzleaf := zenc_leaf
  have htw := wf_u32 hwy.2.1
  obtain ⟨ln, hln⟩ : ∃ ln : Nat, (wayN l w).tag = (ln : Int) := ⟨(wayN l w).tag.toNat, by omega⟩
  have hlb : ln ≤ 4294967295 := by omega
  have hrest := fun p st => sn_rest m hok k i w (wayN l w) hwy ln hln hlb p st
  have hXd : SoundX m (wayN l w) = ((wayN l w).state = 0 ∨ (ln * 16 + 16 ≤ m.mem.length ∧ ((wayN l w).state = 3 ∨ (wayN l w).data = bytesM m ln) ∧ LegalP (stL m ln))) := by unfold SoundX; rw [hln, Int.toNat_natCast]
  rw [hln] at hyt
  have hcut : cut [memT m, cachT m] 0 2 = [memT m, cachT m] := rfl
  obtain ⟨N1, c23⟩ := (ref_lies m hok.1 ln hlb).call ap23s (fun g => rfl)
  have q23 := c23 N1 (Nat.le_refl _)
  have hcd := conf16 hwy.2.2.1.1 hwy.2.2.1.2
  have hbody : snL3 = snL3 := rfl
  conv at hbody => rhs; simp only [snL3, snL2, snL1, f16]
  have hrestb : snRest = snRest := rfl
  conv at hrestb => rhs; simp only [snRest, snL3, snL2, snL1, f16]
  rw [← hrestb] at hbody
  simp only [← zero_enc] at hbody
  rw [hbody]
  clear hbody hrestb
  have hdd : SnC (wayN l w) = SnC (wayN l w) := rfl
  conv at hdd => rhs; unfold SnC
  rw [hdd] at hrest
  clear hdd
  generalize (wayN l w).enc = ow at *
  generalize zeroW.enc = zc at *
  generalize l.flatMap Way.enc = ws at *
  refine W_cut (fun t => SnS m k i w t) (W_seqn (W_region (fun k => by simp +decide (disch := first | omega | simp +decide only [List.length_set, hl]) only [sa, simprocAttr, hcc, h1, g0, h3, h4, h5, hk, hb, hcl, hcg, hi, hb1, hrl, hrg, hlt]; rfl) ⟨rfl, W_tru (W_skip ⟨rfl, hS0.step ?_ ?_ ?_ ?_ ?_⟩)⟩)) ?_
  case refine_6 =>
    clear hl h1 g0 hnx h3 h4 h5 hS0
    rintro st ⟨hl, h1, g0, hnx, h3, h4, h5⟩
    refine W_seq (W_block ?_)
    refine W_cut (fun t => SnS m k i w t ∧ ∃ p, 1 ≤ p ∧ p < t.nx ∧ rho t.s (.tmp 6) = .ptr p 0 ∧ t.g p = some ow) (W_region (fun k => by simp +decide (disch := first | omega | simp +decide only [List.length_set, hl]) only [sa, simprocAttr, hps, hcc, h1, g0, h3, h4, h5, hk, hb, hcl, hcg, hi, hb1, hrl, hrg, hwlt, hwl, hb2, hwc, hyl, hyf, hzl, hzleaf, hsp]; rfl) ⟨rfl, ⟨?_, ?_, ?_, ?_, ?_, ?_, ?_⟩, st.nx + 12, by omega, ?_, ?_, ?_⟩) ?_
    case refine_4 => show 1 ≤ st.nx + 14; omega
    case refine_8 => show st.nx + 12 < st.nx + 14; omega
    case refine_11 =>
      clear hl h1 g0 hnx h3 h4 h5
      rintro st ⟨hS, p, hp, hpn, h6, gp⟩
      have hS0 := hS
      obtain ⟨hl, h1, g0, hnx, h3, h4, h5⟩ := hS
      by_cases hz : (wayN l w).state = 0
      · have e1 : ((wayN l w).state == 0) = true := by rw [hz]; rfl
        refine W_seq (W_seqn (W_region (fun k => by simp +decide (disch := first | omega | simp +decide only [List.length_set, hl]) only [sa, simprocAttr, hps, h6, gp, hyl, hys, e1]; rfl) ⟨rfl, W_tru (W_exit (.inr ⟨by simp, .inl ⟨rfl, .inl ⟨rfl, next _ (hS0.step ?_ ?_ ?_ ?_ ?_) (by rw [hXd]; exact .inl hz)⟩⟩⟩))⟩))
        all_goals simp +decide (disch := first | omega | simp +decide only [List.length_set, hl]) only [sa, simprocAttr, hl, h1, h3, h4, h5]
      have e1 : ((wayN l w).state == 0) = false := by simpa using hz
      refine W_cut (fun t => SnS m k i w t ∧ rho t.s (.tmp 6) = .ptr p 0 ∧ t.g p = some ow ∧ p < t.nx) (W_seqn (W_region (fun k => by simp +decide (disch := first | omega | simp +decide only [List.length_set, hl]) only [sa, simprocAttr, hps, h6, gp, hyl, hys, e1]; rfl) ⟨rfl, W_fls (W_skip ⟨rfl, hS0.step ?_ ?_ ?_ ?_ ?_, ?_, gp, ?_⟩)⟩)) ?_
      case refine_7 => show p < st.nx + 3; omega
      case refine_8 =>
        clear hl h1 g0 hnx h3 h4 h5 h6 gp hpn hS0
        rintro st ⟨hS, h6, gp, hpn⟩
        have hS0 := hS
        obtain ⟨hl, h1, g0, hnx, h3, h4, h5⟩ := hS
        by_cases hlies : ln * 16 + 16 ≤ m.mem.length
        · rw [decide_eq_true hlies] at q23
          obtain ⟨N2, c44⟩ := (ref_bytes m hok.1 hmm ln hlies).call ap44s (fun g => rfl)
          have a23 := c23 (N1 + N2) (by omega) st.g
          have a44 := c44 (N1 + N2) (by omega) st.g
          rw [decide_eq_true hlies] at a23
          have hcb := conf16 (bytesM_len m ln hlies) (bytesM_wf' hok.1 ln)
          have heq := eq16 (wayN l w).data (bytesM m ln)
          have fin : ∀ t : St, SnS m k i w t → (rho t.s (.tmp 6) = .ptr p 0 ∧ t.g p = some ow ∧ 1 ≤ p ∧ p < t.nx) → ((wayN l w).state = 3 ∨ (wayN l w).data = bytesM m ln) → W ap snRest t (fun e s => (e = .exit 5 ∧ ((.normal = AExit.normal ∧ W ap (.region [⟨some 46, .mv (.tmp 5), none⟩, ⟨some 47, .bin .add (.tmp 46) (.con (.int .i64 1)), none⟩, ⟨some 5, .mv (.tmp 47), none⟩] []) s (fun e s' => (e = .normal ∧ ∃ n', n' < n ∧ ∃ w : Nat, SnS m k i w s' ∧ SoundW m l w ∧ w ≤ l.length ∧ n' = l.length - w) ∨ (e ≠ .normal ∧ Q e s'))) ∨ (AExit.normal ≠ .normal ∧ ((AExit.normal = .normal ∧ ∃ n', n' < n ∧ ∃ w : Nat, SnS m k i w s ∧ SoundW m l w ∧ w ≤ l.length ∧ n' = l.length - w) ∨ (AExit.normal ≠ .normal ∧ Q .normal s))))) ∨ ((∀ j, e ≠ .exit j) ∧ ((e = .normal ∧ W ap (.region [⟨some 46, .mv (.tmp 5), none⟩, ⟨some 47, .bin .add (.tmp 46) (.con (.int .i64 1)), none⟩, ⟨some 5, .mv (.tmp 47), none⟩] []) s (fun e s' => (e = .normal ∧ ∃ n', n' < n ∧ ∃ w : Nat, SnS m k i w s' ∧ SoundW m l w ∧ w ≤ l.length ∧ n' = l.length - w) ∨ (e ≠ .normal ∧ Q e s'))) ∨ (e ≠ .normal ∧ ((e = .normal ∧ ∃ n', n' < n ∧ ∃ w : Nat, SnS m k i w s ∧ SoundW m l w ∧ w ≤ l.length ∧ n' = l.length - w) ∨ (e ≠ .normal ∧ Q e s))))) ∨ (∃ j, e = .exit j ∧ j ≠ 5 ∧ ((e = .normal ∧ W ap (.region [⟨some 46, .mv (.tmp 5), none⟩, ⟨some 47, .bin .add (.tmp 46) (.con (.int .i64 1)), none⟩, ⟨some 5, .mv (.tmp 47), none⟩] []) s (fun e s' => (e = .normal ∧ ∃ n', n' < n ∧ ∃ w : Nat, SnS m k i w s' ∧ SoundW m l w ∧ w ≤ l.length ∧ n' = l.length - w) ∨ (e ≠ .normal ∧ Q e s'))) ∨ (e ≠ .normal ∧ ((e = .normal ∧ ∃ n', n' < n ∧ ∃ w : Nat, SnS m k i w s ∧ SoundW m l w ∧ w ≤ l.length ∧ n' = l.length - w) ∨ (e ≠ .normal ∧ Q e s)))))) := by
            intro t hS hC hd
            refine (hrest p t hS hC).mono ?_
            rintro e s (⟨rfl, hS, hL⟩ | ⟨rfl, h2, hL⟩)
            · exact .inr (.inl ⟨by simp, .inl ⟨rfl, next s hS (by rw [hXd]; exact .inr ⟨hlies, hd, hL⟩)⟩⟩)
            · exact .inr (.inl ⟨by simp, .inr ⟨by simp, .inr ⟨by simp, hQr _ h2 (bad (fun h => by
                rw [hXd] at h
                rcases h with h | h
                · exact hz h
                · exact hL h.2.2))⟩⟩⟩)
          by_cases h33 : (wayN l w).state = 3
          · have e3 : ((wayN l w).state != 3) = false := by rw [h33]; rfl
            refine W_seqn (W_seqn (W_regionN ⟨N1 + N2, by simp +decide (disch := first | omega | simp +decide only [List.length_set, hl]) only [sa, simprocAttr, hps, h1, g0, h6, gp, hcut, hyl, hys, hyt, hyd, ap23s, p23s, n23s, a23, e3]; rfl⟩ ⟨rfl, W_fls (W_skip ⟨rfl, fin _ (hS0.step ?_ ?_ ?_ ?_ ?_) ⟨?_, gp, hp, ?_⟩ (.inl h33)⟩)⟩))
            case refine_7 => show p < st.nx + 19; omega
            all_goals simp +decide (disch := first | omega | simp +decide only [List.length_set, hl]) only [sa, simprocAttr, hl, h1, h3, h4, h5, h6]
          have e3 : ((wayN l w).state != 3) = true := by simpa using h33
          by_cases hdt : (wayN l w).data = bytesM m ln
          · have e4 := heq.mpr hdt
            refine W_seqn (W_seqn (W_regionN ⟨N1 + N2, by simp +decide (disch := first | omega | simp +decide only [List.length_set, hl]) only [sa, simprocAttr, hps, h1, g0, h6, gp, hcut, hyl, hys, hyt, hyd, ap23s, p23s, n23s, a23, e3, ap44s, p44s, n44s, a44, hcd, hcb, e4]; rfl⟩ ⟨rfl, W_fls (W_skip ⟨rfl, fin _ (hS0.step ?_ ?_ ?_ ?_ ?_) ⟨?_, gp, hp, ?_⟩ (.inr hdt)⟩)⟩))
            case refine_7 => show p < st.nx + 19; omega
            all_goals simp +decide (disch := first | omega | simp +decide only [List.length_set, hl]) only [sa, simprocAttr, hl, h1, h3, h4, h5, h6]
          · have e4 : eqL ((wayN l w).data.flatMap u8T) ((bytesM m ln).flatMap u8T) = false := by
              cases hq : eqL ((wayN l w).data.flatMap u8T) ((bytesM m ln).flatMap u8T) with
              | false => rfl
              | true => exact absurd (heq.mp hq) hdt
            refine W_seq (W_seqn (W_regionN ⟨N1 + N2, by simp +decide (disch := first | omega | simp +decide only [List.length_set, hl]) only [sa, simprocAttr, hps, h1, g0, h6, gp, hcut, hyl, hys, hyt, hyd, ap23s, p23s, n23s, a23, e3, ap44s, p44s, n44s, a44, hcd, hcb, e4]; rfl⟩ ⟨rfl, W_tru ?_⟩))
            refine W_seqn (W_region (fun k => by simp +decide (disch := first | omega | simp +decide only [List.length_set, hl]) only [sa, simprocAttr]; rfl) ⟨rfl, W_ret ?_⟩)
            simp only [reduceCtorEq, false_and, false_or, or_false, exists_false, exists_const, ne_eq, not_false_eq_true, true_and, implies_true]
            refine hQr _ ?_ (bad (fun h => by
              rw [hXd] at h
              rcases h with h | h
              · exact hz h
              · rcases h.2.1 with h | h
                · exact h33 h
                · exact hdt h))
            simp +decide (disch := first | omega | simp +decide only [List.length_set, hl]) only [sa, simprocAttr]
        · rw [decide_eq_false hlies] at q23
          refine W_seq (W_seqn (W_regionN ⟨N1, by simp +decide (disch := first | omega | simp +decide only [List.length_set, hl]) only [sa, simprocAttr, hps, h1, g0, h6, gp, hcut, hyl, hys, hyt, ap23s, p23s, n23s, q23]; rfl⟩ ⟨rfl, W_tru ?_⟩))
          refine W_seqn (W_region (fun k => by simp +decide (disch := first | omega | simp +decide only [List.length_set, hl]) only [sa, simprocAttr]; rfl) ⟨rfl, W_ret ?_⟩)
          simp only [reduceCtorEq, false_and, false_or, or_false, exists_false, exists_const, ne_eq, not_false_eq_true, true_and, implies_true]
          refine hQr _ ?_ (bad (fun h => by
            rw [hXd] at h
            rcases h with h | h
            · exact hz h
            · exact hlies h.1))
          simp +decide (disch := first | omega | simp +decide only [List.length_set, hl]) only [sa, simprocAttr]
      all_goals simp +decide (disch := first | omega | simp +decide only [List.length_set, hl]) only [sa, simprocAttr, hl, h1, h3, h4, h5, h6]
    all_goals simp +decide (disch := first | omega | simp +decide only [List.length_set, hl]) only [sa, simprocAttr, hps, hl, h1, h3, h4, h5, g0]
  all_goals simp +decide (disch := first | omega | simp +decide only [List.length_set, hl]) only [sa, simprocAttr, hl, h1, h3, h4, h5]
theorem ap45s : ap 23 = some f23 := rfl
theorem p45s : f23.pure = true := rfl
theorem n45s : f23.nat = none := rfl
def SnK (m : Coh) (k : Nat) (st : St) : Prop := st.s.length = 101 ∧ rho st.s (.tmp 1) = .ptr 0 0 ∧ st.g 0 = some [memT m, cachT m] ∧ 1 ≤ st.nx ∧ rho st.s (.tmp 3) = .int .i64 (k : Int)
theorem sn2_loop (m : Coh) (hok : Ok m) (k : Nat) (hk : k < m.caches.length) (Q : AExit → St → Prop)
    (hQr : ∀ st : St, rho st.s (.tmp 2) = .bool false → ¬ SoundT m (cacheAt m k) (cacheAt m k).sets.length → Q .ret st)
    (hQe : ∀ (st : St), SnK m k st → SoundT m (cacheAt m k) (cacheAt m k).sets.length → Q (.exit 2) st) :
    ∀ (n : Nat) (st : St), (∃ i : Nat, SnK m k st ∧ rho st.s (.tmp 4) = .int .i64 (i : Int) ∧ SoundT m (cacheAt m k) i ∧ i ≤ (cacheAt m k).sets.length ∧ n = (cacheAt m k).sets.length - i) → W ap (.loop snL2) st Q := by
  refine W_loop _ ?_
  rintro n st ⟨i, ⟨hl, h1, g0, hnx, h3⟩, h4, hall, hi, hn⟩
  have hcl := caches_len m
  have hcg := caches_get m k hk
  have hcc : cachT m = .imm false m.caches.length (m.caches.flatMap Cache.enc) := rfl
  have hsc : setsT (cacheAt m k) = .imm false (cacheAt m k).sets.length ((cacheAt m k).sets.flatMap (fun l => [rowT l])) := rfl
  rw [hsc] at hcg
  have hS8 := (hok.2.2.2 k hk).1
  have hb : k * 1 + 1 ≤ m.caches.length := by omega
  generalize (cacheAt m k).sets.flatMap (fun l => [rowT l]) = rows at *
  by_cases hend : i = (cacheAt m k).sets.length
  · have hlt : decide ((i : Int) < ((cacheAt m k).sets.length : Int)) = false := decide_eq_false (by omega)
    rw [hend] at hall
    refine W_seq (W_seqn (W_region (fun k => by simp +decide (disch := first | omega | simp +decide only [List.length_set, hl]) only [sa, simprocAttr, hcc, h1, g0, h3, h4, hk, hb, hcl, hcg, hlt]; rfl) ⟨rfl, W_fls (W_exit (.inr ⟨by simp, .inr ⟨by simp, hQe _ ⟨?_, ?_, ?_, ?_, ?_⟩ hall⟩⟩))⟩))
    case refine_4 => show 1 ≤ st.nx + 9; omega
    all_goals simp +decide (disch := first | omega | simp +decide only [List.length_set, hl]) only [sa, simprocAttr, hl, h1, h3, g0]
  have hlt : decide ((i : Int) < ((cacheAt m k).sets.length : Int)) = true := decide_eq_true (by omega)
  have hil : i < (cacheAt m k).sets.length := by omega
  have hw2 : IntKind.i64.wrap ((i : Int) + 1) = ((i + 1 : Nat) : Int) := by rw [wrap_id (by omega)]; omega
  refine W_seqn (W_seqn (W_region (fun k => by simp +decide (disch := first | omega | simp +decide only [List.length_set, hl]) only [sa, simprocAttr, hcc, h1, g0, h3, h4, hk, hb, hcl, hcg, hlt]; rfl) ⟨rfl, W_tru (W_skip ⟨rfl, ?_⟩)⟩))
  refine W_seq (W_block (W_seqn (W_region (fun k => by simp +decide (disch := first | omega | simp +decide only [List.length_set, hl]) only [sa, simprocAttr]; rfl) ⟨rfl, W_block ?_⟩)))
  refine sn3_loop m hok k hk i hil _ (fun st' h2 hno => ?_) (fun st' w hS hw => ?_) ((row (cacheAt m k) i).length - 0) _ ⟨0, ⟨?_, ?_, ?_, ?_, ?_, ?_, ?_⟩, fun j hj => absurd hj (by omega), by omega, rfl⟩
  case refine_6 => show 1 ≤ st.nx + 9 + 1; omega
  case refine_1 =>
    simp only [reduceCtorEq, false_and, false_or, or_false, exists_false, exists_const, ne_eq, not_false_eq_true, true_and, implies_true]
    exact hQr _ h2 (fun h => hno (h i hil))
  case refine_2 =>
    obtain ⟨hl, h1, g0, hnx, h3, h4, h5⟩ := hS
    refine .inl ⟨rfl, .inr (.inl ⟨by simp, .inl ⟨rfl, ?_⟩⟩)⟩
    refine W_region (fun k => by simp +decide (disch := first | omega | simp +decide only [List.length_set, hl]) only [sa, simprocAttr, h4, hw2]; rfl) ?_
    refine .inl ⟨rfl, (cacheAt m k).sets.length - (i + 1), by omega, i + 1, ⟨?_, ?_, g0, ?_, ?_⟩, ?_, fun j hj => ?_, by omega, rfl⟩
    case refine_3 => show 1 ≤ st'.nx + 3; omega
    case refine_6 =>
      by_cases hji : j = i
      · subst hji; exact hw
      · exact hall j (by omega)
    all_goals simp +decide (disch := first | omega | simp +decide only [List.length_set, hl]) only [sa, simprocAttr, hl, h1, h3]
  all_goals simp +decide (disch := first | omega | simp +decide only [List.length_set, hl]) only [sa, simprocAttr, hl, h1, h3, h4, g0]
theorem sn1_loop (m : Coh) (hok : Ok m) (Q : AExit → St → Prop)
    (hQr : ∀ st : St, rho st.s (.tmp 2) = .bool false → ¬ SoundK m m.caches.length → Q .ret st)
    (hQe : ∀ (st : St), st.s.length = 101 → SoundK m m.caches.length → Q (.exit 0) st) :
    ∀ (n : Nat) (st : St), (∃ k : Nat, SnK m k st ∧ SoundK m k ∧ k ≤ m.caches.length ∧ n = m.caches.length - k) → W ap (.loop snL1) st Q := by
  refine W_loop _ ?_
  rintro n st ⟨k, ⟨hl, h1, g0, hnx, h3⟩, hall, hk, hn⟩
  have hcc : cachT m = .imm false m.caches.length (m.caches.flatMap Cache.enc) := rfl
  have hc4 := hok.2.2.1
  by_cases hend : k = m.caches.length
  · have hlt : decide ((k : Int) < (m.caches.length : Int)) = false := decide_eq_false (by omega)
    rw [hend] at hall
    refine W_seq (W_seqn (W_region (fun k => by simp +decide (disch := first | omega | simp +decide only [List.length_set, hl]) only [sa, simprocAttr, hcc, h1, g0, h3, hlt]; rfl) ⟨rfl, W_fls (W_exit (.inr ⟨by simp, .inr ⟨by simp, hQe _ ?_ hall⟩⟩))⟩))
    simp +decide (disch := first | omega | simp +decide only [List.length_set, hl]) only [sa, simprocAttr, hl]
  have hlt : decide ((k : Int) < (m.caches.length : Int)) = true := decide_eq_true (by omega)
  have hkl : k < m.caches.length := by omega
  have hw2 : IntKind.i64.wrap ((k : Int) + 1) = ((k + 1 : Nat) : Int) := by rw [wrap_id (by omega)]; omega
  have hb : k * 1 + 1 ≤ m.caches.length := by omega
  have hcl := caches_len m
  have hcu := caches_cut m k hkl
  obtain ⟨v, hv, b, rfl, hiff⟩ := ref_right (cacheAt m k) (cacheAt_wf hok.1 k hkl) (hok.2.2.2 k hkl)
  obtain ⟨N, c45⟩ := hv.call ap45s (fun g => rfl)
  have q45 := c45 N (Nat.le_refl _)
  have bad : ¬ (RightP (cacheAt m k) ∧ SoundT m (cacheAt m k) (cacheAt m k).sets.length) → ¬ SoundK m m.caches.length := fun h h' => h (h' k hkl)
  refine W_seqn (W_seqn (W_region (fun k => by simp +decide (disch := first | omega | simp +decide only [List.length_set, hl]) only [sa, simprocAttr, hcc, h1, g0, h3, hlt]; rfl) ⟨rfl, W_tru (W_skip ⟨rfl, ?_⟩)⟩))
  refine W_seq (W_block ?_)
  cases b with
  | false =>
    refine W_seq (W_seqn (W_regionN ⟨N, by simp +decide (disch := first | omega | simp +decide only [List.length_set, hl]) only [sa, simprocAttr, hps, hcc, h1, g0, h3, hkl, hb, hcl, hcu, ap45s, p45s, n45s, q45]; rfl⟩ ⟨rfl, W_tru ?_⟩))
    refine W_seqn (W_region (fun k => by simp +decide (disch := first | omega | simp +decide only [List.length_set, hl]) only [sa, simprocAttr]; rfl) ⟨rfl, W_ret ?_⟩)
    simp only [reduceCtorEq, false_and, false_or, or_false, exists_false, exists_const, ne_eq, not_false_eq_true, true_and, implies_true]
    refine hQr _ ?_ (bad (fun h => by have := hiff.mpr h.1; cases this))
    simp +decide (disch := first | omega | simp +decide only [List.length_set, hl]) only [sa, simprocAttr]
  | true =>
    refine W_cut (fun t => SnK m k t) (W_seqn (W_regionN ⟨N, by simp +decide (disch := first | omega | simp +decide only [List.length_set, hl]) only [sa, simprocAttr, hps, hcc, h1, g0, h3, hkl, hb, hcl, hcu, ap45s, p45s, n45s, q45]; rfl⟩ ⟨rfl, W_fls (W_skip ⟨rfl, ?_, ?_, ?_, ?_, ?_⟩)⟩)) ?_
    case refine_4 => show 1 ≤ st.nx + 5 + 7; omega
    case refine_6 =>
      rintro st ⟨hl, h1, g0, hnx, h3⟩
      refine W_seqn (W_region (fun k => by simp +decide (disch := first | omega | simp +decide only [List.length_set, hl]) only [sa, simprocAttr]; rfl) ⟨rfl, W_block ?_⟩)
      refine sn2_loop m hok k hkl _ (fun st' h2 hno => ?_) (fun st' hS hw => ?_) ((cacheAt m k).sets.length - 0) _ ⟨0, ⟨?_, ?_, g0, ?_, ?_⟩, ?_, fun j hj => absurd hj (by omega), by omega, rfl⟩
      case refine_5 => show 1 ≤ st.nx + 1; omega
      case refine_1 =>
        simp only [reduceCtorEq, false_and, false_or, or_false, exists_false, exists_const, ne_eq, not_false_eq_true, true_and, implies_true]
        exact hQr _ h2 (bad (fun h => hno h.2))
      case refine_2 =>
        obtain ⟨hl, h1, g0, hnx, h3⟩ := hS
        refine .inl ⟨rfl, .inr (.inl ⟨by simp, .inl ⟨rfl, ?_⟩⟩)⟩
        refine W_region (fun k => by simp +decide (disch := first | omega | simp +decide only [List.length_set, hl]) only [sa, simprocAttr, h3, hw2]; rfl) ?_
        refine .inl ⟨rfl, m.caches.length - (k + 1), by omega, k + 1, ⟨?_, ?_, g0, ?_, ?_⟩, fun j hj => ?_, by omega, rfl⟩
        case refine_3 => show 1 ≤ st'.nx + 3; omega
        case refine_5 =>
          by_cases hjk : j = k
          · subst hjk; exact ⟨hiff.mp rfl, hw⟩
          · exact hall j (by omega)
        all_goals simp +decide (disch := first | omega | simp +decide only [List.length_set, hl]) only [sa, simprocAttr, hl, h1]
      all_goals simp +decide (disch := first | omega | simp +decide only [List.length_set, hl]) only [sa, simprocAttr, hl, h1, h3]
    all_goals simp +decide (disch := first | omega | simp +decide only [List.length_set, hl]) only [sa, simprocAttr, hps, hl, h1, h3, g0, hcc]
theorem ref_sound (m : Coh) (hok : Ok m) : ∃ v, E ap 16 [.agg [memT m, cachT m]] v ∧ ∃ b, v = .bool b ∧ (b = true ↔ SoundK m m.caches.length) := by
  refine E_bodyV (F := f16) rfl rfl rfl (P := fun v => ∃ b, v = .bool b ∧ (b = true ↔ SoundK m m.caches.length)) ?_
  generalize hs0 : (_ : List T) ++ List.replicate _ T.undef = s0
  have e0 : s0.length = 101 ∧ rho s0 (.tmp 0) = .agg [memT m, cachT m] := by subst hs0; exact ⟨rfl, rfl⟩
  clear hs0
  obtain ⟨hl, h0⟩ := e0
  have hleaf : allLeaf [memT m, cachT m] = true := rfl
  refine W_seqn (W_region (fun k => by simp +decide (disch := first | omega | simp +decide only [List.length_set, hl]) only [sa, simprocAttr, hps, h0, hleaf]; rfl) ⟨rfl, ?_⟩)
  refine W_seq (W_seqn (W_region (fun k => by simp +decide (disch := first | omega | simp +decide only [List.length_set, hl]) only [sa, simprocAttr]; rfl) ⟨rfl, W_block ?_⟩))
  refine sn1_loop m hok _ (fun st' h2 hno => ?_) (fun st' hl hw => ?_) (m.caches.length - 0) _ ⟨0, ⟨?_, ?_, ?_, ?_, ?_⟩, fun j hj => absurd hj (by omega), by omega, rfl⟩
  case refine_1 =>
    simp only [reduceCtorEq, false_and, false_or, or_false, exists_false, exists_const, ne_eq, not_false_eq_true, true_and, implies_true]
    exact ⟨rfl, fin_bool (F := f16) (b := false) (P := fun b => b = true ↔ SoundK m m.caches.length) rfl (bfalse hno) h2⟩
  case refine_2 =>
    refine .inl ⟨rfl, .inl ⟨rfl, W_seqn (W_region (fun k => by simp +decide (disch := first | omega | simp +decide only [List.length_set, hl]) only [sa, simprocAttr]; rfl) ⟨rfl, W_ret ?_⟩)⟩⟩
    refine ⟨rfl, fin_bool (F := f16) (b := true) (P := fun b => b = true ↔ SoundK m m.caches.length) rfl (btrue hw) ?_⟩
    simp +decide (disch := first | omega | simp +decide only [List.length_set, hl]) only [sa, simprocAttr, hl]
  all_goals first | (simp +decide (disch := first | omega | simp +decide only [List.length_set, hl]) only [sa, simprocAttr, hps, hl]; done) | (simp +decide (disch := first | omega | simp +decide only [List.length_set, hl]) only [sa, simprocAttr, hps, hl]; rfl)
end Go.Proofs.Ytabfinhkoihhfaa.Abs
