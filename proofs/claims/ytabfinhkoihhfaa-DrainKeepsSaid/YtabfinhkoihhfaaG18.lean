/- Words of other seats' texts, as they are used here: Vw Vw2 Snd. -/
import Derived.Test.YtabfinhkoihhfaaG17
namespace Go.Proofs.Ytabfinhkoihhfaa.Abs
open Go Go.RowKit Fn
set_option linter.unusedVariables false
set_option linter.unusedSimpArgs false
set_option linter.unnecessarySimpa false
set_option maxRecDepth 100000
set_option maxHeartbeats 4000000

def vputM (mem : List Int) (x : Way) : List Int := if x.state = 3 then (putM ⟨mem, []⟩ x.tag.toNat x.data).mem else mem
def viewW (l : List Way) (mem : List Int) : Nat → List Int
  | 0 => mem
  | w + 1 => vputM (viewW l mem w) (wayN l w)
def viewS (c : Cache) (mem : List Int) : Nat → List Int
  | 0 => mem
  | s + 1 => viewW (row c s) (viewS c mem s) (row c s).length
def viewK (m : Coh) : Nat → List Int
  | 0 => m.mem
  | k + 1 => viewS (cacheAt m k) (viewK m k) (cacheAt m k).sets.length
def viewM (m : Coh) : List Int := viewK m m.caches.length
def FitB (n : Nat) (l : List Int) : Prop := l.length = n ∧ ∀ y ∈ l, (Lit.int .u8 y).wf = true
theorem fitB_put {n : Nat} {l : List Int} (h : FitB n l) {x : Way} (hx : x.wf) : FitB n (vputM l x) := by
  unfold vputM
  split
  · refine ⟨by rw [putM_len]; exact h.1, ?_⟩
    unfold putM
    split
    · exact spl_bytes _ _ _ h.2 hx.2.2.1.2
    · exact h.2
  · exact h
theorem fitB_w {n : Nat} {mem : List Int} (h : FitB n mem) {l : List Way} (hl : ∀ x ∈ l, x.wf) : ∀ w, w ≤ l.length → FitB n (viewW l mem w)
  | 0, _ => h
  | w + 1, hw => fitB_put (fitB_w h hl w (by omega)) (wayN_wf hl (by omega))
theorem fitB_s {n : Nat} {mem : List Int} (h : FitB n mem) {c : Cache} (hc : c.wf) : ∀ s, s ≤ c.sets.length → FitB n (viewS c mem s)
  | 0, _ => h
  | s + 1, hs => fitB_w (fitB_s h hc s (by omega)) (row_wf hc s (by omega)).2 _ (Nat.le_refl _)
theorem fitB_k {m : Coh} (hm : m.wf) : ∀ k, k ≤ m.caches.length → FitB m.mem.length (viewK m k)
  | 0, _ => ⟨rfl, hm.1.2⟩
  | k + 1, hk => fitB_s (fitB_k hm k (by omega)) (cacheAt_wf hm k (by omega)) _ (Nat.le_refl _)
def vwL1 : ACode := match f21.body with | .seq _ (.seq _ (.seq (.seq _ (.block _ (.loop c))) _)) => c | _ => .skip
def vwL2 : ACode := match vwL1 with | .seq _ (.seq (.block _ (.seq _ (.block _ (.loop c)))) _) => c | _ => .skip
def vwL3 : ACode := match vwL2 with | .seq _ (.seq (.block _ (.seq _ (.block _ (.loop c)))) _) => c | _ => .skip
def VwS (m : Coh) (st : St) (mem : List Int) : Prop := st.s.length = 67 ∧ rho st.s (.tmp 1) = .ptr 0 0 ∧ st.g 0 = some [memT m, cachT m] ∧ 1 ≤ st.nx ∧ ∃ x, rho st.s (.tmp 3) = x ∧ ListAt (fun t => 1 ≤ t ∧ t < st.nx) st.g x (mem.flatMap u8T)
theorem ap34' : ap 34 = some f34 := rfl
theorem p34' : f34.pure = false := rfl
theorem n34' : f34.nat = none := rfl
theorem vw_put (mem : List Int) (n : Nat) (hf : FitB n mem) (hn : n ≤ 4096) (hmx : n ≤ maxLen) (w : Way) (hw : w.wf) (h3 : w.state = 3) (x : T) (g : Mem) (nx : Nat) (hx : ListAt (fun t => 1 ≤ t ∧ t < nx) g x (mem.flatMap u8T)) (hnx : 1 ≤ nx) :
    ∃ N x' y' g' nx', (∀ k, N ≤ k → runBody (ev ap k) f34 [.agg [x, .imm true 0 []], .int .u32 w.tag, .agg (w.data.flatMap u8T)] g nx = some (.agg [x', y'], g', nx')) ∧ ListAt (fun t => 1 ≤ t ∧ t < nx') g' x' ((vputM mem w).flatMap u8T) ∧ (∀ t, t < nx → g' t = g t) ∧ nx ≤ nx' ∧ allLeaf [x', y'] = true := by
  have htw := wf_u32 hw.2.1
  obtain ⟨ln, hln⟩ : ∃ ln : Nat, w.tag = (ln : Int) := ⟨w.tag.toNat, by omega⟩
  have hwf : (Coh.mk mem []).wf := ⟨⟨by have := hf.1; show mem.length ≤ _; omega, hf.2⟩, by show 0 ≤ maxLen; omega, fun y hy => by simp at hy⟩
  have hc : CohIn (· < nx) g x (.imm true 0 []) ⟨mem, []⟩ := ⟨hx.mono (fun t h => h.2) (fun _ _ => rfl), [], by simp only [List.flatMap_nil, UpL], .inl ⟨true, rfl⟩⟩
  obtain ⟨N, v, g', nx', q, x', y', rfl, h, hg, hle⟩ := put_run ⟨mem, []⟩ hwf (by have := hf.1; show mem.length ≤ 4096; omega) (by show 0 ≤ 4; omega) ln (by omega) w.data hw.2.2.1.1 x (.imm true 0 []) g nx hc
  rw [hln]
  have hvp : vputM mem w = (putM ⟨mem, []⟩ ln w.data).mem := by unfold vputM; rw [if_pos h3, hln, Int.toNat_natCast]
  rw [hvp]
  rcases h with ⟨_, h⟩ | ⟨h, rfl, rfl⟩
  · refine ⟨N, x', y', g', nx', q, h.coh.1.mono (fun t ht => ⟨by have := ht.1; omega, ht.2⟩) (fun _ _ => rfl), hg, hle, h.coh.leaf⟩
  · refine ⟨N, x', _, g', nx', q, ?_, hg, hle, hc.leaf⟩
    rw [show putM ⟨mem, []⟩ ln w.data = ⟨mem, []⟩ from if_neg h]
    exact hx.mono (fun t ht => ⟨ht.1, by have := ht.2; omega⟩) (fun t ht => hg t ht.2)
theorem leaf_one {x : T} (h : x.leaf = true) : x.cells = [x] := by cases x <;> first | rfl | (cases h)
theorem vw3_loop (m : Coh) (hok : Ok m) (k : Nat) (hk : k < m.caches.length) (s : Nat) (hs : s < (cacheAt m k).sets.length) (mem : List Int) (hfm : FitB m.mem.length mem) (Q : AExit → St → Prop)
    (hQe : ∀ st : St, VwS m st (viewW (row (cacheAt m k) s) mem (row (cacheAt m k) s).length) → rho st.s (.tmp 4) = .int .i64 (k : Int) → rho st.s (.tmp 5) = .int .i64 (s : Int) → Q (.exit 4) st) :
    ∀ (n : Nat) (st : St), (∃ w : Nat, VwS m st (viewW (row (cacheAt m k) s) mem w) ∧ rho st.s (.tmp 4) = .int .i64 (k : Int) ∧ rho st.s (.tmp 5) = .int .i64 (s : Int) ∧ rho st.s (.tmp 6) = .int .i64 (w : Int) ∧ w ≤ (row (cacheAt m k) s).length ∧ n = (row (cacheAt m k) s).length - w) → W ap (.loop vwL3) st Q := by
  refine W_loop _ ?_
  rintro n st ⟨w, ⟨hl, h1, g0, hnx, x, h3, hx⟩, h4, h5, h6, hw, hn⟩
  have hcw := cacheAt_wf hok.1 k hk
  have hrw := (row_wf hcw s hs).2
  have hfit := fit_row (hok.2.2.2 k hk) s hs
  have hcl := caches_len m
  have hcg := caches_get m k hk
  have hcc : cachT m = .imm false m.caches.length (m.caches.flatMap Cache.enc) := rfl
  have hsc : setsT (cacheAt m k) = .imm false (cacheAt m k).sets.length ((cacheAt m k).sets.flatMap (fun l => [rowT l])) := rfl
  rw [hsc] at hcg
  rw [hcc] at g0
  have hrl := rows_len (cacheAt m k)
  have hrg := rows_get (cacheAt m k) s hs
  have hrt : rowT (row (cacheAt m k) s) = .imm false (row (cacheAt m k) s).length ((row (cacheAt m k) s).flatMap Way.enc) := rfl
  rw [hrt] at hrg
  have hwl := enc_len (row (cacheAt m k) s) hrw
  have hwc := flat_cutM (f := Way.enc) (row (cacheAt m k) s) (fun w h => way_len (hrw w h)) w
  have hwy := fun h => wayN_wf (k := w) hrw h
  have hwe := fun h => wayN_eq (l := row (cacheAt m k) s) (k := w) h
  have hfw := fitB_w hfm hrw w hw
  have hv1 : viewW (row (cacheAt m k) s) mem (w + 1) = vputM (viewW (row (cacheAt m k) s) mem w) (wayN (row (cacheAt m k) s) w) := rfl
  have hS8 := (hok.2.2.2 k hk).1
  have hb : k * 1 + 1 ≤ m.caches.length := by omega
  have hb1 : s * 1 + 1 ≤ (cacheAt m k).sets.length := by omega
  have hmm := hok.2.1
  generalize (cacheAt m k).sets.flatMap (fun l => [rowT l]) = rows at *
  generalize m.caches.flatMap Cache.enc = ccs at *
  generalize row (cacheAt m k) s = l at *
  generalize (cacheAt m k).sets.length = S at *
  by_cases hend : w = l.length
  · subst hend
    have hlt : decide ((l.length : Int) < (l.length : Int)) = false := decide_eq_false (by omega)
    refine W_seq (W_seqn (W_region (fun k => by simp +decide (disch := first | omega | simp +decide only [List.length_set, hl]) only [sa, simprocAttr, h1, g0, h4, h5, h6, hk, hb, hcl, hcg, hs, hb1, hrl, hrg, hlt]; rfl) ⟨rfl, W_fls (W_exit (.inr ⟨by simp, .inr ⟨by simp, hQe _ ⟨?_, ?_, ?_, ?_, x, ?_, hx.mono (fun t ht => ?_) (fun t ht => ?_)⟩ ?_ ?_⟩⟩))⟩))
    case refine_4 => show 1 ≤ st.nx + 12; omega
    case refine_6 => exact ⟨ht.1, by show t < st.nx + 12; have := ht.2; omega⟩
    case refine_3 => rw [hcc]; simp +decide (disch := first | omega | simp +decide only [List.length_set, hl]) only [sa, simprocAttr, hps, g0]
    all_goals first | rfl | (simp +decide (disch := first | omega | simp +decide only [List.length_set, hl]) only [sa, simprocAttr, hps, hl, h1, h3, h4, h5]; done)
  have hlt : decide ((w : Int) < (l.length : Int)) = true := decide_eq_true (by omega)
  have hwlt : w < l.length := by omega
  have hwc := hwc hwlt
  have hwy := hwy hwlt
  rw [← hwe hwlt] at hwc
  have hb2 : w * 19 + 19 ≤ l.length * 19 := by omega
  have hw2 : IntKind.i64.wrap ((w : Int) + 1) = ((w + 1 : Nat) : Int) := by rw [wrap_id (by omega)]; omega
  have hyl := way_len hwy
  have hyf := leaf_ints _ (way_ints (wayN l w))
  have hys := way_state (wayN l w)
  have hyt := way_tag (wayN l w)
  have hyd : cut (wayN l w).enc (0 + 2) 16 = (wayN l w).data.flatMap u8T := way_data (wayN l w) hwy
  have hsp : splice zeroW.enc 0 (wayN l w).enc = (wayN l w).enc := splice_all (by rw [hyl]; rfl)
  have hzl : zeroW.enc.length = 19 := rfl
  have hzleaf := zenc_leaf
  have hput := vw_put (viewW l mem w) m.mem.length hfw hmm hok.1.1.1 (wayN l w) hwy
  have hvn : (wayN l w).state ≠ 3 → vputM (viewW l mem w) (wayN l w) = viewW l mem w := fun h => if_neg h
  have hbody : vwL3 = vwL3 := rfl
  conv at hbody => rhs; simp only [vwL3, vwL2, vwL1, f21]
  simp only [← zero_enc] at hbody
  rw [hbody]
  clear hbody
  generalize (wayN l w).enc = ow at *
  generalize zeroW.enc = zc at *
  generalize l.flatMap Way.enc = ws at *
  refine W_seqn (W_seqn (W_region (fun k => by simp +decide (disch := first | omega | simp +decide only [List.length_set, hl]) only [sa, simprocAttr, h1, g0, h4, h5, h6, hk, hb, hcl, hcg, hs, hb1, hrl, hrg, hlt]; rfl) ⟨rfl, W_tru (W_skip ⟨rfl, ?_⟩)⟩))
  refine W_seqn (W_block ?_)
  refine W_cut (fun t => VwS m t (viewW l mem w) ∧ rho t.s (.tmp 4) = .int .i64 (k : Int) ∧ rho t.s (.tmp 5) = .int .i64 (s : Int) ∧ rho t.s (.tmp 6) = .int .i64 (w : Int) ∧ ∃ p, 1 ≤ p ∧ p < t.nx ∧ rho t.s (.tmp 7) = .ptr p 0 ∧ t.g p = some ow) (W_region (fun k => by simp +decide (disch := first | omega | simp +decide only [List.length_set, hl]) only [sa, simprocAttr, hps, h1, g0, h4, h5, h6, hk, hb, hcl, hcg, hs, hb1, hrl, hrg, hwlt, hwl, hb2, hwc, hyl, hyf, hzl, hzleaf, hsp]; rfl) ⟨rfl, ⟨?_, ?_, ?_, ?_, x, ?_, hx.mono (fun t ht => ?_) (fun t ht => ?_)⟩, ?_, ?_, ?_, st.nx + 12 + 12, by omega, ?_, ?_, ?_⟩) ?_
  case refine_4 => show 1 ≤ st.nx + 12 + 14; omega
  case refine_6 => exact ⟨ht.1, by show t < st.nx + 12 + 14; have := ht.2; omega⟩
  case refine_3 => rw [hcc]; simp +decide (disch := first | omega | simp +decide only [List.length_set, hl]) only [sa, simprocAttr, hps, g0]
  case refine_7 => have := ht.2; simp +decide (disch := first | omega | simp +decide only [List.length_set, hl]) only [sa, simprocAttr, hps]
  case refine_11 => show st.nx + 12 + 12 < st.nx + 12 + 14; omega
  case refine_14 =>
    clear hl h1 g0 hnx h3 hx h4 h5 h6
    rintro st ⟨⟨hl, h1, g0, hnx, x, h3, hx⟩, h4, h5, h6, p, hp, hpn, h7, gp⟩
    have next : ∀ st' : St, VwS m st' (viewW l mem (w + 1)) → rho st'.s (.tmp 4) = .int .i64 (k : Int) → rho st'.s (.tmp 5) = .int .i64 (s : Int) → rho st'.s (.tmp 6) = .int .i64 (w : Int) → W ap (.region [⟨some 41, .mv (.tmp 6), none⟩, ⟨some 42, .bin .add (.tmp 41) (.con (.int .i64 1)), none⟩, ⟨some 6, .mv (.tmp 42), none⟩] []) st' (fun e s' => (e = .normal ∧ ∃ n', n' < n ∧ ∃ w : Nat, VwS m s' (viewW l mem w) ∧ rho s'.s (.tmp 4) = .int .i64 (k : Int) ∧ rho s'.s (.tmp 5) = .int .i64 (s : Int) ∧ rho s'.s (.tmp 6) = .int .i64 (w : Int) ∧ w ≤ l.length ∧ n' = l.length - w) ∨ (e ≠ .normal ∧ Q e s')) := by
      rintro st' ⟨hl, h1, g0, hnx, x, h3, hx⟩ h4 h5 h6
      refine W_region (fun k => by simp +decide (disch := first | omega | simp +decide only [List.length_set, hl]) only [sa, simprocAttr, h6, hw2]; rfl) ?_
      refine .inl ⟨rfl, l.length - (w + 1), by omega, w + 1, ⟨?_, ?_, g0, ?_, x, ?_, hx.mono (fun t ht => ⟨ht.1, ?_⟩) (fun _ _ => rfl)⟩, ?_, ?_, ?_, by omega, rfl⟩
      case refine_3 => show 1 ≤ st'.nx + 3; omega
      case refine_5 => show t < st'.nx + 3; have := ht.2; omega
      all_goals simp +decide (disch := first | omega | simp +decide only [List.length_set, hl]) only [sa, simprocAttr, hl, h1, h3, h4, h5]
    rw [hcc] at g0
    by_cases h33 : (wayN l w).state = 3
    · have e1 : ((wayN l w).state == 3) = true := by rw [h33]; rfl
      refine W_cut (fun t => t.s.length = 67 ∧ rho t.s (.tmp 1) = .ptr 0 0 ∧ t.g 0 = some [memT m, cachT m] ∧ rho t.s (.tmp 3) = x ∧ ListAt (fun i => 1 ≤ i ∧ i < t.nx) t.g x ((viewW l mem w).flatMap u8T) ∧ 1 ≤ t.nx ∧ rho t.s (.tmp 4) = .int .i64 (k : Int) ∧ rho t.s (.tmp 5) = .int .i64 (s : Int) ∧ rho t.s (.tmp 6) = .int .i64 (w : Int) ∧ rho t.s (.tmp 7) = .ptr p 0 ∧ t.g p = some ow ∧ rho t.s (.tmp 57) = .bool true) (W_region (fun k => by simp +decide (disch := first | omega | simp +decide only [List.length_set, hl]) only [sa, simprocAttr, hps, h7, gp, hyl, hys, e1]; rfl) ⟨rfl, ?_, ?_, ?_, ?_, ?_, ?_, ?_, ?_, ?_, ?_, ?_, ?_⟩) ?_
      case refine_3 => rw [hcc]; exact g0
      case refine_5 => exact hx.mono (fun t ht => ⟨ht.1, by show t < st.nx + 3; have := ht.2; omega⟩) (fun _ _ => rfl)
      case refine_6 => show 1 ≤ st.nx + 3; omega
      case refine_13 =>
        rintro t ⟨hl, h1, g0, h3, hx, hnx, h4, h5, h6, h7, gp, h57⟩
        obtain ⟨N, x', y', g', nx', q, hx', hg', hle, hlf⟩ := hput h33 x t.g (t.nx + 9) (hx.mono (fun i hi => ⟨hi.1, by have := hi.2; omega⟩) (fun _ _ => rfl)) (by omega)
        have q := q N (Nat.le_refl _)
        have hxl := hx.leaf
        have hxc := leaf_one hxl
        have hxa : ([x].all T.leaf) = true := by rw [List.all_cons, hxl]; rfl
        have hxs : splice [T.imm true 0 [], T.imm true 0 []] 0 [x] = [x, T.imm true 0 []] := rfl
        refine W_true h57 (W_regionN ⟨N, by simp +decide (disch := first | omega | simp +decide only [List.length_set, hl]) only [sa, simprocAttr, hps, h3, h7, gp, hxl, hxc, hxa, hxs, hyl, hyt, hyd, ap34', p34', n34', evI, q]; rfl⟩ (.inr (.inl ⟨by simp, rfl, next _ ⟨?_, ?_, ?_, ?_, x', ?_, ?_⟩ ?_ ?_ ?_⟩)))
        case refine_3 => have := hg' 0 (by omega); simp +decide (disch := first | omega | simp +decide only [List.length_set, hl]) only [sa, simprocAttr, hps, this, g0]
        case refine_4 => show 1 ≤ nx'; omega
        case refine_6 => rw [hv1]; exact hx'
        all_goals simp +decide (disch := first | omega | simp +decide only [List.length_set, hl]) only [sa, simprocAttr, hps, hl, h1, h4, h5, h6]
      all_goals simp +decide (disch := first | omega | simp +decide only [List.length_set, hl]) only [sa, simprocAttr, hps, hl, h1, h3, h4, h5, h6, h7, gp]
    · have e1 : ((wayN l w).state == 3) = false := by simpa using h33
      refine W_seqn (W_region (fun k => by simp +decide (disch := first | omega | simp +decide only [List.length_set, hl]) only [sa, simprocAttr, hps, h7, gp, hyl, hys, e1]; rfl) ⟨rfl, W_fls (W_skip (.inr (.inl ⟨by simp, rfl, next _ ⟨?_, ?_, ?_, ?_, x, ?_, ?_⟩ ?_ ?_ ?_⟩)))⟩)
      case refine_3 => rw [hcc]; exact g0
      case refine_4 => show 1 ≤ st.nx + 3; omega
      case refine_6 => rw [hv1, hvn h33]; exact hx.mono (fun t ht => ⟨ht.1, by show t < st.nx + 3; have := ht.2; omega⟩) (fun _ _ => rfl)
      all_goals simp +decide (disch := first | omega | simp +decide only [List.length_set, hl]) only [sa, simprocAttr, hps, hl, h1, h3, h4, h5, h6]
  all_goals simp +decide (disch := first | omega | simp +decide only [List.length_set, hl]) only [sa, simprocAttr, hps, hl, h1, h3, h4, h5, h6]
theorem VwS.step {m : Coh} {st : St} {mem : List Int} (h : VwS m st mem) {s' : List T} {d : Nat} (hl : s'.length = 67) (h1 : rho s' (.tmp 1) = rho st.s (.tmp 1)) (h3 : rho s' (.tmp 3) = rho st.s (.tmp 3)) : VwS m ⟨s', st.g, st.nx + d⟩ mem := by
  obtain ⟨_, a1, a2, a3, x, a4, a5⟩ := h
  exact ⟨hl, h1.trans a1, a2, by show 1 ≤ st.nx + d; omega, x, h3.trans a4, a5.mono (fun t ht => ⟨ht.1, by show t < st.nx + d; have := ht.2; omega⟩) (fun _ _ => rfl)⟩
theorem vw2_loop (m : Coh) (hok : Ok m) (k : Nat) (hk : k < m.caches.length) (mem : List Int) (hfm : FitB m.mem.length mem) (Q : AExit → St → Prop)
    (hQe : ∀ st : St, VwS m st (viewS (cacheAt m k) mem (cacheAt m k).sets.length) → rho st.s (.tmp 4) = .int .i64 (k : Int) → Q (.exit 2) st) :
    ∀ (n : Nat) (st : St), (∃ s : Nat, VwS m st (viewS (cacheAt m k) mem s) ∧ rho st.s (.tmp 4) = .int .i64 (k : Int) ∧ rho st.s (.tmp 5) = .int .i64 (s : Int) ∧ s ≤ (cacheAt m k).sets.length ∧ n = (cacheAt m k).sets.length - s) → W ap (.loop vwL2) st Q := by
  refine W_loop _ ?_
  rintro n st ⟨s, hV, h4, h5, hs, hn⟩
  have hV' := hV
  obtain ⟨hl, h1, g0, hnx, x, h3, hx⟩ := hV'
  have hcw := cacheAt_wf hok.1 k hk
  have hcl := caches_len m
  have hcg := caches_get m k hk
  have hcc : cachT m = .imm false m.caches.length (m.caches.flatMap Cache.enc) := rfl
  have hsc : setsT (cacheAt m k) = .imm false (cacheAt m k).sets.length ((cacheAt m k).sets.flatMap (fun l => [rowT l])) := rfl
  rw [hsc] at hcg
  rw [hcc] at g0
  have hS8 := (hok.2.2.2 k hk).1
  have hb : k * 1 + 1 ≤ m.caches.length := by omega
  have hfs := fitB_s hfm hcw s hs
  generalize (cacheAt m k).sets.flatMap (fun l => [rowT l]) = rows at *
  generalize m.caches.flatMap Cache.enc = ccs at *
  by_cases hend : s = (cacheAt m k).sets.length
  · have hlt : decide ((s : Int) < ((cacheAt m k).sets.length : Int)) = false := decide_eq_false (by omega)
    rw [hend] at hV
    refine W_seq (W_seqn (W_region (fun k => by simp +decide (disch := first | omega | simp +decide only [List.length_set, hl]) only [sa, simprocAttr, h1, g0, h4, h5, hk, hb, hcl, hcg, hlt]; rfl) ⟨rfl, W_fls (W_exit (.inr ⟨by simp, .inr ⟨by simp, hQe _ (hV.step ?_ ?_ ?_) ?_⟩⟩))⟩))
    all_goals simp +decide (disch := first | omega | simp +decide only [List.length_set, hl]) only [sa, simprocAttr, hl, h1, h3, h4, h5]
  have hlt : decide ((s : Int) < ((cacheAt m k).sets.length : Int)) = true := decide_eq_true (by omega)
  have hsl : s < (cacheAt m k).sets.length := by omega
  have hw2 : IntKind.i64.wrap ((s : Int) + 1) = ((s + 1 : Nat) : Int) := by rw [wrap_id (by omega)]; omega
  refine W_seqn (W_seqn (W_region (fun k => by simp +decide (disch := first | omega | simp +decide only [List.length_set, hl]) only [sa, simprocAttr, h1, g0, h4, h5, hk, hb, hcl, hcg, hlt]; rfl) ⟨rfl, W_tru (W_skip ⟨rfl, ?_⟩)⟩))
  refine W_seqn (W_block (W_seqn (W_region (fun k => by simp +decide (disch := first | omega | simp +decide only [List.length_set, hl]) only [sa, simprocAttr]; rfl) ⟨rfl, W_block ?_⟩)))
  refine vw3_loop m hok k hk s hsl (viewS (cacheAt m k) mem s) hfs _ (fun st' hV h4 h5 => ?_) ((row (cacheAt m k) s).length - 0) _ ⟨0, hV.step (d := 10) ?_ ?_ ?_, ?_, ?_, ?_, by omega, rfl⟩
  · have hV' := hV
    obtain ⟨hl, h1, g0, hnx, x, h3, hx⟩ := hV'
    refine .inl ⟨rfl, .inr (.inl ⟨by simp, rfl, ?_⟩)⟩
    refine W_region (fun k => by simp +decide (disch := first | omega | simp +decide only [List.length_set, hl]) only [sa, simprocAttr, h5, hw2]; rfl) ?_
    refine .inl ⟨rfl, (cacheAt m k).sets.length - (s + 1), by omega, s + 1, VwS.step (mem := viewS (cacheAt m k) mem (s + 1)) hV (d := 3) ?_ ?_ ?_, ?_, ?_, by omega, rfl⟩ <;> simp +decide (disch := first | omega | simp +decide only [List.length_set, hl]) only [sa, simprocAttr, hl, h1, h3, h4]
  all_goals simp +decide (disch := first | omega | simp +decide only [List.length_set, hl]) only [sa, simprocAttr, hl, h1, h3, h4, h5]
theorem vw1_loop (m : Coh) (hok : Ok m) (Q : AExit → St → Prop) (hQe : ∀ st : St, VwS m st (viewM m) → Q (.exit 0) st) :
    ∀ (n : Nat) (st : St), (∃ k : Nat, VwS m st (viewK m k) ∧ rho st.s (.tmp 4) = .int .i64 (k : Int) ∧ k ≤ m.caches.length ∧ n = m.caches.length - k) → W ap (.loop vwL1) st Q := by
  refine W_loop _ ?_
  rintro n st ⟨k, hV, h4, hk, hn⟩
  have hV' := hV
  obtain ⟨hl, h1, g0, hnx, x, h3, hx⟩ := hV'
  have hcc : cachT m = .imm false m.caches.length (m.caches.flatMap Cache.enc) := rfl
  have hc4 := hok.2.2.1
  by_cases hend : k = m.caches.length
  · have hlt : decide ((k : Int) < (m.caches.length : Int)) = false := decide_eq_false (by omega)
    rw [hend] at hV
    refine W_seq (W_seqn (W_region (fun k => by simp +decide (disch := first | omega | simp +decide only [List.length_set, hl]) only [sa, simprocAttr, h1, g0, h4, hcc, hlt]; rfl) ⟨rfl, W_fls (W_exit (.inr ⟨by simp, .inr ⟨by simp, hQe _ (hV.step ?_ ?_ ?_)⟩⟩))⟩))
    all_goals simp +decide (disch := first | omega | simp +decide only [List.length_set, hl]) only [sa, simprocAttr, hl, h1, h3, h4]
  have hlt : decide ((k : Int) < (m.caches.length : Int)) = true := decide_eq_true (by omega)
  have hkl : k < m.caches.length := by omega
  have hw2 : IntKind.i64.wrap ((k : Int) + 1) = ((k + 1 : Nat) : Int) := by rw [wrap_id (by omega)]; omega
  refine W_seqn (W_seqn (W_region (fun k => by simp +decide (disch := first | omega | simp +decide only [List.length_set, hl]) only [sa, simprocAttr, h1, g0, h4, hcc, hlt]; rfl) ⟨rfl, W_tru (W_skip ⟨rfl, ?_⟩)⟩))
  refine W_seqn (W_block (W_seqn (W_region (fun k => by simp +decide (disch := first | omega | simp +decide only [List.length_set, hl]) only [sa, simprocAttr]; rfl) ⟨rfl, W_block ?_⟩)))
  refine vw2_loop m hok k hkl (viewK m k) (fitB_k hok.1 k hk) _ (fun st' hV h4 => ?_) ((cacheAt m k).sets.length - 0) _ ⟨0, hV.step (d := 6) ?_ ?_ ?_, ?_, ?_, by omega, rfl⟩
  · have hV' := hV
    obtain ⟨hl, h1, g0, hnx, x, h3, hx⟩ := hV'
    refine .inl ⟨rfl, .inr (.inl ⟨by simp, rfl, ?_⟩)⟩
    refine W_region (fun k => by simp +decide (disch := first | omega | simp +decide only [List.length_set, hl]) only [sa, simprocAttr, h4, hw2]; rfl) ?_
    refine .inl ⟨rfl, m.caches.length - (k + 1), by omega, k + 1, VwS.step (mem := viewK m (k + 1)) hV (d := 3) ?_ ?_ ?_, ?_, by omega, rfl⟩ <;> simp +decide (disch := first | omega | simp +decide only [List.length_set, hl]) only [sa, simprocAttr, hl, h1, h3]
  all_goals simp +decide (disch := first | omega | simp +decide only [List.length_set, hl]) only [sa, simprocAttr, hl, h1, h3, h4]
theorem ref_view (m : Coh) (hok : Ok m) : ∃ v, E ap 21 [.agg [memT m, cachT m]] v ∧ ∃ f, v = .imm f (viewM m).length ((viewM m).flatMap u8T) := by
  refine E_bodyV (F := f21) rfl rfl rfl (P := fun v => ∃ f, v = .imm f (viewM m).length ((viewM m).flatMap u8T)) ?_
  generalize hs0 : (_ : List T) ++ List.replicate _ T.undef = s0
  have e0 : s0.length = 67 ∧ rho s0 (.tmp 0) = .agg [memT m, cachT m] := by subst hs0; exact ⟨rfl, rfl⟩
  clear hs0
  obtain ⟨hl, h0⟩ := e0
  have hleaf : allLeaf [memT m, cachT m] = true := rfl
  have hcut : cut [memT m, cachT m] 0 2 = [memT m, cachT m] := rfl
  refine W_cut (fun st => st.s.length = 67 ∧ rho st.s (.tmp 1) = .ptr 0 0 ∧ st.g 0 = some [memT m, cachT m] ∧ st.nx = 2) (W_region (fun k => by simp +decide (disch := first | omega | simp +decide only [List.length_set, hl]) only [sa, simprocAttr, hps, h0, hleaf]; rfl) ⟨rfl, ?_⟩) ?_
  · refine ⟨?_, ?_, ?_, rfl⟩ <;> simp +decide (disch := first | omega | simp +decide only [List.length_set, hl]) only [sa, simprocAttr, hps, hl]
  rintro st ⟨hl, h1, g0, hnx⟩
  have hbl := u8_len m.mem
  have hcl := caches_len m
  have hmm := hok.2.1
  have hc4 := hok.2.2.1
  obtain ⟨N, v, g', nx', q, A, B, rfl, hA1, hB1, hA2, hB2, hAB, gA, gB, hg', hnx'⟩ := copied40 (m.mem.flatMap u8T) (m.caches.flatMap Cache.enc) (by omega) (by omega) (u8_leaf _) (flat_leaf (f := Cache.enc) (fun _ => rfl) _) (memT m) (cachT m) st.g (st.nx + 4) (.inl ⟨false, memT_is m⟩) (.inl ⟨false, cachT_is m⟩)
  have q := q N (Nat.le_refl _)
  refine W_cut (fun t => VwS m t m.mem) (W_regionN ⟨N, by simp +decide (disch := first | omega | simp +decide only [List.length_set, hl]) only [sa, simprocAttr, hps, h1, g0, hcut, ap33, p33, n33, evI, q]; rfl⟩ ⟨rfl, ?_, ?_, ?_, ?_, .own A 0 (m.mem.flatMap u8T).length 1, ?_, .inr ⟨A, ⟨by omega, ?_⟩, rfl, ?_⟩⟩) ?_
  case refine_3 => have := hg' 0 (by omega); simp +decide (disch := first | omega | simp +decide only [List.length_set, hl]) only [sa, simprocAttr, hps, this, g0]
  case refine_4 => show 1 ≤ nx'; omega
  case refine_6 => exact hA2
  case refine_7 => exact gA
  case refine_8 =>
    intro st hV
    have hV' := hV
    obtain ⟨hl, h1, g0, hnx, x, h3, hx⟩ := hV'
    refine W_seq (W_seqn (W_region (fun k => by simp +decide (disch := first | omega | simp +decide only [List.length_set, hl]) only [sa, simprocAttr]; rfl) ⟨rfl, W_block ?_⟩))
    refine vw1_loop m hok _ (fun st' hV => ?_) (m.caches.length - 0) _ ⟨0, VwS.step (mem := viewK m 0) hV (d := 1) ?_ ?_ ?_, ?_, by omega, rfl⟩
    · obtain ⟨hl, h1, g0, hnx, x, h3, hx⟩ := hV
      refine .inl ⟨rfl, .inl ⟨rfl, ?_⟩⟩
      obtain ⟨f, ids, e1, p1⟩ := hx.frz (d := 10) (nx := st'.nx + 2) (frzAll_int _ (u8_ints _))
      rw [u8_len] at e1
      refine W_seqn (W_region (fun k => by simp +decide (disch := first | omega | simp +decide only [List.length_set, hl]) only [sa, simprocAttr, h3]; rfl) ⟨rfl, W_ret ?_⟩)
      refine ⟨rfl, _, ⟨f, rfl⟩, x, ids, ?_, e1⟩
      refine res_one (F := f21) rfl ?_
      simp +decide (disch := first | omega | simp +decide only [List.length_set, hl]) only [sa, simprocAttr, hl]
    all_goals simp +decide (disch := first | omega | simp +decide only [List.length_set, hl]) only [sa, simprocAttr, hl, h1, h3]
  all_goals simp +decide (disch := first | omega | simp +decide only [List.length_set, hl]) only [sa, simprocAttr, hps, hl, h1]
theorem conf16 {d : List Int} (hl : d.length = 16) (h : ∀ y ∈ d, (Lit.int .u8 y).wf = true) : conf [some .u8, some .u8, some .u8, some .u8, some .u8, some .u8, some .u8, some .u8, some .u8, some .u8, some .u8, some .u8, some .u8, some .u8, some .u8, some .u8] (d.flatMap u8T) = true := by
  have hd := conf_u8 d [] [] h
  rw [hl] at hd
  have e : conf (List.replicate 16 (some .u8) ++ []) (d.flatMap (fun n => [T.int .u8 n]) ++ []) = true := by rw [hd]; rfl
  rw [List.append_nil, List.append_nil] at e
  exact e
theorem eq16 (d d' : List Int) : eqL (d.flatMap u8T) (d'.flatMap u8T) = true ↔ d = d' := by
  constructor
  · intro h
    rcases eqL_asInt _ _ h with h | ⟨x, hx, h⟩
    · exact map_some_inj (by rw [← dataT_asInt, ← dataT_asInt]; exact h)
    · obtain ⟨k, n, e⟩ := u8_ints d x hx
      exact absurd e (h k n)
  · rintro rfl
    exact eqL_ints _ (u8_ints _)
def stL (m : Coh) (ln : Nat) : List Int := (List.range m.caches.length).map fun (j : Nat) => stateOf m (j : Int) ln
def SoundX (m : Coh) (x : Way) : Prop := x.state = 0 ∨ (x.tag.toNat * 16 + 16 ≤ m.mem.length ∧ (x.state = 3 ∨ x.data = bytesM m x.tag.toNat) ∧ LegalP (stL m x.tag.toNat))
def SoundW (m : Coh) (l : List Way) (n : Nat) : Prop := ∀ w, w < n → SoundX m (wayN l w)
def SoundT (m : Coh) (c : Cache) (n : Nat) : Prop := ∀ s, s < n → SoundW m (row c s) (row c s).length
def SoundK (m : Coh) (n : Nat) : Prop := ∀ k, k < n → RightP (cacheAt m k) ∧ SoundT m (cacheAt m k) (cacheAt m k).sets.length
theorem stL_len (m : Coh) (ln : Nat) : (stL m ln).length = m.caches.length := by unfold stL; rw [List.length_map, List.length_range]
theorem stL_take (m : Coh) (ln j : Nat) (h : j < m.caches.length) : (lgT (stL m ln)).take (j + 1) = (lgT (stL m ln)).take j ++ [T.int .i64 (stateOf m (j : Int) ln)] := by
  have e : (lgT (stL m ln))[j]? = some (T.int .i64 (stateOf m (j : Int) ln)) := by
    unfold lgT stL
    rw [List.getElem?_map, List.getElem?_map, List.getElem?_range h]; rfl
  rw [List.take_add_one, e]; rfl
theorem lgT_ints (L : List Int) : ∀ x ∈ lgT L, ∃ k n, x = .int k n := fun x hx => by
  obtain ⟨n, _, e⟩ := List.mem_map.mp hx
  exact ⟨_, _, e.symm⟩
def snL1 : ACode := match f16.body with | .seq _ (.seq (.seq _ (.block _ (.loop c))) _) => c | _ => .skip
def snL2 : ACode := match snL1 with | .seq _ (.seq (.block _ (.seq _ (.seq _ (.block _ (.loop c))))) _) => c | _ => .skip
def snL3 : ACode := match snL2 with | .seq _ (.seq (.block _ (.seq _ (.block _ (.loop c)))) _) => c | _ => .skip
def snRest : ACode := match snL3 with | .seq _ (.seq (.block _ (.seq _ (.seq _ (.seq _ c)))) _) => c | _ => .skip
def snL4 : ACode := match snRest with | .seq _ (.seq (.seq _ (.block _ (.loop c))) _) => c | _ => .skip
def SnS (m : Coh) (k i w : Nat) (st : St) : Prop := st.s.length = 101 ∧ rho st.s (.tmp 1) = .ptr 0 0 ∧ st.g 0 = some [memT m, cachT m] ∧ 1 ≤ st.nx ∧ rho st.s (.tmp 3) = .int .i64 (k : Int) ∧ rho st.s (.tmp 4) = .int .i64 (i : Int) ∧ rho st.s (.tmp 5) = .int .i64 (w : Int)
def SnC (x : Way) (p : Nat) (st : St) : Prop := rho st.s (.tmp 6) = .ptr p 0 ∧ st.g p = some x.enc ∧ 1 ≤ p ∧ p < st.nx
def SnA (m : Coh) (ln p j : Nat) (st : St) : Prop := ∃ t, rho st.s (.tmp 7) = .own t 0 j 1 ∧ st.g t = some ((lgT (stL m ln)).take j) ∧ p < t ∧ t < st.nx
theorem ap24s : ap 26 = some f26 := rfl
theorem p24s : f26.pure = true := rfl
theorem n24s : f26.nat = none := rfl
theorem sn4_loop (m : Coh) (hok : Ok m) (k i w : Nat) (x : Way) (hx : x.wf) (ln : Nat) (hln : x.tag = (ln : Int)) (hlb : ln ≤ 4294967295) (p : Nat) (Q : AExit → St → Prop)
    (hQe : ∀ st : St, SnS m k i w st → SnC x p st → SnA m ln p m.caches.length st → Q (.exit 6) st) :
    ∀ (n : Nat) (st : St), (∃ j : Nat, SnS m k i w st ∧ SnC x p st ∧ SnA m ln p j st ∧ rho st.s (.tmp 8) = .int .i64 (j : Int) ∧ j ≤ m.caches.length ∧ n = m.caches.length - j) → W ap (.loop snL4) st Q := by
  refine W_loop _ ?_
  rintro n st ⟨j, ⟨hl, h1, g0, hnx, h3, h4, h5⟩, ⟨h6, gp, hp, hpn⟩, ⟨t, h7, gt, hpt, htn⟩, h8, hj, hn⟩
  have hcc : cachT m = .imm false m.caches.length (m.caches.flatMap Cache.enc) := rfl
  have hc4 := hok.2.2.1
  by_cases hend : j = m.caches.length
  · have hlt : decide ((j : Int) < (m.caches.length : Int)) = false := decide_eq_false (by omega)
    rw [hend] at gt h7
    refine W_seq (W_seqn (W_region (fun k => by simp +decide (disch := first | omega | simp +decide only [List.length_set, hl]) only [sa, simprocAttr, h1, g0, h8, hcc, hlt]; rfl) ⟨rfl, W_fls (W_exit (.inr ⟨by simp, .inr ⟨by simp, hQe _ ⟨?_, ?_, ?_, ?_, ?_, ?_, ?_⟩ ⟨?_, ?_, hp, ?_⟩ ⟨t, ?_, ?_, hpt, ?_⟩⟩⟩))⟩))
    case refine_4 => show 1 ≤ st.nx + 5; omega
    case refine_10 => show p < st.nx + 5; omega
    case refine_13 => show t < st.nx + 5; omega
    case refine_3 => exact g0
    case refine_9 => exact gp
    case refine_12 => exact gt
    all_goals simp +decide (disch := first | omega | simp +decide only [List.length_set, hl]) only [sa, simprocAttr, hl, h1, h3, h4, h5, h6, h7]
  have hlt : decide ((j : Int) < (m.caches.length : Int)) = true := decide_eq_true (by omega)
  have hjl : j < m.caches.length := by omega
  have hw2 : IntKind.i64.wrap ((j : Int) + 1) = ((j + 1 : Nat) : Int) := by rw [wrap_id (by omega)]; omega
  have hcut : cut [memT m, cachT m] 0 2 = [memT m, cachT m] := rfl
  obtain ⟨N, q⟩ := (ref_state m hok.1 (j : Int) ln hlb).call ap24s (fun g => rfl)
  have q24 := q N (Nat.le_refl _)
  have hyl := way_len hx
  have hyt := way_tag x
  rw [hln] at hyt
  have htk := stL_take m ln j hjl
  have hcl : ((lgT (stL m ln)).take j).length = j := by rw [List.length_take]; unfold lgT; rw [List.length_map, stL_len]; omega
  have hclf : allLeaf ((lgT (stL m ln)).take j) = true := leaf_ints _ (fun y hy => lgT_ints _ y (List.mem_of_mem_take hy))
  have hcc2 : cut ((lgT (stL m ln)).take j) 0 (j * 1) = (lgT (stL m ln)).take j := cut_all (by omega)
  have hr1 : (j + 1) * 8 ≤ 549755813888 := by omega
  have hr2 : j + 1 ≤ 549755813888 := by omega
  have hle : j * 1 ≤ j := by omega
  have hroom : room = 549755813888 := rfl
  have hsp : splice [T.int .i64 0] 0 [T.int .i64 (stateOf m (j : Int) ln)] = [T.int .i64 (stateOf m (j : Int) ln)] := rfl
  have hct1 : cut [T.int .i64 (stateOf m (j : Int) ln)] 0 1 = [T.int .i64 (stateOf m (j : Int) ln)] := rfl
  have hpt' : p ≠ t := by omega
  have h0t : 0 ≠ t := by omega
  refine W_seqn (W_seqn (W_region (fun k => by simp +decide (disch := first | omega | simp +decide only [List.length_set, hl]) only [sa, simprocAttr, h1, g0, h8, hcc, hlt]; rfl) ⟨rfl, W_tru (W_skip ⟨rfl, ?_⟩)⟩))
  generalize (lgT (stL m ln)).take j = cells at *
  generalize hss : stateOf m (j : Int) ln = ss at *
  generalize hxe : x.enc = ow at *
  refine W_seqn (W_block (W_regionN ⟨N, by simp +decide (disch := first | omega | simp +decide only [List.length_set, hl]) only [sa, simprocAttr, hps, cellsOf, h1, g0, hcut, h6, h7, h8, gp, gt, hyl, hyt, ap24s, p24s, n24s, q24, hcl, hclf, hcc2, hr1, hr2, hle, hroom, hsp, hct1]; rfl⟩ (.inr (.inl ⟨by simp, rfl, ?_⟩))))
  refine W_region (fun k => by simp +decide (disch := first | omega | simp +decide only [List.length_set, hl]) only [sa, simprocAttr, h8, hw2]; rfl) ?_
  refine .inl ⟨rfl, m.caches.length - (j + 1), by omega, j + 1, ⟨?_, ?_, ?_, ?_, ?_, ?_, ?_⟩, ⟨?_, ?_, hp, ?_⟩, ⟨st.nx + 5 + 7, ?_, ?_, ?_, ?_⟩, ?_, by omega, rfl⟩
  case refine_4 => show 1 ≤ st.nx + 5 + 9 + 3; omega
  case refine_10 => show p < st.nx + 5 + 9 + 3; omega
  case refine_13 => omega
  case refine_14 => show st.nx + 5 + 7 < st.nx + 5 + 9 + 3; omega
  case refine_12 => rw [htk]; simp +decide (disch := first | omega | simp +decide only [List.length_set, hl]) only [sa, simprocAttr, hps]
  all_goals simp +decide (disch := first | omega | simp +decide only [List.length_set, hl]) only [sa, simprocAttr, hps, hl, h1, h3, h4, h5, h6, g0, gp, hxe]
end Go.Proofs.Ytabfinhkoihhfaa.Abs
