/- What all memory says: the given function's walk. -/
import Derived.Test.YtdkaclgfkgcmpaaLgl
namespace Go.Proofs.Ytdkaclgfkgcmpaa.Abs
open Go Go.RowKit Fn
set_option linter.unusedVariables false
set_option linter.unusedSimpArgs false
set_option linter.unnecessarySimpa false
set_option maxRecDepth 100000
set_option maxHeartbeats 1000000

/-- A way's bytes over memory, if it owns changed ones. -/
def vputM (mem : List Int) (x : Way) : List Int := if x.state = 3 then (putM ⟨mem, []⟩ x.tag.toNat x.data).mem else mem
def viewW (l : List Way) (mem : List Int) : Nat → List Int
  | 0 => mem
  | w + 1 => vputM (viewW l mem w) (wayN l w)
def viewS (c : Cache) (mem : List Int) : Nat → List Int
  | 0 => mem
  | s + 1 => viewW (row c s) (viewS c mem s) (row c s).length
def viewK (m : Coh) : Nat → List Int
  | 0 => m.mem
  | k + 1 => viewS (cacheAt m k) (viewK m k) (cacheAt m k).sets.length
def viewM (m : Coh) : List Int := viewK m m.caches.length
def FitB (n : Nat) (l : List Int) : Prop := l.length = n ∧ ∀ y ∈ l, (Lit.int .u8 y).wf = true
theorem fitB_put {n : Nat} {l : List Int} (h : FitB n l) {x : Way} (hx : x.wf) : FitB n (vputM l x) := by
  unfold vputM
  split
  · refine ⟨by rw [putM_len]; exact h.1, ?_⟩
    unfold putM
    split
    · exact spl_bytes _ _ _ h.2 hx.2.2.1.2
    · exact h.2
  · exact h
theorem fitB_w {n : Nat} {mem : List Int} (h : FitB n mem) {l : List Way} (hl : ∀ x ∈ l, x.wf) : ∀ w, w ≤ l.length → FitB n (viewW l mem w)
  | 0, _ => h
  | w + 1, hw => fitB_put (fitB_w h hl w (by omega)) (wayN_wf hl (by omega))
theorem fitB_s {n : Nat} {mem : List Int} (h : FitB n mem) {c : Cache} (hc : c.wf) : ∀ s, s ≤ c.sets.length → FitB n (viewS c mem s)
  | 0, _ => h
  | s + 1, hs => fitB_w (fitB_s h hc s (by omega)) (row_wf hc s (by omega)).2 _ (Nat.le_refl _)
theorem fitB_k {m : Coh} (hm : m.wf) : ∀ k, k ≤ m.caches.length → FitB m.mem.length (viewK m k)
  | 0, _ => ⟨rfl, hm.1.2⟩
  | k + 1, hk => fitB_s (fitB_k hm k (by omega)) (cacheAt_wf hm k (by omega)) _ (Nat.le_refl _)
def vwL1 : ACode := match f26.body with | .seq _ (.seq _ (.seq (.seq _ (.block _ (.loop c))) _)) => c | _ => .skip
def vwL2 : ACode := match vwL1 with | .seq _ (.seq (.block _ (.seq _ (.block _ (.loop c)))) _) => c | _ => .skip
def vwL3 : ACode := match vwL2 with | .seq _ (.seq (.block _ (.seq _ (.block _ (.loop c)))) _) => c | _ => .skip
def VwS (m : Coh) (st : St) (mem : List Int) : Prop := st.s.length = 67 ∧ rho st.s (.tmp 1) = .ptr 0 0 ∧ st.g 0 = some [memT m, cachT m] ∧ 1 ≤ st.nx ∧ ∃ x, rho st.s (.tmp 3) = x ∧ ListAt (fun t => 1 ≤ t ∧ t < st.nx) st.g x (mem.flatMap u8T)
theorem ap40' : ap 40 = some f40 := rfl
theorem p40' : f40.pure = false := rfl
theorem n40' : f40.nat = none := rfl
theorem vw_put (mem : List Int) (n : Nat) (hf : FitB n mem) (hn : n ≤ 1024) (hmx : n ≤ maxLen) (w : Way) (hw : w.wf) (h3 : w.state = 3) (x : T) (g : Mem) (nx : Nat) (hx : ListAt (fun t => 1 ≤ t ∧ t < nx) g x (mem.flatMap u8T)) (hnx : 1 ≤ nx) :
    ∃ N x' y' g' nx', (∀ k, N ≤ k → runBody (ev ap k) f40 [.agg [x, .imm true 0 []], .int .u32 w.tag, .agg (w.data.flatMap u8T)] g nx = some (.agg [x', y'], g', nx')) ∧ ListAt (fun t => 1 ≤ t ∧ t < nx') g' x' ((vputM mem w).flatMap u8T) ∧ (∀ t, t < nx → g' t = g t) ∧ nx ≤ nx' ∧ allLeaf [x', y'] = true := by
  have htw := wf_u32 hw.2.1
  obtain ⟨ln, hln⟩ : ∃ ln : Nat, w.tag = (ln : Int) := ⟨w.tag.toNat, by omega⟩
  have hwf : (Coh.mk mem []).wf := ⟨⟨by have := hf.1; show mem.length ≤ _; omega, hf.2⟩, by show 0 ≤ maxLen; omega, fun y hy => by simp at hy⟩
  have hc : CohIn (· < nx) g x (.imm true 0 []) ⟨mem, []⟩ := ⟨hx.mono (fun t h => h.2) (fun _ _ => rfl), [], by simp only [List.flatMap_nil, UpL], .inl ⟨true, rfl⟩⟩
  obtain ⟨N, v, g', nx', q, x', y', rfl, h, hg, hle⟩ := put_run ⟨mem, []⟩ hwf (by have := hf.1; show mem.length ≤ 1024; omega) (by show 0 ≤ 4; omega) ln (by omega) w.data hw.2.2.1.1 x (.imm true 0 []) g nx hc
  rw [hln]
  have hvp : vputM mem w = (putM ⟨mem, []⟩ ln w.data).mem := by unfold vputM; rw [if_pos h3, hln, Int.toNat_natCast]
  rw [hvp]
  rcases h with ⟨_, h⟩ | ⟨h, rfl, rfl⟩
  · refine ⟨N, x', y', g', nx', q, h.coh.1.mono (fun t ht => ⟨by have := ht.1; omega, ht.2⟩) (fun _ _ => rfl), hg, hle, h.coh.leaf⟩
  · refine ⟨N, x', _, g', nx', q, ?_, hg, hle, hc.leaf⟩
    rw [show putM ⟨mem, []⟩ ln w.data = ⟨mem, []⟩ from if_neg h]
    exact hx.mono (fun t ht => ⟨ht.1, by have := ht.2; omega⟩) (fun t ht => hg t ht.2)
theorem leaf_one {x : T} (h : x.leaf = true) : x.cells = [x] := by cases x <;> first | rfl | (cases h)
theorem vw3_loop (m : Coh) (hok : Ok m) (k : Nat) (hk : k < m.caches.length) (s : Nat) (hs : s < (cacheAt m k).sets.length) (mem : List Int) (hfm : FitB m.mem.length mem) (Q : AExit → St → Prop)
    (hQe : ∀ st : St, VwS m st (viewW (row (cacheAt m k) s) mem (row (cacheAt m k) s).length) → rho st.s (.tmp 4) = .int .i64 (k : Int) → rho st.s (.tmp 5) = .int .i64 (s : Int) → Q (.exit 4) st) :
    ∀ (n : Nat) (st : St), (∃ w : Nat, VwS m st (viewW (row (cacheAt m k) s) mem w) ∧ rho st.s (.tmp 4) = .int .i64 (k : Int) ∧ rho st.s (.tmp 5) = .int .i64 (s : Int) ∧ rho st.s (.tmp 6) = .int .i64 (w : Int) ∧ w ≤ (row (cacheAt m k) s).length ∧ n = (row (cacheAt m k) s).length - w) → W ap (.loop vwL3) st Q := by
  refine W_loop _ ?_
  rintro n st ⟨w, ⟨hl, h1, g0, hnx, x, h3, hx⟩, h4, h5, h6, hw, hn⟩
  have hcw := cacheAt_wf hok.1 k hk
  have hrw := (row_wf hcw s hs).2
  have hfit := fit_row (hok.2.2.2 k hk) s hs
  have hcl := caches_len m
  have hcg := caches_get m k hk
  have hcc : cachT m = .imm false m.caches.length (m.caches.flatMap Cache.enc) := rfl
  have hsc : setsT (cacheAt m k) = .imm false (cacheAt m k).sets.length ((cacheAt m k).sets.flatMap (fun l => [rowT l])) := rfl
  rw [hsc] at hcg
  rw [hcc] at g0
  have hrl := rows_len (cacheAt m k)
  have hrg := rows_get (cacheAt m k) s hs
  have hrt : rowT (row (cacheAt m k) s) = .imm false (row (cacheAt m k) s).length ((row (cacheAt m k) s).flatMap Way.enc) := rfl
  rw [hrt] at hrg
  have hwl := enc_len (row (cacheAt m k) s) hrw
  have hwc := flat_cutM (f := Way.enc) (row (cacheAt m k) s) (fun w h => way_len (hrw w h)) w
  have hwy := fun h => wayN_wf (k := w) hrw h
  have hwe := fun h => wayN_eq (l := row (cacheAt m k) s) (k := w) h
  have hfw := fitB_w hfm hrw w hw
  have hv1 : viewW (row (cacheAt m k) s) mem (w + 1) = vputM (viewW (row (cacheAt m k) s) mem w) (wayN (row (cacheAt m k) s) w) := rfl
  have hS8 := (hok.2.2.2 k hk).1
  have hb : k * 1 + 1 ≤ m.caches.length := by omega
  have hb1 : s * 1 + 1 ≤ (cacheAt m k).sets.length := by omega
  have hmm := hok.2.1
  generalize (cacheAt m k).sets.flatMap (fun l => [rowT l]) = rows at *
  generalize m.caches.flatMap Cache.enc = ccs at *
  generalize row (cacheAt m k) s = l at *
  generalize (cacheAt m k).sets.length = S at *
  by_cases hend : w = l.length
  · subst hend
    have hlt : decide ((l.length : Int) < (l.length : Int)) = false := decide_eq_false (by omega)
    refine W_seq (W_seqn (W_region (fun k => by simp (decide := true) (disch := first | omega | simp (decide := true) only [List.length_set, hl]) only [sims, autos, simprocAttr, h1, g0, h4, h5, h6, hk, hb, hcl, hcg, hs, hb1, hrl, hrg, hlt]; rfl) ⟨rfl, W_fls (W_exit (.inr ⟨by simp, .inr ⟨by simp, hQe _ ⟨?_, ?_, ?_, ?_, x, ?_, hx.mono (fun t ht => ?_) (fun t ht => ?_)⟩ ?_ ?_⟩⟩))⟩))
    case refine_4 => show 1 ≤ st.nx + 12; omega
    case refine_6 => exact ⟨ht.1, by show t < st.nx + 12; have := ht.2; omega⟩
    case refine_3 => rw [hcc]; simp (decide := true) (disch := first | omega | simp (decide := true) only [List.length_set, hl]) only [sims, autos, simprocAttr, hps, g0]
    all_goals first | rfl | (simp (decide := true) (disch := first | omega | simp (decide := true) only [List.length_set, hl]) only [sims, autos, simprocAttr, hps, hl, h1, h3, h4, h5]; done)
  have hlt : decide ((w : Int) < (l.length : Int)) = true := decide_eq_true (by omega)
  have hwlt : w < l.length := by omega
  have hwc := hwc hwlt
  have hwy := hwy hwlt
  rw [← hwe hwlt] at hwc
  have hb2 : w * 19 + 19 ≤ l.length * 19 := by omega
  have hw2 : IntKind.i64.wrap ((w : Int) + 1) = ((w + 1 : Nat) : Int) := by rw [wrap_id (by omega)]; omega
  have hyl := way_len hwy
  have hyf := leaf_ints _ (way_ints (wayN l w))
  have hys := way_state (wayN l w)
  have hyt := way_tag (wayN l w)
  have hyd : cut (wayN l w).enc (0 + 2) 16 = (wayN l w).data.flatMap u8T := way_data (wayN l w) hwy
  have hsp : splice zeroW.enc 0 (wayN l w).enc = (wayN l w).enc := splice_all (by rw [hyl]; rfl)
  have hzl : zeroW.enc.length = 19 := rfl
  have hzleaf := zenc_leaf
  have hput := vw_put (viewW l mem w) m.mem.length hfw hmm hok.1.1.1 (wayN l w) hwy
  have hvn : (wayN l w).state ≠ 3 → vputM (viewW l mem w) (wayN l w) = viewW l mem w := fun h => if_neg h
  have hbody : vwL3 = vwL3 := rfl
  conv at hbody => rhs; simp only [vwL3, vwL2, vwL1, f26]
  simp only [← zero_enc] at hbody
  rw [hbody]
  clear hbody
  generalize (wayN l w).enc = ow at *
  generalize zeroW.enc = zc at *
  generalize l.flatMap Way.enc = ws at *
  refine W_seqn (W_seqn (W_region (fun k => by simp (decide := true) (disch := first | omega | simp (decide := true) only [List.length_set, hl]) only [sims, autos, simprocAttr, h1, g0, h4, h5, h6, hk, hb, hcl, hcg, hs, hb1, hrl, hrg, hlt]; rfl) ⟨rfl, W_tru (W_skip ⟨rfl, ?_⟩)⟩))
  refine W_seqn (W_block ?_)
  refine W_cut (fun t => VwS m t (viewW l mem w) ∧ rho t.s (.tmp 4) = .int .i64 (k : Int) ∧ rho t.s (.tmp 5) = .int .i64 (s : Int) ∧ rho t.s (.tmp 6) = .int .i64 (w : Int) ∧ ∃ p, 1 ≤ p ∧ p < t.nx ∧ rho t.s (.tmp 7) = .ptr p 0 ∧ t.g p = some ow) (W_region (fun k => by simp (decide := true) (disch := first | omega | simp (decide := true) only [List.length_set, hl]) only [sims, autos, simprocAttr, hps, h1, g0, h4, h5, h6, hk, hb, hcl, hcg, hs, hb1, hrl, hrg, hwlt, hwl, hb2, hwc, hyl, hyf, hzl, hzleaf, hsp]; rfl) ⟨rfl, ⟨?_, ?_, ?_, ?_, x, ?_, hx.mono (fun t ht => ?_) (fun t ht => ?_)⟩, ?_, ?_, ?_, st.nx + 12 + 12, by omega, ?_, ?_, ?_⟩) ?_
  case refine_4 => show 1 ≤ st.nx + 12 + 14; omega
  case refine_6 => exact ⟨ht.1, by show t < st.nx + 12 + 14; have := ht.2; omega⟩
  case refine_3 => rw [hcc]; simp (decide := true) (disch := first | omega | simp (decide := true) only [List.length_set, hl]) only [sims, autos, simprocAttr, hps, g0]
  case refine_7 => have := ht.2; simp (decide := true) (disch := first | omega | simp (decide := true) only [List.length_set, hl]) only [sims, autos, simprocAttr, hps]
  case refine_11 => show st.nx + 12 + 12 < st.nx + 12 + 14; omega
  case refine_14 =>
    clear hl h1 g0 hnx h3 hx h4 h5 h6
    rintro st ⟨⟨hl, h1, g0, hnx, x, h3, hx⟩, h4, h5, h6, p, hp, hpn, h7, gp⟩
    have next : ∀ st' : St, VwS m st' (viewW l mem (w + 1)) → rho st'.s (.tmp 4) = .int .i64 (k : Int) → rho st'.s (.tmp 5) = .int .i64 (s : Int) → rho st'.s (.tmp 6) = .int .i64 (w : Int) → W ap (.region [⟨some 41, .mv (.tmp 6), none⟩, ⟨some 42, .bin .add (.tmp 41) (.con (.int .i64 1)), none⟩, ⟨some 6, .mv (.tmp 42), none⟩] []) st' (fun e s' => (e = .normal ∧ ∃ n', n' < n ∧ ∃ w : Nat, VwS m s' (viewW l mem w) ∧ rho s'.s (.tmp 4) = .int .i64 (k : Int) ∧ rho s'.s (.tmp 5) = .int .i64 (s : Int) ∧ rho s'.s (.tmp 6) = .int .i64 (w : Int) ∧ w ≤ l.length ∧ n' = l.length - w) ∨ (e ≠ .normal ∧ Q e s')) := by
      rintro st' ⟨hl, h1, g0, hnx, x, h3, hx⟩ h4 h5 h6
      refine W_region (fun k => by simp (decide := true) (disch := first | omega | simp (decide := true) only [List.length_set, hl]) only [sims, autos, simprocAttr, h6, hw2]; rfl) ?_
      refine .inl ⟨rfl, l.length - (w + 1), by omega, w + 1, ⟨?_, ?_, g0, ?_, x, ?_, hx.mono (fun t ht => ⟨ht.1, ?_⟩) (fun _ _ => rfl)⟩, ?_, ?_, ?_, by omega, rfl⟩
      case refine_3 => show 1 ≤ st'.nx + 3; omega
      case refine_5 => show t < st'.nx + 3; have := ht.2; omega
      all_goals simp (decide := true) (disch := first | omega | simp (decide := true) only [List.length_set, hl]) only [sims, autos, simprocAttr, hl, h1, h3, h4, h5]
    rw [hcc] at g0
    by_cases h33 : (wayN l w).state = 3
    · have e1 : ((wayN l w).state == 3) = true := by rw [h33]; rfl
      refine W_cut (fun t => t.s.length = 67 ∧ rho t.s (.tmp 1) = .ptr 0 0 ∧ t.g 0 = some [memT m, cachT m] ∧ rho t.s (.tmp 3) = x ∧ ListAt (fun i => 1 ≤ i ∧ i < t.nx) t.g x ((viewW l mem w).flatMap u8T) ∧ 1 ≤ t.nx ∧ rho t.s (.tmp 4) = .int .i64 (k : Int) ∧ rho t.s (.tmp 5) = .int .i64 (s : Int) ∧ rho t.s (.tmp 6) = .int .i64 (w : Int) ∧ rho t.s (.tmp 7) = .ptr p 0 ∧ t.g p = some ow ∧ rho t.s (.tmp 57) = .bool true) (W_region (fun k => by simp (decide := true) (disch := first | omega | simp (decide := true) only [List.length_set, hl]) only [sims, autos, simprocAttr, hps, h7, gp, hyl, hys, e1]; rfl) ⟨rfl, ?_, ?_, ?_, ?_, ?_, ?_, ?_, ?_, ?_, ?_, ?_, ?_⟩) ?_
      case refine_3 => rw [hcc]; exact g0
      case refine_5 => exact hx.mono (fun t ht => ⟨ht.1, by show t < st.nx + 3; have := ht.2; omega⟩) (fun _ _ => rfl)
      case refine_6 => show 1 ≤ st.nx + 3; omega
      case refine_13 =>
        rintro t ⟨hl, h1, g0, h3, hx, hnx, h4, h5, h6, h7, gp, h57⟩
        obtain ⟨N, x', y', g', nx', q, hx', hg', hle, hlf⟩ := hput h33 x t.g (t.nx + 9) (hx.mono (fun i hi => ⟨hi.1, by have := hi.2; omega⟩) (fun _ _ => rfl)) (by omega)
        have q := q N (Nat.le_refl _)
        have hxl := hx.leaf
        have hxc := leaf_one hxl
        have hxa : ([x].all T.leaf) = true := by rw [List.all_cons, hxl]; rfl
        have hxs : splice [T.imm true 0 [], T.imm true 0 []] 0 [x] = [x, T.imm true 0 []] := rfl
        refine W_true h57 (W_regionN ⟨N, by simp (decide := true) (disch := first | omega | simp (decide := true) only [List.length_set, hl]) only [sims, autos, simprocAttr, hps, h3, h7, gp, hxl, hxc, hxa, hxs, hyl, hyt, hyd, ap40', p40', n40', evI, q]; rfl⟩ (.inr (.inl ⟨by simp, rfl, next _ ⟨?_, ?_, ?_, ?_, x', ?_, ?_⟩ ?_ ?_ ?_⟩)))
        case refine_3 => have := hg' 0 (by omega); simp (decide := true) (disch := first | omega | simp (decide := true) only [List.length_set, hl]) only [sims, autos, simprocAttr, hps, this, g0]
        case refine_4 => show 1 ≤ nx'; omega
        case refine_6 => rw [hv1]; exact hx'
        all_goals simp (decide := true) (disch := first | omega | simp (decide := true) only [List.length_set, hl]) only [sims, autos, simprocAttr, hps, hl, h1, h4, h5, h6]
      all_goals simp (decide := true) (disch := first | omega | simp (decide := true) only [List.length_set, hl]) only [sims, autos, simprocAttr, hps, hl, h1, h3, h4, h5, h6, h7, gp]
    · have e1 : ((wayN l w).state == 3) = false := by simpa using h33
      refine W_seqn (W_region (fun k => by simp (decide := true) (disch := first | omega | simp (decide := true) only [List.length_set, hl]) only [sims, autos, simprocAttr, hps, h7, gp, hyl, hys, e1]; rfl) ⟨rfl, W_fls (W_skip (.inr (.inl ⟨by simp, rfl, next _ ⟨?_, ?_, ?_, ?_, x, ?_, ?_⟩ ?_ ?_ ?_⟩)))⟩)
      case refine_3 => rw [hcc]; exact g0
      case refine_4 => show 1 ≤ st.nx + 3; omega
      case refine_6 => rw [hv1, hvn h33]; exact hx.mono (fun t ht => ⟨ht.1, by show t < st.nx + 3; have := ht.2; omega⟩) (fun _ _ => rfl)
      all_goals simp (decide := true) (disch := first | omega | simp (decide := true) only [List.length_set, hl]) only [sims, autos, simprocAttr, hps, hl, h1, h3, h4, h5, h6]
  all_goals simp (decide := true) (disch := first | omega | simp (decide := true) only [List.length_set, hl]) only [sims, autos, simprocAttr, hps, hl, h1, h3, h4, h5, h6]
end Go.Proofs.Ytdkaclgfkgcmpaa.Abs
