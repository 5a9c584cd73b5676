/- The theorem of one memory: the law's walk. -/
import Derived.Test.YtikeeegkndnnfaaOne2
namespace Go.Proofs.Ytikeeegkndnnfaa.Abs
open Go Go.RowKit Fn
set_option linter.unusedVariables false
set_option linter.unusedSimpArgs false
set_option linter.unnecessarySimpa false
set_option maxRecDepth 100000
set_option maxHeartbeats 4000000

theorem lSMALL : ap 10 = some f10 := rfl
theorem mSMALL : f10.pure = true := rfl
theorem nSMALL : f10.nat = none := rfl
theorem lAWAKE : ap 6 = some f6 := rfl
theorem mAWAKE : f6.pure = true := rfl
theorem nAWAKE : f6.nat = none := rfl
theorem lRIGHT : ap 11 = some f11 := rfl
theorem mRIGHT : f11.pure = true := rfl
theorem nRIGHT : f11.nat = none := rfl
theorem lVIEW : ap 12 = some f12 := rfl
theorem mVIEW : f12.pure = true := rfl
theorem nVIEW : f12.nat = none := rfl
theorem lMAY : ap 13 = some f13 := rfl
theorem mMAY : f13.pure = true := rfl
theorem nMAY : f13.nat = none := rfl
theorem lWRITE : ap 14 = some f14 := rfl
theorem mWRITE : f14.pure = true := rfl
theorem nWRITE : f14.nat = none := rfl
theorem lRWRITE : ap 15 = some f15 := rfl
theorem mRWRITE : f15.pure = true := rfl
theorem nRWRITE : f15.nat = none := rfl
theorem lREAD : ap 16 = some f16 := rfl
theorem mREAD : f16.pure = true := rfl
theorem nREAD : f16.nat = none := rfl
theorem lRREAD : ap 17 = some f17 := rfl
theorem mRREAD : f17.pure = true := rfl
theorem nRREAD : f17.nat = none := rfl
theorem lSAME : ap 18 = some f18 := rfl
theorem mSAME : f18.pure = true := rfl
theorem nSAME : f18.nat = none := rfl
theorem acc_len (a : Acc) : a.enc.length = 5 := rfl
theorem acc_cut (l : List Acc) (i : Nat) (h : i < l.length) : cut (l.flatMap Acc.enc) (i * 5) 5 = (l[i]).enc := by
  have := flat_cut acc_len l i h 0 5 (by omega)
  rw [Nat.add_zero] at this
  rw [this, cut_all (acc_len _)]
theorem view_wf {m : Coh} (h : Ok m) : ∀ y ∈ viewM m, (Lit.int .u8 y).wf = true := (fitB_k h.1 _ (Nat.le_refl _)).2
def OnI (a1 : List Acc) (i : Nat) (st : St) : Prop := st.s.length = 109 ∧ rho st.s (.tmp 1) = .imm false a1.length (a1.flatMap Acc.enc) ∧ rho st.s (.tmp 2) = .ptr 0 0 ∧ rho st.s (.tmp 6) = .int .i64 (i : Int) ∧ 1 ≤ st.nx ∧ ∃ m x y f, Good m ∧ Lax m x y ∧ st.g 0 = some [x, y] ∧ rho st.s (.tmp 5) = .imm f (viewM m).length ((viewM m).flatMap u8T)
def onLoop : ACode := match f4.body with | .seq _ (.seq _ (.seq _ (.seq (.seq _ (.block _ (.loop c))) _))) => c | _ => .skip
theorem on_loop (a1 : List Acc) (hw : ∀ a ∈ a1, a.wf) (hmx : a1.length ≤ 40) (Q : AExit → St → Prop)
    (hQe : ∀ st : St, OnI a1 a1.length st → Q (.exit 0) st) :
    ∀ (n : Nat) (st : St), (∃ i : Nat, OnI a1 i st ∧ i ≤ a1.length ∧ n = a1.length - i) → W ap (.loop onLoop) st Q := by
  refine W_loop _ ?_
  rintro n st ⟨i, ⟨hl, h1, h2, h6, hnx, m, x, y, f, hgd, hlx, g0, h5⟩, hi, hn⟩
  by_cases hend : i = a1.length
  · have hlt : decide ((i : Int) < (a1.length : Int)) = false := decide_eq_false (by omega)
    rw [hend] at h6 hlt
    refine W_seq (W_seqn (W_region (fun k => by simp (decide := true) (disch := first | omega | simp (decide := true) only [List.length_set, hl]) only [sims, autos, simprocAttr, hps, h1, h6, hlt]; rfl) ⟨rfl, W_fls (W_exit (.inr ⟨by simp, .inr ⟨by simp, hQe _ ⟨?_, ?_, ?_, ?_, ?_, m, x, y, f, hgd, hlx, ?_, ?_⟩⟩⟩))⟩))
    case refine_5 => show 1 ≤ st.nx + 4; omega
    case refine_6 => exact g0
    all_goals simp (decide := true) (disch := first | omega | simp (decide := true) only [List.length_set, hl]) only [sims, autos, simprocAttr, hps, hl, h1, h2, h5, h6]
  have hil : i < a1.length := by omega
  have hlt : decide ((i : Int) < (a1.length : Int)) = true := decide_eq_true (by omega)
  have hw2 : IntKind.i64.wrap ((i : Int) + 1) = ((i + 1 : Nat) : Int) := by rw [wrap_id (by omega)]; omega
  have hac := acc_cut a1 i hil
  have hal := flat_len acc_len a1
  have hawf := hw _ (List.getElem_mem hil)
  have hb : i * 5 + 5 ≤ a1.length * 5 := by omega
  generalize a1[i] = a at *
  obtain ⟨who, size, addr, v, wr⟩ := a
  have ha := wf_u32 hawf.2.2.1
  have hv := wf_u32 hawf.2.2.2.1
  simp only at ha hv
  obtain ⟨ad, rfl⟩ : ∃ ad : Nat, addr = (ad : Int) := ⟨addr.toNat, by omega⟩
  have had : ad ≤ 4294967295 := by omega
  rw [show Acc.enc ⟨who, size, (ad : Int), v, wr⟩ = [T.int .i64 who, T.int .i64 size, T.int .u32 (ad : Int), T.int .u32 v, T.bool wr] from rfl] at hac
  have next : ∀ t : St, OnI a1 i t → W ap (.region [⟨some 33, .mv (.tmp 6), none⟩, ⟨some 34, .bin .add (.tmp 33) (.con (.int .i64 1)), none⟩, ⟨some 6, .mv (.tmp 34), none⟩] []) t (fun e s' => (e = .normal ∧ ∃ n', n' < n ∧ ∃ i : Nat, OnI a1 i s' ∧ i ≤ a1.length ∧ n' = a1.length - i) ∨ (e ≠ .normal ∧ Q e s')) := by
    rintro t ⟨hl, h1, h2, h6, hnx, m, x, y, f, hgd, hlx, g0, h5⟩
    refine W_region (fun k => by simp (decide := true) (disch := first | omega | simp (decide := true) only [List.length_set, hl]) only [sims, autos, simprocAttr, hps, h6, hw2]; rfl) (.inl ⟨rfl, a1.length - (i + 1), by omega, i + 1, ⟨?_, ?_, ?_, ?_, ?_, m, x, y, f, hgd, hlx, ?_, ?_⟩, by omega, rfl⟩)
    case refine_5 => show 1 ≤ t.nx + 3; omega
    case refine_6 => exact g0
    all_goals simp (decide := true) (disch := first | omega | simp (decide := true) only [List.length_set, hl]) only [sims, autos, simprocAttr, hps, hl, h1, h2, h5]
  have hOnI : ∀ t : St, OnI a1 i t ↔ (t.s.length = 109 ∧ rho t.s (.tmp 1) = .imm false a1.length (a1.flatMap Acc.enc) ∧ rho t.s (.tmp 2) = .ptr 0 0 ∧ rho t.s (.tmp 6) = .int .i64 (i : Int) ∧ 1 ≤ t.nx ∧ ∃ m x y f, Good m ∧ Lax m x y ∧ t.g 0 = some [x, y] ∧ rho t.s (.tmp 5) = .imm f (viewM m).length ((viewM m).flatMap u8T)) := fun t => Iff.rfl
  generalize a1.flatMap Acc.enc = cs at *
  have hsp5 : splice [T.int .i64 0, T.int .i64 0, T.int .u32 0, T.int .u32 0, T.bool false] 0 [T.int .i64 who, T.int .i64 size, T.int .u32 (ad : Int), T.int .u32 v, T.bool wr] = [T.int .i64 who, T.int .i64 size, T.int .u32 (ad : Int), T.int .u32 v, T.bool wr] := rfl
  have hlf5 : allLeaf [T.int .i64 who, T.int .i64 size, T.int .u32 (ad : Int), T.int .u32 v, T.bool wr] = true := rfl
  have hcut : ∀ x y : T, cut [x, y] 0 2 = [x, y] := fun _ _ => rfl
  have hlxl := lax_leaf hlx
  refine W_seqn (W_seqn (W_region (fun k => by simp (decide := true) (disch := first | omega | simp (decide := true) only [List.length_set, hl]) only [sims, autos, simprocAttr, hps, h1, h6, hlt]; rfl) ⟨rfl, W_tru (W_skip ⟨rfl, ?_⟩)⟩))
  refine W_seq (W_block ?_)
  refine W_cut (fun t => t.s.length = 109 ∧ rho t.s (.tmp 1) = .imm false a1.length cs ∧ rho t.s (.tmp 2) = .ptr 0 0 ∧ rho t.s (.tmp 6) = .int .i64 (i : Int) ∧ t.g 0 = some [x, y] ∧ rho t.s (.tmp 5) = .imm f (viewM m).length ((viewM m).flatMap u8T) ∧ ∃ p, rho t.s (.tmp 7) = .ptr p 0 ∧ 1 ≤ p ∧ p < t.nx ∧ t.g p = some [T.int .i64 who, T.int .i64 size, T.int .u32 (ad : Int), T.int .u32 v, T.bool wr]) (W_region (fun k => by simp (decide := true) (disch := first | omega | simp (decide := true) only [List.length_set, hl]) only [sims, autos, simprocAttr, hps, h1, h6, hil, hal, hb, hac, hsp5, hlf5]; rfl) ⟨rfl, ?_, ?_, ?_, ?_, ?_, ?_, st.nx + 4 + 4, ?_, ?_, ?_, ?_⟩) ?_
  case refine_5 => have e : (0 = st.nx + 4 + 4) = False := by simp
                   simp (decide := true) (disch := first | omega | simp (decide := true) only [List.length_set, hl]) only [sims, autos, simprocAttr, hps, e, g0]
  case refine_8 => omega
  case refine_9 => show st.nx + 4 + 4 < st.nx + 4 + 6; omega
  case refine_11 =>
    clear hl h1 h2 h6 hnx g0 h5
    rintro st ⟨hl, h1, h2, h6, g0, h5, p, h7, hp1, hpn, gp⟩
    obtain ⟨NM, qM⟩ := bool_lax hlx lMAY (rest := [.int .i64 who, .int .u32 (ad : Int), .int .i64 size]) (by intro x hx; simp at hx; rcases hx with rfl | rfl | rfl <;> exact ⟨_, _, rfl⟩) (ref_may m hgd.1.1 hgd.1.2.1 who ad had size)
    have qM := qM NM (Nat.le_refl _)
    by_cases hmay : MayP m who ad size
    · rw [decide_eq_true hmay] at qM
      refine W_seqn (W_cut (fun t => t.s.length = 109 ∧ rho t.s (.tmp 1) = .imm false a1.length cs ∧ rho t.s (.tmp 2) = .ptr 0 0 ∧ rho t.s (.tmp 6) = .int .i64 (i : Int) ∧ t.g 0 = some [x, y] ∧ rho t.s (.tmp 5) = .imm f (viewM m).length ((viewM m).flatMap u8T) ∧ rho t.s (.tmp 7) = .ptr p 0 ∧ p < t.nx ∧ t.g p = some [T.int .i64 who, T.int .i64 size, T.int .u32 (ad : Int), T.int .u32 v, T.bool wr] ∧ rho t.s (.tmp 47) = .bool false) (W_regionN ⟨NM, by simp (decide := true) (disch := first | omega | simp (decide := true) only [List.length_set, hl]) only [sims, autos, simprocAttr, hps, h2, h7, g0, gp, hcut, lMAY, mMAY, nMAY, qM]; rfl⟩ ⟨rfl, ?_, ?_, ?_, ?_, ?_, ?_, ?_, ?_, ?_, ?_⟩) ?_)
      case refine_8 => show p < st.nx + 9; omega
      case refine_11 =>
        clear hl h1 h2 h6 g0 h5 h7 hpn gp qM
        rintro st ⟨hl, h1, h2, h6, g0, h5, h7, hpn, gp, h47⟩
        refine W_false h47 (W_skip ⟨rfl, ?_⟩)
        obtain ⟨w, z, rfl, hww, rfl, hz, haz, hin⟩ := size_nat hmay
        have hsp2 : ∀ x y x' y' : T, splice [x, y] 0 [x', y'] = [x', y'] := fun _ _ _ _ => rfl
        have hvl := viewM_len m
        have hvb := view_wf hgd.1
        have hml := hgd.1.2.1
        refine W_cut (fun t => OnI a1 i t) ?_ ?_
        · cases wr with
          | true =>
            obtain ⟨b1, b2, _, _, _, _, _⟩ := write_all hgd had hww hz haz hin v
            obtain ⟨NW, x', y', hlx', qW⟩ := write_lax hgd.1 hlx (w : Int) ad had (z : Int) v hv
            obtain ⟨u, hRW, f', rfl⟩ := ref10_write f (viewM m) (by omega) ad z had hz (by omega) v hv
            obtain ⟨NR, qR⟩ := hRW.call lRWRITE (fun g => rfl)
            have qW := qW NW (Nat.le_refl _)
            have qR := qR NR (Nat.le_refl _)
            have hlen : (spl (viewM m) ad (bytesOf v z)).length = (viewM m).length := spl_len _ _ _
            rw [← b2] at qR hlen
            generalize (writeM m (w : Int) ad (z : Int) v).2 = wb at *
            generalize (writeM m (w : Int) ad (z : Int) v).1 = m' at *
            have hlf := lax_leaf hlx'
            generalize (viewM m).flatMap u8T = vb at *
            generalize hvb' : (viewM m').flatMap u8T = vb' at *
            refine W_seqn (W_region (fun k => by simp (decide := true) (disch := first | omega | simp (decide := true) only [List.length_set, hl]) only [sims, autos, simprocAttr, hps, h7, gp]; rfl) ⟨rfl, W_tru ?_⟩)
            refine W_cut (fun t => t.s.length = 109 ∧ rho t.s (.tmp 1) = .imm false a1.length cs ∧ rho t.s (.tmp 2) = .ptr 0 0 ∧ rho t.s (.tmp 6) = .int .i64 (i : Int) ∧ t.g 0 = some [x', y'] ∧ rho t.s (.tmp 5) = .imm f (viewM m).length vb ∧ rho t.s (.tmp 7) = .ptr p 0 ∧ p < t.nx ∧ t.g p = some [T.int .i64 (w : Int), T.int .i64 (z : Int), T.int .u32 (ad : Int), T.int .u32 v, T.bool true]) (W_regionN ⟨NW, by simp (decide := true) (disch := first | omega | simp (decide := true) only [List.length_set, hl]) only [sims, autos, simprocAttr, hps, h2, h7, g0, gp, hcut, hlf, hsp2, lWRITE, mWRITE, nWRITE, qW]; rfl⟩ ⟨rfl, ?_, ?_, ?_, ?_, ?_, ?_, ?_, ?_, ?_⟩) ?_
            case refine_8 => show p < st.nx + 2 + 14; omega
            case refine_9 => have e : (p = 0) = False := eq_false (by omega)
                             simp (decide := true) (disch := first | omega | simp (decide := true) only [List.length_set, hl]) only [sims, autos, simprocAttr, hps, e, gp]
            case refine_10 =>
              clear hl h1 h2 h6 g0 h5 h7 hpn gp h47
              rintro st ⟨hl, h1, h2, h6, g0, h5, h7, hpn, gp⟩
              refine W_regionN ⟨NR, by simp (decide := true) (disch := first | omega | simp (decide := true) only [List.length_set, hl]) only [sims, autos, simprocAttr, hps, h5, h7, gp, lRWRITE, mRWRITE, nRWRITE, qR]; rfl⟩ ⟨rfl, (hOnI _).mpr ⟨?_, ?_, ?_, ?_, ?_, m', x', y', f', b1, hlx', ?_, ?_⟩⟩
              case refine_5 => show 1 ≤ st.nx + 12; omega
              case refine_6 => exact g0
              case refine_7 => rw [hvb', hlen]; simp (decide := true) (disch := first | omega | simp (decide := true) only [List.length_set, hl]) only [sims, autos, simprocAttr, hps]
              all_goals simp (decide := true) (disch := first | omega | simp (decide := true) only [List.length_set, hl]) only [sims, autos, simprocAttr, hps, hl, h1, h2, h6]
            all_goals simp (decide := true) (disch := first | omega | simp (decide := true) only [List.length_set, hl]) only [sims, autos, simprocAttr, hps, hl, h1, h2, h5, h6, h7]
          | false =>
            obtain ⟨b1, b2, _, _, b5, _, _, _⟩ := read_all hgd had hww hz haz hin
            obtain ⟨NW, x', y', hlx', qW⟩ := read_lax hgd.1 hlx (w : Int) ad had (z : Int)
            have hRR := ref10_read f (viewM m) hvb (by omega) ad z had hz (by omega)
            obtain ⟨NR, qR⟩ := hRR.call lRREAD (fun g => rfl)
            have qW := qW NW (Nat.le_refl _)
            have qR := qR NR (Nat.le_refl _)
            rw [← b2] at qR h5 b5
            rw [b5] at qW
            generalize val (((viewM (readM m (w : Int) ad (z : Int)).2.1).drop ad).take z) = V at *
            generalize (readM m (w : Int) ad (z : Int)).2.2 = wb at *
            generalize (readM m (w : Int) ad (z : Int)).2.1 = m' at *
            have hlf := lax_leaf hlx'
            have hne : (V != V) = false := by simp
            have hzz : splice [T.imm true 0 [], T.imm true 0 []] 0 [x', y'] = [x', y'] := rfl
            generalize hvb' : (viewM m').flatMap u8T = vb at *
            refine W_seqn (W_region (fun k => by simp (decide := true) (disch := first | omega | simp (decide := true) only [List.length_set, hl]) only [sims, autos, simprocAttr, hps, h7, gp]; rfl) ⟨rfl, W_fls ?_⟩)
            refine W_cut (fun t => t.s.length = 109 ∧ rho t.s (.tmp 1) = .imm false a1.length cs ∧ rho t.s (.tmp 2) = .ptr 0 0 ∧ rho t.s (.tmp 6) = .int .i64 (i : Int) ∧ t.g 0 = some [x, y] ∧ rho t.s (.tmp 5) = .imm f (viewM m').length vb ∧ rho t.s (.tmp 7) = .ptr p 0 ∧ t.g p = some [T.int .i64 (w : Int), T.int .i64 (z : Int), T.int .u32 (ad : Int), T.int .u32 v, T.bool false] ∧ rho t.s (.tmp 8) = .int .u32 V ∧ ∃ r, rho t.s (.tmp 9) = .ptr r 0 ∧ t.g r = some [x', y']) (W_regionN ⟨NW, by simp (decide := true) (disch := first | omega | simp (decide := true) only [List.length_set, hl]) only [sims, autos, simprocAttr, hps, h2, h7, g0, gp, hcut, hlf, hzz, lREAD, mREAD, nREAD, qW]; rfl⟩ ⟨rfl, ?_, ?_, ?_, ?_, ?_, ?_, ?_, ?_, ?_, st.nx + 2 + 12, ?_, ?_⟩) ?_
            case refine_12 =>
              clear hl h1 h2 h6 g0 h5 h7 hpn gp h47
              rintro st ⟨hl, h1, h2, h6, g0, h5, h7, gp, h8, r, h9, gr⟩
              refine W_cut (fun t => t.s.length = 109 ∧ rho t.s (.tmp 1) = .imm false a1.length cs ∧ rho t.s (.tmp 2) = .ptr 0 0 ∧ rho t.s (.tmp 6) = .int .i64 (i : Int) ∧ t.g 0 = some [x, y] ∧ rho t.s (.tmp 5) = .imm f (viewM m').length vb ∧ rho t.s (.tmp 8) = .int .u32 V ∧ rho t.s (.tmp 11) = .int .u32 V ∧ rho t.s (.tmp 9) = .ptr r 0 ∧ t.g r = some [x', y']) (W_regionN ⟨NR, by simp (decide := true) (disch := first | omega | simp (decide := true) only [List.length_set, hl]) only [sims, autos, simprocAttr, hps, h5, h7, gp, lRREAD, mRREAD, nRREAD, qR]; rfl⟩ ⟨rfl, ?_, ?_, ?_, ?_, ?_, ?_, ?_, ?_, ?_, ?_⟩) ?_
              case refine_11 =>
                clear hl h1 h2 h6 g0 h5 h7 gp h8 h9 gr
                rintro st ⟨hl, h1, h2, h6, g0, h5, h8, h11, h9, gr⟩
                refine W_seqn (W_seqn (W_region (fun k => by simp (decide := true) (disch := first | omega | simp (decide := true) only [List.length_set, hl]) only [sims, autos, simprocAttr, hps, h8, h11, hne]; rfl) ⟨rfl, W_fls (W_skip ⟨rfl, ?_⟩)⟩))
                refine W_region (fun k => by simp (decide := true) (disch := first | omega | simp (decide := true) only [List.length_set, hl]) only [sims, autos, simprocAttr, hps, h2, h9, g0, gr, hcut, hlf, hsp2]; rfl) ⟨rfl, (hOnI _).mpr ⟨?_, ?_, ?_, ?_, ?_, m', x', y', f, b1, hlx', ?_, ?_⟩⟩
                case refine_5 => show 1 ≤ st.nx + 3 + 2; omega
                case refine_7 => rw [hvb']; simp (decide := true) (disch := first | omega | simp (decide := true) only [List.length_set, hl]) only [sims, autos, simprocAttr, hps, h5]
                all_goals simp (decide := true) (disch := first | omega | simp (decide := true) only [List.length_set, hl]) only [sims, autos, simprocAttr, hps, hl, h1, h2, h6]
              all_goals simp (decide := true) (disch := first | omega | simp (decide := true) only [List.length_set, hl]) only [sims, autos, simprocAttr, hps, hl, h1, h2, h5, h6, h8, h9, g0, gr]
            case refine_5 => have e : (0 = st.nx + 2 + 12) = False := by simp
                             simp (decide := true) (disch := first | omega | simp (decide := true) only [List.length_set, hl]) only [sims, autos, simprocAttr, hps, e, g0]
            case refine_8 => have e : (p = st.nx + 2 + 12) = False := eq_false (by omega)
                             simp (decide := true) (disch := first | omega | simp (decide := true) only [List.length_set, hl]) only [sims, autos, simprocAttr, hps, e, gp]
            all_goals simp (decide := true) (disch := first | omega | simp (decide := true) only [List.length_set, hl]) only [sims, autos, simprocAttr, hps, hl, h1, h2, h5, h6, h7]
        · clear hl h1 h2 h6 g0 h5 h7 hpn gp h47
          rintro t hI
          have hI' := (hOnI t).mp hI
          obtain ⟨hl, h1, h2, h6, hnx, m', x', y', f', hgd', hlx', g0, h5⟩ := hI'
          obtain ⟨N, q⟩ := right_lax hgd' hlx'
          have q := q N (Nat.le_refl _)
          refine W_seqn (W_regionN ⟨N, by simp (decide := true) (disch := first | omega | simp (decide := true) only [List.length_set, hl]) only [sims, autos, simprocAttr, hps, h2, g0, hcut, lRIGHT, mRIGHT, nRIGHT, q]; rfl⟩ ⟨rfl, W_fls (W_skip (.inr (.inl ⟨by simp, .inl ⟨rfl, ?_⟩⟩)))⟩)
          refine next _ ((hOnI _).mpr ⟨?_, ?_, ?_, ?_, ?_, m', x', y', f', hgd', hlx', ?_, ?_⟩)
          case refine_6 => exact g0
          case refine_5 => show 1 ≤ t.nx + 3; omega
          all_goals simp (decide := true) (disch := first | omega | simp (decide := true) only [List.length_set, hl]) only [sims, autos, simprocAttr, hps, hl, h1, h2, h5, h6]
      all_goals simp (decide := true) (disch := first | omega | simp (decide := true) only [List.length_set, hl]) only [sims, autos, simprocAttr, hps, hl, h1, h2, h5, h6, h7, g0, gp]
    · rw [decide_eq_false hmay] at qM
      refine W_seq (W_seqn (W_regionN ⟨NM, by simp (decide := true) (disch := first | omega | simp (decide := true) only [List.length_set, hl]) only [sims, autos, simprocAttr, hps, h2, h7, g0, gp, hcut, lMAY, mMAY, nMAY, qM]; rfl⟩ ⟨rfl, W_tru (W_exit (.inr ⟨by simp, .inl ⟨rfl, .inl ⟨rfl, ?_⟩⟩⟩))⟩))
      refine next _ ((hOnI _).mpr ⟨?_, ?_, ?_, ?_, ?_, m, x, y, f, hgd, hlx, ?_, ?_⟩)
      case refine_6 => exact g0
      case refine_5 => show 1 ≤ st.nx + 9; omega
      all_goals simp (decide := true) (disch := first | omega | simp (decide := true) only [List.length_set, hl]) only [sims, autos, simprocAttr, hps, hl, h1, h2, h5, h6]
  all_goals simp (decide := true) (disch := first | omega | simp (decide := true) only [List.length_set, hl]) only [sims, autos, simprocAttr, hps, hl, h1, h2, h5, h6]
theorem awake_runs : evF ap 400 6 [] = some (.bool true) := by kernel_rfl
theorem Pure.CohOne (a0 : Coh) (a1 : List Acc) (h0 : Coh.wf a0) (h1 : (a1.length ≤ maxLen ∧ ∀ y0 ∈ a1, Acc.wf y0)) :
    ∃ k, evF ap k 4 [T.agg (a0.enc), T.imm false a1.length (a1.flatMap Acc.enc)] = some (.bool true) := by
  refine E.get ?_
  rw [coh_enc]
  refine E_body (F := f4) rfl rfl rfl ?_
  generalize hs0 : (_ : List T) ++ List.replicate _ T.undef = s0
  have e0 : s0.length = 109 ∧ rho s0 (.tmp 0) = .agg [memT a0, cachT a0] ∧ rho s0 (.tmp 1) = .imm false a1.length (a1.flatMap Acc.enc) := by subst hs0; exact ⟨rfl, rfl, rfl⟩
  clear hs0
  obtain ⟨hl, e0, e1⟩ := e0
  have hcut : ∀ x y : T, cut [x, y] 0 2 = [x, y] := fun _ _ => rfl
  have hleaf : allLeaf [memT a0, cachT a0] = true := rfl
  obtain ⟨b, h8, hsm⟩ := ref_small2 a0 h0
  obtain ⟨n8, c8⟩ := h8.call lSMALL (fun g => rfl)
  obtain ⟨n9, c9⟩ := (E_of awake_runs).call lAWAKE (fun g => rfl)
  have q9 := c9 n9 (Nat.le_refl _)
  refine W_cut (fun st => st.s.length = 109 ∧ rho st.s (.tmp 1) = .imm false a1.length (a1.flatMap Acc.enc) ∧ rho st.s (.tmp 2) = .ptr 0 0 ∧ st.g 0 = some [memT a0, cachT a0] ∧ 1 ≤ st.nx) (W_region (fun k => by simp (decide := true) (disch := first | omega | simp (decide := true) only [List.length_set, hl]) only [sims, autos, simprocAttr, hps, e0, hleaf]; rfl) ⟨rfl, ?_⟩) ?_
  · refine ⟨?_, ?_, ?_, ?_, by show 1 ≤ 0 + 2; omega⟩ <;> simp (decide := true) (disch := first | omega | simp (decide := true) only [List.length_set, hl]) only [sims, autos, simprocAttr, hps, hl, e1]
  clear hl e0 e1
  rintro st ⟨hl, e1, e2, g0, hnx⟩
  have aw : ∀ z : St, z.s.length = 109 → W ap (.seq (.region [⟨some 26, .call 6 [], none⟩, ⟨some 4, .mv (.tmp 26), none⟩] []) .ret) z (fun e st => e ≠ .normal ∧ (e.leaves = true ∧ ∃ u ids, resT st.s st.g f4.res = some u ∧ frz ⟨st.g, st.nx⟩ frzDepth u = some (.bool true, ids))) := by
    intro z hl
    refine W_seqn (W_regionN ⟨n9, by simp (decide := true) (disch := first | omega | simp (decide := true) only [List.length_set, hl]) only [sims, autos, simprocAttr, hps, lAWAKE, mAWAKE, nAWAKE, q9]; rfl⟩ ⟨rfl, W_ret ⟨by simp, ?_⟩⟩)
    refine fin_of (F := f4) rfl (fun _ => rfl) ?_
    simp (decide := true) (disch := first | omega | simp (decide := true) only [List.length_set, hl]) only [sims, autos, simprocAttr]
  cases b with
  | false =>
    have q8 := c8 n8 (Nat.le_refl _)
    refine W_seq (W_seqn (W_regionN ⟨n8, by simp (decide := true) (disch := first | omega | simp (decide := true) only [List.length_set, hl]) only [sims, autos, simprocAttr, hps, e2, g0, hcut, lSMALL, mSMALL, nSMALL, q8]; rfl⟩ ⟨rfl, W_tru ((aw _ ?_).mono (fun e s h => .inr h))⟩))
    simp (decide := true) (disch := first | omega | simp (decide := true) only [List.length_set, hl]) only [sims, autos, simprocAttr, hps, hl]
  | true =>
    have hok := ok_small h0 (hsm rfl)
    obtain ⟨v, hR, b, rfl, hb⟩ := coh_right a0 hok
    obtain ⟨nR, cR⟩ := hR.call lRIGHT (fun g => rfl)
    have q8 := c8 (n8 + nR) (by omega)
    have qR := cR (n8 + nR) (by omega)
    cases b with
    | false =>
      refine W_seq (W_seqn (W_regionN ⟨n8 + nR, by simp (decide := true) (disch := first | omega | simp (decide := true) only [List.length_set, hl]) only [sims, autos, simprocAttr, hps, e2, g0, hcut, lSMALL, mSMALL, nSMALL, q8, lRIGHT, mRIGHT, nRIGHT, qR]; rfl⟩ ⟨rfl, W_tru ((aw _ ?_).mono (fun e s h => .inr h))⟩))
      simp (decide := true) (disch := first | omega | simp (decide := true) only [List.length_set, hl]) only [sims, autos, simprocAttr, hps, hl]
    | true =>
      have hgd : Good a0 := ⟨hok, hb.mp rfl⟩
      by_cases h40 : a1.length ≤ 40
      · have d40 : decide ((a1.length : Int) > 40) = false := decide_eq_false (by omega)
        refine W_seqn (W_cut (fun st => st.s.length = 109 ∧ rho st.s (.tmp 1) = .imm false a1.length (a1.flatMap Acc.enc) ∧ rho st.s (.tmp 2) = .ptr 0 0 ∧ rho st.s (.tmp 25) = .bool false ∧ st.g 0 = some [memT a0, cachT a0] ∧ 1 ≤ st.nx) (W_regionN ⟨n8 + nR, by simp (decide := true) (disch := first | omega | simp (decide := true) only [List.length_set, hl]) only [sims, autos, simprocAttr, hps, e1, e2, g0, hcut, d40, lSMALL, mSMALL, nSMALL, q8, lRIGHT, mRIGHT, nRIGHT, qR]; rfl⟩ ⟨rfl, ?_, ?_, ?_, ?_, ?_, ?_⟩) ?_)
        case refine_6 => show 1 ≤ st.nx + 13; omega
        case refine_7 =>
          clear hl e1 e2 g0 hnx q8 qR c8 cR
          rintro st ⟨hl, e1, e2, h25, g0, hnx⟩
          refine W_false h25 (W_skip ⟨rfl, ?_⟩)
          obtain ⟨nV, f, qV⟩ := view_lax hgd (lax_strict a0)
          have qV := qV nV (Nat.le_refl _)
          refine W_cut (fun st => OnI a1 0 { st with s := st.s.set 6 (.int .i64 0) } ∧ st.s.length = 109) (W_regionN ⟨nV, by simp (decide := true) (disch := first | omega | simp (decide := true) only [List.length_set, hl]) only [sims, autos, simprocAttr, hps, e2, g0, hcut, lVIEW, mVIEW, nVIEW, qV]; rfl⟩ ⟨rfl, ⟨?_, ?_, ?_, ?_, ?_, a0, memT a0, cachT a0, f, hgd, lax_strict a0, ?_, ?_⟩, ?_⟩) ?_
          case refine_5 => show 1 ≤ st.nx + 3; omega
          case refine_9 =>
            clear hl e1 e2 g0 hnx h25
            rintro st ⟨hI, hl⟩
            refine W_seq (W_seqn (W_region (fun k => by simp (decide := true) (disch := first | omega | simp (decide := true) only [List.length_set, hl]) only [sims, autos, simprocAttr, hps]; rfl) ⟨rfl, W_block ?_⟩))
            refine on_loop a1 h1.2 h40 _ (fun st hI => ?_) (a1.length - 0) _ ⟨0, ?_, by omega, rfl⟩
            · obtain ⟨hl, h1', h2, h6, hnx, m, x, y, f, hgd', hlx, g0, h5⟩ := hI
              refine .inl ⟨rfl, .inl ⟨rfl, ?_⟩⟩
              obtain ⟨nV, f2, qV⟩ := view_lax hgd' hlx
              obtain ⟨nS, qS⟩ := (same_bytes f2 f (viewM m) (by rw [viewM_len]; exact hgd'.1.2.1)).call lSAME (fun g => rfl)
              have qV := qV (nV + nS + n9) (by omega)
              have qS := qS (nV + nS + n9) (by omega)
              have q9 := c9 (nV + nS + n9) (by omega)
              generalize (viewM m).flatMap u8T = vb at *
              refine W_seqn (W_regionN ⟨nV + nS + n9, by simp (decide := true) (disch := first | omega | simp (decide := true) only [List.length_set, hl]) only [sims, autos, simprocAttr, hps, h2, h5, g0, hcut, lVIEW, mVIEW, nVIEW, qV, lSAME, mSAME, nSAME, qS, lAWAKE, mAWAKE, nAWAKE, q9]; rfl⟩ ⟨rfl, W_ret ?_⟩)
              refine fin_of (F := f4) rfl (fun _ => rfl) ?_
              simp (decide := true) (disch := first | omega | simp (decide := true) only [List.length_set, hl]) only [sims, autos, simprocAttr]
            · obtain ⟨a, b, c, d, e, rest⟩ := hI
              exact ⟨a, b, c, d, by show 1 ≤ st.nx + 1; exact Nat.le_succ_of_le e, rest⟩
          all_goals simp (decide := true) (disch := first | omega | simp (decide := true) only [List.length_set, hl]) only [sims, autos, simprocAttr, hps, hl, e1, e2, g0]
        all_goals simp (decide := true) (disch := first | omega | simp (decide := true) only [List.length_set, hl]) only [sims, autos, simprocAttr, hps, hl, e1, e2, g0]
      · have d40 : decide ((a1.length : Int) > 40) = true := decide_eq_true (by omega)
        refine W_seq (W_seqn (W_regionN ⟨n8 + nR, by simp (decide := true) (disch := first | omega | simp (decide := true) only [List.length_set, hl]) only [sims, autos, simprocAttr, hps, e1, e2, g0, hcut, d40, lSMALL, mSMALL, nSMALL, q8, lRIGHT, mRIGHT, nRIGHT, qR]; rfl⟩ ⟨rfl, W_tru ((aw _ ?_).mono (fun e s h => .inr h))⟩))
        simp (decide := true) (disch := first | omega | simp (decide := true) only [List.length_set, hl]) only [sims, autos, simprocAttr, hps, hl]
end Go.Proofs.Ytikeeegkndnnfaa.Abs
