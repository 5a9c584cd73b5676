/- The theorem of writers: the law's walk. -/
import Derived.Test.YtikeeegkndnnfaaOne2
namespace Go.Proofs.Ytikeeegkndnnfaa.Abs
open Go Go.RowKit Fn
set_option linter.unusedVariables false
set_option linter.unusedSimpArgs false
set_option linter.unnecessarySimpa false
set_option maxRecDepth 100000
set_option maxHeartbeats 4000000

theorem lSMALL : ap 10 = some f10 := rfl
theorem mSMALL : f10.pure = true := rfl
theorem nSMALL : f10.nat = none := rfl
theorem lAWAKE : ap 6 = some f6 := rfl
theorem mAWAKE : f6.pure = true := rfl
theorem nAWAKE : f6.nat = none := rfl
theorem lRIGHT : ap 11 = some f11 := rfl
theorem mRIGHT : f11.pure = true := rfl
theorem nRIGHT : f11.nat = none := rfl
theorem lVIEW : ap 12 = some f12 := rfl
theorem mVIEW : f12.pure = true := rfl
theorem nVIEW : f12.nat = none := rfl
theorem lMAY : ap 13 = some f13 := rfl
theorem mMAY : f13.pure = true := rfl
theorem nMAY : f13.nat = none := rfl
theorem lWRITE : ap 14 = some f14 := rfl
theorem mWRITE : f14.pure = true := rfl
theorem nWRITE : f14.nat = none := rfl
theorem lREAD : ap 16 = some f16 := rfl
theorem mREAD : f16.pure = true := rfl
theorem nREAD : f16.nat = none := rfl
theorem lSAME : ap 18 = some f18 := rfl
theorem mSAME : f18.pure = true := rfl
theorem nSAME : f18.nat = none := rfl
theorem lSHARED : ap 19 = some f19 := rfl
theorem mSHARED : f19.pure = true := rfl
theorem nSHARED : f19.nat = none := rfl
theorem val_nat : ∀ (k n : Nat), val (bytesOf (n : Int) k) = ((n % 256 ^ k : Nat) : Int)
  | 0, n => by rw [Nat.pow_zero, Nat.mod_one]; rfl
  | k + 1, n => by
    have e : val (bytesOf (n : Int) (k + 1)) = (n : Int) % 256 + 256 * val (bytesOf ((n : Int) / 256) k) := rfl
    have e2 : (n : Int) / 256 = ((n / 256 : Nat) : Int) := by omega
    rw [e, e2, val_nat k (n / 256), show 256 ^ (k + 1) = 256 * 256 ^ k by rw [Nat.pow_succ, Nat.mul_comm], Nat.mod_mul]
    omega
theorem spl_back (l d : List Int) (o : Nat) (h : o + d.length ≤ l.length) : ((spl l o d).drop o).take d.length = d := by
  apply List.ext_getElem?
  intro i
  rw [List.getElem?_take]
  by_cases hi : i < d.length
  · rw [if_pos hi, List.getElem?_drop, spl_get _ _ _ h, if_pos (by omega), show o + i - o = i by omega]
  · rw [if_neg hi, List.getElem?_eq_none (by omega)]
theorem shared_zero (m : Coh) (who : Int) (ln : Nat) (h : ∀ j, j < m.caches.length → (j : Int) ≠ who → stA m j ln = 0) : ∀ n k, k + n ≤ m.caches.length → sharedN m who ln k n = false
  | 0, _, _ => rfl
  | n + 1, k, hk => by
    have hk2 : k < m.caches.length := by omega
    unfold sharedN
    by_cases hw : (k : Int) = who
    · have e : ((k : Int) != who) = false := by rw [hw]; simp
      rw [e, if_neg (by simp)]
      exact shared_zero m who ln h n (k + 1) (by omega)
    · have e : (stateOf m (k : Int) ln != 0) = false := by rw [stateOf_is m k hk2 ln, h k hk2 hw]; rfl
      rw [e, if_neg (by simp)]
      exact shared_zero m who ln h n (k + 1) (by omega)
theorem and_mask (v : Nat) (hv : v ≤ 4294967295) (n : Nat) (hn : n ≤ 32) : (BitVec.ofInt 32 (v : Int) &&& BitVec.ofInt 32 (((2 ^ n - 1 : Nat) : Int))).toNat = v % 2 ^ n := by
  have hp : 2 ^ n ≤ 2 ^ 32 := Nat.pow_le_pow_right (by omega) hn
  have e : ∀ x : Nat, x < 2 ^ 32 → (BitVec.ofInt 32 (x : Int)).toNat = x := fun x hx => by
    rw [BitVec.ofInt_natCast, BitVec.toNat_ofNat, Nat.mod_eq_of_lt hx]
  rw [BitVec.toNat_and, e v (by omega), e (2 ^ n - 1) (by omega), Nat.and_two_pow_sub_one_eq_mod]
/-- What a writer sees. -/
theorem alone_all {m : Coh} (h : Good m) {w z addr : Nat} (ha : addr ≤ 4294967295) (hw : w < m.caches.length) (hz : z = 1 ∨ z = 2 ∨ z = 4) (haz : addr % 16 + z ≤ 16) (hin : addr + z ≤ m.mem.length) (vn : Nat) :
    Good (writeM m (w : Int) addr (z : Int) (vn : Int)).1 ∧ (readM (writeM m (w : Int) addr (z : Int) (vn : Int)).1 (w : Int) addr (z : Int)).1 = ((vn % 256 ^ z : Nat) : Int) ∧ (readM (writeM m (w : Int) addr (z : Int) (vn : Int)).1 (w : Int) addr (z : Int)).2.2 = true ∧ Good (readM (writeM m (w : Int) addr (z : Int) (vn : Int)).1 (w : Int) addr (z : Int)).2.1 ∧ (∀ v, (writeM (readM (writeM m (w : Int) addr (z : Int) (vn : Int)).1 (w : Int) addr (z : Int)).2.1 (w : Int) addr (z : Int) v).2 = true) ∧ sharedN (writeM m (w : Int) addr (z : Int) (vn : Int)).1 (w : Int) (addr / 16) 0 (writeM m (w : Int) addr (z : Int) (vn : Int)).1.caches.length = false := by
  obtain ⟨a1, a2, a3, a4, a5, a6, _⟩ := write_all h ha hw hz haz hin (vn : Int)
  generalize (writeM m (w : Int) addr (z : Int) (vn : Int)).1 = x at *
  have hwx : w < x.caches.length := by omega
  have hinx : addr + z ≤ x.mem.length := by omega
  obtain ⟨b1, b2, b3, b4, b5, b6, b7, b8⟩ := read_all a1 ha hwx hz haz hinx
  have h1 : askv (stA x w (addr / 16)) 1 = 0 := by rw [a5]; rfl
  have hhad := b7.mpr h1
  have hk := b8 hhad w (addr / 16) hwx
  refine ⟨a1, ?_, hhad, b1, fun v => ?_, shared_zero x (w : Int) (addr / 16) (fun j hj hjw => a6 j (by omega) (by omega)) _ 0 (by omega)⟩
  · have hbl := bytesOf_len z (vn : Int)
    have hsb := spl_back (viewM m) (bytesOf (vn : Int) z) addr (by rw [viewM_len]; omega)
    rw [hbl] at hsb
    rw [b5, a2, hsb, val_nat]
  · generalize (readM x (w : Int) addr (z : Int)).2.1 = y at *
    obtain ⟨_, _, _, _, _, _, c7⟩ := write_all b1 (z := z) (w := w) ha (by omega) hz haz (by omega) v
    refine c7.mpr ?_
    rw [hk, a5]; rfl
theorem again_all {m : Coh} (h : Good m) {w z addr : Nat} (ha : addr ≤ 4294967295) (hw : w < m.caches.length) (hz : z = 1 ∨ z = 2 ∨ z = 4) (haz : addr % 16 + z ≤ 16) (hin : addr + z ≤ m.mem.length) :
    Good (readM m (w : Int) addr (z : Int)).2.1 ∧ viewM (readM m (w : Int) addr (z : Int)).2.1 = viewM m ∧ (readM (readM m (w : Int) addr (z : Int)).2.1 (w : Int) addr (z : Int)).2.2 = true := by
  obtain ⟨b1, b2, b3, b4, b5, b6, b7, b8⟩ := read_all h ha hw hz haz hin
  generalize (readM m (w : Int) addr (z : Int)).2.1 = y at *
  obtain ⟨_, _, _, _, _, _, c7, _⟩ := read_all b1 (z := z) (w := w) ha (by omega) hz haz (by omega)
  refine ⟨b1, b2, c7.mpr ?_⟩
  have hq := b1.sound.1 w (show w < y.caches.length by omega)
  have hr : 0 ≤ stA y w (addr / 16) ∧ stA y w (addr / 16) ≤ 3 := rq_range hq _
  unfold askv
  rw [if_pos rfl, stv_id hr, if_neg b6]
theorem awake_runs : evF ap 400 6 [] = some (.bool true) := by kernel_rfl
theorem Pure.CohAlone (a0 : Coh) (a1 : Acc) (h0 : Coh.wf a0) (h1 : Acc.wf a1) :
    ∃ k, evF ap k 5 [T.agg (a0.enc), T.agg (a1.enc)] = some (.bool true) := by
  refine E.get ?_
  rw [coh_enc]
  obtain ⟨who, size, addr, v, wr⟩ := a1
  have ha := wf_u32 h1.2.2.1
  have hv := wf_u32 h1.2.2.2.1
  simp only at ha hv
  obtain ⟨ad, rfl⟩ : ∃ ad : Nat, addr = (ad : Int) := ⟨addr.toNat, by omega⟩
  have had : ad ≤ 4294967295 := by omega
  obtain ⟨vn, rfl⟩ : ∃ vn : Nat, v = (vn : Int) := ⟨v.toNat, by omega⟩
  have hvn : vn ≤ 4294967295 := by omega
  rw [show Acc.enc ⟨who, size, (ad : Int), (vn : Int), wr⟩ = [T.int .i64 who, T.int .i64 size, T.int .u32 (ad : Int), T.int .u32 (vn : Int), T.bool wr] from rfl]
  refine E_body (F := f5) rfl rfl rfl ?_
  generalize hs0 : (_ : List T) ++ List.replicate _ T.undef = s0
  have e0 : s0.length = 143 ∧ rho s0 (.tmp 0) = .agg [memT a0, cachT a0] ∧ rho s0 (.tmp 1) = .agg [T.int .i64 who, T.int .i64 size, T.int .u32 (ad : Int), T.int .u32 (vn : Int), T.bool wr] := by subst hs0; exact ⟨rfl, rfl, rfl⟩
  clear hs0
  obtain ⟨hl, e0, e1⟩ := e0
  have hcut : ∀ x y : T, cut [x, y] 0 2 = [x, y] := fun _ _ => rfl
  have hsp2 : ∀ x y : T, splice [T.imm true 0 [], T.imm true 0 []] 0 [x, y] = [x, y] := fun _ _ => rfl
  have hleaf : allLeaf [memT a0, cachT a0] = true := rfl
  have hleaf2 : allLeaf [T.int .i64 who, T.int .i64 size, T.int .u32 (ad : Int), T.int .u32 (vn : Int), T.bool wr] = true := rfl
  obtain ⟨b, h8, hsm⟩ := ref_small2 a0 h0
  obtain ⟨n8, c8⟩ := h8.call lSMALL (fun g => rfl)
  obtain ⟨n9, c9⟩ := (E_of awake_runs).call lAWAKE (fun g => rfl)
  have q9 := c9 n9 (Nat.le_refl _)
  refine W_cut (fun st => st.s.length = 143 ∧ rho st.s (.tmp 2) = .ptr 0 0 ∧ rho st.s (.tmp 3) = .ptr 1 0 ∧ st.g 0 = some [memT a0, cachT a0] ∧ st.g 1 = some [T.int .i64 who, T.int .i64 size, T.int .u32 (ad : Int), T.int .u32 (vn : Int), T.bool wr] ∧ 2 ≤ st.nx) (W_region (fun k => by simp (decide := true) (disch := first | omega | simp (decide := true) only [List.length_set, hl]) only [sims, autos, simprocAttr, hps, e0, e1, hleaf, hleaf2]; rfl) ⟨rfl, ?_⟩) ?_
  · refine ⟨?_, ?_, ?_, ?_, ?_, by show 2 ≤ 0 + 3; omega⟩ <;> simp (decide := true) (disch := first | omega | simp (decide := true) only [List.length_set, hl]) only [sims, autos, simprocAttr, hps, hl]
  clear hl e0 e1
  rintro st ⟨hl, h2, h3, g0, g1, hnx⟩
  have aw : ∀ z : St, z.s.length = 143 → W ap (.seq (.region [⟨some 38, .call 6 [], none⟩, ⟨some 4, .mv (.tmp 38), none⟩] []) .ret) z (fun e st => e ≠ .normal ∧ (e.leaves = true ∧ ∃ u ids, resT st.s st.g f5.res = some u ∧ frz ⟨st.g, st.nx⟩ frzDepth u = some (.bool true, ids))) := by
    intro z hl
    refine W_seqn (W_regionN ⟨n9, by simp (decide := true) (disch := first | omega | simp (decide := true) only [List.length_set, hl]) only [sims, autos, simprocAttr, hps, lAWAKE, mAWAKE, nAWAKE, q9]; rfl⟩ ⟨rfl, W_ret ⟨by simp, ?_⟩⟩)
    refine fin_of (F := f5) rfl (fun _ => rfl) ?_
    simp (decide := true) (disch := first | omega | simp (decide := true) only [List.length_set, hl]) only [sims, autos, simprocAttr]
  cases b with
  | false =>
    have q8 := c8 n8 (Nat.le_refl _)
    refine W_seq (W_seqn (W_regionN ⟨n8, by simp (decide := true) (disch := first | omega | simp (decide := true) only [List.length_set, hl]) only [sims, autos, simprocAttr, hps, h2, g0, hcut, lSMALL, mSMALL, nSMALL, q8]; rfl⟩ ⟨rfl, W_tru ((aw _ ?_).mono (fun e s h => .inr h))⟩))
    simp (decide := true) (disch := first | omega | simp (decide := true) only [List.length_set, hl]) only [sims, autos, simprocAttr, hps, hl]
  | true =>
    have hok := ok_small h0 (hsm rfl)
    obtain ⟨v, hR, b, rfl, hb⟩ := coh_right a0 hok
    obtain ⟨nR, cR⟩ := hR.call lRIGHT (fun g => rfl)
    obtain ⟨nM, cM⟩ := (ref_may a0 h0 hok.2.1 who ad had size).call lMAY (fun g => rfl)
    have q8 := c8 (n8 + nR + nM) (by omega)
    have qR := cR (n8 + nR + nM) (by omega)
    have qM := cM (n8 + nR + nM) (by omega)
    cases b with
    | false =>
      refine W_seq (W_seqn (W_regionN ⟨n8 + nR + nM, by simp (decide := true) (disch := first | omega | simp (decide := true) only [List.length_set, hl]) only [sims, autos, simprocAttr, hps, h2, g0, hcut, lSMALL, mSMALL, nSMALL, q8, lRIGHT, mRIGHT, nRIGHT, qR]; rfl⟩ ⟨rfl, W_tru ((aw _ ?_).mono (fun e s h => .inr h))⟩))
      simp (decide := true) (disch := first | omega | simp (decide := true) only [List.length_set, hl]) only [sims, autos, simprocAttr, hps, hl]
    | true =>
      have hgd : Good a0 := ⟨hok, hb.mp rfl⟩
      by_cases hmay : MayP a0 who ad size
      · rw [decide_eq_true hmay] at qM
        refine W_seqn (W_cut (fun st => st.s.length = 143 ∧ rho st.s (.tmp 2) = .ptr 0 0 ∧ rho st.s (.tmp 3) = .ptr 1 0 ∧ rho st.s (.tmp 37) = .bool false ∧ st.g 0 = some [memT a0, cachT a0] ∧ st.g 1 = some [T.int .i64 who, T.int .i64 size, T.int .u32 (ad : Int), T.int .u32 (vn : Int), T.bool wr] ∧ 2 ≤ st.nx) (W_regionN ⟨n8 + nR + nM, by simp (decide := true) (disch := first | omega | simp (decide := true) only [List.length_set, hl]) only [sims, autos, simprocAttr, hps, h2, h3, g0, g1, hcut, lSMALL, mSMALL, nSMALL, q8, lRIGHT, mRIGHT, nRIGHT, qR, lMAY, mMAY, nMAY, qM]; rfl⟩ ⟨rfl, ?_, ?_, ?_, ?_, ?_, ?_, ?_⟩) ?_)
        case refine_7 => show 2 ≤ st.nx + 19; omega
        case refine_8 =>
          clear hl h2 h3 g0 g1 hnx q8 qR qM c8 cR cM
          rintro st ⟨hl, h2, h3, h37, g0, g1, hnx⟩
          refine W_false h37 (W_skip ⟨rfl, ?_⟩)
          obtain ⟨w, z, rfl, hww, rfl, hz, haz, hin⟩ := size_nat hmay
          obtain ⟨d1, d2, d3, d4, d5, d6⟩ := alone_all hgd had hww hz haz hin vn
          obtain ⟨e1, e2, e3⟩ := again_all hgd had hww hz haz hin
          obtain ⟨N1, x1, y1, hl1, q1⟩ := write_lax hok (lax_strict a0) (w : Int) ad had (z : Int) (vn : Int) hv
          generalize hX : (writeM a0 (w : Int) ad (z : Int) (vn : Int)).1 = X at *
          generalize (writeM a0 (w : Int) ad (z : Int) (vn : Int)).2 = fl1 at *
          obtain ⟨N2, x2, y2, hl2, q2⟩ := read_lax d1.1 hl1 (w : Int) ad had (z : Int)
          rw [d2, d3] at q2
          generalize hY : (readM X (w : Int) ad (z : Int)).2.1 = Y at *
          have hpz : vn % 256 ^ z ≤ vn := Nat.mod_le _ _
          obtain ⟨N3, x3, y3, hl3, q3⟩ := write_lax d4.1 hl2 (w : Int) ad had (z : Int) ((vn % 256 ^ z : Nat) : Int) (by omega)
          rw [d5] at q3
          obtain ⟨N4, x4, y4, hl4, q4⟩ := read_lax hok (lax_strict a0) (w : Int) ad had (z : Int)
          generalize (readM a0 (w : Int) ad (z : Int)).2.2 = fl4 at *
          generalize (readM a0 (w : Int) ad (z : Int)).1 = v4 at *
          generalize hZ : (readM a0 (w : Int) ad (z : Int)).2.1 = Z at *
          obtain ⟨N5, x5, y5, hl5, q5⟩ := read_lax e1.1 hl4 (w : Int) ad had (z : Int)
          rw [e3] at q5
          generalize (readM Z (w : Int) ad (z : Int)).1 = v5 at *
          obtain ⟨N6, q6⟩ := bool_lax hl1 lSHARED (rest := [.int .i64 (w : Int), .int .u32 ((ad / 16 : Nat) : Int)]) (by intro x hx; simp at hx; rcases hx with rfl | rfl <;> exact ⟨_, _, rfl⟩) (ref_shared X d1.1.1 (w : Int) (ad / 16) (by omega))
          rw [d6] at q6
          obtain ⟨N7, f7, q7⟩ := view_lax e1 hl4
          obtain ⟨N8, f8', q8⟩ := view_lax hgd (lax_strict a0)
          rw [e2] at q7
          obtain ⟨NS, qS⟩ := (same_bytes f7 f8' (viewM a0) (by rw [viewM_len]; exact hok.2.1)).call lSAME (fun g => rfl)
          have lf1 := lax_leaf hl1
          have lf2 := lax_leaf hl2
          have lf3 := lax_leaf hl3
          have lf4 := lax_leaf hl4
          have lf5 := lax_leaf hl5
          have q1 := q1 N1 (Nat.le_refl _)
          have q2 := q2 N2 (Nat.le_refl _)
          have q3 := q3 N3 (Nat.le_refl _)
          have q4 := q4 N4 (Nat.le_refl _)
          have q5 := q5 N5 (Nat.le_refl _)
          have q6 := q6 N6 (Nat.le_refl _)
          have q7 := q7 (N7 + N8 + NS + n9) (by omega)
          have q8 := q8 (N7 + N8 + NS + n9) (by omega)
          have qS := qS (N7 + N8 + NS + n9) (by omega)
          have q9 := c9 (N7 + N8 + NS + n9) (by omega)
          generalize (viewM a0).flatMap u8T = vb at *
          generalize (viewM a0).length = vl at *
          clear hl1 hl2 hl3 hl4 hl5 c9
          generalize memT a0 = mt at *
          generalize cachT a0 = ct at *
          refine W_cut (fun st => st.s.length = 143 ∧ rho st.s (.tmp 2) = .ptr 0 0 ∧ rho st.s (.tmp 3) = .ptr 1 0 ∧ st.g 0 = some [mt, ct] ∧ st.g 1 = some [T.int .i64 (w : Int), T.int .i64 (z : Int), T.int .u32 (ad : Int), T.int .u32 (vn : Int), T.bool wr] ∧ ∃ p, 2 ≤ p ∧ p < st.nx ∧ rho st.s (.tmp 5) = .ptr p 0 ∧ st.g p = some [x1, y1]) (W_regionN ⟨N1, by simp (decide := true) (disch := first | omega | simp (decide := true) only [List.length_set, hl]) only [sims, autos, simprocAttr, hps, h2, h3, g0, g1, hcut, hsp2, lf1, lWRITE, mWRITE, nWRITE, q1]; rfl⟩ ⟨rfl, ?_, ?_, ?_, ?_, ?_, st.nx + 13, by omega, ?_, ?_, ?_⟩) ?_
          case refine_6 => show st.nx + 13 < st.nx + 16; omega
          case refine_9 =>
            clear hl h2 h3 g0 g1 hnx h37 q1
            rintro st ⟨hl, h2, h3, g0, g1, p5, hp5, hpn5, h5, gp5⟩
            refine W_cut (fun st => st.s.length = 143 ∧ rho st.s (.tmp 2) = .ptr 0 0 ∧ rho st.s (.tmp 3) = .ptr 1 0 ∧ st.g 0 = some [mt, ct] ∧ st.g 1 = some [T.int .i64 (w : Int), T.int .i64 (z : Int), T.int .u32 (ad : Int), T.int .u32 (vn : Int), T.bool wr] ∧ 2 ≤ p5 ∧ p5 < st.nx ∧ rho st.s (.tmp 5) = .ptr p5 0 ∧ st.g p5 = some [x1, y1] ∧ rho st.s (.tmp 7) = .int .u32 ((vn % 256 ^ z : Nat) : Int) ∧ rho st.s (.tmp 9) = .bool true ∧ ∃ p, rho st.s (.tmp 8) = .ptr p 0 ∧ st.g p = some [x2, y2]) (W_regionN ⟨N2, by simp (decide := true) (disch := first | omega | simp (decide := true) only [List.length_set, hl]) only [sims, autos, simprocAttr, hps, h3, h5, gp5, g1, hcut, hsp2, lf2, lREAD, mREAD, nREAD, q2]; rfl⟩ ⟨rfl, ?_, ?_, ?_, ?_, ?_, hp5, ?_, ?_, ?_, ?_, ?_, st.nx + 12, ?_, ?_⟩) ?_
            case refine_6 => show p5 < st.nx + 16; omega
            case refine_8 => have e : (p5 = st.nx + 12) = False := eq_false (by omega)
                             simp (decide := true) (disch := first | omega | simp (decide := true) only [List.length_set, hl]) only [sims, autos, simprocAttr, hps, e, gp5]
            case refine_13 =>
              clear hl h2 h3 g0 g1 hp5 hpn5 h5 gp5 q2
              rintro st ⟨hl, h2, h3, g0, g1, hp5, hpn5, h5, gp5, h7, h9, p8, h8, gp8⟩
              refine W_cut (fun st => st.s.length = 143 ∧ rho st.s (.tmp 2) = .ptr 0 0 ∧ rho st.s (.tmp 3) = .ptr 1 0 ∧ st.g 0 = some [mt, ct] ∧ st.g 1 = some [T.int .i64 (w : Int), T.int .i64 (z : Int), T.int .u32 (ad : Int), T.int .u32 (vn : Int), T.bool wr] ∧ 2 ≤ st.nx ∧ rho st.s (.tmp 5) = .ptr p5 0 ∧ st.g p5 = some [x1, y1] ∧ rho st.s (.tmp 7) = .int .u32 ((vn % 256 ^ z : Nat) : Int) ∧ rho st.s (.tmp 9) = .bool true ∧ rho st.s (.tmp 11) = .bool true) (W_regionN ⟨N3, by simp (decide := true) (disch := first | omega | simp (decide := true) only [List.length_set, hl]) only [sims, autos, simprocAttr, hps, h3, h7, h8, gp8, g1, hcut, hsp2, lf3, lWRITE, mWRITE, nWRITE, q3]; rfl⟩ ⟨rfl, ?_, ?_, ?_, ?_, ?_, ?_, ?_, ?_, ?_, ?_, ?_⟩) ?_
              case refine_6 => show 2 ≤ st.nx + 15; omega
              case refine_8 => have e : (p5 = st.nx + 12) = False := eq_false (by omega)
                               simp (decide := true) (disch := first | omega | simp (decide := true) only [List.length_set, hl]) only [sims, autos, simprocAttr, hps, e, gp5]
              case refine_12 =>
                clear hl h2 h3 g0 g1 hp5 hpn5 h5 gp5 h7 h9 h8 gp8 q3
                rintro st ⟨hl, h2, h3, g0, g1, hnx, h5, gp5, h7, h9, h11⟩
                have hne : ∀ x : Int, (x != x) = false := fun x => by simp
                have hne := hne ((vn % 256 ^ z : Nat) : Int)
                have htd : (ad : Int).tdiv 16 = ((ad / 16 : Nat) : Int) := by rw [Int.tdiv_eq_ediv_of_nonneg (by omega)]; omega
                have wq : IntKind.u32.wrap ((ad / 16 : Nat) : Int) = ((ad / 16 : Nat) : Int) := by rw [wrap_u32]; omega
                have hand : IntKind.u32.wrap (((BitVec.ofInt IntKind.u32.bits (vn : Int) &&& BitVec.ofInt IntKind.u32.bits (((2 ^ (8 * z) - 1 : Nat) : Int))).toNat : Nat) : Int) = ((vn % 256 ^ z : Nat) : Int) := by
                  show IntKind.u32.wrap (((BitVec.ofInt 32 (vn : Int) &&& BitVec.ofInt 32 (((2 ^ (8 * z) - 1 : Nat) : Int))).toNat : Nat) : Int) = ((vn % 256 ^ z : Nat) : Int)
                  have hp : 2 ^ (8 * z) = 256 ^ z := by rw [Nat.pow_mul]
                  rw [and_mask vn hvn (8 * z) (by omega), hp, wrap_u32]; omega
                refine W_cut (fun st => st.s.length = 143 ∧ rho st.s (.tmp 2) = .ptr 0 0 ∧ rho st.s (.tmp 3) = .ptr 1 0 ∧ st.g 0 = some [mt, ct] ∧ st.g 1 = some [T.int .i64 (w : Int), T.int .i64 (z : Int), T.int .u32 (ad : Int), T.int .u32 (vn : Int), T.bool wr] ∧ 2 ≤ st.nx ∧ rho st.s (.tmp 5) = .ptr p5 0 ∧ st.g p5 = some [x1, y1] ∧ rho st.s (.tmp 7) = .int .u32 ((vn % 256 ^ z : Nat) : Int) ∧ rho st.s (.tmp 9) = .bool true ∧ rho st.s (.tmp 11) = .bool true ∧ rho st.s (.tmp 12) = .int .u32 4294967295) (W_region (fun k => by simp (decide := true) (disch := first | omega | simp (decide := true) only [List.length_set, hl]) only [sims, autos, simprocAttr, hps]; rfl) ⟨rfl, ?_, ?_, ?_, ?_, ?_, ?_, ?_, ?_, ?_, ?_, ?_, ?_⟩) ?_
                case refine_6 => show 2 ≤ st.nx + 1; omega
                case refine_13 =>
                  clear hl h2 h3 g0 g1 hnx h5 gp5 h7 h9 h11
                  rintro st ⟨hl, h2, h3, g0, g1, hnx, h5, gp5, h7, h9, h11, h12⟩
                  refine W_cut (fun st => st.s.length = 143 ∧ rho st.s (.tmp 2) = .ptr 0 0 ∧ rho st.s (.tmp 3) = .ptr 1 0 ∧ st.g 0 = some [mt, ct] ∧ st.g 1 = some [T.int .i64 (w : Int), T.int .i64 (z : Int), T.int .u32 (ad : Int), T.int .u32 (vn : Int), T.bool wr] ∧ 2 ≤ st.nx ∧ rho st.s (.tmp 5) = .ptr p5 0 ∧ st.g p5 = some [x1, y1] ∧ rho st.s (.tmp 7) = .int .u32 ((vn % 256 ^ z : Nat) : Int) ∧ rho st.s (.tmp 9) = .bool true ∧ rho st.s (.tmp 11) = .bool true ∧ rho st.s (.tmp 12) = .int .u32 ((2 ^ (8 * z) - 1 : Nat) : Int)) ?_ ?_
                  · by_cases hz4 : z = 4
                    · have d4 : decide ((z : Int) < 4) = false := decide_eq_false (by omega)
                      refine W_seqn (W_region (fun k => by simp (decide := true) (disch := first | omega | simp (decide := true) only [List.length_set, hl]) only [sims, autos, simprocAttr, hps, h3, g1, d4]; rfl) ⟨rfl, W_fls (W_skip ⟨rfl, ?_, ?_, ?_, ?_, ?_, ?_, ?_, ?_, ?_, ?_, ?_, ?_⟩)⟩)
                      case refine_6 => show 2 ≤ st.nx + 3; omega
                      case refine_12 => rw [hz4]; simp (decide := true) (disch := first | omega | simp (decide := true) only [List.length_set, hl]) only [sims, autos, simprocAttr, hps, h12]
                      all_goals simp (decide := true) (disch := first | omega | simp (decide := true) only [List.length_set, hl]) only [sims, autos, simprocAttr, hps, hl, h2, h3, h5, h7, h9, h11, g0, g1, gp5]
                    · have d4 : decide ((z : Int) < 4) = true := decide_eq_true (by omega)
                      have w1 : IntKind.u64.wrap (z : Int) = (z : Int) := by rw [wrap_u64]; omega
                      have w2 : IntKind.u64.wrap (8 * (z : Int)) = ((8 * z : Nat) : Int) := by rw [wrap_u64]; omega
                      have hneg : (((8 * z : Nat) : Int) < 0) = False := eq_false (by omega)
                      have hbt : min (8 * z) IntKind.u32.bits = 8 * z := by show min (8 * z) 32 = 8 * z; omega
                      have hpw : (2 : Int) ^ (8 * z) = ((2 ^ (8 * z) : Nat) : Int) := by rw [Int.natCast_pow]; rfl
                      have hple : 2 ^ (8 * z) ≤ 65536 := by
                        have : z = 1 ∨ z = 2 := by omega
                        rcases this with rfl | rfl <;> decide
                      have hp1 : 1 ≤ 2 ^ (8 * z) := Nat.one_le_two_pow
                      have w3 : IntKind.u32.wrap (1 * (2 : Int) ^ (8 * z)) = ((2 ^ (8 * z) : Nat) : Int) := by rw [Int.one_mul, hpw, wrap_u32]; omega
                      have w4 : IntKind.u32.wrap (((2 ^ (8 * z) : Nat) : Int) - 1) = ((2 ^ (8 * z) - 1 : Nat) : Int) := by rw [wrap_u32]; omega
                      generalize hE : 2 ^ (8 * z) = E8 at *
                      refine W_seqn (W_region (fun k => by simp (decide := true) (disch := first | omega | simp (decide := true) only [List.length_set, hl]) only [sims, autos, simprocAttr, hps, h3, g1, d4]; rfl) ⟨rfl, W_tru (W_region (fun k => by simp (decide := true) (disch := first | omega | simp (decide := true) only [List.length_set, hl]) only [sims, autos, simprocAttr, hps, h3, g1, w1, w2, hneg, Int.toNat_natCast, hbt, w3, w4]; rfl) ⟨rfl, ?_, ?_, ?_, ?_, ?_, ?_, ?_, ?_, ?_, ?_, ?_, ?_⟩)⟩)
                      case refine_6 => show 2 ≤ st.nx + 3 + 7; omega
                      all_goals simp (decide := true) (disch := first | omega | simp (decide := true) only [List.length_set, hl]) only [sims, autos, simprocAttr, hps, hl, h2, h3, h5, h7, h9, h11, g0, g1, gp5]
                  · clear hl h2 h3 g0 g1 hnx h5 gp5 h7 h9 h11 h12
                    rintro st ⟨hl, h2, h3, g0, g1, hnx, h5, gp5, h7, h9, h11, h12⟩
                    generalize ((2 ^ (8 * z) - 1 : Nat) : Int) = mk at *
                    generalize ((vn % 256 ^ z : Nat) : Int) = V at *
                    refine W_seqn (W_cut (fun st => st.s.length = 143 ∧ rho st.s (.tmp 2) = .ptr 0 0 ∧ rho st.s (.tmp 3) = .ptr 1 0 ∧ rho st.s (.tmp 107) = .bool false ∧ st.g 0 = some [mt, ct] ∧ st.g 1 = some [T.int .i64 (w : Int), T.int .i64 (z : Int), T.int .u32 (ad : Int), T.int .u32 (vn : Int), T.bool wr] ∧ 2 ≤ st.nx) (W_regionN ⟨N6, by simp (decide := true) (disch := first | omega | simp (decide := true) only [List.length_set, hl]) only [sims, autos, simprocAttr, hps, h3, h5, h7, h9, h11, h12, g1, gp5, hcut, hand, hne, htd, wq, lSHARED, mSHARED, nSHARED, q6]; rfl⟩ ⟨rfl, ?_, ?_, ?_, ?_, ?_, ?_, ?_⟩) ?_)
                    case refine_7 => show 2 ≤ st.nx + 23; omega
                    case refine_8 =>
                      clear hl h2 h3 g0 g1 hnx h5 gp5 h7 h9 h11 h12
                      rintro st ⟨hl, h2, h3, h107, g0, g1, hnx⟩
                      refine W_false h107 (W_skip ⟨rfl, ?_⟩)
                      refine W_cut (fun st => st.s.length = 143 ∧ rho st.s (.tmp 2) = .ptr 0 0 ∧ rho st.s (.tmp 3) = .ptr 1 0 ∧ st.g 0 = some [mt, ct] ∧ st.g 1 = some [T.int .i64 (w : Int), T.int .i64 (z : Int), T.int .u32 (ad : Int), T.int .u32 (vn : Int), T.bool wr] ∧ ∃ p, p < st.nx ∧ rho st.s (.tmp 14) = .ptr p 0 ∧ st.g p = some [x4, y4]) (W_regionN ⟨N4, by simp (decide := true) (disch := first | omega | simp (decide := true) only [List.length_set, hl]) only [sims, autos, simprocAttr, hps, h2, h3, g0, g1, hcut, hsp2, lf4, lREAD, mREAD, nREAD, q4]; rfl⟩ ⟨rfl, ?_, ?_, ?_, ?_, ?_, st.nx + 12, ?_, ?_, ?_⟩) ?_
                      case refine_6 => show st.nx + 12 < st.nx + 16; omega
                      case refine_4 => have e : (0 = st.nx + 12) = False := by simp
                                       simp (decide := true) (disch := first | omega | simp (decide := true) only [List.length_set, hl]) only [sims, autos, simprocAttr, hps, e, g0]
                      case refine_5 => have e : (1 = st.nx + 12) = False := eq_false (by omega)
                                       simp (decide := true) (disch := first | omega | simp (decide := true) only [List.length_set, hl]) only [sims, autos, simprocAttr, hps, e, g1]
                      case refine_9 =>
                        clear hl h2 h3 g0 g1 hnx h107 q4
                        rintro st ⟨hl, h2, h3, g0, g1, p14, hpn, h14, gp14⟩
                        refine W_cut (fun st => st.s.length = 143 ∧ rho st.s (.tmp 2) = .ptr 0 0 ∧ st.g 0 = some [mt, ct] ∧ rho st.s (.tmp 18) = .bool true ∧ rho st.s (.tmp 14) = .ptr p14 0 ∧ st.g p14 = some [x4, y4]) (W_regionN ⟨N5, by simp (decide := true) (disch := first | omega | simp (decide := true) only [List.length_set, hl]) only [sims, autos, simprocAttr, hps, h2, h3, h14, gp14, g0, g1, hcut, hsp2, lf5, lREAD, mREAD, nREAD, q5]; rfl⟩ ⟨rfl, ?_, ?_, ?_, ?_, ?_, ?_⟩) ?_
                        case refine_3 => have e : (0 = st.nx + 12) = False := by simp
                                         simp (decide := true) (disch := first | omega | simp (decide := true) only [List.length_set, hl]) only [sims, autos, simprocAttr, hps, e, g0]
                        case refine_6 => have e : (p14 = st.nx + 12) = False := eq_false (by omega)
                                         simp (decide := true) (disch := first | omega | simp (decide := true) only [List.length_set, hl]) only [sims, autos, simprocAttr, hps, e, gp14]
                        case refine_7 =>
                          clear hl h2 h3 g0 g1 h14 gp14 q5 hpn
                          rintro st ⟨hl, h2, g0, h18, h14, gp14⟩
                          refine W_seqn (W_regionN ⟨N7 + N8 + NS + n9, by simp (decide := true) (disch := first | omega | simp (decide := true) only [List.length_set, hl]) only [sims, autos, simprocAttr, hps, h2, h14, h18, g0, gp14, hcut, lVIEW, mVIEW, nVIEW, q7, q8, lSAME, mSAME, nSAME, qS, lAWAKE, mAWAKE, nAWAKE, q9]; rfl⟩ ⟨rfl, W_ret ?_⟩)
                          refine fin_of (F := f5) rfl (fun _ => rfl) ?_
                          simp (decide := true) (disch := first | omega | simp (decide := true) only [List.length_set, hl]) only [sims, autos, simprocAttr]
                        all_goals simp (decide := true) (disch := first | omega | simp (decide := true) only [List.length_set, hl]) only [sims, autos, simprocAttr, hps, hl, h2, h14]
                      all_goals simp (decide := true) (disch := first | omega | simp (decide := true) only [List.length_set, hl]) only [sims, autos, simprocAttr, hps, hl, h2, h3]
                    all_goals simp (decide := true) (disch := first | omega | simp (decide := true) only [List.length_set, hl]) only [sims, autos, simprocAttr, hps, hl, h2, h3, g0, g1]
                all_goals simp (decide := true) (disch := first | omega | simp (decide := true) only [List.length_set, hl]) only [sims, autos, simprocAttr, hps, hl, h2, h3, h5, h7, h9, h11, g0, g1, gp5]
              all_goals simp (decide := true) (disch := first | omega | simp (decide := true) only [List.length_set, hl]) only [sims, autos, simprocAttr, hps, hl, h2, h3, h5, h7, h9, g0, g1]
            all_goals simp (decide := true) (disch := first | omega | simp (decide := true) only [List.length_set, hl]) only [sims, autos, simprocAttr, hps, hl, h2, h3, h5, g0, g1]
          all_goals simp (decide := true) (disch := first | omega | simp (decide := true) only [List.length_set, hl]) only [sims, autos, simprocAttr, hps, hl, h2, h3, g0, g1]
        all_goals simp (decide := true) (disch := first | omega | simp (decide := true) only [List.length_set, hl]) only [sims, autos, simprocAttr, hps, hl, h2, h3, g0, g1]
      · rw [decide_eq_false hmay] at qM
        refine W_seq (W_seqn (W_regionN ⟨n8 + nR + nM, by simp (decide := true) (disch := first | omega | simp (decide := true) only [List.length_set, hl]) only [sims, autos, simprocAttr, hps, h2, h3, g0, g1, hcut, lSMALL, mSMALL, nSMALL, q8, lRIGHT, mRIGHT, nRIGHT, qR, lMAY, mMAY, nMAY, qM]; rfl⟩ ⟨rfl, W_tru ((aw _ ?_).mono (fun e s h => .inr h))⟩))
        simp (decide := true) (disch := first | omega | simp (decide := true) only [List.length_set, hl]) only [sims, autos, simprocAttr, hps, hl]
end Go.Proofs.Ytikeeegkndnnfaa.Abs
