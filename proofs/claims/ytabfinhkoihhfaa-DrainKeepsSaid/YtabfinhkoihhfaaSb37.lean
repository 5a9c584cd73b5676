/- Stores drained over a memory, whether stores may be, and whether two buffers are one: the given functions' walks. -/
import Derived.Test.YtabfinhkoihhfaaRf
namespace Go.Proofs.Ytabfinhkoihhfaa.Abs
open Go Go.RowKit Fn
set_option linter.unusedVariables false
set_option linter.unusedSimpArgs false
set_option linter.unnecessarySimpa false
set_option maxRecDepth 100000
set_option maxHeartbeats 4000000

theorem drL_snoc : ∀ (l : List Sb) (s : Sb) (b : List Int), drL (l ++ [s]) b = dr1 (drL l b) s
  | [], s, b => rfl
  | t :: l, s, b => by show drL (l ++ [s]) (dr1 b t) = _; rw [drL_snoc l s]; rfl
theorem drL_len : ∀ (l : List Sb) (b : List Int), (drL l b).length = b.length
  | [], _ => rfl
  | s :: l, b => by show (drL l (dr1 b s)).length = _; rw [drL_len l, dr1_len]
theorem drL_take (l : List Sb) (b : List Int) (i : Nat) (h : i < l.length) : drL (l.take (i + 1)) b = dr1 (drL (l.take i) b) l[i] := by
  rw [List.take_succ_eq_append_getElem h, drL_snoc]
theorem sb_cut (l : List Sb) (i : Nat) (h : i < l.length) (j n : Nat) (hj : j + n ≤ 3) : cut (l.flatMap Sb.enc) (i * 3 + j) n = cut (l[i]).enc j n := flat_cut sb_len l i h j n hj
theorem sb_get (l : List Sb) (i : Nat) (h : i < l.length) (j : Nat) (hj : j < 3) : (l.flatMap Sb.enc)[i * 3 + j]? = (l[i]).enc[j]? := flat_get sb_len l i h j hj
/-! ### A memory taken over byte by byte -/
def cpLoop : ACode := match f8.body with | .seq _ (.seq _ (.seq (.seq _ (.block _ (.loop c))) _)) => c | _ => .skip
def drLoop : ACode := match f8.body with | .seq _ (.seq _ (.seq _ (.seq (.seq _ (.block _ (.loop c))) _))) => c | _ => .skip
def CpI (t0 : T) (fb : Bool) (L : List Int) (j : Nat) (st : St) : Prop := st.s.length = 54 ∧ rho st.s (.tmp 0) = t0 ∧ rho st.s (.tmp 1) = .imm fb L.length (L.flatMap u8T) ∧ rho st.s (.tmp 6) = .int .i64 (j : Int) ∧ ∃ b, b < st.nx ∧ rho st.s (.tmp 5) = .own b 0 j 1 ∧ st.g b = some ((L.flatMap u8T).take j)
theorem cp_loop (t0 : T) (fb : Bool) (L : List Int) (hL : L.length ≤ 4096) (Q : AExit → St → Prop)
    (hQe : ∀ st : St, CpI t0 fb L L.length st → Q (.exit 0) st) :
    ∀ (n : Nat) (st : St), (∃ j : Nat, CpI t0 fb L j st ∧ j ≤ L.length ∧ n = L.length - j) → W ap (.loop cpLoop) st Q := by
  refine W_loop _ ?_
  rintro n st ⟨j, ⟨hl, h0, h1, h6, b, hb, h5, gb⟩, hj, hn⟩
  by_cases hend : j = L.length
  · have hlt : decide ((j : Int) < (L.length : Int)) = false := decide_eq_false (by omega)
    rw [hend] at h6 h5 gb hlt
    refine W_seq (W_seqn (W_region (fun k => by simp +decide (disch := first | omega | simp +decide only [List.length_set, hl]) only [sa, simprocAttr, hps, h1, h6, hlt]; rfl) ⟨rfl, W_fls (W_exit (.inr ⟨by simp, .inr ⟨by simp, hQe _ ⟨?_, ?_, ?_, ?_, b, ?_, ?_, ?_⟩⟩⟩))⟩))
    case refine_5 => show b < st.nx + 4; omega
    case refine_7 => exact gb
    all_goals simp +decide (disch := first | omega | simp +decide only [List.length_set, hl]) only [sa, simprocAttr, hps, hl, h0, h1, h5, h6]
  have hjl : j < L.length := by omega
  have hlt : decide ((j : Int) < (L.length : Int)) = true := decide_eq_true (by omega)
  have hw2 : IntKind.i64.wrap ((j : Int) + 1) = ((j + 1 : Nat) : Int) := by rw [wrap_id (by omega)]; omega
  have hg := u8_at L j hjl
  have hcl := u8_len L
  have hbb : j * 1 + 1 ≤ L.length := by omega
  have htk : (L.flatMap u8T).take (j + 1) = (L.flatMap u8T).take j ++ [T.int .u8 (at0 L j)] := by
    rw [List.take_add_one, show (L.flatMap u8T)[j]? = some (T.int .u8 (at0 L j)) by have := hg; rw [Nat.mul_one] at this; exact this]; rfl
  generalize at0 L j = v at *
  have hroom : (j + 1) * 1 ≤ 549755813888 := by omega
  have hroom2 : j + 1 ≤ 549755813888 := by omega
  have hall : allLeaf [T.int .u8 v] = true := rfl
  have hspl : splice [T.int .u8 0] (0 * 1) [T.int .u8 v] = [T.int .u8 v] := rfl
  have hspl2 : splice [T.int .u8 0] 0 [T.int .u8 v] = [T.int .u8 v] := rfl
  have htl : ((L.flatMap u8T).take j).length = j := by rw [List.length_take]; omega
  have hct : cut ((L.flatMap u8T).take j) 0 (j * 1) = (L.flatMap u8T).take j := cut_all (by omega)
  have hj1 : j * 1 ≤ j := by omega
  have hcv : cut [T.int .u8 v] 0 1 = [T.int .u8 v] := rfl
  generalize htk' : (L.flatMap u8T).take j = tk at *
  generalize hcs : L.flatMap u8T = cs at *
  refine W_seqn (W_seqn (W_region (fun k => by simp +decide (disch := first | omega | simp +decide only [List.length_set, hl]) only [sa, simprocAttr, hps, h1, h6, hlt]; rfl) ⟨rfl, W_tru (W_skip ⟨rfl, ?_⟩)⟩))
  refine W_seqn (W_block (W_region (fun k => by simp +decide (disch := first | omega | simp +decide only [List.length_set, hl]) only [sa, simprocAttr, hps, h1, h5, h6, gb, hjl, hbb, hcl, hg, cellsOf, hall, hspl, hspl2, hroom, hroom2, htl, hct, hj1, hcv, Nat.zero_add]; rfl) (.inr (.inl ⟨by simp, rfl, ?_⟩))))
  refine W_region (fun k => by simp +decide (disch := first | omega | simp +decide only [List.length_set, hl]) only [sa, simprocAttr, hps, h6, hw2]; rfl) (.inl ⟨rfl, L.length - (j + 1), by omega, j + 1, ⟨?_, ?_, ?_, ?_, st.nx + 4 + 6, ?_, ?_, ?_⟩, by omega, rfl⟩)
  case refine_5 => show st.nx + 4 + 6 < st.nx + 4 + 8 + 3; omega
  case refine_3 => rw [hcs]; simp +decide (disch := first | omega | simp +decide only [List.length_set, hl]) only [sa, simprocAttr, hps, h1]
  case refine_7 => rw [hcs, htk]; simp +decide (disch := first | omega | simp +decide only [List.length_set, hl]) only [sa, simprocAttr, hps, hcv]
  all_goals simp +decide (disch := first | omega | simp +decide only [List.length_set, hl]) only [sa, simprocAttr, hps, hl, h0, h1]
/-! ### Stores drained over it -/
theorem qRWR : ap 20 = some f20 := rfl
theorem rRWR : f20.pure = true := rfl
theorem sRWR : f20.nat = none := rfl
def DrI (fl : Bool) (l : List Sb) (L : List Int) (i : Nat) (st : St) : Prop := st.s.length = 54 ∧ rho st.s (.tmp 0) = .imm fl l.length (l.flatMap Sb.enc) ∧ rho st.s (.tmp 7) = .int .i64 (i : Int) ∧ ∃ X, rho st.s (.tmp 5) = X ∧ ListAt (fun t => t < st.nx) st.g X ((drL (l.take i) L).flatMap u8T)
theorem dr_loop (fl : Bool) (l : List Sb) (hl20 : l.length ≤ 1000) (L : List Int) (hL : L.length ≤ 4096) (hs : ∀ s ∈ l, sbOk L.length s) (Q : AExit → St → Prop)
    (hQe : ∀ st : St, DrI fl l L l.length st → Q (.exit 2) st) :
    ∀ (n : Nat) (st : St), (∃ i : Nat, DrI fl l L i st ∧ i ≤ l.length ∧ n = l.length - i) → W ap (.loop drLoop) st Q := by
  refine W_loop _ ?_
  rintro n st ⟨i, ⟨hl, h0, h7, X, h5, hX⟩, hi, hn⟩
  by_cases hend : i = l.length
  · have hlt : decide ((i : Int) < (l.length : Int)) = false := decide_eq_false (by omega)
    rw [hend] at h7 hX hlt
    refine W_seq (W_seqn (W_region (fun k => by simp +decide (disch := first | omega | simp +decide only [List.length_set, hl]) only [sa, simprocAttr, hps, h0, h7, hlt]; rfl) ⟨rfl, W_fls (W_exit (.inr ⟨by simp, .inr ⟨by simp, hQe _ ⟨?_, ?_, ?_, X, ?_, ?_⟩⟩⟩))⟩))
    case refine_5 => exact hX.mono (fun t ht => by show t < st.nx + 4; omega) (fun _ _ => rfl)
    all_goals simp +decide (disch := first | omega | simp +decide only [List.length_set, hl]) only [sa, simprocAttr, hps, hl, h0, h5, h7]
  have hil : i < l.length := by omega
  have hlt : decide ((i : Int) < (l.length : Int)) = true := decide_eq_true (by omega)
  have hw2 : IntKind.i64.wrap ((i : Int) + 1) = ((i + 1 : Nat) : Int) := by rw [wrap_id (by omega)]; omega
  have hcl := sb_cells l
  have hb3 : i * 3 + 3 ≤ l.length * 3 := by omega
  have hb0 : i * 3 + 1 ≤ l.length * 3 := by omega
  have hb1 : i * 3 + 1 + 1 ≤ l.length * 3 := by omega
  have hb2 : i * 3 + 2 + 1 ≤ l.length * 3 := by omega
  have g0 := sb_get l i hil 0 (by omega)
  have g1 := sb_get l i hil 1 (by omega)
  have g2 := sb_get l i hil 2 (by omega)
  have htk := drL_take l L i hil
  have hso := hs _ (List.getElem_mem hil)
  generalize l[i] = s at *
  obtain ⟨ad, z, dn, ea, ez, ed, had, hdn, hz, hal, hin⟩ := hso
  have hse : s.enc = [.int .u32 (ad : Int), .int .u32 (dn : Int), .int .i64 (z : Int)] := by show [T.int .u32 s.addr] ++ ([T.int .u32 s.data] ++ [T.int .i64 s.size]) = _; rw [ea, ez, ed]; rfl
  rw [hse] at g0 g1 g2
  have g0 : (l.flatMap Sb.enc)[i * 3]? = some (.int .u32 (ad : Int)) := g0
  have g1 : (l.flatMap Sb.enc)[i * 3 + 1]? = some (.int .u32 (dn : Int)) := g1
  have g2 : (l.flatMap Sb.enc)[i * 3 + 2]? = some (.int .i64 (z : Int)) := g2
  have hdr : dr1 (drL (l.take i) L) s = spl (drL (l.take i) L) ad (bytesOf (dn : Int) z) := by unfold dr1; rw [ea, ez, ed]; rfl
  have hbl : (drL (l.take i) L).length = L.length := drL_len _ _
  obtain ⟨f, ids, e1, _⟩ := hX.frz (d := 10) (nx := 0) (frzAll_int _ (u8_ints _))
  rw [u8_len] at e1
  obtain ⟨u, hW, f', rfl⟩ := ref10_write f (drL (l.take i) L) (by omega) ad z had hz (by omega) (dn : Int) (by omega)
  obtain ⟨N, v', hu, q⟩ := hW.callU qRWR (UpL.refl _)
  have hfr : frzL ⟨st.g, 0⟩ frzDepth [X, .int .u32 (ad : Int), .int .i64 (z : Int), .int .u32 (dn : Int)] = some ([.imm f (drL (l.take i) L).length ((drL (l.take i) L).flatMap u8T), .int .u32 (ad : Int), .int .i64 (z : Int), .int .u32 (dn : Int)], ids) := by
    have e1 : frz ⟨st.g, 0⟩ 12 X = _ := e1
    unfold frzL
    rw [show frzDepth = 12 from rfl]
    simp only [frzAll, e1, frzI12, List.append_nil]
  have q := q N (Nat.le_refl _) st.g _ ids hfr
  obtain ⟨c', rfl, hc'⟩ := UpT.tup hu
  simp only [UpL] at hc'
  obtain ⟨a1, l1, rfl, u1, a2, l2, rfl, u2, rfl⟩ := hc'
  obtain ⟨f2, c2, rfl, _, hc2⟩ := UpT.imm u1
  obtain rfl := UpT.int u2
  obtain rfl : c2 = _ := upL_ints hc2 (u8_ints _)
  rw [← hdr, ← htk] at q
  generalize (if (T.tup [T.imm f2 (drL (l.take i) L).length ((drL (l.take (i + 1)) L).flatMap u8T), T.int IntKind.i64 0]).flat = true then ([] : List (Nat × Option (List T))) else ids.map fun t => (t, none)) = ed2 at q
  have hnew : ListAt (fun _ : Nat => False) (fun _ => none) (.imm f2 (drL (l.take i) L).length ((drL (l.take (i + 1)) L).flatMap u8T)) ((drL (l.take (i + 1)) L).flatMap u8T) := .inl ⟨f2, by rw [u8_len, drL_len, drL_len]⟩
  generalize (drL (l.take i) L).length = dl at *
  generalize hdnw : (drL (l.take (i + 1)) L).flatMap u8T = dnew at *
  generalize hcs : l.flatMap Sb.enc = cs at *
  refine W_seqn (W_seqn (W_region (fun k => by simp +decide (disch := first | omega | simp +decide only [List.length_set, hl]) only [sa, simprocAttr, hps, h0, h7, hlt]; rfl) ⟨rfl, W_tru (W_skip ⟨rfl, ?_⟩)⟩))
  refine W_seqn (W_block ?_)
  refine W_cut (fun t => t.s.length = 54 ∧ rho t.s (.tmp 0) = .imm fl l.length cs ∧ rho t.s (.tmp 7) = .int .i64 (i : Int) ∧ rho t.s (.tmp 8) = .imm f2 dl dnew ∧ rho t.s (.tmp 9) = .int .i64 0) (W_regionN ⟨N, by simp +decide (disch := first | omega | simp +decide only [List.length_set, hl]) only [sa, simprocAttr, hps, h0, h5, h7, hil, hcl, hb0, hb1, hb2, hb3, g0, g1, g2, Nat.add_zero, qRWR, rRWR, sRWR, q]; rfl⟩ ⟨rfl, ?_, ?_, ?_, ?_, ?_⟩) ?_
  case refine_6 =>
    clear hl h0 h7 h5 hX q hfr e1
    rintro st ⟨hl, h0, h7, h8, h9⟩
    refine W_seqn (W_region (fun k => by simp +decide (disch := first | omega | simp +decide only [List.length_set, hl]) only [sa, simprocAttr, hps, h9]; rfl) ⟨rfl, W_tru (W_region (fun k => by simp +decide (disch := first | omega | simp +decide only [List.length_set, hl]) only [sa, simprocAttr, hps, h8]; rfl) (.inr (.inl ⟨by simp, rfl, ?_⟩)))⟩)
    refine W_region (fun k => by simp +decide (disch := first | omega | simp +decide only [List.length_set, hl]) only [sa, simprocAttr, hps, h7, hw2]; rfl) (.inl ⟨rfl, l.length - (i + 1), by omega, i + 1, ⟨?_, ?_, ?_, .imm f2 dl dnew, ?_, ?_⟩, by omega, rfl⟩)
    case refine_5 => rw [hdnw]; exact hnew.mono (fun _ h => h.elim) (fun _ h => h.elim)
    case refine_2 => rw [hcs]; simp +decide (disch := first | omega | simp +decide only [List.length_set, hl]) only [sa, simprocAttr, hps, h0]
    all_goals simp +decide (disch := first | omega | simp +decide only [List.length_set, hl]) only [sa, simprocAttr, hps, hl]
  all_goals simp +decide (disch := first | omega | simp +decide only [List.length_set, hl]) only [sa, simprocAttr, hps, hl, h0, h7]
theorem ref_drain (fl : Bool) (l : List Sb) (hl20 : l.length ≤ 1000) (fb : Bool) (L : List Int) (hL : L.length ≤ 4096) (hs : ∀ s ∈ l, sbOk L.length s) : ∃ v, E ap 8 [.imm fl l.length (l.flatMap Sb.enc), .imm fb L.length (L.flatMap u8T)] v ∧ ∃ f, v = .imm f L.length ((drL l L).flatMap u8T) := by
  refine E_bodyV (F := f8) rfl rfl rfl (P := fun v => ∃ f, v = .imm f L.length ((drL l L).flatMap u8T)) ?_
  generalize hs0 : (_ : List T) ++ List.replicate _ T.undef = s0
  have e0 : s0.length = 54 ∧ rho s0 (.tmp 0) = .imm fl l.length (l.flatMap Sb.enc) ∧ rho s0 (.tmp 1) = .imm fb L.length (L.flatMap u8T) := by subst hs0; exact ⟨rfl, rfl, rfl⟩
  clear hs0
  obtain ⟨hl, h0, h1⟩ := e0
  have e0 : allLeaf ([] : List T) = true := rfl
  refine W_seqn (W_region (fun k => by simp +decide (disch := first | omega | simp +decide only [List.length_set, hl]) only [sa, simprocAttr, hps]; rfl) ⟨rfl, ?_⟩)
  refine W_seqn (W_region (fun k => by simp +decide (disch := first | omega | simp +decide only [List.length_set, hl]) only [sa, simprocAttr, hps, e0]; rfl) ⟨rfl, ?_⟩)
  refine W_seq (W_seqn (W_region (fun k => by simp +decide (disch := first | omega | simp +decide only [List.length_set, hl]) only [sa, simprocAttr, hps]; rfl) ⟨rfl, W_block ?_⟩))
  refine cp_loop (.imm fl l.length (l.flatMap Sb.enc)) fb L hL _ (fun st hI => ?_) (L.length - 0) _ ⟨0, ⟨?_, ?_, ?_, ?_, 1, ?_, ?_, ?_⟩, by omega, rfl⟩
  case refine_1 =>
    obtain ⟨hl, h0, h1, h6, b, hb, h5, gb⟩ := hI
    rw [List.take_of_length_le (by rw [u8_len]; omega)] at gb
    refine .inl ⟨rfl, .inl ⟨rfl, ?_⟩⟩
    refine W_seq (W_seqn (W_region (fun k => by simp +decide (disch := first | omega | simp +decide only [List.length_set, hl]) only [sa, simprocAttr, hps]; rfl) ⟨rfl, W_block ?_⟩))
    refine dr_loop fl l hl20 L hL hs _ (fun st hI => ?_) (l.length - 0) _ ⟨0, ⟨?_, ?_, ?_, .own b 0 L.length 1, ?_, .inr ⟨b, ?_, by rw [u8_len]; rfl, gb⟩⟩, by omega, rfl⟩
    · obtain ⟨hl, h0, h7, X, h5, hX⟩ := hI
      rw [List.take_length] at hX
      refine .inl ⟨rfl, .inl ⟨rfl, ?_⟩⟩
      obtain ⟨f, ids, e1, _⟩ := hX.frz (d := 10) (nx := st.nx + 2) (frzAll_int _ (u8_ints _))
      rw [u8_len, drL_len] at e1
      refine W_seqn (W_region (fun k => by simp +decide (disch := first | omega | simp +decide only [List.length_set, hl]) only [sa, simprocAttr, hps, h5]; rfl) ⟨rfl, W_ret ?_⟩)
      refine ⟨rfl, _, ⟨f, rfl⟩, X, ids, ?_, e1⟩
      refine res_one (F := f8) rfl ?_
      simp +decide (disch := first | omega | simp +decide only [List.length_set, hl]) only [sa, simprocAttr, hl]
    case refine_6 => show b < st.nx + 1; omega
    all_goals simp +decide (disch := first | omega | simp +decide only [List.length_set, hl]) only [sa, simprocAttr, hps, hl, h0, h5]
  all_goals first | (simp +decide (disch := first | omega | simp +decide only [List.length_set, hl]) only [sa, simprocAttr, hps, hl, h0, h1]; done) | (simp +decide (disch := first | omega | simp +decide only [List.length_set, hl]) only [sa, simprocAttr, hps, hl, h0, h1]; rfl) | (show 1 < 0 + 1 + 2 + 1; omega)
end Go.Proofs.Ytabfinhkoihhfaa.Abs
