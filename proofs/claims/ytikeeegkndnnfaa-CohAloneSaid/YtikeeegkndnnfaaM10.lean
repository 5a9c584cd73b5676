/- A number in memory, read and written byte by byte, and two memories held against one another: the given functions' walks. -/
import Derived.Test.YtikeeegkndnnfaaOne1
namespace Go.Proofs.Ytikeeegkndnnfaa.Abs
open Go Go.RowKit Fn
set_option linter.unusedVariables false
set_option linter.unusedSimpArgs false
set_option linter.unnecessarySimpa false
set_option maxRecDepth 100000
set_option maxHeartbeats 4000000

theorem spl_take_succ (m : List Int) (o : Nat) (l : List Int) (i : Nat) (h : o + l.length ≤ m.length) (hi : i < l.length) : spl m o (l.take (i + 1)) = (spl m o (l.take i)).set (o + i) l[i] := by
  apply List.ext_getElem?
  intro j
  have e1 : (l.take (i + 1)).length = i + 1 := by rw [List.length_take]; omega
  have e2 : (l.take i).length = i := by rw [List.length_take]; omega
  rw [spl_get _ _ _ (by omega), List.getElem?_set, spl_len, spl_get _ _ _ (by omega), e1, e2]
  by_cases hj : o + i = j
  · subst hj
    rw [if_pos rfl, if_pos (by omega), if_pos (by omega), show o + i - o = i from by omega, List.getElem?_take, if_pos (by omega), List.getElem?_eq_getElem hi]
  · rw [if_neg hj]
    by_cases h1 : o ≤ j ∧ j < o + i
    · rw [if_pos h1, if_pos (by omega), List.getElem?_take, List.getElem?_take, if_pos (by omega), if_pos (by omega)]
    · rw [if_neg h1, if_neg (by omega)]
theorem qCHK0 : ap 32 = some f32 := rfl
theorem rCHK0 : f32.pure = true := rfl
theorem sCHK0 : f32.nat = none := rfl
theorem int_upC {k : IntKind} {n : Int} : ∀ v', UpT (.int k n) v' → v' = .int k n := fun _ h => UpT.int h
theorem chk_ok (f : Bool) (L : List Int) (hL : L.length ≤ 1024) (addr z : Nat) (ha : addr ≤ 4294967295) (hz : z = 1 ∨ z = 2 ∨ z = 4) (hin : addr + z ≤ L.length) : E ap 32 [.imm f L.length (L.flatMap u8T), .int .u32 (addr : Int), .int .i64 (z : Int)] (.int .i64 0) := by
  have h := ref_check ⟨L, []⟩ hL addr ha (z : Int) (by omega)
  rw [if_pos (show (addr : Int) + (z : Int) ≤ ((Coh.mk L []).mem.length : Int) by show (addr : Int) + (z : Int) ≤ (L.length : Int); omega)] at h
  obtain ⟨v', h', hu⟩ := h.up (args' := [.imm f L.length (L.flatMap u8T), .int .u32 (addr : Int), .int .i64 (z : Int)]) (UpL.cons (upT_imm (fun e => by cases e) (UpL.refl _)) (UpL.refl _))
  rw [UpT.int hu] at h'
  exact h'
theorem val_step (L : List Int) (hb : ∀ y ∈ L, (Lit.int .u8 y).wf = true) (i d : Nat) (h : i < L.length) : val ((L.drop i).take (d + 1)) = at0 L i + 256 * val ((L.drop (i + 1)).take d) := by
  have e : L.drop i = at0 L i :: L.drop (i + 1) := by
    rw [List.drop_eq_getElem_cons h]; unfold at0; rw [List.getElem?_eq_getElem h]; rfl
  rw [e, List.take_succ_cons]; rfl
theorem at0_byte (L : List Int) (hb : ∀ y ∈ L, (Lit.int .u8 y).wf = true) (i : Nat) (h : i < L.length) : 0 ≤ at0 L i ∧ at0 L i ≤ 255 := by
  unfold at0; rw [List.getElem?_eq_getElem h]; exact wf_u8 (hb _ (List.getElem_mem h))
theorem val_rng (L : List Int) (hb : ∀ y ∈ L, (Lit.int .u8 y).wf = true) (i d : Nat) : 0 ≤ val ((L.drop i).take d) ∧ val ((L.drop i).take d) < 256 ^ d := by
  obtain ⟨h1, h2⟩ := val_range ((L.drop i).take d) (fun b hm => wf_u8 (hb b (List.mem_of_mem_drop (List.mem_of_mem_take hm))))
  refine ⟨h1, Int.lt_of_lt_of_le h2 ?_⟩
  have : ((L.drop i).take d).length ≤ d := by rw [List.length_take]; omega
  have := Nat.pow_le_pow_right (show 0 < 256 by omega) this
  exact_mod_cast this
def r10Loop : ACode := match f17.body with | .seq _ (.seq _ (.seq _ (.seq _ (.seq (.seq _ (.block _ (.loop c))) _)))) => c | _ => .skip
theorem r10_loop (f : Bool) (L : List Int) (hb : ∀ y ∈ L, (Lit.int .u8 y).wf = true) (hL : L.length ≤ 1024) (addr z : Nat) (ha : addr ≤ 4294967295) (hz : z ≤ 4) (hin : addr + z ≤ L.length) (Q : AExit → St → Prop)
    (hQe : ∀ st : St, st.s.length = 36 → rho st.s (.tmp 9) = .int .u32 (val ((L.drop addr).take z)) → Q (.exit 0) st) :
    ∀ (n : Nat) (st : St), (∃ d : Nat, st.s.length = 36 ∧ rho st.s (.tmp 0) = .imm f L.length (L.flatMap u8T) ∧ rho st.s (.tmp 1) = .int .u32 (addr : Int) ∧ rho st.s (.tmp 9) = .int .u32 (val ((L.drop (addr + z - d)).take d)) ∧ rho st.s (.tmp 10) = .int .i64 ((z : Int) - (d : Int) - 1) ∧ d ≤ z ∧ n = z - d) → W ap (.loop r10Loop) st Q := by
  refine W_loop _ ?_
  rintro n st ⟨d, hl, h0, h1, h9, h10, hd, hn⟩
  by_cases hend : d = z
  · subst hend
    have hlt : decide ((d : Int) - (d : Int) - 1 ≥ 0) = false := decide_eq_false (by omega)
    rw [show addr + d - d = addr by omega] at h9
    refine W_seq (W_seqn (W_region (fun k => by simp (decide := true) (disch := first | omega | simp (decide := true) only [List.length_set, hl]) only [sims, autos, simprocAttr, hps, h10, hlt]; rfl) ⟨rfl, W_fls (W_exit (.inr ⟨by simp, .inr ⟨by simp, hQe _ ?_ ?_⟩⟩))⟩))
    all_goals simp (decide := true) (disch := first | omega | simp (decide := true) only [List.length_set, hl]) only [sims, autos, simprocAttr, hps, hl, h9]
  have hlt : decide ((z : Int) - (d : Int) - 1 ≥ 0) = true := decide_eq_true (by omega)
  have hil : addr + z - (d + 1) < L.length := by omega
  have hstep := val_step L hb (addr + z - (d + 1)) d hil
  rw [show addr + z - (d + 1) + 1 = addr + z - d by omega] at hstep
  obtain ⟨v1, v2⟩ := val_rng L hb (addr + z - d) d
  obtain ⟨x1, x2⟩ := at0_byte L hb _ hil
  have hg := u8_at L _ hil
  have hcl := u8_len L
  have hp : (256 : Int) ^ d ≤ 16777216 := by
    have : d = 0 ∨ d = 1 ∨ d = 2 ∨ d = 3 := by omega
    rcases this with rfl | rfl | rfl | rfl <;> decide
  generalize val ((L.drop (addr + z - d)).take d) = o at *
  have hbi : (addr + z - (d + 1)) * 1 + 1 ≤ L.length := by omega
  generalize at0 L (addr + z - (d + 1)) = x at *
  have w1 : IntKind.u32.wrap (256 * o) = 256 * o := by rw [wrap_u32]; omega
  have w2 : IntKind.i64.wrap (addr : Int) = (addr : Int) := wrap_id (by omega)
  have w3 : IntKind.i64.wrap ((addr : Int) + ((z : Int) - (d : Int) - 1)) = ((addr + z - (d + 1) : Nat) : Int) := by rw [wrap_id (by omega)]; omega
  have w4 : IntKind.u32.wrap x = x := by rw [wrap_u32]; omega
  have w5 : IntKind.u32.wrap (256 * o + x) = x + 256 * o := by rw [wrap_u32]; omega
  have w6 : IntKind.i64.wrap ((z : Int) - (d : Int) - 1 - 1) = (z : Int) - ((d + 1 : Nat) : Int) - 1 := by rw [wrap_id (by omega)]; omega
  generalize hj : addr + z - (d + 1) = j at *
  generalize L.flatMap u8T = cs at *
  refine W_seqn (W_seqn (W_region (fun k => by simp (decide := true) (disch := first | omega | simp (decide := true) only [List.length_set, hl]) only [sims, autos, simprocAttr, hps, h10, hlt]; rfl) ⟨rfl, W_tru (W_skip ⟨rfl, ?_⟩)⟩))
  refine W_seqn (W_block (W_region (fun k => by simp (decide := true) (disch := first | omega | simp (decide := true) only [List.length_set, hl]) only [sims, autos, simprocAttr, hps, h0, h1, h9, h10, w1, w2, w3, hil, hbi, hcl, hg, w4, w5]; rfl) (.inr (.inl ⟨by simp, rfl, ?_⟩))))
  refine W_region (fun k => by simp (decide := true) (disch := first | omega | simp (decide := true) only [List.length_set, hl]) only [sims, autos, simprocAttr, hps, h10, w6]; rfl) (.inl ⟨rfl, z - (d + 1), by omega, d + 1, ?_, ?_, ?_, ?_, ?_, by omega, rfl⟩)
  case refine_4 => rw [hj]; simp (decide := true) (disch := first | omega | simp (decide := true) only [List.length_set, hl]) only [sims, autos, simprocAttr, hps, hstep]
  all_goals simp (decide := true) (disch := first | omega | simp (decide := true) only [List.length_set, hl]) only [sims, autos, simprocAttr, hps, hl, h0, h1]
theorem ref10_read (f : Bool) (L : List Int) (hb : ∀ y ∈ L, (Lit.int .u8 y).wf = true) (hL : L.length ≤ 1024) (addr z : Nat) (ha : addr ≤ 4294967295) (hz : z = 1 ∨ z = 2 ∨ z = 4) (hin : addr + z ≤ L.length) : E ap 17 [.imm f L.length (L.flatMap u8T), .int .u32 (addr : Int), .int .i64 (z : Int)] (.tup [.int .u32 (val ((L.drop addr).take z)), .int .i64 0]) := by
  refine E_body (F := f17) rfl rfl rfl ?_
  generalize hs0 : (_ : List T) ++ List.replicate _ T.undef = s0
  have e0 : s0.length = 36 ∧ rho s0 (.tmp 0) = .imm f L.length (L.flatMap u8T) ∧ rho s0 (.tmp 1) = .int .u32 (addr : Int) ∧ rho s0 (.tmp 2) = .int .i64 (z : Int) := by subst hs0; exact ⟨rfl, rfl, rfl, rfl⟩
  clear hs0
  obtain ⟨hl, h0, h1, h2⟩ := e0
  obtain ⟨N, q⟩ := (chk_ok f L hL addr z ha hz hin).call qCHK0 (fun g => rfl)
  have q := q N (Nat.le_refl _)
  have w1 : IntKind.i64.wrap ((z : Int) - 1) = (z : Int) - ((0 : Nat) : Int) - 1 := by rw [wrap_id (by omega)]; omega
  refine W_seqn (W_region (fun k => by simp (decide := true) (disch := first | omega | simp (decide := true) only [List.length_set, hl]) only [sims, autos, simprocAttr, hps]; rfl) ⟨rfl, ?_⟩)
  refine W_seqn (W_regionN ⟨N, by simp (decide := true) (disch := first | omega | simp (decide := true) only [List.length_set, hl]) only [sims, autos, simprocAttr, hps, h0, h1, h2, qCHK0, rCHK0, sCHK0, q]; rfl⟩ ⟨rfl, ?_⟩)
  refine W_seqn (W_seqn (W_region (fun k => by simp (decide := true) (disch := first | omega | simp (decide := true) only [List.length_set, hl]) only [sims, autos, simprocAttr, hps]; rfl) ⟨rfl, W_fls (W_skip ⟨rfl, ?_⟩)⟩))
  refine W_seqn (W_region (fun k => by simp (decide := true) (disch := first | omega | simp (decide := true) only [List.length_set, hl]) only [sims, autos, simprocAttr, hps]; rfl) ⟨rfl, ?_⟩)
  refine W_seq (W_seqn (W_region (fun k => by simp (decide := true) (disch := first | omega | simp (decide := true) only [List.length_set, hl]) only [sims, autos, simprocAttr, hps, h2, w1]; rfl) ⟨rfl, W_block ?_⟩))
  refine r10_loop f L hb hL addr z ha (by omega) hin _ (fun st hl h9 => ?_) (z - 0) _ ⟨0, ?_, ?_, ?_, ?_, ?_, by omega, rfl⟩
  · refine .inl ⟨rfl, .inl ⟨rfl, ?_⟩⟩
    refine W_seqn (W_region (fun k => by simp (decide := true) (disch := first | omega | simp (decide := true) only [List.length_set, hl]) only [sims, autos, simprocAttr, hps, h9]; rfl) ⟨rfl, W_ret ?_⟩)
    refine fin_of2 (F := f17) rfl (fun _ => rfl) ?_ ?_ <;> simp (decide := true) (disch := first | omega | simp (decide := true) only [List.length_set, hl]) only [sims, autos, simprocAttr]
  all_goals first | (simp (decide := true) (disch := first | omega | simp (decide := true) only [List.length_set, hl]) only [sims, autos, simprocAttr, hps, hl, h0, h1]; done) | (simp (decide := true) (disch := first | omega | simp (decide := true) only [List.length_set, hl]) only [sims, autos, simprocAttr, hps, hl, h0, h1]; rfl)
def w10Loop : ACode := match f15.body with | .seq _ (.seq _ (.seq _ (.seq _ (.seq (.seq _ (.block _ (.loop c))) _)))) => c | _ => .skip
theorem pow_div (v : Int) (k : Nat) : v / 256 ^ k / 256 = v / 256 ^ (k + 1) := by
  rw [Int.pow_succ, Int.ediv_ediv_of_nonneg (Int.pow_nonneg (by omega))]
theorem w10_loop (L : List Int) (hL : L.length ≤ 1024) (addr z : Nat) (ha : addr ≤ 4294967295) (hz : z ≤ 4) (hin : addr + z ≤ L.length) (v : Int) (hv : 0 ≤ v ∧ v ≤ 4294967295) (A : Nat) (Q : AExit → St → Prop)
    (hQe : ∀ st : St, st.s.length = 40 → rho st.s (.tmp 11) = .own A 0 L.length 1 → st.g A = some ((spl L addr (bytesOf v z)).flatMap u8T) → Q (.exit 0) st) :
    ∀ (n : Nat) (st : St), (∃ k : Nat, st.s.length = 40 ∧ rho st.s (.tmp 1) = .int .u32 (addr : Int) ∧ rho st.s (.tmp 2) = .int .i64 (z : Int) ∧ rho st.s (.tmp 3) = .int .u32 (v / 256 ^ k) ∧ rho st.s (.tmp 11) = .own A 0 L.length 1 ∧ rho st.s (.tmp 12) = .int .i64 (k : Int) ∧ st.g A = some ((spl L addr ((bytesOf v z).take k)).flatMap u8T) ∧ k ≤ z ∧ n = z - k) → W ap (.loop w10Loop) st Q := by
  refine W_loop _ ?_
  rintro n st ⟨k, hl, h1, h2, h3, h11, h12, gA, hk, hn⟩
  have hbl := bytesOf_len z v
  by_cases hend : k = z
  · have hlt : decide ((k : Int) < (z : Int)) = false := decide_eq_false (by omega)
    rw [List.take_of_length_le (by omega)] at gA
    refine W_seq (W_seqn (W_region (fun k => by simp (decide := true) (disch := first | omega | simp (decide := true) only [List.length_set, hl]) only [sims, autos, simprocAttr, hps, h2, h12, hlt]; rfl) ⟨rfl, W_fls (W_exit (.inr ⟨by simp, .inr ⟨by simp, hQe _ ?_ ?_ ?_⟩⟩))⟩))
    case refine_3 => exact gA
    all_goals simp (decide := true) (disch := first | omega | simp (decide := true) only [List.length_set, hl]) only [sims, autos, simprocAttr, hps, hl, h11]
  have hlt : decide ((k : Int) < (z : Int)) = true := decide_eq_true (by omega)
  have hkz : k < z := by omega
  have hget : (bytesOf v z)[k]'(by omega) = v / 256 ^ k % 256 := by
    have := bytesOf_get z v k hkz
    rw [List.getElem?_eq_getElem (by omega)] at this
    exact Option.some.inj this
  have hnew : ((spl L addr ((bytesOf v z).take k)).flatMap u8T).set (addr + k) (.int .u8 (v / 256 ^ k % 256)) = (spl L addr ((bytesOf v z).take (k + 1))).flatMap u8T := by
    rw [spl_take_succ _ _ _ _ (by omega) (by omega), hget, set_u8]
  have hcl : ((spl L addr ((bytesOf v z).take k)).flatMap u8T).length = L.length := by rw [u8_len, spl_len]
  have hpd := pow_div v k
  have hp0 : (0 : Int) < 256 ^ k := Int.pow_pos (by omega)
  have hq0 : 0 ≤ v / 256 ^ k := Int.ediv_nonneg hv.1 (by omega)
  have hq1 : v / 256 ^ k ≤ v := Int.ediv_le_self _ hv.1
  have ht1 : (v / 256 ^ k).tmod 256 = v / 256 ^ k % 256 := Int.tmod_eq_emod_of_nonneg hq0
  have ht2 : (v / 256 ^ k).tdiv 256 = v / 256 ^ (k + 1) := by rw [Int.tdiv_eq_ediv_of_nonneg hq0]; exact hpd
  have hr0 : 0 ≤ v / 256 ^ (k + 1) := by rw [← hpd]; omega
  have hr1 : v / 256 ^ (k + 1) ≤ 4294967295 := by rw [← hpd]; omega
  generalize (spl L addr ((bytesOf v z).take k)).flatMap u8T = C at *
  generalize hCe : (spl L addr ((bytesOf v z).take (k + 1))).flatMap u8T = C' at *
  generalize v / 256 ^ k = x at *
  generalize hy : v / 256 ^ (k + 1) = y at *
  have w1 : IntKind.i64.wrap (addr : Int) = (addr : Int) := wrap_id (by omega)
  have w2 : IntKind.i64.wrap ((addr : Int) + (k : Int)) = ((addr + k : Nat) : Int) := by rw [wrap_id (by omega)]; omega
  have w3 : IntKind.u8.wrap (x % 256) = x % 256 := by rw [wrap_u8]; omega
  have w4 : IntKind.i64.wrap ((k : Int) + 1) = ((k + 1 : Nat) : Int) := by rw [wrap_id (by omega)]; omega
  have w5 : IntKind.u32.wrap (x % 256) = x % 256 := by rw [wrap_u32]; omega
  have w6 : IntKind.u32.wrap y = y := by rw [wrap_u32]; omega
  have hb2 : addr + k < L.length := by omega
  have hb3 : addr + k + 1 ≤ C.length := by omega
  refine W_seqn (W_seqn (W_region (fun k => by simp (decide := true) (disch := first | omega | simp (decide := true) only [List.length_set, hl]) only [sims, autos, simprocAttr, hps, h2, h12, hlt]; rfl) ⟨rfl, W_tru (W_skip ⟨rfl, ?_⟩)⟩))
  refine W_seqn (W_block (W_seqn (W_region (fun k => by simp (decide := true) (disch := first | omega | simp (decide := true) only [List.length_set, hl]) only [sims, autos, simprocAttr, hps, h1, h3, h11, h12, gA, w1, w2, ht1, w5, w3, hb2, hb3, hnew, Nat.mul_one]; rfl) ⟨rfl, ?_⟩)))
  refine W_region (fun k => by simp (decide := true) (disch := first | omega | simp (decide := true) only [List.length_set, hl]) only [sims, autos, simprocAttr, hps, h3, ht2, w6]; rfl) (.inr (.inl ⟨by simp, rfl, ?_⟩))
  refine W_region (fun k => by simp (decide := true) (disch := first | omega | simp (decide := true) only [List.length_set, hl]) only [sims, autos, simprocAttr, hps, h12, w4]; rfl) (.inl ⟨rfl, z - (k + 1), by omega, k + 1, ?_, ?_, ?_, ?_, ?_, ?_, ?_, by omega, rfl⟩)
  case refine_7 => rw [hCe]; simp (decide := true) (disch := first | omega | simp (decide := true) only [List.length_set, hl]) only [sims, autos, simprocAttr, hps]
  case refine_4 => rw [hy]; simp (decide := true) (disch := first | omega | simp (decide := true) only [List.length_set, hl]) only [sims, autos, simprocAttr, hps]
  all_goals simp (decide := true) (disch := first | omega | simp (decide := true) only [List.length_set, hl]) only [sims, autos, simprocAttr, hps, hl, h1, h2, h11]
theorem fin_tupown {F : AFun} {t1 t2 A n : Nat} {c : List T} (hF : F.res = [.tmp t1, .tmp t2]) {s : List T} {g : Mem} {nx : Nat} (hn : c.length = n) (hg : g A = some c) (hc : ∀ x ∈ c, ∃ k m, x = .int k m) {k : IntKind} {i : Int} (h1 : rho s (.tmp t1) = .own A 0 n 1) (h2 : rho s (.tmp t2) = .int k i) : AExit.ret.leaves = true ∧ ∃ v, (∃ f, v = .tup [.imm f n c, .int k i]) ∧ ∃ u ids, resT s g F.res = some u ∧ frz ⟨g, nx⟩ frzDepth u = some (v, ids) := by
  have hla : ListAt (fun _ => True) g (.own A 0 c.length 1) c := .inr ⟨A, trivial, rfl, hg⟩
  obtain ⟨f, ids, e1, _⟩ := hla.frz (d := 9) (nx := nx) (frzAll_int _ hc)
  rw [hn] at e1
  refine ⟨rfl, _, ⟨f, rfl⟩, .tup [.own A 0 n 1, .int k i], ids ++ [], ?_, ?_⟩
  · rw [hF]; simp only [resT, resL, resOne, h1, h2]
  · have e2 : frz ⟨g, nx⟩ 11 (.int k i) = some (.int k i, []) := rfl
    rw [show frzDepth = 11 + 1 from rfl, frz]
    simp only [frzAll, e1, e2, List.append_nil]
theorem ref10_write (f : Bool) (L : List Int) (hL : L.length ≤ 1024) (addr z : Nat) (ha : addr ≤ 4294967295) (hz : z = 1 ∨ z = 2 ∨ z = 4) (hin : addr + z ≤ L.length) (v : Int) (hv : 0 ≤ v ∧ v ≤ 4294967295) : ∃ u, E ap 15 [.imm f L.length (L.flatMap u8T), .int .u32 (addr : Int), .int .i64 (z : Int), .int .u32 v] u ∧ ∃ f', u = .tup [.imm f' L.length ((spl L addr (bytesOf v z)).flatMap u8T), .int .i64 0] := by
  refine E_bodyV (F := f15) rfl rfl rfl (P := fun u => ∃ f', u = .tup [.imm f' L.length ((spl L addr (bytesOf v z)).flatMap u8T), .int .i64 0]) ?_
  generalize hs0 : (_ : List T) ++ List.replicate _ T.undef = s0
  have e0 : s0.length = 40 ∧ rho s0 (.tmp 0) = .imm f L.length (L.flatMap u8T) ∧ rho s0 (.tmp 1) = .int .u32 (addr : Int) ∧ rho s0 (.tmp 2) = .int .i64 (z : Int) ∧ rho s0 (.tmp 3) = .int .u32 v := by subst hs0; exact ⟨rfl, rfl, rfl, rfl, rfl⟩
  clear hs0
  obtain ⟨hl, h0, h1, h2, h3⟩ := e0
  obtain ⟨N, q⟩ := (chk_ok f L hL addr z ha hz hin).call qCHK0 (fun g => rfl)
  have q := q N (Nat.le_refl _)
  have hBl := u8_len L
  have hBf := u8_leaf L
  have hsp0 : spl L addr ((bytesOf v z).take 0) = L := rfl
  have hv0 : v / 256 ^ 0 = v := by rw [Int.pow_zero, Int.ediv_one]
  have hn0 : (L.length = 0) = False := eq_false (by omega)
  have hr1 : L.length * 1 ≤ 549755813888 := by omega
  have hr2 : L.length ≤ 549755813888 := by omega
  have hb1 : (L.length = L.length * 1) = True := by simp
  have hll : allLeaf ([] : List T) = true := rfl
  refine W_seqn (W_region (fun k => by simp (decide := true) (disch := first | omega | simp (decide := true) only [List.length_set, hl]) only [sims, autos, simprocAttr, hps]; rfl) ⟨rfl, ?_⟩)
  refine W_seqn (W_regionN ⟨N, by simp (decide := true) (disch := first | omega | simp (decide := true) only [List.length_set, hl]) only [sims, autos, simprocAttr, hps, h0, h1, h2, qCHK0, rCHK0, sCHK0, q]; rfl⟩ ⟨rfl, ?_⟩)
  refine W_seqn (W_seqn (W_region (fun k => by simp (decide := true) (disch := first | omega | simp (decide := true) only [List.length_set, hl]) only [sims, autos, simprocAttr, hps]; rfl) ⟨rfl, W_fls (W_skip ⟨rfl, ?_⟩)⟩))
  generalize hB : L.flatMap u8T = B at *
  refine W_cut (fun t => t.s.length = 40 ∧ rho t.s (.tmp 1) = .int .u32 (addr : Int) ∧ rho t.s (.tmp 2) = .int .i64 (z : Int) ∧ rho t.s (.tmp 3) = .int .u32 v ∧ ∃ A, rho t.s (.tmp 11) = .own A 0 L.length 1 ∧ t.g A = some B) (W_region (fun k => by simp (decide := true) (disch := first | omega | simp (decide := true) only [List.length_set, hl]) only [sims, autos, simprocAttr, hps, h0, cellsOf, hBl, hBf, hn0, hr1, hr2, hb1, hll, Nat.zero_add, List.nil_append]; rfl) ⟨rfl, ?_, ?_, ?_, ?_, 11, ?_, ?_⟩) ?_
  case refine_7 =>
    clear hl h0 h1 h2 h3 q
    rintro st ⟨hl, h1, h2, h3, A, h11, gA⟩
    refine W_seq (W_seqn (W_region (fun k => by simp (decide := true) (disch := first | omega | simp (decide := true) only [List.length_set, hl]) only [sims, autos, simprocAttr, hps]; rfl) ⟨rfl, W_block ?_⟩))
    refine w10_loop L hL addr z ha (by omega) hin v hv A _ (fun st hl h11 gA => ?_) (z - 0) _ ⟨0, ?_, ?_, ?_, ?_, ?_, ?_, ?_, by omega, rfl⟩
    · refine .inl ⟨rfl, .inl ⟨rfl, ?_⟩⟩
      refine W_seqn (W_region (fun k => by simp (decide := true) (disch := first | omega | simp (decide := true) only [List.length_set, hl]) only [sims, autos, simprocAttr, hps, h11]; rfl) ⟨rfl, W_ret ?_⟩)
      refine fin_tupown (F := f15) (A := A) rfl (by rw [u8_len, spl_len]) gA (u8_ints _) ?_ ?_ <;> simp (decide := true) (disch := first | omega | simp (decide := true) only [List.length_set, hl]) only [sims, autos, simprocAttr]
    case refine_5 => rw [hv0]; simp (decide := true) (disch := first | omega | simp (decide := true) only [List.length_set, hl]) only [sims, autos, simprocAttr, hps, h3]
    case refine_8 => rw [hsp0, hB]; simp (decide := true) (disch := first | omega | simp (decide := true) only [List.length_set, hl]) only [sims, autos, simprocAttr, hps, gA]
    all_goals first | (simp (decide := true) (disch := first | omega | simp (decide := true) only [List.length_set, hl]) only [sims, autos, simprocAttr, hps, hl, h1, h2, h11]; done) | (simp (decide := true) (disch := first | omega | simp (decide := true) only [List.length_set, hl]) only [sims, autos, simprocAttr, hps, hl, h1, h2, h11]; rfl)
  all_goals first | (simp (decide := true) (disch := first | omega | simp (decide := true) only [List.length_set, hl]) only [sims, autos, simprocAttr, hps, hl, h1, h2, h3]; done) | (simp (decide := true) (disch := first | omega | simp (decide := true) only [List.length_set, hl]) only [sims, autos, simprocAttr, hps, hl, h1, h2, h3]; rfl)
def sbLoop : ACode := match f18.body with | .seq _ (.seq _ (.seq (.seq _ (.block _ (.loop c))) _)) => c | _ => .skip
theorem sb_loop (fa fb : Bool) (L : List Int) (hL : L.length ≤ 1024) (Q : AExit → St → Prop)
    (hQe : ∀ st : St, st.s.length = 32 → Q (.exit 0) st) :
    ∀ (n : Nat) (st : St), (∃ i : Nat, st.s.length = 32 ∧ rho st.s (.tmp 0) = .imm fa L.length (L.flatMap u8T) ∧ rho st.s (.tmp 1) = .imm fb L.length (L.flatMap u8T) ∧ rho st.s (.tmp 5) = .int .i64 (i : Int) ∧ i ≤ L.length ∧ n = L.length - i) → W ap (.loop sbLoop) st Q := by
  refine W_loop _ ?_
  rintro n st ⟨i, hl, h0, h1, h5, hi, hn⟩
  by_cases hend : i = L.length
  · have hlt : decide ((i : Int) < (L.length : Int)) = false := decide_eq_false (by omega)
    refine W_seq (W_seqn (W_region (fun k => by simp (decide := true) (disch := first | omega | simp (decide := true) only [List.length_set, hl]) only [sims, autos, simprocAttr, hps, h0, h1, h5, hlt]; rfl) ⟨rfl, W_fls (W_exit (.inr ⟨by simp, .inr ⟨by simp, hQe _ ?_⟩⟩))⟩))
    simp (decide := true) (disch := first | omega | simp (decide := true) only [List.length_set, hl]) only [sims, autos, simprocAttr, hps, hl]
  have hil : i < L.length := by omega
  have hlt : decide ((i : Int) < (L.length : Int)) = true := decide_eq_true (by omega)
  have hw2 : IntKind.i64.wrap ((i : Int) + 1) = ((i + 1 : Nat) : Int) := by rw [wrap_id (by omega)]; omega
  have hg := u8_at L i hil
  have hcl := u8_len L
  have hb : i * 1 + 1 ≤ L.length := by omega
  have e1 : ∀ x : Int, (x != x) = false := fun x => by simp
  generalize at0 L i = x at *
  generalize L.flatMap u8T = cs at *
  have e1 := e1 x
  refine W_seqn (W_seqn (W_region (fun k => by simp (decide := true) (disch := first | omega | simp (decide := true) only [List.length_set, hl]) only [sims, autos, simprocAttr, hps, h0, h1, h5, hlt]; rfl) ⟨rfl, W_tru (W_skip ⟨rfl, ?_⟩)⟩))
  refine W_seqn (W_block (W_seqn (W_region (fun k => by simp (decide := true) (disch := first | omega | simp (decide := true) only [List.length_set, hl]) only [sims, autos, simprocAttr, hps, h0, h1, h5, hil, hb, hcl, hg, e1]; rfl) ⟨rfl, W_fls (W_skip (.inr (.inl ⟨by simp, rfl, ?_⟩)))⟩)))
  refine W_region (fun k => by simp (decide := true) (disch := first | omega | simp (decide := true) only [List.length_set, hl]) only [sims, autos, simprocAttr, hps, h5, hw2]; rfl) (.inl ⟨rfl, L.length - (i + 1), by omega, i + 1, ?_, ?_, ?_, ?_, by omega, rfl⟩)
  all_goals simp (decide := true) (disch := first | omega | simp (decide := true) only [List.length_set, hl]) only [sims, autos, simprocAttr, hps, hl, h0, h1]
theorem same_bytes (fa fb : Bool) (L : List Int) (hL : L.length ≤ 1024) : E ap 18 [.imm fa L.length (L.flatMap u8T), .imm fb L.length (L.flatMap u8T)] (.bool true) := by
  refine E_body (F := f18) rfl rfl rfl ?_
  generalize hs0 : (_ : List T) ++ List.replicate _ T.undef = s0
  have e0 : s0.length = 32 ∧ rho s0 (.tmp 0) = .imm fa L.length (L.flatMap u8T) ∧ rho s0 (.tmp 1) = .imm fb L.length (L.flatMap u8T) := by subst hs0; exact ⟨rfl, rfl, rfl⟩
  clear hs0
  obtain ⟨hl, h0, h1⟩ := e0
  have e1 : ((L.length : Int) != (L.length : Int)) = false := by simp
  refine W_seqn (W_region (fun k => by simp (decide := true) (disch := first | omega | simp (decide := true) only [List.length_set, hl]) only [sims, autos, simprocAttr, hps]; rfl) ⟨rfl, ?_⟩)
  refine W_seqn (W_seqn (W_region (fun k => by simp (decide := true) (disch := first | omega | simp (decide := true) only [List.length_set, hl]) only [sims, autos, simprocAttr, hps, h0, h1, e1]; rfl) ⟨rfl, W_fls (W_skip ⟨rfl, ?_⟩)⟩))
  refine W_seq (W_seqn (W_region (fun k => by simp (decide := true) (disch := first | omega | simp (decide := true) only [List.length_set, hl]) only [sims, autos, simprocAttr, hps]; rfl) ⟨rfl, W_block ?_⟩))
  refine sb_loop fa fb L hL _ (fun st hl => ?_) (L.length - 0) _ ⟨0, ?_, ?_, ?_, ?_, by omega, rfl⟩
  · refine .inl ⟨rfl, .inl ⟨rfl, ?_⟩⟩
    refine W_seqn (W_region (fun k => by simp (decide := true) (disch := first | omega | simp (decide := true) only [List.length_set, hl]) only [sims, autos, simprocAttr, hps]; rfl) ⟨rfl, W_ret ?_⟩)
    refine fin_of (F := f18) rfl (fun _ => rfl) ?_
    simp (decide := true) (disch := first | omega | simp (decide := true) only [List.length_set, hl]) only [sims, autos, simprocAttr]
  all_goals first | (simp (decide := true) (disch := first | omega | simp (decide := true) only [List.length_set, hl]) only [sims, autos, simprocAttr, hps, hl, h0, h1]; done) | (simp (decide := true) (disch := first | omega | simp (decide := true) only [List.length_set, hl]) only [sims, autos, simprocAttr, hps, hl, h0, h1]; rfl)
end Go.Proofs.Ytikeeegkndnnfaa.Abs
