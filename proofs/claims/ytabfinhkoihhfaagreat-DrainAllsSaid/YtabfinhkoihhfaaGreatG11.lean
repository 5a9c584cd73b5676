/- Words of other seats' texts, as they are used here: Bdo2. -/
import Derived.Test.YtabfinhkoihhfaaGreatG10
namespace Go.Proofs.YtabfinhkoihhfaaGreat.Abs
open Go Go.RowKit Fn
set_option linter.unusedVariables false
set_option linter.unusedSimpArgs false
set_option linter.unnecessarySimpa false
set_option maxRecDepth 100000
set_option maxHeartbeats 4000000

def withC (m : Coh) (k : Nat) (R : List (List Way)) : Coh := { m with caches := m.caches.set k ⟨R⟩ }
def snoop1 (who kind : Int) (ln : Nat) (m : Coh) (k : Nat) : Coh :=
  if (k : Int) = who ∨ (wayOf (cacheAt m k) ln).state = 0 then m
  else withC (if backv (wayOf (cacheAt m k) ln).state then putM m ln (wayOf (cacheAt m k) ln).data else m) k (setR (cacheAt m k) ln (snoopv (wayOf (cacheAt m k) ln).state kind))
def snoopN (who kind : Int) (ln : Nat) (m : Coh) : Nat → Coh
  | 0 => m
  | n + 1 => snoop1 who kind ln (snoopN who kind ln m n) n
def doGot (n : Coh) (who kind : Int) (ln : Nat) : Coh :=
  if kind = 3 ∧ (wayOf (cacheAt n who.toNat) ln).state ≠ 0 then withC n who.toNat (setR (cacheAt n who.toNat) ln (gotv kind (sharedN n who ln 0 n.caches.length)))
  else backM (withC n who.toNat (fillR (cacheAt n who.toNat) ln (gotv kind (sharedN n who ln 0 n.caches.length)) (bytesM n ln)).1) (fillR (cacheAt n who.toNat) ln (gotv kind (sharedN n who ln 0 n.caches.length)) (bytesM n ln)).2
def DoesGo (m : Coh) (who kind : Int) (ln : Nat) : Prop := has m who ∧ (1 ≤ kind ∧ kind ≤ 3) ∧ ln * 16 + 16 ≤ m.mem.length
instance (m : Coh) (who kind : Int) (ln : Nat) : Decidable (DoesGo m who kind ln) := by unfold DoesGo; infer_instance
def doM (m : Coh) (who kind : Int) (ln : Nat) : Coh := if DoesGo m who kind ln then doGot (snoopN who kind ln m m.caches.length) who kind ln else m
def Ok (m : Coh) : Prop := m.wf ∧ m.mem.length ≤ 4096 ∧ m.caches.length ≤ 4 ∧ ∀ k, k < m.caches.length → Fit (cacheAt m k).sets
theorem fit_wf {R : List (List Way)} (h : Fit R) : (Cache.mk R).wf := by
  have hmx : (20 : Nat) ≤ maxLen := by decide
  refine ⟨Nat.le_trans h.1 hmx, fun l hl => ⟨?_, (h.2 l hl).2⟩⟩
  have := (h.2 l hl).1
  omega
theorem cacheAt_set (m : Coh) (k : Nat) (R : List (List Way)) (j : Nat) (hk : k < m.caches.length) : cacheAt (withC m k R) j = if j = k then ⟨R⟩ else cacheAt m j := by
  unfold cacheAt withC
  by_cases h : j = k
  · subst h; rw [if_pos rfl, List.getElem?_set_self hk]; rfl
  · rw [if_neg h, List.getElem?_set_ne (fun e => h e.symm)]
theorem withC_len (m : Coh) (k : Nat) (R : List (List Way)) : (withC m k R).caches.length = m.caches.length := by unfold withC; rw [List.length_set]
theorem ok_with {m : Coh} (h : Ok m) {k : Nat} (hk : k < m.caches.length) {R : List (List Way)} (hR : Fit R) : Ok (withC m k R) := by
  obtain ⟨h1, h2, h3, h4⟩ := h
  refine ⟨⟨h1.1, by rw [show (withC m k R).caches.length = _ from withC_len m k R]; exact h1.2.1, fun c hc => ?_⟩, h2, by rw [withC_len]; exact h3, fun j hj => ?_⟩
  · rcases List.mem_or_eq_of_mem_set hc with hc | rfl
    · exact h1.2.2 c hc
    · exact fit_wf hR
  · rw [withC_len] at hj
    rw [cacheAt_set m k R j hk]
    split
    · exact hR
    · exact h4 j hj
theorem ok_put {m : Coh} (h : Ok m) (ln : Nat) {data : List Int} (hd : ∀ y ∈ data, (Lit.int .u8 y).wf = true) : Ok (putM m ln data) := by
  unfold putM
  split
  · obtain ⟨h1, h2, h3, h4⟩ := h
    have hl : (spl m.mem (ln * 16) data).length = m.mem.length := spl_len _ _ _
    exact ⟨⟨by show (spl m.mem (ln * 16) data).length ≤ maxLen ∧ ∀ y ∈ spl m.mem (ln * 16) data, _; rw [hl]; exact ⟨h1.1.1, spl_bytes _ _ _ h1.1.2 hd⟩, h1.2⟩, by show (spl m.mem (ln * 16) data).length ≤ 4096; rw [hl]; exact h2, h3, h4⟩
  · exact h
theorem ok_snoop1 {m : Coh} (h : Ok m) (who kind : Int) (ln k : Nat) (hk : k < m.caches.length) : Ok (snoop1 who kind ln m k) := by
  unfold snoop1
  split
  · exact h
  · have hf := fit_setR (h.2.2.2 k hk) ln (snoopv (wayOf (cacheAt m k) ln).state kind)
    split
    · refine ok_with (ok_put h ln (wayOf_wf (cacheAt_wf h.1 k hk) ln).2.2.1.2) ?_ hf
      rw [putM_caches]; exact hk
    · exact ok_with h hk hf
theorem snoop1_len (who kind : Int) (ln : Nat) (m : Coh) (k : Nat) : (snoop1 who kind ln m k).caches.length = m.caches.length ∧ (snoop1 who kind ln m k).mem.length = m.mem.length := by
  unfold snoop1
  split
  · exact ⟨rfl, rfl⟩
  · rw [withC_len]
    split
    · exact ⟨by rw [putM_caches], putM_len _ _ _⟩
    · exact ⟨rfl, rfl⟩
theorem snoopN_len (who kind : Int) (ln : Nat) (m : Coh) : ∀ n, (snoopN who kind ln m n).caches.length = m.caches.length ∧ (snoopN who kind ln m n).mem.length = m.mem.length
  | 0 => ⟨rfl, rfl⟩
  | n + 1 => by
    obtain ⟨h1, h2⟩ := snoop1_len who kind ln (snoopN who kind ln m n) n
    obtain ⟨h3, h4⟩ := snoopN_len who kind ln m n
    exact ⟨h1.trans h3, h2.trans h4⟩
theorem ok_snoopN {m : Coh} (h : Ok m) (who kind : Int) (ln : Nat) : ∀ n, n ≤ m.caches.length → Ok (snoopN who kind ln m n)
  | 0, _ => h
  | n + 1, hn => ok_snoop1 (ok_snoopN h who kind ln n (by omega)) who kind ln n (by rw [(snoopN_len who kind ln m n).1]; omega)
theorem enc_set (cs : List Cache) (k : Nat) (c : Cache) : (cs.set k c).flatMap Cache.enc = (cs.flatMap Cache.enc).set k (setsT c) := by
  induction cs generalizing k with
  | nil => rfl
  | cons x cs ih =>
    cases k with
    | zero => rfl
    | succ k =>
      show x.enc ++ (cs.set k c).flatMap Cache.enc = (x.enc ++ cs.flatMap Cache.enc).set (k + 1) (setsT c)
      rw [ih, cache_enc]; rfl
theorem CohAt.with {P : Nat → Prop} {g : Mem} {x : T} {m : Coh} {B : Nat} {ys : List T} (pB : P B) (hu : UpL (m.caches.flatMap Cache.enc) ys) (hx : ListAt (fun t => P t ∧ t ≠ B) g x (m.mem.flatMap u8T)) (k : Nat) (R : List (List Way)) {z : T} (hz : UpT (setsT ⟨R⟩) z) {g' : Mem} (hg : g' B = some (ys.set k z)) (hgt : ∀ t, P t → t ≠ B → g' t = g t) : CohAt P g' x (.own B 0 ys.length 1) (withC m k R) :=
  ⟨B, ys.set k z, pB, by rw [List.length_set], hg, by unfold withC; rw [enc_set]; exact hu.set k hz, hx.mono (fun _ h => h) (fun t h => hgt t h.1 h.2)⟩
theorem ex_setsT (R : List (List Way)) {v : T} (h : CacheEx R v) : v = .agg [setsT ⟨R⟩] := by rw [h]; unfold setsT; rw [rows_eq]
theorem up_of {R : List (List Way)} {v : T} (h : CacheOf R v) : UpT (.agg [setsT ⟨R⟩]) v := by
  obtain ⟨f, ys, rfl, hl, hr⟩ := h
  refine upT_agg (UpL.cons ?_ UpL.nil)
  unfold setsT
  rw [rows_eq]
  refine upT_imm (fun e => by cases e) (UpL.of_get (by unfold rowsT; rw [List.length_map]; exact hl) (fun i x hi => ?_))
  unfold rowsT at hi
  rw [List.getElem?_map] at hi
  cases hR : R[i]? with
  | none => rw [hR] at hi; cases hi
  | some l =>
    rw [hR] at hi
    obtain rfl := Option.some.inj hi
    have hil : i < R.length := (List.getElem?_eq_some_iff.mp hR).1
    obtain ⟨f', h2⟩ := hr i hil
    rw [Nat.mul_one] at h2
    have e : R[i] = l := (List.getElem?_eq_some_iff.mp hR).2
    rw [e] at h2
    exact ⟨_, h2, upT_imm (fun e => by cases e) (UpL.refl _)⟩
theorem ap90 : ap 90 = some f90 := rfl
theorem p90 : f90.pure = true := rfl
theorem n90 : f90.nat = none := rfl
theorem ap92' : ap 92 = some f92 := rfl
theorem p92' : f92.pure = true := rfl
theorem n92' : f92.nat = none := rfl
theorem still_own (x : T) (B n e : Nat) : T.still (.agg [x, .own B 0 n e]) = false := by
  show (still1 x && (still1 (.own B 0 n e) && true)) = false
  simp [still1]
abbrev PN (st : St) : Nat → Prop := fun t => 2 < t ∧ t < st.nx
def BdF (who kind : Int) (ln n i : Nat) (st : St) (x y : T) : Prop := st.s.length = 163 ∧ rho st.s (.tmp 1) = .int .i64 who ∧ rho st.s (.tmp 3) = .ptr 0 0 ∧ rho st.s (.tmp 5) = .ptr 1 0 ∧ rho st.s (.tmp 6) = .ptr 2 0 ∧ rho st.s (.tmp 48) = .int .i64 (n : Int) ∧ rho st.s (.tmp 49) = .int .i64 (i : Int) ∧ st.g 0 = some [x, y] ∧ st.g 1 = some [.int .i64 kind, .int .u32 (ln : Int)] ∧ st.g 2 = some [.imm true 0 [], .imm true 0 []] ∧ 3 ≤ st.nx
def bdLoop : ACode := match f64.body with | .seq _ (.seq _ (.seq _ (.seq (.seq _ (.block _ (.loop c))) _))) => c | _ => .skip
def bdBlk : ACode := match bdLoop with | .seq _ (.seq _ (.seq (.block _ c) _)) => c | _ => .skip
def bdSet : ACode := match bdBlk with | .seq _ (.seq _ (.seq _ (.seq _ (.seq _ c)))) => c | _ => .skip
theorem cell_at {cs : List T} {i : Nat} {z : T} (h : cs[i]? = some z) : cut cs i 1 = [z] := by
  obtain ⟨hi, rfl⟩ := List.getElem?_eq_some_iff.mp h
  unfold cut
  rw [List.drop_eq_getElem_cons hi, List.take_succ_cons, List.take_zero]
theorem cache_cell {m : Coh} {ys : List T} (hu : UpL (m.caches.flatMap Cache.enc) ys) {i : Nat} (hi : i < m.caches.length) : ∃ z, ys[i]? = some z ∧ UpT (setsT (cacheAt m i)) z ∧ ∃ f n c, z = .imm f n c := by
  have h1 := caches_get m i hi
  rw [Nat.mul_one] at h1
  obtain ⟨z, hz, hz2⟩ := hu.get h1
  obtain ⟨f', c', e, _⟩ := UpT.imm (f := false) (n := (cacheAt m i).sets.length) (c := (cacheAt m i).sets.flatMap (fun l => [rowT l])) hz2
  exact ⟨z, hz, hz2, _, _, _, e⟩
theorem upL_len1 (m : Coh) {ys : List T} (hu : UpL (m.caches.flatMap Cache.enc) ys) : ys.length = m.caches.length := by rw [hu.len, caches_len']
theorem bd_set (m : Coh) (hok : Ok m) (who kind : Int) (ln n : Nat) (hln : ln ≤ 4294967295) (nxt : Int) (i : Nat) (hi : i < m.caches.length) (st : St) (x y : T) (hF : BdF who kind ln n i st x y) (h7 : rho st.s (.tmp 7) = .int .i64 (i : Int)) (h9 : rho st.s (.tmp 9) = .int .i64 nxt) (hc : CohAt (PN st) st.g x y m) (Q : AExit → St → Prop)
    (hQ : ∀ st', BdF who kind ln n i st' x y → CohAt (PN st') st'.g x y (withC m i (setR (cacheAt m i) ln nxt)) → Q .normal st') : W ap bdSet st Q := by
  obtain ⟨hl, h1, h3, h5, h6, h48, h49, g0, g1, g2, hnx⟩ := hF
  obtain ⟨B, ys, ⟨hB1, hB2⟩, rfl, gB, hu, hx⟩ := hc
  obtain ⟨z, hz, hzu, f, a, b, rfl⟩ := cache_cell hu hi
  have hyl := upL_len1 m hu
  obtain ⟨v0, hE, hex⟩ := bus_set_rows (cacheAt m i) (cacheAt_wf hok.1 i hi) (hok.2.2.2 i hi) ln hln nxt
  obtain rfl := ex_setsT _ hex
  obtain ⟨N, v', hv, q⟩ := hE.callU ap92' (args' := [.agg [.imm f a b], .int .u32 (ln : Int), .int .i64 nxt]) (UpL.cons (upT_agg (UpL.cons hzu UpL.nil)) (UpL.refl _))
  obtain ⟨c', rfl, hv2⟩ := hv.agg
  simp only [UpL] at hv2
  obtain ⟨z', _, rfl, hz', rfl⟩ := hv2
  have q := q N (Nat.le_refl _) st.g [.agg [.imm f a b], .int .u32 (ln : Int), .int .i64 nxt] [] rfl
  have hzl : allLeaf [z'] = true := by
    obtain ⟨f', c', rfl, _⟩ := UpT.imm (f := false) (n := (setR (cacheAt m i) ln nxt).length) (c := (setR (cacheAt m i) ln nxt).flatMap (fun l => [rowT l])) hz'
    try rfl
  have hcut := cell_at hz
  have hiy : i < ys.length := by omega
  have hib : i + 1 ≤ ys.length := by omega
  refine W_regionN ⟨N, by simp +decide (disch := first | omega | simp +decide [hl]) only [s9, simprocAttr, h3, h5, h7, h9, g0, g1, gB, hiy, hib, hcut, ap92', p92', n92', q, ite_self, hzl, Nat.mul_one]; rfl⟩ (hQ _ ?_ ?_)
  · refine ⟨?_, ?_, ?_, ?_, ?_, ?_, ?_, ?_, ?_, ?_, by show 3 ≤ st.nx + 14; omega⟩ <;> simp +decide (disch := first | omega | simp +decide [hl]) only [s9, simprocAttr, hl, h1, h3, h5, h6, h48, h49, g0, g1, g2]
  · refine CohAt.with (P := fun t => 2 < t ∧ t < st.nx + 14) ⟨hB1, by omega⟩ hu (hx.mono (fun t h => ⟨⟨h.1.1, by have := h.1.2; omega⟩, h.2⟩) (fun _ _ => rfl)) i _ hz' ?_ (fun t ht hne => ?_)
    · simp +decide (disch := first | omega | simp +decide [hl]) only [s9, simprocAttr]
    · simp +decide (disch := first | omega | simp +decide [hl]) only [s9, simprocAttr]
theorem enc_snooped (w : Way) (a : Int) (b : Int) : (w.enc.set 0 (.int .i64 a)).set 1 (.int .u32 b) = (Way.mk a b w.data w.age).enc := rfl
theorem lit_u32 {n : Int} (h : 0 ≤ n ∧ n ≤ 4294967295) : (Lit.int .u32 n).wf = true := by
  show (decide ((0 : Int) ≤ n) && decide (n ≤ 2 ^ 32 - 1)) = true
  rw [decide_eq_true h.1, decide_eq_true (by omega)]; rfl
theorem wayAt_is (m : Coh) (i : Nat) (ln : Nat) (hi : i < m.caches.length) : wayAt m (i : Int) ln = wayOf (cacheAt m i) ln := by
  unfold wayAt
  rw [if_pos (show has m (i : Int) from ⟨by omega, by omega⟩), Int.toNat_natCast]
theorem snoop1_skip {who kind : Int} {ln : Nat} {m : Coh} {k : Nat} (h : (k : Int) = who ∨ (wayOf (cacheAt m k) ln).state = 0) : snoop1 who kind ln m k = m := if_pos h
theorem snoop1_back {who kind : Int} {ln : Nat} {m : Coh} {k : Nat} (h : ¬ ((k : Int) = who ∨ (wayOf (cacheAt m k) ln).state = 0)) (hb : backv (wayOf (cacheAt m k) ln).state = true) : snoop1 who kind ln m k = withC (putM m ln (wayOf (cacheAt m k) ln).data) k (setR (cacheAt m k) ln (snoopv (wayOf (cacheAt m k) ln).state kind)) := by
  unfold snoop1; rw [if_neg h, if_pos hb]
theorem snoop1_set {who kind : Int} {ln : Nat} {m : Coh} {k : Nat} (h : ¬ ((k : Int) = who ∨ (wayOf (cacheAt m k) ln).state = 0)) (hb : ¬ backv (wayOf (cacheAt m k) ln).state = true) : snoop1 who kind ln m k = withC m k (setR (cacheAt m k) ln (snoopv (wayOf (cacheAt m k) ln).state kind)) := by
  unfold snoop1; rw [if_neg h, if_neg hb]
theorem bd_blk (m : Coh) (hok : Ok m) (who kind : Int) (hk : kind = 1 ∨ kind = 2 ∨ kind = 3) (ln n : Nat) (hln : ln ≤ 4294967295) (hlies : ln * 16 + 16 ≤ m.mem.length) (i : Nat) (hi : i < m.caches.length) (st : St) (x y : T) (hF : BdF who kind ln n i st x y) (hc : CohAt (PN st) st.g x y m) (Q : AExit → St → Prop)
    (hQ : ∀ e st' x' y', (e = .normal ∨ e = .exit 1) → BdF who kind ln n i st' x' y' → CohAt (PN st') st'.g x' y' (snoop1 who kind ln m i) → Q e st') : W ap bdBlk st Q := by
  obtain ⟨hl, h1, h3, h5, h6, h48, h49, g0, g1, g2, hnx⟩ := hF
  have hww := wayOf_wf (cacheAt_wf hok.1 i hi) ln
  obtain ⟨x', y', hu, ids, hfz, hids⟩ := coh_args hc.coh [.int .u32 (ln : Int)] [.int .i64 (i : Int)] (ints_one _ _) (ints_one _ _)
  obtain ⟨N, q⟩ := (bus_way m hok.1 (i : Int) ln hln).callF ap88 (up_tl hu [.int .u32 (ln : Int)] [.int .i64 (i : Int)]) (way_up _) (way_flat _)
  rw [wayAt_is m i ln hi] at q
  have q := q N (Nat.le_refl _) st.g _ ids hfz
  have hsk := @snoop1_skip who kind ln m i
  have hsb := @snoop1_back who kind ln m i
  have hss := @snoop1_set who kind ln m i
  generalize hweq : wayOf (cacheAt m i) ln = w at *
  have hwl := leaf_ints _ (way_ints w)
  have hlen := way_len hww
  have hst := way_state w
  have hsn := enc_snooped w 3 (ln : Int)
  have hzl : zeroW.enc.length = 19 := rfl
  have hspz : splice zeroW.enc 0 w.enc = w.enc := splice_all (by rw [hlen]; rfl)
  have hzf := leaf_ints _ (way_ints zeroW)
  generalize hwe : w.enc = we at *
  have hze := zero_enc
  have hcut : cut [x, y] 0 2 = [x, y] := rfl
  have hll : ∀ k : Nat, allLeaf [x, y] = true := fun _ => hc.coh.leaf
  have hxl : ∀ a b : T, fillT [.imm true 0 [], .imm true 0 [], .int .u32 0] [(0, 2, .agg [x, y]), (2, 1, .int .u32 (ln : Int))] = some [x, y, .int .u32 (ln : Int)] := fun _ _ => by
    have := hll 0
    unfold allLeaf at this
    simp +decide only [fillT, T.cells, List.length_cons, List.length_nil, this, if_true, splice, List.set_cons_zero, List.set_cons_succ]
    try rfl
  refine W_seqn (W_region (fun k => by simp +decide (disch := first | omega | simp +decide [hl]) only [s9, simprocAttr, h49]; rfl) ⟨rfl, ?_⟩)
  refine W_cut (fun s => (∃ p, 2 < p ∧ p < s.nx ∧ st.nx ≤ p ∧ rho s.s (.tmp 8) = .ptr p 0 ∧ s.g p = some we) ∧ rho s.s (.tmp 7) = .int .i64 (i : Int) ∧ BdF who kind ln n i s x y ∧ st.nx ≤ s.nx ∧ (∀ t, t < st.nx → s.g t = st.g t)) (W_regionN ⟨N, by rw [← hze]; simp +decide (disch := first | omega | simp +decide [hl]) only [s9, simprocAttr, h3, h5, g0, g1, hcut, hxl x y, ap88, p88, n88, q, hzf, hzl, hlen, hwl, hspz, Nat.le_refl]; rfl⟩ ⟨rfl, ?_⟩) ?_
  · refine ⟨⟨st.nx + 2 + 6, by omega, by show st.nx + 2 + 6 < st.nx + 2 + 8; omega, by omega, ?_, ?_⟩, ?_, ⟨?_, ?_, ?_, ?_, ?_, ?_, ?_, ?_, ?_, ?_, by show 3 ≤ st.nx + 2 + 8; omega⟩, by show st.nx ≤ st.nx + 2 + 8; omega, fun t ht => ?_⟩ <;> simp +decide (disch := first | omega | simp +decide [hl]) only [s9, simprocAttr, hl, h1, h3, h5, h6, h48, h49, g0, g1, g2]
  clear hfz q hids hu g0 g1 g2 h1 h3 h5 h6 h48 h49 hl
  rintro s ⟨⟨p, hp1, hp2, hp3, h8, gp⟩, h7, ⟨hl, h1, h3, h5, h6, h48, h49, g0, g1, g2, hnx2⟩, hnn, hg⟩
  have hc' : CohAt (fun t => 2 < t ∧ t < st.nx) s.g x y m := hc.mono (fun t h => h) (fun t h => hg t h.2)
  by_cases hwho : (i : Int) = who
  · have hd : ((i : Int) == who) = true := by simpa using hwho
    refine W_seq (W_seqn (W_region (fun k => by simp +decide (disch := first | omega | simp +decide [hl]) only [s9, simprocAttr, h1, h7, hd]; rfl) ⟨rfl, W_tru (W_exit (.inr ⟨by simp, hQ _ _ x y (.inr rfl) ⟨?_, ?_, ?_, ?_, ?_, ?_, ?_, ?_, ?_, ?_, by show 3 ≤ s.nx + 8; omega⟩ ?_⟩))⟩))
    iterate 10 (· simp +decide (disch := first | omega | simp +decide [hl]) only [s9, simprocAttr, hl, h1, h3, h5, h6, h48, h49, g0, g1, g2])
    rw [hsk (.inl hwho)]
    exact hc'.mono (fun t h => ⟨h.1, by show t < s.nx + 8; have := h.2; omega⟩) (fun _ _ => rfl)
  have hd : ((i : Int) == who) = false := by simpa using hwho
  by_cases hw0 : w.state = 0
  · have hd0 : (w.state == 0) = true := by simpa using hw0
    refine W_seq (W_seqn (W_region (fun k => by simp +decide (disch := first | omega | simp +decide [hl]) only [s9, simprocAttr, h1, h7, h8, gp, hlen, hst, hd, hd0]; rfl) ⟨rfl, W_tru (W_exit (.inr ⟨by simp, hQ _ _ x y (.inr rfl) ⟨?_, ?_, ?_, ?_, ?_, ?_, ?_, ?_, ?_, ?_, by show 3 ≤ s.nx + 8; omega⟩ ?_⟩))⟩))
    iterate 10 (· simp +decide (disch := first | omega | simp +decide [hl]) only [s9, simprocAttr, hl, h1, h3, h5, h6, h48, h49, g0, g1, g2])
    rw [hsk (.inr hw0)]
    exact hc'.mono (fun t h => ⟨h.1, by show t < s.nx + 8; have := h.2; omega⟩) (fun _ _ => rfl)
  have hd0 : (w.state == 0) = false := by simpa using hw0
  have hno : ¬ ((i : Int) = who ∨ w.state = 0) := fun h => h.elim hwho hw0
  refine W_seqn (W_seqn (W_region (fun k => by simp +decide (disch := first | omega | simp +decide [hl]) only [s9, simprocAttr, h1, h7, h8, gp, hlen, hst, hd, hd0]; rfl) ⟨rfl, W_fls (W_skip ⟨rfl, ?_⟩)⟩))
  obtain ⟨N2, q2⟩ := (bus_snoop w.state kind hk).call ap90 (fun g => rfl)
  have q2 := q2 N2 (Nat.le_refl _)
  have hT : snoopT w.state kind = .tup [.int .i64 (snoopv w.state kind), .bool (backv w.state)] := rfl
  refine W_cut (fun s' => rho s'.s (.tmp 7) = .int .i64 (i : Int) ∧ rho s'.s (.tmp 8) = .ptr p 0 ∧ rho s'.s (.tmp 9) = .int .i64 (snoopv w.state kind) ∧ rho s'.s (.tmp 10) = .bool (backv w.state) ∧ s'.g p = some we ∧ BdF who kind ln n i s' x y ∧ s.nx ≤ s'.nx ∧ (∀ t, t < st.nx → s'.g t = st.g t)) (W_regionN ⟨N2, by simp +decide (disch := first | omega | simp +decide [hl]) only [s9, simprocAttr, h5, h8, g1, gp, hlen, hst, ap90, p90, n90, q2, hT]; rfl⟩ ⟨rfl, ?_⟩) ?_
  · refine ⟨?_, ?_, ?_, ?_, ?_, ⟨?_, ?_, ?_, ?_, ?_, ?_, ?_, ?_, ?_, ?_, by show 3 ≤ s.nx + 8 + 10; omega⟩, by show s.nx ≤ s.nx + 8 + 10; omega, hg⟩ <;> simp +decide (disch := first | omega | simp +decide [hl]) only [s9, simprocAttr, hl, h1, h3, h5, h6, h7, h8, h48, h49, g0, g1, g2, gp]
  clear hc' g0 g1 g2 h1 h3 h5 h6 h48 h49 hl gp h7 h8 hg
  rintro s' ⟨h7, h8, h9, h10, gp, ⟨hl, h1, h3, h5, h6, h48, h49, g0, g1, g2, hnx3⟩, hnn2, hg⟩
  have hc' : CohAt (fun t => 2 < t ∧ t < st.nx) s'.g x y m := hc.mono (fun t h => h) (fun t h => hg t h.2)
  by_cases hbk : backv w.state = true
  · rw [hbk] at h10
    have hwl2 := leaf_ints _ (way_ints ⟨3, (ln : Int), w.data, w.age⟩)
    have hlen2 : ((we.set 0 (.int .i64 3)).set 1 (.int .u32 (ln : Int))).length = 19 := by rw [List.length_set, List.length_set, hlen]
    have hw2 : (Way.mk 3 (ln : Int) w.data w.age).wf := ⟨by show (Lit.int .i64 3).wf = true; rfl, lit_u32 ⟨by show (0 : Int) ≤ (ln : Int); omega, by show (ln : Int) ≤ 4294967295; omega⟩, hww.2.2⟩
    have hcutw : cut (Way.mk 3 (ln : Int) w.data w.age).enc 0 19 = (Way.mk 3 (ln : Int) w.data w.age).enc := cut_all (way_len hw2)
    have hbm : backM m ⟨3, (ln : Int), w.data, w.age⟩ = putM m ln w.data := by unfold backM; rw [if_pos rfl, Int.toNat_natCast]
    rw [← hsn] at hcutw
    refine W_seqn (W_seqn (W_region (fun k => by simp +decide (disch := first | omega | simp +decide [hl]) only [s9, simprocAttr, h10]; rfl) ⟨rfl, W_tru ?_⟩))
    refine W_cut (fun z => rho z.s (.tmp 7) = .int .i64 (i : Int) ∧ rho z.s (.tmp 8) = .ptr p 0 ∧ rho z.s (.tmp 9) = .int .i64 (snoopv w.state kind) ∧ z.g p = some ((we.set 0 (.int .i64 3)).set 1 (.int .u32 (ln : Int))) ∧ BdF who kind ln n i z x y ∧ s'.nx ≤ z.nx ∧ (∀ t, t < st.nx → z.g t = st.g t)) (W_region (fun k => by simp +decide (disch := first | omega | simp +decide [hl]) only [s9, simprocAttr, h5, h8, g1, gp, hlen]; rfl) ⟨rfl, ?_⟩) ?_
    · refine ⟨?_, ?_, ?_, ?_, ⟨?_, ?_, ?_, ?_, ?_, ?_, ?_, ?_, ?_, ?_, by show 3 ≤ s'.nx + 1 + 6; omega⟩, by show s'.nx ≤ s'.nx + 1 + 6; omega, fun t ht => ?_⟩ <;> simp +decide (disch := first | omega | simp +decide [hl]) only [s9, simprocAttr, hl, h1, h3, h5, h6, h7, h8, h9, h48, h49, g0, g1, g2]
      exact hg t ht
    clear hc' g0 g1 g2 h1 h3 h5 h6 h48 h49 hl gp h7 h8 h9 hg
    rintro z ⟨h7, h8, h9, gp, ⟨hl, h1, h3, h5, h6, h48, h49, g0, g1, g2, hnx4⟩, hnn3, hg⟩
    have hc' : CohAt (fun t => 2 < t ∧ t < st.nx) z.g x y m := hc.mono (fun t h => h) (fun t h => hg t h.2)
    have hcz : CohAt (PN z) z.g x y m := hc'.mono (fun t h => ⟨h.1, by have := h.2; omega⟩) (fun _ _ => rfl)
    obtain ⟨B, ys, ⟨hB1, hB2⟩, rfl, gB, hu, hx⟩ := hcz
    obtain ⟨N3, v3, g3, nx3, q3, x3, rfl, hx3, hg3, hn3⟩ := back_run m hok.1 hok.2.1 ⟨3, (ln : Int), w.data, w.age⟩ hw2 who x (.own B 0 ys.length 1) z.g (z.nx + 5) (hc'.coh.mono (fun t h => by show t < z.nx + 5; have := h.2; omega) (fun _ _ => rfl))
    rw [hbm] at hx3
    rw [← hsn] at q3
    have q3 := q3 N3 (Nat.le_refl _)
    have e0 := (hg3 0 (by omega)).trans g0
    have e1 := (hg3 1 (by omega)).trans g1
    have e2 := (hg3 2 (by omega)).trans g2
    have hso := still_own x B ys.length 1
    have hcutx : cut [x, .own B 0 ys.length 1] 0 2 = [x, .own B 0 ys.length 1] := rfl
    have hmp := putM_caches m ln w.data
    have hpl := putM_len m ln w.data
    have hx4 : ListAt (fun t => (2 < t ∧ t < nx3) ∧ t ≠ B) g3 x3 ((putM m ln w.data).mem.flatMap u8T) := by
      rcases hx3 with ⟨rfl, hx3⟩ | ⟨A, a1, a2, a3, a4⟩
      · rw [hx3]
        exact hx.mono (fun t h => ⟨⟨h.1.1, by have := h.1.2; omega⟩, h.2⟩) (fun t h => hg3 t (by have := h.1.2; omega))
      · exact .inr ⟨A, ⟨⟨by omega, a2⟩, by omega⟩, a3, a4⟩
    have hlf : allLeaf [x3, .own B 0 ys.length 1] = true := by
      show ([x3, T.own B 0 ys.length 1].all T.leaf) = true
      rw [List.all_cons, List.all_cons, hx4.leaf]; rfl
    refine W_regionN ⟨N3, by simp +decide (disch := first | omega | simp +decide [hl]) only [s9, simprocAttr, h1, h3, h8, g0, gp, hlen2, hcutx, hcutw, ap91, p91, n91, hso, evI, q3, e0, hlf]; rfl⟩ ⟨rfl, ?_⟩
    refine W_abs (fun z' => BdF who kind ln n i z' x3 (.own B 0 ys.length 1) ∧ rho z'.s (.tmp 7) = .int .i64 (i : Int) ∧ rho z'.s (.tmp 9) = .int .i64 (snoopv w.state kind) ∧ CohAt (PN z') z'.g x3 (.own B 0 ys.length 1) (putM m ln w.data)) ⟨⟨?_, ?_, ?_, ?_, ?_, ?_, ?_, ?_, ?_, ?_, by show 3 ≤ nx3; omega⟩, ?_, ?_, B, ys, ⟨hB1, by show B < nx3; omega⟩, rfl, ?_, by rw [hmp]; exact hu, hx4.mono (fun t h => h) (fun t h => put1_ne (by have := h.1.1; omega))⟩ (fun z' ⟨hF, a7, a9, hC⟩ => bd_set (putM m ln w.data) (ok_put hok ln hww.2.2.1.2) who kind ln n hln _ i (by rw [hmp]; exact hi) z' x3 _ hF a7 a9 hC Q (fun st' hF hC => hQ _ _ _ _ (.inl rfl) hF (by rw [hsb hno hbk]; have e : cacheAt (putM m ln w.data) i = cacheAt m i := by { unfold cacheAt; rw [hmp] }; rw [e] at hC; exact hC)))
    iterate 12 (· simp +decide (disch := first | omega | simp +decide [hl]) only [s9, simprocAttr, hl, h1, h3, h5, h6, h7, h8, h9, h48, h49, e0, e1, e2])
    rw [← gB]
    exact (put1_ne (by omega)).trans (hg3 B (by omega))
  · have hbf : backv w.state = false := by simpa using hbk
    rw [hbf] at h10
    refine W_seqn (W_seqn (W_region (fun k => by simp +decide (disch := first | omega | simp +decide [hl]) only [s9, simprocAttr, h10]; rfl) ⟨rfl, W_fls (W_skip ⟨rfl, ?_⟩)⟩))
    refine W_abs (fun z => BdF who kind ln n i z x y ∧ rho z.s (.tmp 7) = .int .i64 (i : Int) ∧ rho z.s (.tmp 9) = .int .i64 (snoopv w.state kind) ∧ CohAt (PN z) z.g x y m) ⟨⟨?_, ?_, ?_, ?_, ?_, ?_, ?_, ?_, ?_, ?_, by show 3 ≤ s'.nx + 1; omega⟩, ?_, ?_, hc'.mono (fun t h => ⟨h.1, by show t < s'.nx + 1; have := h.2; omega⟩) (fun _ _ => rfl)⟩ (fun z ⟨hF, a7, a9, hC⟩ => bd_set m hok who kind ln n hln _ i hi z x y hF a7 a9 hC Q (fun st' hF hC => hQ _ _ _ _ (.inl rfl) hF (by rw [hss hno hbk]; exact hC)))
    all_goals simp +decide (disch := first | omega | simp +decide [hl]) only [s9, simprocAttr, hl, h1, h3, h5, h6, h7, h8, h9, h48, h49, g0, g1, g2]
end Go.Proofs.YtabfinhkoihhfaaGreat.Abs
