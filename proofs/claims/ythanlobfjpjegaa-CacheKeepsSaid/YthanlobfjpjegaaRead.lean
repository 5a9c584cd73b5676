/- What a cache has at a place: both functions. -/
import Derived.Test.YthanlobfjpjegaaPlace
namespace Go.Proofs.Ythanlobfjpjegaa.Abs
open Go Go.RowKit Fn
set_option linter.unusedVariables false
set_option linter.unusedSimpArgs false
set_option linter.unnecessarySimpa false
set_option maxRecDepth 100000
set_option maxHeartbeats 1000000

theorem ap21 : ap 21 = some f21 := rfl
theorem p21 : f21.pure = true := rfl
theorem n21 : f21.nat = none := rfl
theorem ap22 : ap 22 = some f22 := rfl
theorem p22 : f22.pure = true := rfl
theorem n22 : f22.nat = none := rfl
def bytesAt (w : Way) (a n : Nat) : List Int := (w.data.drop a).take n
theorem dataT_map (l : List Int) : dataT l = l.map (fun n => T.int .u8 n) := by
  unfold dataT
  induction l with
  | nil => rfl
  | cons x l ih => rw [List.flatMap_cons, ih]; rfl
theorem bytes_len {w : Way} (hw : w.wf) (a n : Nat) (h : a + n ≤ 16) : (bytesAt w a n).length = n := by
  unfold bytesAt; rw [List.length_take, List.length_drop, hw.2.2.1.1]; omega
theorem bytes_byte {w : Way} (hw : w.wf) (a n : Nat) : ∀ b ∈ bytesAt w a n, Byte b := by
  intro b hb
  have := wf_u8 (hw.2.2.1.2 b (List.mem_of_mem_drop (List.mem_of_mem_take hb)))
  exact this
theorem byte_at (l : List Way) (hw : ∀ w ∈ l, w.wf) (k : Nat) (hk : k < l.length) (j : Nat) (hj : j < 16) : (l.flatMap Way.enc)[k * 19 + 2 + j]? = ((wayN l k).data[j]?).map (fun n => T.int .u8 n) := by
  have hwk := wayN_wf hw hk
  rw [Nat.add_assoc, way_get l hw k hk (2 + j) (by omega)]
  show (wayN l k).enc[2 + j]? = _
  rw [enc_data, show 2 + j = j + 1 + 1 by omega, List.getElem?_cons_succ, List.getElem?_cons_succ, List.getElem?_append_left (by rw [data_len, hwk.2.2.1.1]; exact hj), dataT_map, List.getElem?_map]
theorem bytes_cut (l : List Way) (hw : ∀ w ∈ l, w.wf) (k : Nat) (hk : k < l.length) (a n : Nat) (h : a + n ≤ 16) : cut (l.flatMap Way.enc) (k * 19 + 2 + a * 1) (n * 1) = dataT (bytesAt (wayN l k) a n) := by
  apply List.ext_getElem?
  intro q
  rw [cut_get, dataT_map, List.getElem?_map]
  unfold bytesAt
  rw [List.getElem?_take, List.getElem?_drop, Nat.mul_one, Nat.mul_one]
  by_cases hq : q < n
  · rw [if_pos hq, if_pos hq, Nat.add_assoc _ a q, byte_at l hw k hk (a + q) (by omega)]
  · rw [if_neg hq, if_neg hq]; rfl
def readK (c : Cache) (addr : Nat) (size : Int) : Option Nat := if Okay addr size then find c (addr / 16) else none
def readT (c : Cache) (addr : Nat) (size : Int) : T := match readK c addr size with
  | some k => .tup [.int .u32 (val (bytesAt (wayN (row c (seti c (addr / 16))) k) (addr % 16) size.toNat)), .bool true]
  | none => .tup [.int .u32 0, .bool false]
theorem place_some {c : Cache} {addr : Nat} {size : Int} {k : Nat} (h : readK c addr size = some k) : Okay addr size ∧ find c (addr / 16) = some k ∧ placeT c addr size = .tup [.int .i64 (seti c (addr / 16) : Int), .int .i64 (k : Int), .int .i64 ((addr % 16 : Nat) : Int), .bool true] := by
  unfold readK at h
  by_cases ho : Okay addr size
  · rw [if_pos ho] at h
    exact ⟨ho, h, by unfold placeT; rw [if_pos ho, h]⟩
  · rw [if_neg ho] at h; cases h
theorem place_none {c : Cache} {addr : Nat} {size : Int} (h : readK c addr size = none) : ∃ x, placeT c addr size = .tup [.int .i64 0, .int .i64 0, .int .i64 x, .bool false] := by
  unfold readK at h
  by_cases ho : Okay addr size
  · rw [if_pos ho] at h
    exact ⟨_, by unfold placeT; rw [if_pos ho, h]⟩
  · exact ⟨_, by unfold placeT; rw [if_neg ho]⟩
theorem okay_nat {addr : Nat} {size : Int} (h : Okay addr size) : ∃ n : Nat, size = (n : Int) ∧ size.toNat = n ∧ 1 ≤ n ∧ n ≤ 4 ∧ addr % 16 + n ≤ 16 := ⟨size.toNat, by have := h.1; omega, rfl, by have := h.1; omega, by have := h.1; omega, by have := h.1; have := h.2; omega⟩
theorem bus_read (c : Cache) (hc : c.wf) (addr : Nat) (ha : addr ≤ 4294967295) (size : Int) : E ap 21 [.agg [setsT c], .int .u32 (addr : Int), .int .i64 size] (readT c addr size) := by
  refine E_body (F := f21) rfl rfl rfl ?_
  generalize hs0 : (_ : List T) ++ List.replicate _ T.undef = s0
  have e0 : s0.length = 37 ∧ rho s0 (.tmp 0) = .agg [setsT c] ∧ rho s0 (.tmp 1) = .int .u32 (addr : Int) ∧ rho s0 (.tmp 2) = .int .i64 size := by subst hs0; exact ⟨rfl, rfl, rfl, rfl⟩
  clear hs0
  obtain ⟨hl, h0, h1, h2⟩ := e0
  have hleaf : allLeaf [setsT c] = true := rfl
  have hcut : cut [setsT c] 0 1 = [setsT c] := rfl
  obtain ⟨N1, c43⟩ := (bus_place c hc addr ha size).call ap43 (fun g => rfl)
  have q43 := c43 N1 (Nat.le_refl _)
  refine W_seqn (W_region (fun k => by simp (decide := true) (disch := first | omega | (simp (decide := true) only [List.length_set, hl]; done) | fail) only [sims, evRegion, evOps, evOp, evG, evR, guardT, callee, opRes, pureR, binT, unT, T.cells, T.leaf, fillT, splice, Nat.reduceLT, Nat.reduceAdd, Nat.reduceMul, Nat.reduceLeDiff, Nat.reduceEqDiff, reduceIte, Int.reduceBEq, Int.reduceBNe, Int.reduceLT, Int.reduceLE, Int.reduceGT, Int.reduceGE, Int.reduceNeg, reduceCtorEq, hps, h0, hleaf]; rfl) ⟨rfl, ?_⟩)
  cases hk : readK c addr size with
  | none =>
    obtain ⟨x, hx⟩ := place_none hk
    rw [hx] at q43
    have e : readT c addr size = .tup [.int .u32 0, .bool false] := by unfold readT; rw [hk]
    rw [e]
    refine W_seqn (W_regionN ⟨N1, by simp (decide := true) (disch := first | omega | (simp (decide := true) only [List.length_set, hl]; done) | fail) only [sims, evRegion, evOps, evOp, evG, evR, guardT, callee, opRes, pureR, binT, unT, T.cells, T.leaf, fillT, splice, Nat.reduceLT, Nat.reduceAdd, Nat.reduceMul, Nat.reduceLeDiff, Nat.reduceEqDiff, reduceIte, Int.reduceBEq, Int.reduceBNe, Int.reduceLT, Int.reduceLE, Int.reduceGT, Int.reduceGE, Int.reduceNeg, reduceCtorEq, hps, h1, h2, hcut, ap43, p43, n43, q43]; rfl⟩ ⟨rfl, ?_⟩)
    refine W_seq (W_seqn (W_region (fun k => by simp (decide := true) (disch := first | omega | (simp (decide := true) only [List.length_set, hl]; done) | fail) only [sims, evRegion, evOps, evOp, evG, evR, guardT, callee, opRes, pureR, binT, unT, T.cells, T.leaf, fillT, splice, Nat.reduceLT, Nat.reduceAdd, Nat.reduceMul, Nat.reduceLeDiff, Nat.reduceEqDiff, reduceIte, Int.reduceBEq, Int.reduceBNe, Int.reduceLT, Int.reduceLE, Int.reduceGT, Int.reduceGE, Int.reduceNeg, reduceCtorEq]; rfl) ⟨rfl, W_true (by simp (decide := true) (disch := first | omega | (simp (decide := true) only [List.length_set, hl]; done) | fail) only [sims, evRegion, evOps, evOp, evG, evR, guardT, callee, opRes, pureR, binT, unT, T.cells, T.leaf, fillT, splice, Nat.reduceLT, Nat.reduceAdd, Nat.reduceMul, Nat.reduceLeDiff, Nat.reduceEqDiff, reduceIte, Int.reduceBEq, Int.reduceBNe, Int.reduceLT, Int.reduceLE, Int.reduceGT, Int.reduceGE, Int.reduceNeg, reduceCtorEq] <;> rfl) ?_⟩))
    refine W_seqn (W_region (fun k => by simp (decide := true) (disch := first | omega | (simp (decide := true) only [List.length_set, hl]; done) | fail) only [sims, evRegion, evOps, evOp, evG, evR, guardT, callee, opRes, pureR, binT, unT, T.cells, T.leaf, fillT, splice, Nat.reduceLT, Nat.reduceAdd, Nat.reduceMul, Nat.reduceLeDiff, Nat.reduceEqDiff, reduceIte, Int.reduceBEq, Int.reduceBNe, Int.reduceLT, Int.reduceLE, Int.reduceGT, Int.reduceGE, Int.reduceNeg, reduceCtorEq]; rfl) ⟨rfl, W_ret ?_⟩)
    simp only [reduceCtorEq, false_and, false_or, or_false, exists_false, exists_const, ne_eq, not_false_eq_true, true_and, implies_true]
    refine fin_of2 (F := f21) rfl (fun _ => rfl) ?_ ?_ <;> simp (decide := true) (disch := first | omega | (simp (decide := true) only [List.length_set, hl]; done) | fail) only [sims, evRegion, evOps, evOp, evG, evR, guardT, callee, opRes, pureR, binT, unT, T.cells, T.leaf, fillT, splice, Nat.reduceLT, Nat.reduceAdd, Nat.reduceMul, Nat.reduceLeDiff, Nat.reduceEqDiff, reduceIte, Int.reduceBEq, Int.reduceBNe, Int.reduceLT, Int.reduceLE, Int.reduceGT, Int.reduceGE, Int.reduceNeg, reduceCtorEq]
  | some k =>
    obtain ⟨hok, hf, hp⟩ := place_some hk
    obtain ⟨hil, hkl⟩ := find_lt hf
    have hrow := row_wf hc _ hil
    obtain ⟨n, rfl, hn, hn1, hn4, han⟩ := okay_nat hok
    have e : readT c addr (n : Int) = .tup [.int .u32 (val (bytesAt (wayN (row c (seti c (addr / 16))) k) (addr % 16) n)), .bool true] := by unfold readT; rw [hk]; rfl
    rw [e]
    rw [hp] at q43
    have hrl := rows_len c
    have hrg := rows_get c _ hil
    have hsc : setsT c = .imm false c.sets.length (c.sets.flatMap (fun l => [rowT l])) := rfl
    generalize seti c (addr / 16) = i at *
    generalize addr % 16 = a at *
    rw [show rowT (row c i) = .imm false (row c i).length ((row c i).flatMap Way.enc) from rfl] at hrg
    generalize row c i = l at *
    have hwk := wayN_wf hrow.2 hkl
    have hbl := bytes_len hwk a n han
    have hbc := bytes_cut l hrow.2 k hkl a n han
    obtain ⟨N2, c44⟩ := (bits_of (16 == a + n) (bytesAt (wayN l k) a n) (by omega) (bytes_byte hwk a n)).call ap44 (fun g => rfl)
    have q44 := c44 N2 (Nat.le_refl _)
    rw [hbl] at q44
    have hcl := enc_len l hrow.2
    have hadd : IntKind.i64.wrap ((a : Int) + (n : Int)) = ((a + n : Nat) : Int) := by rw [wrap_id (by omega)]; omega
    have hb : i * 1 + 1 ≤ c.sets.length := by omega
    have hb2 : k * 19 + 19 ≤ l.length * 19 := by omega
    have hb3 : a ≤ a + n := by omega
    have hb4 : k * 19 + 2 + 16 ≤ l.length * 19 := by omega
    have hsub : a + n - a = n := by omega
    generalize l.flatMap Way.enc = ws at *
    generalize c.sets.flatMap (fun l => [rowT l]) = rows at *
    generalize dataT (bytesAt (wayN l k) a n) = bs at *
    refine W_seqn (W_regionN ⟨N1, by simp (decide := true) (disch := first | omega | (simp (decide := true) only [List.length_set, hl]; done) | fail) only [sims, evRegion, evOps, evOp, evG, evR, guardT, callee, opRes, pureR, binT, unT, T.cells, T.leaf, fillT, splice, Nat.reduceLT, Nat.reduceAdd, Nat.reduceMul, Nat.reduceLeDiff, Nat.reduceEqDiff, reduceIte, Int.reduceBEq, Int.reduceBNe, Int.reduceLT, Int.reduceLE, Int.reduceGT, Int.reduceGE, Int.reduceNeg, reduceCtorEq, hps, h1, h2, hcut, ap43, p43, n43, q43]; rfl⟩ ⟨rfl, ?_⟩)
    refine W_seqn (W_seqn (W_region (fun k => by simp (decide := true) (disch := first | omega | (simp (decide := true) only [List.length_set, hl]; done) | fail) only [sims, evRegion, evOps, evOp, evG, evR, guardT, callee, opRes, pureR, binT, unT, T.cells, T.leaf, fillT, splice, Nat.reduceLT, Nat.reduceAdd, Nat.reduceMul, Nat.reduceLeDiff, Nat.reduceEqDiff, reduceIte, Int.reduceBEq, Int.reduceBNe, Int.reduceLT, Int.reduceLE, Int.reduceGT, Int.reduceGE, Int.reduceNeg, reduceCtorEq]; rfl) ⟨rfl, W_false (by simp (decide := true) (disch := first | omega | (simp (decide := true) only [List.length_set, hl]; done) | fail) only [sims, evRegion, evOps, evOp, evG, evR, guardT, callee, opRes, pureR, binT, unT, T.cells, T.leaf, fillT, splice, Nat.reduceLT, Nat.reduceAdd, Nat.reduceMul, Nat.reduceLeDiff, Nat.reduceEqDiff, reduceIte, Int.reduceBEq, Int.reduceBNe, Int.reduceLT, Int.reduceLE, Int.reduceGT, Int.reduceGE, Int.reduceNeg, reduceCtorEq] <;> rfl) (W_skip ⟨rfl, ?_⟩)⟩))
    refine W_seqn (W_regionN ⟨N2, by simp (decide := true) (disch := first | omega | (simp (decide := true) only [List.length_set, hl]; done) | fail) only [sims, evRegion, evOps, evOp, evG, evR, guardT, callee, opRes, pureR, binT, unT, T.cells, T.leaf, fillT, splice, Nat.reduceLT, Nat.reduceAdd, Nat.reduceMul, Nat.reduceLeDiff, Nat.reduceEqDiff, reduceIte, Int.reduceBEq, Int.reduceBNe, Int.reduceLT, Int.reduceLE, Int.reduceGT, Int.reduceGE, Int.reduceNeg, reduceCtorEq, hps, h2, hsc, hrl, hrg, hil, hb, hkl, hcl, hb2, hadd, Option.map_none, Option.map_some, hb3, han, hb4, hsub, hbc, ap44, p44, n44, q44]; rfl⟩ ⟨rfl, W_ret ?_⟩)
    refine fin_of2 (F := f21) rfl (fun _ => rfl) ?_ ?_ <;> simp (decide := true) (disch := first | omega | (simp (decide := true) only [List.length_set, hl]; done) | fail) only [sims, evRegion, evOps, evOp, evG, evR, guardT, callee, opRes, pureR, binT, unT, T.cells, T.leaf, fillT, splice, Nat.reduceLT, Nat.reduceAdd, Nat.reduceMul, Nat.reduceLeDiff, Nat.reduceEqDiff, reduceIte, Int.reduceBEq, Int.reduceBNe, Int.reduceLT, Int.reduceLE, Int.reduceGT, Int.reduceGE, Int.reduceNeg, reduceCtorEq]

def rrLoop : ACode := match f22.body with | .seq _ (.seq _ (.seq _ (.seq _ (.seq (.seq _ (.block _ (.loop c))) _)))) => c | _ => .skip
theorem rr_loop (fx : Bool) (m0 : Nat) (xs : List T) (hxl : xs.length = m0) (i : Nat) (hi : i < m0) (f : Bool) (l : List Way) (hw : ∀ w ∈ l, w.wf) (hxi : xs[i * 1]? = some (.imm f l.length (l.flatMap Way.enc))) (k : Nat) (hkl : k < l.length) (addr a n : Nat) (haa : a = addr % 16) (han : a + n ≤ 16) (hn4 : n ≤ 4) (Q : AExit → St → Prop)
    (hQe : ∀ st : St, st.s.length = 55 → rho st.s (.tmp 11) = .int .u32 (val (bytesAt (wayN l k) a n)) → Q (.exit 0) st) :
    ∀ (m : Nat) (st : St), (st.s.length = 55 ∧ rho st.s (.tmp 1) = .int .u32 (addr : Int) ∧ rho st.s (.tmp 3) = .ptr 0 0 ∧ st.g 0 = some [.imm fx m0 xs] ∧ rho st.s (.tmp 8) = .int .i64 (i : Int) ∧ rho st.s (.tmp 9) = .int .i64 (k : Int) ∧ rho st.s (.tmp 11) = .int .u32 (val ((bytesAt (wayN l k) a n).drop m)) ∧ rho st.s (.tmp 12) = .int .i64 ((m : Int) - 1) ∧ m ≤ n) → W ap (.loop rrLoop) st Q := by
  refine W_loop _ ?_
  rintro m st ⟨hl, h1, h3, g0, h8, h9, h11, h12, hm⟩
  have hwk := wayN_wf hw hkl
  have hbl := bytes_len hwk a n han
  cases m with
  | zero =>
    have hge : decide (((0 : Nat) : Int) - 1 ≥ 0) = false := rfl
    refine W_seq (W_seqn (W_region (fun k => by simp (decide := true) (disch := first | omega | (simp (decide := true) only [List.length_set, hl]; done) | fail) only [sims, evRegion, evOps, evOp, evG, evR, guardT, callee, opRes, pureR, binT, unT, T.cells, T.leaf, fillT, splice, Nat.reduceLT, Nat.reduceAdd, Nat.reduceMul, Nat.reduceLeDiff, Nat.reduceEqDiff, reduceIte, Int.reduceBEq, Int.reduceBNe, Int.reduceLT, Int.reduceLE, Int.reduceGT, Int.reduceGE, Int.reduceNeg, reduceCtorEq, h12, hge]; rfl) ⟨rfl, W_false (by simp (decide := true) (disch := first | omega | (simp (decide := true) only [List.length_set, hl]; done) | fail) only [sims, evRegion, evOps, evOp, evG, evR, guardT, callee, opRes, pureR, binT, unT, T.cells, T.leaf, fillT, splice, Nat.reduceLT, Nat.reduceAdd, Nat.reduceMul, Nat.reduceLeDiff, Nat.reduceEqDiff, reduceIte, Int.reduceBEq, Int.reduceBNe, Int.reduceLT, Int.reduceLE, Int.reduceGT, Int.reduceGE, Int.reduceNeg, reduceCtorEq] <;> rfl) (W_exit ?_)⟩))
    refine (.inr ⟨by simp, .inr ⟨by simp, hQe _ ?_ ?_⟩⟩)
    · simp (decide := true) (disch := first | omega | (simp (decide := true) only [List.length_set, hl]; done) | fail) only [sims, evRegion, evOps, evOp, evG, evR, guardT, callee, opRes, pureR, binT, unT, T.cells, T.leaf, fillT, splice, Nat.reduceLT, Nat.reduceAdd, Nat.reduceMul, Nat.reduceLeDiff, Nat.reduceEqDiff, reduceIte, Int.reduceBEq, Int.reduceBNe, Int.reduceLT, Int.reduceLE, Int.reduceGT, Int.reduceGE, Int.reduceNeg, reduceCtorEq, hl]
    · simp (decide := true) (disch := first | omega | (simp (decide := true) only [List.length_set, hl]; done) | fail) only [sims, evRegion, evOps, evOp, evG, evR, guardT, callee, opRes, pureR, binT, unT, T.cells, T.leaf, fillT, splice, Nat.reduceLT, Nat.reduceAdd, Nat.reduceMul, Nat.reduceLeDiff, Nat.reduceEqDiff, reduceIte, Int.reduceBEq, Int.reduceBNe, Int.reduceLT, Int.reduceLE, Int.reduceGT, Int.reduceGE, Int.reduceNeg, reduceCtorEq, h11]
      rw [List.drop_zero]
  | succ j =>
    have e1 : ((j + 1 : Nat) : Int) - 1 = (j : Int) := by omega
    rw [e1] at h12
    have hge : decide ((j : Int) ≥ 0) = true := decide_eq_true (by omega)
    have hjb : j < (bytesAt (wayN l k) a n).length := by omega
    have hbj := bytes_byte hwk a n _ (List.getElem_mem hjb)
    have hvr := val_range ((bytesAt (wayN l k) a n).drop (j + 1)) (fun b h => bytes_byte hwk a n b (List.mem_of_mem_drop h))
    have hdl : ((bytesAt (wayN l k) a n).drop (j + 1)).length = n - (j + 1) := by rw [List.length_drop, hbl]
    rw [hdl] at hvr
    have hdrop : val ((bytesAt (wayN l k) a n).drop j) = (bytesAt (wayN l k) a n)[j] + 256 * val ((bytesAt (wayN l k) a n).drop (j + 1)) := by
      rw [List.drop_eq_getElem_cons hjb, val]
    have hget : (l.flatMap Way.enc)[k * 19 + 2 + (a + j) * 1]? = some (.int .u8 (bytesAt (wayN l k) a n)[j]) := by
      rw [Nat.mul_one, byte_at l hw k hkl (a + j) (by omega)]
      have : (wayN l k).data[a + j]? = some (bytesAt (wayN l k) a n)[j] := by
        rw [← List.getElem?_eq_getElem hjb]
        unfold bytesAt
        rw [List.getElem?_take, if_pos (by omega), List.getElem?_drop]
      rw [this]; rfl
    generalize (bytesAt (wayN l k) a n)[j] = b at *
    generalize val ((bytesAt (wayN l k) a n).drop (j + 1)) = v at *
    have hp3 : (256 : Int) ^ (n - (j + 1)) ≤ 16777216 := by
      have h3 : n - (j + 1) = 0 ∨ n - (j + 1) = 1 ∨ n - (j + 1) = 2 ∨ n - (j + 1) = 3 := by omega
      rcases h3 with h | h | h | h <;> (rw [h]; decide)
    have hb1 := hbj.1
    have hb2' := hbj.2
    have hmul : IntKind.u32.wrap (256 * v) = 256 * v := by rw [wrap_u32]; omega
    have hadd : IntKind.u32.wrap (256 * v + b) = b + 256 * v := by rw [wrap_u32]; omega
    have hcv : IntKind.u32.wrap b = b := by rw [wrap_u32]; omega
    have hmd : (addr : Int).tmod 16 = (a : Int) := by rw [Int.tmod_eq_emod_of_nonneg (by omega)]; omega
    have h16 : ((16 : Int) = 0) = False := by simp
    have hca : IntKind.i64.wrap (a : Int) = (a : Int) := wrap_id (by omega)
    have haj : IntKind.i64.wrap ((a : Int) + (j : Int)) = ((a + j : Nat) : Int) := by rw [wrap_id (by omega)]; omega
    have hdec : IntKind.i64.wrap ((j : Int) - 1) = (j : Int) - 1 := wrap_id (by omega)
    have hcl := enc_len l hw
    have hb : i * 1 + 1 ≤ m0 := by omega
    have hb2 : k * 19 + 19 ≤ l.length * 19 := by omega
    have hb3 : a + j < 16 := by omega
    have hb4 : k * 19 + 2 + (a + j) * 1 + 1 ≤ l.length * 19 := by omega
    generalize l.flatMap Way.enc = ws at *
    refine W_seqn (W_seqn (W_region (fun k => by simp (decide := true) (disch := first | omega | (simp (decide := true) only [List.length_set, hl]; done) | fail) only [sims, evRegion, evOps, evOp, evG, evR, guardT, callee, opRes, pureR, binT, unT, T.cells, T.leaf, fillT, splice, Nat.reduceLT, Nat.reduceAdd, Nat.reduceMul, Nat.reduceLeDiff, Nat.reduceEqDiff, reduceIte, Int.reduceBEq, Int.reduceBNe, Int.reduceLT, Int.reduceLE, Int.reduceGT, Int.reduceGE, Int.reduceNeg, reduceCtorEq, h12, hge]; rfl) ⟨rfl, W_true (by simp (decide := true) (disch := first | omega | (simp (decide := true) only [List.length_set, hl]; done) | fail) only [sims, evRegion, evOps, evOp, evG, evR, guardT, callee, opRes, pureR, binT, unT, T.cells, T.leaf, fillT, splice, Nat.reduceLT, Nat.reduceAdd, Nat.reduceMul, Nat.reduceLeDiff, Nat.reduceEqDiff, reduceIte, Int.reduceBEq, Int.reduceBNe, Int.reduceLT, Int.reduceLE, Int.reduceGT, Int.reduceGE, Int.reduceNeg, reduceCtorEq] <;> rfl) (W_skip ⟨rfl, ?_⟩)⟩))
    refine W_seqn (W_block (W_region (fun k => by simp (decide := true) (disch := first | omega | (simp (decide := true) only [List.length_set, hl]; done) | fail) only [sims, evRegion, evOps, evOp, evG, evR, guardT, callee, opRes, pureR, binT, unT, T.cells, T.leaf, fillT, splice, Nat.reduceLT, Nat.reduceAdd, Nat.reduceMul, Nat.reduceLeDiff, Nat.reduceEqDiff, reduceIte, Int.reduceBEq, Int.reduceBNe, Int.reduceLT, Int.reduceLE, Int.reduceGT, Int.reduceGE, Int.reduceNeg, reduceCtorEq, h1, h3, g0, h8, h9, h11, h12, hxl, hi, hb, hxi, hkl, hcl, hb2, hmd, h16, hca, haj, hb3, hb4, hget, hmul, hcv, hadd]; rfl) (.inr (.inl ⟨by simp, rfl, ?_⟩))))
    refine W_region (fun k => by simp (decide := true) (disch := first | omega | (simp (decide := true) only [List.length_set, hl]; done) | fail) only [sims, evRegion, evOps, evOp, evG, evR, guardT, callee, opRes, pureR, binT, unT, T.cells, T.leaf, fillT, splice, Nat.reduceLT, Nat.reduceAdd, Nat.reduceMul, Nat.reduceLeDiff, Nat.reduceEqDiff, reduceIte, Int.reduceBEq, Int.reduceBNe, Int.reduceLT, Int.reduceLE, Int.reduceGT, Int.reduceGE, Int.reduceNeg, reduceCtorEq, h12, hdec]; rfl) ?_
    refine (.inl ⟨rfl, j, by omega, ?_, ?_, ?_, ?_, ?_, ?_, ?_, ?_, by omega⟩)
    all_goals simp (decide := true) (disch := first | omega | (simp (decide := true) only [List.length_set, hl]; done) | fail) only [sims, evRegion, evOps, evOp, evG, evR, guardT, callee, opRes, pureR, binT, unT, T.cells, T.leaf, fillT, splice, Nat.reduceLT, Nat.reduceAdd, Nat.reduceMul, Nat.reduceLeDiff, Nat.reduceEqDiff, reduceIte, Int.reduceBEq, Int.reduceBNe, Int.reduceLT, Int.reduceLE, Int.reduceGT, Int.reduceGE, Int.reduceNeg, reduceCtorEq, hl, h1, h3, g0, h8, h9, hdrop]
theorem ref_read (c : Cache) (hc : c.wf) (addr : Nat) (ha : addr ≤ 4294967295) (size : Int) : E ap 22 [.agg [setsT c], .int .u32 (addr : Int), .int .i64 size] (readT c addr size) := by
  refine E_body (F := f22) rfl rfl rfl ?_
  generalize hs0 : (_ : List T) ++ List.replicate _ T.undef = s0
  have e0 : s0.length = 55 ∧ rho s0 (.tmp 0) = .agg [setsT c] ∧ rho s0 (.tmp 1) = .int .u32 (addr : Int) ∧ rho s0 (.tmp 2) = .int .i64 size := by subst hs0; exact ⟨rfl, rfl, rfl, rfl⟩
  clear hs0
  obtain ⟨hl, h0, h1, h2⟩ := e0
  have hleaf : allLeaf [setsT c] = true := rfl
  have hcut : cut [setsT c] 0 1 = [setsT c] := rfl
  have hdiv : IntKind.u32.wrap ((addr : Int).tdiv 16) = ((addr / 16 : Nat) : Int) := by rw [wrap_u32, Int.tdiv_eq_ediv_of_nonneg (by omega)]; omega
  have h16 : ((16 : Int) = 0) = False := by simp
  obtain ⟨N1, c16⟩ := (ref_find c hc (addr / 16) (by omega)).call ap16 (fun g => rfl)
  obtain ⟨N2, c45⟩ := (ref_within addr ha size).call ap45 (fun g => rfl)
  have q16 := c16 N1 (Nat.le_refl _)
  have q45 := c45 N2 (Nat.le_refl _)
  refine W_seqn (W_region (fun k => by simp (decide := true) (disch := first | omega | (simp (decide := true) only [List.length_set, hl]; done) | fail) only [sims, evRegion, evOps, evOp, evG, evR, guardT, callee, opRes, pureR, binT, unT, T.cells, T.leaf, fillT, splice, Nat.reduceLT, Nat.reduceAdd, Nat.reduceMul, Nat.reduceLeDiff, Nat.reduceEqDiff, reduceIte, Int.reduceBEq, Int.reduceBNe, Int.reduceLT, Int.reduceLE, Int.reduceGT, Int.reduceGE, Int.reduceNeg, reduceCtorEq, hps, h0, hleaf]; rfl) ⟨rfl, ?_⟩)
  cases hf : find c (addr / 16) with
  | none =>
    rw [findT_no c _ hf] at q16
    have e : readT c addr size = .tup [.int .u32 0, .bool false] := by unfold readT readK; rw [hf, ite_self]
    rw [e]
    refine W_seqn (W_regionN ⟨N1, by simp (decide := true) (disch := first | omega | (simp (decide := true) only [List.length_set, hl]; done) | fail) only [sims, evRegion, evOps, evOp, evG, evR, guardT, callee, opRes, pureR, binT, unT, T.cells, T.leaf, fillT, splice, Nat.reduceLT, Nat.reduceAdd, Nat.reduceMul, Nat.reduceLeDiff, Nat.reduceEqDiff, reduceIte, Int.reduceBEq, Int.reduceBNe, Int.reduceLT, Int.reduceLE, Int.reduceGT, Int.reduceGE, Int.reduceNeg, reduceCtorEq, hps, h1, h2, hcut, hdiv, h16, ap16, p16, n16, q16]; rfl⟩ ⟨rfl, ?_⟩)
    refine W_seq (W_seqn (W_region (fun k => by simp (decide := true) (disch := first | omega | (simp (decide := true) only [List.length_set, hl]; done) | fail) only [sims, evRegion, evOps, evOp, evG, evR, guardT, callee, opRes, pureR, binT, unT, T.cells, T.leaf, fillT, splice, Nat.reduceLT, Nat.reduceAdd, Nat.reduceMul, Nat.reduceLeDiff, Nat.reduceEqDiff, reduceIte, Int.reduceBEq, Int.reduceBNe, Int.reduceLT, Int.reduceLE, Int.reduceGT, Int.reduceGE, Int.reduceNeg, reduceCtorEq]; rfl) ⟨rfl, W_true (by simp (decide := true) (disch := first | omega | (simp (decide := true) only [List.length_set, hl]; done) | fail) only [sims, evRegion, evOps, evOp, evG, evR, guardT, callee, opRes, pureR, binT, unT, T.cells, T.leaf, fillT, splice, Nat.reduceLT, Nat.reduceAdd, Nat.reduceMul, Nat.reduceLeDiff, Nat.reduceEqDiff, reduceIte, Int.reduceBEq, Int.reduceBNe, Int.reduceLT, Int.reduceLE, Int.reduceGT, Int.reduceGE, Int.reduceNeg, reduceCtorEq] <;> rfl) ?_⟩))
    refine W_seqn (W_region (fun k => by simp (decide := true) (disch := first | omega | (simp (decide := true) only [List.length_set, hl]; done) | fail) only [sims, evRegion, evOps, evOp, evG, evR, guardT, callee, opRes, pureR, binT, unT, T.cells, T.leaf, fillT, splice, Nat.reduceLT, Nat.reduceAdd, Nat.reduceMul, Nat.reduceLeDiff, Nat.reduceEqDiff, reduceIte, Int.reduceBEq, Int.reduceBNe, Int.reduceLT, Int.reduceLE, Int.reduceGT, Int.reduceGE, Int.reduceNeg, reduceCtorEq]; rfl) ⟨rfl, W_ret ?_⟩)
    simp only [reduceCtorEq, false_and, false_or, or_false, exists_false, exists_const, ne_eq, not_false_eq_true, true_and, implies_true]
    refine fin_of2 (F := f22) rfl (fun _ => rfl) ?_ ?_ <;> simp (decide := true) (disch := first | omega | (simp (decide := true) only [List.length_set, hl]; done) | fail) only [sims, evRegion, evOps, evOp, evG, evR, guardT, callee, opRes, pureR, binT, unT, T.cells, T.leaf, fillT, splice, Nat.reduceLT, Nat.reduceAdd, Nat.reduceMul, Nat.reduceLeDiff, Nat.reduceEqDiff, reduceIte, Int.reduceBEq, Int.reduceBNe, Int.reduceLT, Int.reduceLE, Int.reduceGT, Int.reduceGE, Int.reduceNeg, reduceCtorEq]
  | some k =>
    rw [findT_is c _ k hf] at q16
    refine W_seqn (W_regionN ⟨N1, by simp (decide := true) (disch := first | omega | (simp (decide := true) only [List.length_set, hl]; done) | fail) only [sims, evRegion, evOps, evOp, evG, evR, guardT, callee, opRes, pureR, binT, unT, T.cells, T.leaf, fillT, splice, Nat.reduceLT, Nat.reduceAdd, Nat.reduceMul, Nat.reduceLeDiff, Nat.reduceEqDiff, reduceIte, Int.reduceBEq, Int.reduceBNe, Int.reduceLT, Int.reduceLE, Int.reduceGT, Int.reduceGE, Int.reduceNeg, reduceCtorEq, hps, h1, h2, hcut, hdiv, h16, ap16, p16, n16, q16]; rfl⟩ ⟨rfl, ?_⟩)
    by_cases hok : Okay addr size
    · rw [decide_eq_true hok] at q45
      obtain ⟨hil, hkl⟩ := find_lt hf
      have hrow := row_wf hc _ hil
      obtain ⟨n, rfl, hn, hn1, hn4, han⟩ := okay_nat hok
      have e : readT c addr (n : Int) = .tup [.int .u32 (val (bytesAt (wayN (row c (seti c (addr / 16))) k) (addr % 16) n)), .bool true] := by unfold readT readK; rw [if_pos hok, hf]; rfl
      rw [e]
      have hsub : IntKind.i64.wrap ((n : Int) - 1) = (n : Int) - 1 := wrap_id (by omega)
      have hbl := bytes_len (wayN_wf hrow.2 hkl) (addr % 16) n han
      refine W_seqn (W_seqn (W_regionN ⟨N2, by simp (decide := true) (disch := first | omega | (simp (decide := true) only [List.length_set, hl]; done) | fail) only [sims, evRegion, evOps, evOp, evG, evR, guardT, callee, opRes, pureR, binT, unT, T.cells, T.leaf, fillT, splice, Nat.reduceLT, Nat.reduceAdd, Nat.reduceMul, Nat.reduceLeDiff, Nat.reduceEqDiff, reduceIte, Int.reduceBEq, Int.reduceBNe, Int.reduceLT, Int.reduceLE, Int.reduceGT, Int.reduceGE, Int.reduceNeg, reduceCtorEq, hps, h1, h2, ap45, p45, n45, q45]; rfl⟩ ⟨rfl, W_false (by simp (decide := true) (disch := first | omega | (simp (decide := true) only [List.length_set, hl]; done) | fail) only [sims, evRegion, evOps, evOp, evG, evR, guardT, callee, opRes, pureR, binT, unT, T.cells, T.leaf, fillT, splice, Nat.reduceLT, Nat.reduceAdd, Nat.reduceMul, Nat.reduceLeDiff, Nat.reduceEqDiff, reduceIte, Int.reduceBEq, Int.reduceBNe, Int.reduceLT, Int.reduceLE, Int.reduceGT, Int.reduceGE, Int.reduceNeg, reduceCtorEq] <;> rfl) (W_skip ⟨rfl, ?_⟩)⟩))
      refine W_seqn (W_region (fun k => by simp (decide := true) (disch := first | omega | (simp (decide := true) only [List.length_set, hl]; done) | fail) only [sims, evRegion, evOps, evOp, evG, evR, guardT, callee, opRes, pureR, binT, unT, T.cells, T.leaf, fillT, splice, Nat.reduceLT, Nat.reduceAdd, Nat.reduceMul, Nat.reduceLeDiff, Nat.reduceEqDiff, reduceIte, Int.reduceBEq, Int.reduceBNe, Int.reduceLT, Int.reduceLE, Int.reduceGT, Int.reduceGE, Int.reduceNeg, reduceCtorEq]; rfl) ⟨rfl, ?_⟩)
      refine W_seq (W_seqn (W_region (fun k => by simp (decide := true) (disch := first | omega | (simp (decide := true) only [List.length_set, hl]; done) | fail) only [sims, evRegion, evOps, evOp, evG, evR, guardT, callee, opRes, pureR, binT, unT, T.cells, T.leaf, fillT, splice, Nat.reduceLT, Nat.reduceAdd, Nat.reduceMul, Nat.reduceLeDiff, Nat.reduceEqDiff, reduceIte, Int.reduceBEq, Int.reduceBNe, Int.reduceLT, Int.reduceLE, Int.reduceGT, Int.reduceGE, Int.reduceNeg, reduceCtorEq, h2, hsub]; rfl) ⟨rfl, W_block ?_⟩))
      refine rr_loop false c.sets.length _ (rows_len c) (seti c (addr / 16)) hil false (row c (seti c (addr / 16))) hrow.2 (rows_get c _ hil) k hkl addr (addr % 16) n rfl han hn4 _ (fun st hst h11 => ?_) n _ ⟨?_, ?_, ?_, ?_, ?_, ?_, ?_, ?_, Nat.le_refl _⟩
      · have hl := hst
        refine .inl ⟨rfl, .inl ⟨rfl, W_seqn (W_region (fun k => by simp (decide := true) (disch := first | omega | (simp (decide := true) only [List.length_set, hl]; done) | fail) only [sims, evRegion, evOps, evOp, evG, evR, guardT, callee, opRes, pureR, binT, unT, T.cells, T.leaf, fillT, splice, Nat.reduceLT, Nat.reduceAdd, Nat.reduceMul, Nat.reduceLeDiff, Nat.reduceEqDiff, reduceIte, Int.reduceBEq, Int.reduceBNe, Int.reduceLT, Int.reduceLE, Int.reduceGT, Int.reduceGE, Int.reduceNeg, reduceCtorEq, h11]; rfl) ⟨rfl, W_ret ?_⟩)⟩⟩
        refine fin_of2 (F := f22) rfl (fun _ => rfl) ?_ ?_ <;> simp (decide := true) (disch := first | omega | (simp (decide := true) only [List.length_set, hl]; done) | fail) only [sims, evRegion, evOps, evOp, evG, evR, guardT, callee, opRes, pureR, binT, unT, T.cells, T.leaf, fillT, splice, Nat.reduceLT, Nat.reduceAdd, Nat.reduceMul, Nat.reduceLeDiff, Nat.reduceEqDiff, reduceIte, Int.reduceBEq, Int.reduceBNe, Int.reduceLT, Int.reduceLE, Int.reduceGT, Int.reduceGE, Int.reduceNeg, reduceCtorEq]
      rotate_right 2
      · rw [List.drop_of_length_le (by omega)]
        simp (decide := true) (disch := first | omega | (simp (decide := true) only [List.length_set, hl]; done) | fail) only [sims, evRegion, evOps, evOp, evG, evR, guardT, callee, opRes, pureR, binT, unT, T.cells, T.leaf, fillT, splice, Nat.reduceLT, Nat.reduceAdd, Nat.reduceMul, Nat.reduceLeDiff, Nat.reduceEqDiff, reduceIte, Int.reduceBEq, Int.reduceBNe, Int.reduceLT, Int.reduceLE, Int.reduceGT, Int.reduceGE, Int.reduceNeg, reduceCtorEq]
        rfl
      all_goals first | (simp (decide := true) (disch := first | omega | (simp (decide := true) only [List.length_set, hl]; done) | fail) only [sims, evRegion, evOps, evOp, evG, evR, guardT, callee, opRes, pureR, binT, unT, T.cells, T.leaf, fillT, splice, Nat.reduceLT, Nat.reduceAdd, Nat.reduceMul, Nat.reduceLeDiff, Nat.reduceEqDiff, reduceIte, Int.reduceBEq, Int.reduceBNe, Int.reduceLT, Int.reduceLE, Int.reduceGT, Int.reduceGE, Int.reduceNeg, reduceCtorEq, hl, h1]; done) | (simp (decide := true) (disch := first | omega | (simp (decide := true) only [List.length_set, hl]; done) | fail) only [sims, evRegion, evOps, evOp, evG, evR, guardT, callee, opRes, pureR, binT, unT, T.cells, T.leaf, fillT, splice, Nat.reduceLT, Nat.reduceAdd, Nat.reduceMul, Nat.reduceLeDiff, Nat.reduceEqDiff, reduceIte, Int.reduceBEq, Int.reduceBNe, Int.reduceLT, Int.reduceLE, Int.reduceGT, Int.reduceGE, Int.reduceNeg, reduceCtorEq, hl, h1]; rfl)
    · rw [decide_eq_false hok] at q45
      have e : readT c addr size = .tup [.int .u32 0, .bool false] := by unfold readT readK; rw [if_neg hok]
      rw [e]
      refine W_seq (W_seqn (W_regionN ⟨N2, by simp (decide := true) (disch := first | omega | (simp (decide := true) only [List.length_set, hl]; done) | fail) only [sims, evRegion, evOps, evOp, evG, evR, guardT, callee, opRes, pureR, binT, unT, T.cells, T.leaf, fillT, splice, Nat.reduceLT, Nat.reduceAdd, Nat.reduceMul, Nat.reduceLeDiff, Nat.reduceEqDiff, reduceIte, Int.reduceBEq, Int.reduceBNe, Int.reduceLT, Int.reduceLE, Int.reduceGT, Int.reduceGE, Int.reduceNeg, reduceCtorEq, hps, h1, h2, ap45, p45, n45, q45]; rfl⟩ ⟨rfl, W_true (by simp (decide := true) (disch := first | omega | (simp (decide := true) only [List.length_set, hl]; done) | fail) only [sims, evRegion, evOps, evOp, evG, evR, guardT, callee, opRes, pureR, binT, unT, T.cells, T.leaf, fillT, splice, Nat.reduceLT, Nat.reduceAdd, Nat.reduceMul, Nat.reduceLeDiff, Nat.reduceEqDiff, reduceIte, Int.reduceBEq, Int.reduceBNe, Int.reduceLT, Int.reduceLE, Int.reduceGT, Int.reduceGE, Int.reduceNeg, reduceCtorEq] <;> rfl) ?_⟩))
      refine W_seqn (W_region (fun k => by simp (decide := true) (disch := first | omega | (simp (decide := true) only [List.length_set, hl]; done) | fail) only [sims, evRegion, evOps, evOp, evG, evR, guardT, callee, opRes, pureR, binT, unT, T.cells, T.leaf, fillT, splice, Nat.reduceLT, Nat.reduceAdd, Nat.reduceMul, Nat.reduceLeDiff, Nat.reduceEqDiff, reduceIte, Int.reduceBEq, Int.reduceBNe, Int.reduceLT, Int.reduceLE, Int.reduceGT, Int.reduceGE, Int.reduceNeg, reduceCtorEq]; rfl) ⟨rfl, W_ret ?_⟩)
      simp only [reduceCtorEq, false_and, false_or, or_false, exists_false, exists_const, ne_eq, not_false_eq_true, true_and, implies_true]
      refine fin_of2 (F := f22) rfl (fun _ => rfl) ?_ ?_ <;> simp (decide := true) (disch := first | omega | (simp (decide := true) only [List.length_set, hl]; done) | fail) only [sims, evRegion, evOps, evOp, evG, evR, guardT, callee, opRes, pureR, binT, unT, T.cells, T.leaf, fillT, splice, Nat.reduceLT, Nat.reduceAdd, Nat.reduceMul, Nat.reduceLeDiff, Nat.reduceEqDiff, reduceIte, Int.reduceBEq, Int.reduceBNe, Int.reduceLT, Int.reduceLE, Int.reduceGT, Int.reduceGE, Int.reduceNeg, reduceCtorEq]
end Go.Proofs.Ythanlobfjpjegaa.Abs
