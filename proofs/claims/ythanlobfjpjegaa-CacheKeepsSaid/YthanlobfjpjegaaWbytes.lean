/- The bytes of a number, as the program has them; ways with other bytes. -/
import Derived.Test.YthanlobfjpjegaaRead
namespace Go.Proofs.Ythanlobfjpjegaa.Abs
open Go Go.RowKit Fn
set_option linter.unusedVariables false
set_option linter.unusedSimpArgs false
set_option linter.unnecessarySimpa false
set_option maxRecDepth 100000
set_option maxHeartbeats 1000000

def bytesOf : Int → Nat → List Int
  | _, 0 => []
  | v, n + 1 => v % 256 :: bytesOf (v / 256) n
theorem bytesOf_len : ∀ (n : Nat) (v : Int), (bytesOf v n).length = n
  | 0, _ => rfl
  | n + 1, v => by rw [bytesOf, List.length_cons, bytesOf_len n]
theorem bytesOf_get : ∀ (n : Nat) (v : Int) (i : Nat) (h : i < n), (bytesOf v n)[i]? = some (v / 256 ^ i % 256)
  | 0, _, _, h => by omega
  | n + 1, v, 0, _ => by rw [bytesOf, List.getElem?_cons_zero, Int.pow_zero, Int.ediv_one]
  | n + 1, v, i + 1, h => by
    rw [bytesOf, List.getElem?_cons_succ, bytesOf_get n _ i (by omega), Int.ediv_ediv_of_nonneg (by decide), Int.pow_succ, Int.mul_comm]
theorem bytesOf_byte (n : Nat) (v : Int) : ∀ b ∈ bytesOf v n, Byte b := by
  intro b hb
  obtain ⟨i, hi, rfl⟩ := List.getElem_of_mem hb
  have := bytesOf_get n v i (by rw [bytesOf_len] at hi; exact hi)
  rw [List.getElem?_eq_getElem hi] at this
  rw [Option.some.inj this]
  exact ⟨by omega, by omega⟩
def updD (data : List Int) (a : Nat) (bs : List Int) : List Int := data.take a ++ (bs ++ data.drop (a + bs.length))
theorem updD_len (data : List Int) (a : Nat) (bs : List Int) (h : a + bs.length ≤ data.length) : (updD data a bs).length = data.length := by
  unfold updD; rw [List.length_append, List.length_append, List.length_take, List.length_drop]; omega
theorem updD_nil (data : List Int) (a : Nat) : updD data a [] = data := by unfold updD; simp
theorem updD_succ (data : List Int) (a : Nat) (bs : List Int) (h : a + bs.length ≤ data.length) (j : Nat) (hj : j < bs.length) : updD data a (bs.take (j + 1)) = (updD data a (bs.take j)).set (a + j) bs[j] := by
  have e1 : (bs.take j).length = j := by rw [List.length_take]; omega
  have e2 : (bs.take (j + 1)).length = j + 1 := by rw [List.length_take]; omega
  have e3 : (data.take a).length = a := by rw [List.length_take]; omega
  have e4 : bs.take (j + 1) = bs.take j ++ [bs[j]] := by rw [List.take_add_one, List.getElem?_eq_getElem hj]; rfl
  unfold updD
  rw [e1, e2, List.set_append_right _ _ (by omega), e3, Nat.add_sub_cancel_left, List.set_append_right _ _ (by omega), e1, Nat.sub_self, List.drop_eq_getElem_cons (show a + j < data.length by omega), List.set_cons_zero, e4, Nat.add_assoc]
  simp only [List.append_assoc, List.cons_append, List.nil_append]
def updW (old : Way) (a : Nat) (bs : List Int) : Way := { old with data := updD old.data a bs }
theorem byte_wf {b : Int} (h : Byte b) : (Lit.int .u8 b).wf = true := by
  have e : (Lit.int .u8 b).wf = (decide ((0 : Int) ≤ b) && decide (b ≤ 2 ^ 8 - 1)) := rfl
  rw [e, decide_eq_true h.1, decide_eq_true (by have := h.2; omega)]; rfl
theorem updW_wf {old : Way} (ho : old.wf) (a : Nat) (bs : List Int) (hb : ∀ b ∈ bs, Byte b) (h : a + bs.length ≤ 16) : (updW old a bs).wf := by
  refine ⟨ho.1, ho.2.1, ⟨?_, fun y hy => ?_⟩, ho.2.2.2⟩
  · show (updD old.data a bs).length = 16
    rw [updD_len _ _ _ (by rw [ho.2.2.1.1]; exact h), ho.2.2.1.1]
  · have hy : y ∈ updD old.data a bs := hy
    unfold updD at hy
    rw [List.mem_append, List.mem_append] at hy
    rcases hy with h' | h' | h'
    · exact ho.2.2.1.2 _ (List.mem_of_mem_take h')
    · exact byte_wf (hb _ h')
    · exact ho.2.2.1.2 _ (List.mem_of_mem_drop h')
theorem dataT_append (l r : List Int) : dataT (l ++ r) = dataT l ++ dataT r := by unfold dataT; rw [List.flatMap_append]
theorem set_upd (l : List Way) (hw : ∀ w ∈ l, w.wf) (k : Nat) (h : k < l.length) (a : Nat) (bs : List Int) (hb : ∀ b ∈ bs, Byte b) (hab : a + bs.length ≤ 16) : (l.set k (updW (wayN l k) a bs)).flatMap Way.enc = splice (l.flatMap Way.enc) (k * 19 + 2 + a * 1) (dataT bs) := by
  have hwk := wayN_wf hw h
  have hd := hwk.2.2.1.1
  have hu := updW_wf hwk a bs hb hab
  rw [Nat.mul_one, Nat.add_assoc]
  refine set_way l hw k h _ hu (2 + a) (dataT bs) (T.int .i64 (wayN l k).state :: T.int .u32 (wayN l k).tag :: dataT ((wayN l k).data.take a)) (dataT ((wayN l k).data.drop (a + bs.length)) ++ [T.int .i64 (wayN l k).age]) (dataT (((wayN l k).data.drop a).take bs.length)) ?_ ?_ ?_ ?_
  · rw [List.length_cons, List.length_cons, data_len, List.length_take]; omega
  · rw [data_len, data_len, List.length_take, List.length_drop]; omega
  · rw [enc_data]
    have e : (wayN l k).data = (wayN l k).data.take a ++ (((wayN l k).data.drop a).take bs.length ++ (wayN l k).data.drop (a + bs.length)) := by
      rw [← List.drop_drop, List.take_append_drop, List.take_append_drop]
    conv => lhs; rw [e, dataT_append, dataT_append]
    simp only [List.cons_append, List.append_assoc]
  · rw [enc_data]
    show T.int .i64 (wayN l k).state :: T.int .u32 (wayN l k).tag :: (dataT (updD (wayN l k).data a bs) ++ [T.int .i64 (wayN l k).age]) = _
    unfold updD
    rw [dataT_append, dataT_append]
    simp only [List.cons_append, List.append_assoc]
theorem dataT_set (l : List Int) (i : Nat) (b : Int) : dataT (l.set i b) = (dataT l).set i (.int .u8 b) := by rw [dataT_map, dataT_map, List.map_set]
theorem set_byte (l : List Way) (hw : ∀ w ∈ l, w.wf) (k : Nat) (h : k < l.length) (a : Nat) (bs : List Int) (hb : ∀ b ∈ bs, Byte b) (hab : a + bs.length ≤ 16) (j : Nat) (hj : j < bs.length) : (l.set k (updW (wayN l k) a (bs.take (j + 1)))).flatMap Way.enc = ((l.set k (updW (wayN l k) a (bs.take j))).flatMap Way.enc).set (k * 19 + 2 + (a + j) * 1) (.int .u8 bs[j]) := by
  have hwk := wayN_wf hw h
  have hd := hwk.2.2.1.1
  have hu1 := updW_wf hwk a (bs.take j) (fun b h => hb b (List.mem_of_mem_take h)) (by rw [List.length_take]; omega)
  have e := set_enc (l.set k (updW (wayN l k) a (bs.take j))) (mem_setw hw k hu1) k (by rw [List.length_set]; exact h) (updW (wayN l k) a (bs.take (j + 1))) (2 + (a + j)) (.int .u8 bs[j]) (by omega) ?_
  · rw [List.set_set] at e
    rw [e, Nat.mul_one, Nat.add_assoc]
  · rw [wayN_set l k h, enc_data, enc_data]
    show T.int .i64 (wayN l k).state :: T.int .u32 (wayN l k).tag :: (dataT (updD (wayN l k).data a (bs.take (j + 1))) ++ [T.int .i64 (wayN l k).age]) = (T.int .i64 (wayN l k).state :: T.int .u32 (wayN l k).tag :: (dataT (updD (wayN l k).data a (bs.take j)) ++ [T.int .i64 (wayN l k).age])).set (2 + (a + j)) (.int .u8 bs[j])
    rw [updD_succ _ _ _ (by omega) j hj, dataT_set, show 2 + (a + j) = a + j + 1 + 1 by omega, List.set_cons_succ, List.set_cons_succ, List.set_append_left _ _ (by rw [data_len, updD_len _ _ _ (by rw [List.length_take]; omega), hd]; omega)]

theorem clamp4 (n : Nat) (h : n ≤ 4) : E ap 48 [.int .i64 (n : Int), .int .i64 0, .int .i64 4] (.int .i64 (n : Int)) := by
  refine E_body (F := f48) rfl rfl rfl ?_
  generalize hs0 : (_ : List T) ++ List.replicate _ T.undef = s0
  have e0 : s0.length = 12 ∧ rho s0 (.tmp 0) = .int .i64 (n : Int) ∧ rho s0 (.tmp 1) = .int .i64 0 ∧ rho s0 (.tmp 2) = .int .i64 4 := by subst hs0; exact ⟨rfl, rfl, rfl, rfl⟩
  clear hs0
  obtain ⟨hl, h0, h1, h2⟩ := e0
  have hmx : (if (0 : Int) > (n : Int) then (0 : Int) else (n : Int)) = (n : Int) := if_neg (by omega)
  have hmn : (if (4 : Int) < (n : Int) then (4 : Int) else (n : Int)) = (n : Int) := if_neg (by omega)
  refine W_seqn (W_region (fun k => by simp (decide := true) (disch := first | omega | (simp (decide := true) only [List.length_set, hl]; done) | fail) only [sims, evRegion, evOps, evOp, evG, evR, guardT, callee, opRes, pureR, binT, unT, T.cells, T.leaf, fillT, splice, Nat.reduceLT, Nat.reduceAdd, Nat.reduceMul, Nat.reduceLeDiff, Nat.reduceEqDiff, reduceIte, Int.reduceBEq, Int.reduceBNe, Int.reduceLT, Int.reduceLE, Int.reduceGT, Int.reduceGE, Int.reduceNeg, reduceCtorEq]; rfl) ⟨rfl, ?_⟩)
  refine W_seqn (W_region (fun k => by simp (decide := true) (disch := first | omega | (simp (decide := true) only [List.length_set, hl]; done) | fail) only [sims, evRegion, evOps, evOp, evG, evR, guardT, callee, opRes, pureR, binT, unT, T.cells, T.leaf, fillT, splice, Nat.reduceLT, Nat.reduceAdd, Nat.reduceMul, Nat.reduceLeDiff, Nat.reduceEqDiff, reduceIte, Int.reduceBEq, Int.reduceBNe, Int.reduceLT, Int.reduceLE, Int.reduceGT, Int.reduceGE, Int.reduceNeg, reduceCtorEq, h0, h1, h2, minL, maxL, List.foldlM_cons, List.foldlM_nil, hmx, hmn, bind, Option.bind_some, pure]; rfl) ⟨rfl, W_ret ?_⟩)
  refine fin_of (F := f48) rfl (fun _ => rfl) ?_
  simp (decide := true) (disch := first | omega | (simp (decide := true) only [List.length_set, hl]; done) | fail) only [sims, evRegion, evOps, evOp, evG, evR, guardT, callee, opRes, pureR, binT, unT, T.cells, T.leaf, fillT, splice, Nat.reduceLT, Nat.reduceAdd, Nat.reduceMul, Nat.reduceLeDiff, Nat.reduceEqDiff, reduceIte, Int.reduceBEq, Int.reduceBNe, Int.reduceLT, Int.reduceLE, Int.reduceGT, Int.reduceGE, Int.reduceNeg, reduceCtorEq]
def byLoop : ACode := match f46.body with | .seq _ (.seq _ (.seq (.seq _ (.block _ (.loop c))) _)) => c | _ => .skip
def byK (v : Int) (n i : Nat) : List Int := (bytesOf v n).take i ++ List.replicate (n - i) 0
theorem byK_len (v : Int) (n i : Nat) (h : i ≤ n) : (byK v n i).length = n := by
  unfold byK; rw [List.length_append, List.length_take, bytesOf_len, List.length_replicate]; omega
theorem byK_succ (v : Int) (n i : Nat) (h : i < n) : byK v n (i + 1) = (byK v n i).set i (v / 256 ^ i % 256) := by
  have hb := bytesOf_get n v i h
  have hl := bytesOf_len n v
  unfold byK
  rw [List.set_append_right _ _ (by rw [List.length_take, hl]; omega), List.length_take, hl, Nat.min_eq_left (by omega), Nat.sub_self, List.take_add_one, hb, show n - i = (n - (i + 1)) + 1 by omega, List.replicate_succ, List.set_cons_zero]
  simp
theorem by_loop (v : Int) (hv : 0 ≤ v ∧ v ≤ 4294967295) (n : Nat) (hn4 : n ≤ 4) (B : Nat) (Q : AExit → St → Prop)
    (hQe : ∀ st : St, st.s.length = 25 → rho st.s (.tmp 5) = .own B 0 n 1 → st.g B = some (dataT (bytesOf v n)) → Q (.exit 0) st) :
    ∀ (m : Nat) (st : St), (∃ i : Nat, st.s.length = 25 ∧ rho st.s (.tmp 0) = .int .u32 v ∧ rho st.s (.tmp 5) = .own B 0 n 1 ∧ st.g B = some (dataT (byK v n i)) ∧ rho st.s (.tmp 11) = .int .i64 (n : Int) ∧ rho st.s (.tmp 12) = .int .i64 (i : Int) ∧ i ≤ n ∧ m = n - i) → W ap (.loop byLoop) st Q := by
  refine W_loop _ ?_
  rintro m st ⟨i, hl, h0, h5, gB, h11, h12, hi, hm⟩
  by_cases hend : i = n
  · have hlt : decide ((i : Int) < (n : Int)) = false := decide_eq_false (by omega)
    refine W_seqn (W_region (fun k => by simp (decide := true) (disch := first | omega | (simp (decide := true) only [List.length_set, hl]; done) | fail) only [sims, evRegion, evOps, evOp, evG, evR, guardT, callee, opRes, pureR, binT, unT, T.cells, T.leaf, fillT, splice, Nat.reduceLT, Nat.reduceAdd, Nat.reduceMul, Nat.reduceLeDiff, Nat.reduceEqDiff, reduceIte, Int.reduceBEq, Int.reduceBNe, Int.reduceLT, Int.reduceLE, Int.reduceGT, Int.reduceGE, Int.reduceNeg, reduceCtorEq, h11, h12, hlt]; rfl) ⟨rfl, ?_⟩)
    refine W_seq (W_false (by simp (decide := true) (disch := first | omega | (simp (decide := true) only [List.length_set, hl]; done) | fail) only [sims, evRegion, evOps, evOp, evG, evR, guardT, callee, opRes, pureR, binT, unT, T.cells, T.leaf, fillT, splice, Nat.reduceLT, Nat.reduceAdd, Nat.reduceMul, Nat.reduceLeDiff, Nat.reduceEqDiff, reduceIte, Int.reduceBEq, Int.reduceBNe, Int.reduceLT, Int.reduceLE, Int.reduceGT, Int.reduceGE, Int.reduceNeg, reduceCtorEq] <;> rfl) (W_exit ?_))
    refine (.inr ⟨by simp, .inr ⟨by simp, hQe _ ?_ ?_ ?_⟩⟩)
    · simp (decide := true) (disch := first | omega | (simp (decide := true) only [List.length_set, hl]; done) | fail) only [sims, evRegion, evOps, evOp, evG, evR, guardT, callee, opRes, pureR, binT, unT, T.cells, T.leaf, fillT, splice, Nat.reduceLT, Nat.reduceAdd, Nat.reduceMul, Nat.reduceLeDiff, Nat.reduceEqDiff, reduceIte, Int.reduceBEq, Int.reduceBNe, Int.reduceLT, Int.reduceLE, Int.reduceGT, Int.reduceGE, Int.reduceNeg, reduceCtorEq, hl]
    · simp (decide := true) (disch := first | omega | (simp (decide := true) only [List.length_set, hl]; done) | fail) only [sims, evRegion, evOps, evOp, evG, evR, guardT, callee, opRes, pureR, binT, unT, T.cells, T.leaf, fillT, splice, Nat.reduceLT, Nat.reduceAdd, Nat.reduceMul, Nat.reduceLeDiff, Nat.reduceEqDiff, reduceIte, Int.reduceBEq, Int.reduceBNe, Int.reduceLT, Int.reduceLE, Int.reduceGT, Int.reduceGE, Int.reduceNeg, reduceCtorEq, h5]
    · show st.g B = _
      rw [gB, hend]
      have : byK v n n = bytesOf v n := by unfold byK; rw [Nat.sub_self, List.replicate_zero, List.append_nil, List.take_of_length_le (by rw [bytesOf_len]; exact Nat.le_refl _)]
      rw [this]
  · have hlt : decide ((i : Int) < (n : Int)) = true := decide_eq_true (by omega)
    have hin : i < n := by omega
    have hw2 : IntKind.i64.wrap ((i : Int) + 1) = ((i + 1 : Nat) : Int) := by rw [wrap_id (by omega)]; omega
    have hw3 : IntKind.i64.wrap (8 * (i : Int)) = 8 * (i : Int) := wrap_id (by omega)
    have hneg : ((8 * (i : Int)) < 0) = False := by simp; omega
    have htn : min (8 * (i : Int)).toNat IntKind.u32.bits = 8 * i := by
      show min (8 * (i : Int)).toNat 32 = 8 * i
      omega
    have hcb : IntKind.u8.wrap (v.fdiv (2 ^ (8 * i))) = v / 256 ^ i % 256 := by
      rw [wrap_u8, Int.pow_mul, Int.fdiv_eq_ediv_of_nonneg _ (Int.le_of_lt (Int.pow_pos (by decide)))]; rfl
    have hdl := data_len (byK v n i)
    rw [byK_len v n i hi] at hdl
    have hset : (dataT (byK v n i)).set (i * 1) (.int .u8 (v / 256 ^ i % 256)) = dataT (byK v n (i + 1)) := by rw [byK_succ v n i hin, dataT_set, Nat.mul_one]
    have hb : i * 1 + 1 ≤ n := by omega
    have hb0 : 0 + i * 1 + 1 ≤ n := by omega
    generalize hd' : dataT (byK v n (i + 1)) = d' at *
    generalize dataT (byK v n i) = d at *
    generalize v / 256 ^ i % 256 = x at *
    refine W_seqn (W_region (fun k => by simp (decide := true) (disch := first | omega | (simp (decide := true) only [List.length_set, hl]; done) | fail) only [sims, evRegion, evOps, evOp, evG, evR, guardT, callee, opRes, pureR, binT, unT, T.cells, T.leaf, fillT, splice, Nat.reduceLT, Nat.reduceAdd, Nat.reduceMul, Nat.reduceLeDiff, Nat.reduceEqDiff, reduceIte, Int.reduceBEq, Int.reduceBNe, Int.reduceLT, Int.reduceLE, Int.reduceGT, Int.reduceGE, Int.reduceNeg, reduceCtorEq, h11, h12, hlt]; rfl) ⟨rfl, ?_⟩)
    refine W_seqn (W_true (by simp (decide := true) (disch := first | omega | (simp (decide := true) only [List.length_set, hl]; done) | fail) only [sims, evRegion, evOps, evOp, evG, evR, guardT, callee, opRes, pureR, binT, unT, T.cells, T.leaf, fillT, splice, Nat.reduceLT, Nat.reduceAdd, Nat.reduceMul, Nat.reduceLeDiff, Nat.reduceEqDiff, reduceIte, Int.reduceBEq, Int.reduceBNe, Int.reduceLT, Int.reduceLE, Int.reduceGT, Int.reduceGE, Int.reduceNeg, reduceCtorEq] <;> rfl) (W_skip ⟨rfl, ?_⟩))
    refine W_seqn (W_block (W_seqn (W_region (fun k => by simp (decide := true) (disch := first | omega | (simp (decide := true) only [List.length_set, hl]; done) | fail) only [sims, evRegion, evOps, evOp, evG, evR, guardT, callee, opRes, pureR, binT, unT, T.cells, T.leaf, fillT, splice, Nat.reduceLT, Nat.reduceAdd, Nat.reduceMul, Nat.reduceLeDiff, Nat.reduceEqDiff, reduceIte, Int.reduceBEq, Int.reduceBNe, Int.reduceLT, Int.reduceLE, Int.reduceGT, Int.reduceGE, Int.reduceNeg, reduceCtorEq, h12]; rfl) ⟨rfl, ?_⟩)))
    refine W_region (fun k => by simp (decide := true) (disch := first | omega | (simp (decide := true) only [List.length_set, hl]; done) | fail) only [sims, evRegion, evOps, evOp, evG, evR, guardT, callee, opRes, pureR, binT, unT, T.cells, T.leaf, fillT, splice, Nat.reduceLT, Nat.reduceAdd, Nat.reduceMul, Nat.reduceLeDiff, Nat.reduceEqDiff, reduceIte, Int.reduceBEq, Int.reduceBNe, Int.reduceLT, Int.reduceLE, Int.reduceGT, Int.reduceGE, Int.reduceNeg, reduceCtorEq, hps, h0, h5, gB, hdl, hw3, hneg, htn, hcb, hin, hb, hb0, hset]; rfl) (.inr (.inl ⟨by simp, rfl, ?_⟩))
    refine W_region (fun k => by simp (decide := true) (disch := first | omega | (simp (decide := true) only [List.length_set, hl]; done) | fail) only [sims, evRegion, evOps, evOp, evG, evR, guardT, callee, opRes, pureR, binT, unT, T.cells, T.leaf, fillT, splice, Nat.reduceLT, Nat.reduceAdd, Nat.reduceMul, Nat.reduceLeDiff, Nat.reduceEqDiff, reduceIte, Int.reduceBEq, Int.reduceBNe, Int.reduceLT, Int.reduceLE, Int.reduceGT, Int.reduceGE, Int.reduceNeg, reduceCtorEq, h12, hw2]; rfl) ?_
    refine (.inl ⟨rfl, n - (i + 1), by omega, i + 1, ?_, ?_, ?_, ?_, ?_, ?_, by omega, rfl⟩)
    all_goals simp (decide := true) (disch := first | omega | (simp (decide := true) only [List.length_set, hl]; done) | fail) only [sims, evRegion, evOps, evOp, evG, evR, guardT, callee, opRes, pureR, binT, unT, T.cells, T.leaf, fillT, splice, Nat.reduceLT, Nat.reduceAdd, Nat.reduceMul, Nat.reduceLeDiff, Nat.reduceEqDiff, reduceIte, Int.reduceBEq, Int.reduceBNe, Int.reduceLT, Int.reduceLE, Int.reduceGT, Int.reduceGE, Int.reduceNeg, reduceCtorEq, hps, hl, h0, h5, h11, hd']
theorem bits_bytes (v : Int) (hv : 0 ≤ v ∧ v ≤ 4294967295) (n : Nat) (hn4 : n ≤ 4) : E ap 46 [.int .u32 v, .int .i64 (n : Int)] (.imm false n (dataT (bytesOf v n))) := by
  refine E_body (F := f46) rfl rfl rfl ?_
  generalize hs0 : (_ : List T) ++ List.replicate _ T.undef = s0
  have e0 : s0.length = 25 ∧ rho s0 (.tmp 0) = .int .u32 v ∧ rho s0 (.tmp 1) = .int .i64 (n : Int) := by subst hs0; exact ⟨rfl, rfl, rfl⟩
  clear hs0
  obtain ⟨hl, h0, h1⟩ := e0
  obtain ⟨N1, c48⟩ := (clamp4 n hn4).call ap48 (fun g => rfl)
  have q48 := c48 N1 (Nat.le_refl _)
  have hfl : (List.replicate n [T.int .u8 0]).flatten = dataT (byK v n 0) := by
    have : byK v n 0 = List.replicate n 0 := by unfold byK; simp
    rw [this, dataT_map, List.map_replicate]
    clear this hl h0 h1 q48 c48 hn4
    induction n with
    | zero => rfl
    | succ m ih => rw [List.replicate_succ, List.flatten_cons, ih, List.replicate_succ]; rfl
  have hr1 : n * 1 ≤ 549755813888 := by omega
  have hr2 : n ≤ 549755813888 := by omega
  have hnn : n ≤ n := Nat.le_refl _
  refine W_seqn (W_region (fun k => by simp (decide := true) (disch := first | omega | (simp (decide := true) only [List.length_set, hl]; done) | fail) only [sims, evRegion, evOps, evOp, evG, evR, guardT, callee, opRes, pureR, binT, unT, T.cells, T.leaf, fillT, splice, Nat.reduceLT, Nat.reduceAdd, Nat.reduceMul, Nat.reduceLeDiff, Nat.reduceEqDiff, reduceIte, Int.reduceBEq, Int.reduceBNe, Int.reduceLT, Int.reduceLE, Int.reduceGT, Int.reduceGE, Int.reduceNeg, reduceCtorEq]; rfl) ⟨rfl, ?_⟩)
  refine W_seqn (W_regionN ⟨N1, by simp (decide := true) (disch := first | omega | (simp (decide := true) only [List.length_set, hl]; done) | fail) only [sims, evRegion, evOps, evOp, evG, evR, guardT, callee, opRes, pureR, binT, unT, T.cells, T.leaf, fillT, splice, Nat.reduceLT, Nat.reduceAdd, Nat.reduceMul, Nat.reduceLeDiff, Nat.reduceEqDiff, reduceIte, Int.reduceBEq, Int.reduceBNe, Int.reduceLT, Int.reduceLE, Int.reduceGT, Int.reduceGE, Int.reduceNeg, reduceCtorEq, hps, h1, ap48, p48, n48, q48, hr1, hr2, hnn, hfl]; rfl⟩ ⟨rfl, ?_⟩)
  refine W_seq (W_seqn (W_region (fun k => by simp (decide := true) (disch := first | omega | (simp (decide := true) only [List.length_set, hl]; done) | fail) only [sims, evRegion, evOps, evOp, evG, evR, guardT, callee, opRes, pureR, binT, unT, T.cells, T.leaf, fillT, splice, Nat.reduceLT, Nat.reduceAdd, Nat.reduceMul, Nat.reduceLeDiff, Nat.reduceEqDiff, reduceIte, Int.reduceBEq, Int.reduceBNe, Int.reduceLT, Int.reduceLE, Int.reduceGT, Int.reduceGE, Int.reduceNeg, reduceCtorEq]; rfl) ⟨rfl, W_block ?_⟩))
  refine by_loop v hv n hn4 3 _ (fun st hst h5 gB => ?_) (n - 0) _ ⟨0, ?_, ?_, ?_, ?_, ?_, ?_, by omega, rfl⟩
  · have hl := hst
    refine .inl ⟨rfl, .inl ⟨rfl, W_seqn (W_region (fun k => by simp (decide := true) (disch := first | omega | (simp (decide := true) only [List.length_set, hl]; done) | fail) only [sims, evRegion, evOps, evOp, evG, evR, guardT, callee, opRes, pureR, binT, unT, T.cells, T.leaf, fillT, splice, Nat.reduceLT, Nat.reduceAdd, Nat.reduceMul, Nat.reduceLeDiff, Nat.reduceEqDiff, reduceIte, Int.reduceBEq, Int.reduceBNe, Int.reduceLT, Int.reduceLE, Int.reduceGT, Int.reduceGE, Int.reduceNeg, reduceCtorEq, h5]; rfl) ⟨rfl, W_ret ?_⟩)⟩⟩
    obtain ⟨ids, h⟩ := frz_own (h := ⟨st.g, st.nx + 2⟩) (d := 11) (t := 3) (n := n) (es := 1) gB (by rw [data_len, bytesOf_len]; omega) ⟨[], frzAll_int _ (data_ints _)⟩
    refine ⟨rfl, .own 3 0 n 1, ids, res_one (F := f46) rfl ?_, h⟩
    simp (decide := true) (disch := first | omega | (simp (decide := true) only [List.length_set, hl]; done) | fail) only [sims, evRegion, evOps, evOp, evG, evR, guardT, callee, opRes, pureR, binT, unT, T.cells, T.leaf, fillT, splice, Nat.reduceLT, Nat.reduceAdd, Nat.reduceMul, Nat.reduceLeDiff, Nat.reduceEqDiff, reduceIte, Int.reduceBEq, Int.reduceBNe, Int.reduceLT, Int.reduceLE, Int.reduceGT, Int.reduceGE, Int.reduceNeg, reduceCtorEq]
  all_goals first | (simp (decide := true) (disch := first | omega | (simp (decide := true) only [List.length_set, hl]; done) | fail) only [sims, evRegion, evOps, evOp, evG, evR, guardT, callee, opRes, pureR, binT, unT, T.cells, T.leaf, fillT, splice, Nat.reduceLT, Nat.reduceAdd, Nat.reduceMul, Nat.reduceLeDiff, Nat.reduceEqDiff, reduceIte, Int.reduceBEq, Int.reduceBNe, Int.reduceLT, Int.reduceLE, Int.reduceGT, Int.reduceGE, Int.reduceNeg, reduceCtorEq, hps, hl, h0]; done) | (simp (decide := true) (disch := first | omega | (simp (decide := true) only [List.length_set, hl]; done) | fail) only [sims, evRegion, evOps, evOp, evG, evR, guardT, callee, opRes, pureR, binT, unT, T.cells, T.leaf, fillT, splice, Nat.reduceLT, Nat.reduceAdd, Nat.reduceMul, Nat.reduceLeDiff, Nat.reduceEqDiff, reduceIte, Int.reduceBEq, Int.reduceBNe, Int.reduceLT, Int.reduceLE, Int.reduceGT, Int.reduceGE, Int.reduceNeg, reduceCtorEq, hps, hl, h0]; rfl)
end Go.Proofs.Ythanlobfjpjegaa.Abs
