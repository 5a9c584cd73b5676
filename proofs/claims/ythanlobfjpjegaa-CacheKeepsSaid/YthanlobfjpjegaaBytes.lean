/- Numbers and their bytes: the program's bits.Of and bits.Bytes; where a number stands. -/
import Derived.Test.YthanlobfjpjegaaSet
namespace Go.Proofs.Ythanlobfjpjegaa.Abs
open Go Go.RowKit Fn
set_option linter.unusedVariables false
set_option linter.unusedSimpArgs false
set_option linter.unnecessarySimpa false
set_option maxRecDepth 100000

theorem ap44 : ap 44 = some f44 := rfl
theorem p44 : f44.pure = true := rfl
theorem n44 : f44.nat = none := rfl
theorem ap46 : ap 46 = some f46 := rfl
theorem p46 : f46.pure = true := rfl
theorem n46 : f46.nat = none := rfl
theorem ap48 : ap 48 = some f48 := rfl
theorem p48 : f48.pure = true := rfl
theorem n48 : f48.nat = none := rfl
theorem ap51 : ap 51 = some f51 := rfl
theorem p51 : f51.pure = true := rfl
theorem n51 : f51.nat = none := rfl
/-- The number of some bytes, the lowest first. -/
def val : List Int → Int
  | [] => 0
  | b :: r => b + 256 * val r
def Byte (b : Int) : Prop := 0 ≤ b ∧ b ≤ 255
theorem val_range : ∀ l : List Int, (∀ b ∈ l, Byte b) → 0 ≤ val l ∧ val l < 256 ^ l.length
  | [], _ => ⟨Int.le_refl 0, by simp [val]⟩
  | b :: r, h => by
    obtain ⟨h1, h2⟩ := h b (List.mem_cons_self ..)
    obtain ⟨i1, i2⟩ := val_range r (fun x hx => h x (List.mem_cons_of_mem _ hx))
    rw [val, List.length_cons, Int.pow_succ]
    exact ⟨by omega, by omega⟩
theorem val_snoc : ∀ (l : List Int) (b : Int), val (l ++ [b]) = val l + 256 ^ l.length * b
  | [], b => by simp [val]
  | a :: l, b => by
    rw [List.cons_append, val, val, val_snoc l b, List.length_cons, Int.pow_succ, Int.mul_add, Int.add_assoc]
    congr 2
    rw [← Int.mul_assoc, Int.mul_comm 256]
theorem or_add (n : Nat) (a b : Int) (ha : 0 ≤ a ∧ a < 2 ^ n) (hb : 0 ≤ b ∧ 2 ^ n * b < 4294967296) (hn : (2 : Int) ^ n ≤ 4294967296) : ((BitVec.ofInt 32 a ||| BitVec.ofInt 32 (2 ^ n * b)).toNat : Int) = a + 2 ^ n * b := by
  obtain ⟨x, rfl⟩ : ∃ x : Nat, a = x := ⟨a.toNat, by omega⟩
  obtain ⟨y, rfl⟩ : ∃ y : Nat, b = y := ⟨b.toNat, by omega⟩
  have e2 : ((2 : Int) ^ n * (y : Int)) = ((2 ^ n * y : Nat) : Int) := by simp
  rw [e2] at hb ⊢
  have hx : x < 2 ^ n := by
    have : ((x : Nat) : Int) < ((2 ^ n : Nat) : Int) := by simpa using ha.2
    omega
  have h2 : (2 : Nat) ^ n ≤ 4294967296 := by
    have : ((2 ^ n : Nat) : Int) ≤ 4294967296 := by simpa using hn
    omega
  rw [BitVec.ofInt_natCast, BitVec.ofInt_natCast, BitVec.toNat_or, BitVec.toNat_ofNat, BitVec.toNat_ofNat, Nat.mod_eq_of_lt (show x < 2 ^ 32 by omega), Nat.mod_eq_of_lt (show 2 ^ n * y < 2 ^ 32 by omega), Nat.or_comm, ← Nat.two_pow_add_eq_or_of_lt hx]
  omega
def ofLoop : ACode := match f44.body with | .seq _ (.seq _ (.seq (.seq _ (.block _ (.loop c))) _)) => c | _ => .skip
theorem byteT_get (l : List Int) (i : Nat) (h : i < l.length) : (dataT l)[i * 1]? = some (.int .u8 l[i]) := by
  have := flat_get (f := fun n => [T.int .u8 n]) (k := 1) (fun _ => rfl) l i h 0 (by omega)
  rw [Nat.add_zero] at this
  unfold dataT
  rw [this]; rfl
theorem of_loop (f : Bool) (l : List Int) (hl4 : l.length ≤ 4) (hb : ∀ b ∈ l, Byte b) (Q : AExit → St → Prop)
    (hQe : ∀ st : St, st.s.length = 26 → rho st.s (.tmp 3) = .int .u32 (val l) → Q (.exit 0) st) :
    ∀ (m : Nat) (st : St), (∃ i : Nat, st.s.length = 26 ∧ rho st.s (.tmp 3) = .int .u32 (val (l.take i)) ∧ rho st.s (.tmp 10) = .imm f l.length (dataT l) ∧ rho st.s (.tmp 11) = .int .i64 (l.length : Int) ∧ rho st.s (.tmp 12) = .int .i64 (i : Int) ∧ i ≤ l.length ∧ m = l.length - i) → W ap (.loop ofLoop) st Q := by
  refine W_loop _ ?_
  rintro m st ⟨i, hl, h3, h10, h11, h12, hi, hm⟩
  by_cases hend : i = l.length
  · have hlt : decide ((i : Int) < (l.length : Int)) = false := decide_eq_false (by omega)
    refine W_seqn (W_region (fun k => by simp (decide := true) (disch := first | omega | (simp (decide := true) only [List.length_set, hl]; done) | fail) only [sims, evRegion, evOps, evOp, evG, evR, guardT, callee, opRes, pureR, binT, unT, T.cells, T.leaf, fillT, splice, Nat.reduceLT, Nat.reduceAdd, Nat.reduceMul, Nat.reduceLeDiff, Nat.reduceEqDiff, reduceIte, Int.reduceBEq, Int.reduceBNe, Int.reduceLT, Int.reduceLE, Int.reduceGT, Int.reduceGE, Int.reduceNeg, reduceCtorEq, h11, h12, hlt]; rfl) ⟨rfl, ?_⟩)
    refine W_seq (W_false (by simp (decide := true) (disch := first | omega | (simp (decide := true) only [List.length_set, hl]; done) | fail) only [sims, evRegion, evOps, evOp, evG, evR, guardT, callee, opRes, pureR, binT, unT, T.cells, T.leaf, fillT, splice, Nat.reduceLT, Nat.reduceAdd, Nat.reduceMul, Nat.reduceLeDiff, Nat.reduceEqDiff, reduceIte, Int.reduceBEq, Int.reduceBNe, Int.reduceLT, Int.reduceLE, Int.reduceGT, Int.reduceGE, Int.reduceNeg, reduceCtorEq] <;> rfl) (W_exit ?_))
    refine (.inr ⟨by simp, .inr ⟨by simp, hQe _ ?_ ?_⟩⟩)
    · simp (decide := true) (disch := first | omega | (simp (decide := true) only [List.length_set, hl]; done) | fail) only [sims, evRegion, evOps, evOp, evG, evR, guardT, callee, opRes, pureR, binT, unT, T.cells, T.leaf, fillT, splice, Nat.reduceLT, Nat.reduceAdd, Nat.reduceMul, Nat.reduceLeDiff, Nat.reduceEqDiff, reduceIte, Int.reduceBEq, Int.reduceBNe, Int.reduceLT, Int.reduceLE, Int.reduceGT, Int.reduceGE, Int.reduceNeg, reduceCtorEq, hl]
    · simp (decide := true) (disch := first | omega | (simp (decide := true) only [List.length_set, hl]; done) | fail) only [sims, evRegion, evOps, evOp, evG, evR, guardT, callee, opRes, pureR, binT, unT, T.cells, T.leaf, fillT, splice, Nat.reduceLT, Nat.reduceAdd, Nat.reduceMul, Nat.reduceLeDiff, Nat.reduceEqDiff, reduceIte, Int.reduceBEq, Int.reduceBNe, Int.reduceLT, Int.reduceLE, Int.reduceGT, Int.reduceGE, Int.reduceNeg, reduceCtorEq, h3]
      rw [hend, List.take_length]
  · have hlt : decide ((i : Int) < (l.length : Int)) = true := decide_eq_true (by omega)
    have hil : i < l.length := by omega
    have hget := byteT_get l i hil
    have hdl := data_len l
    have hbi := hb _ (List.getElem_mem hil)
    have hw2 : IntKind.i64.wrap ((i : Int) + 1) = ((i + 1 : Nat) : Int) := by rw [wrap_id (by omega)]; omega
    have hb2 : i * 1 + 1 ≤ (dataT l).length := by omega
    have hw3 : IntKind.i64.wrap (8 * (i : Int)) = 8 * (i : Int) := wrap_id (by omega)
    have hneg : ((8 * (i : Int)) < 0) = False := by simp; omega
    have hcv : IntKind.u32.wrap l[i] = l[i] := by rw [wrap_u32]; have := hbi.1; have := hbi.2; omega
    have htn : min (8 * (i : Int)).toNat IntKind.u32.bits = 8 * i := by
      show min (8 * (i : Int)).toNat 32 = 8 * i
      omega
    have hvr := val_range (l.take i) (fun b h => hb b (List.mem_of_mem_take h))
    have htl : (l.take i).length = i := by rw [List.length_take]; omega
    rw [htl] at hvr
    have hp : (256 : Int) ^ i = 2 ^ (8 * i) := by rw [Int.pow_mul]; rfl
    have hi4 : i = 0 ∨ i = 1 ∨ i = 2 ∨ i = 3 := by omega
    have hsh : IntKind.u32.wrap (l[i] * 2 ^ (8 * i)) = 2 ^ (8 * i) * l[i] := by
      rw [wrap_u32, Int.mul_comm]
      have h1 := hbi.1
      have h2 := hbi.2
      rcases hi4 with h | h | h | h <;> (subst h; simp only [Nat.mul_zero, Int.pow_zero, Nat.mul_one, Nat.reduceMul, Int.reducePow] at *; omega)
    have hor : IntKind.u32.wrap (((BitVec.ofInt IntKind.u32.bits (val (l.take i)) ||| BitVec.ofInt IntKind.u32.bits (2 ^ (8 * i) * l[i])).toNat : Nat) : Int) = val (l.take (i + 1)) := by
      have h1 := hbi.1
      have h2 := hbi.2
      have e := or_add (8 * i) (val (l.take i)) l[i] (by rw [← hp]; exact hvr) ⟨h1, by
        rcases hi4 with h | h | h | h <;> (subst h; simp only [Nat.mul_zero, Int.pow_zero, Nat.mul_one, Nat.reduceMul, Int.reducePow] at *; omega)⟩ (by
        rcases hi4 with h | h | h | h <;> (subst h; simp only [Nat.mul_zero, Int.pow_zero, Nat.mul_one, Nat.reduceMul, Int.reducePow] at *; omega))
      show IntKind.u32.wrap (((BitVec.ofInt 32 (val (l.take i)) ||| BitVec.ofInt 32 (2 ^ (8 * i) * l[i])).toNat : Nat) : Int) = _
      rw [e, List.take_add_one, List.getElem?_eq_getElem hil]
      show _ = val (l.take i ++ [l[i]])
      rw [val_snoc, htl, hp, wrap_u32]
      obtain ⟨v1, v2⟩ := hvr
      rw [hp] at v2
      generalize val (l.take i) = v at *
      rcases hi4 with h | h | h | h <;> (subst h; simp only [Nat.mul_zero, Int.pow_zero, Nat.mul_one, Nat.reduceMul, Int.reducePow] at *; omega)
    generalize hx : l[i] = x at *
    refine W_seqn (W_region (fun k => by simp (decide := true) (disch := first | omega | (simp (decide := true) only [List.length_set, hl]; done) | fail) only [sims, evRegion, evOps, evOp, evG, evR, guardT, callee, opRes, pureR, binT, unT, T.cells, T.leaf, fillT, splice, Nat.reduceLT, Nat.reduceAdd, Nat.reduceMul, Nat.reduceLeDiff, Nat.reduceEqDiff, reduceIte, Int.reduceBEq, Int.reduceBNe, Int.reduceLT, Int.reduceLE, Int.reduceGT, Int.reduceGE, Int.reduceNeg, reduceCtorEq, h11, h12, hlt]; rfl) ⟨rfl, ?_⟩)
    refine W_seqn (W_true (by simp (decide := true) (disch := first | omega | (simp (decide := true) only [List.length_set, hl]; done) | fail) only [sims, evRegion, evOps, evOp, evG, evR, guardT, callee, opRes, pureR, binT, unT, T.cells, T.leaf, fillT, splice, Nat.reduceLT, Nat.reduceAdd, Nat.reduceMul, Nat.reduceLeDiff, Nat.reduceEqDiff, reduceIte, Int.reduceBEq, Int.reduceBNe, Int.reduceLT, Int.reduceLE, Int.reduceGT, Int.reduceGE, Int.reduceNeg, reduceCtorEq] <;> rfl) (W_skip ⟨rfl, ?_⟩))
    refine W_seqn (W_block (W_seqn (W_region (fun k => by simp (decide := true) (disch := first | omega | (simp (decide := true) only [List.length_set, hl]; done) | fail) only [sims, evRegion, evOps, evOp, evG, evR, guardT, callee, opRes, pureR, binT, unT, T.cells, T.leaf, fillT, splice, Nat.reduceLT, Nat.reduceAdd, Nat.reduceMul, Nat.reduceLeDiff, Nat.reduceEqDiff, reduceIte, Int.reduceBEq, Int.reduceBNe, Int.reduceLT, Int.reduceLE, Int.reduceGT, Int.reduceGE, Int.reduceNeg, reduceCtorEq, h10, h12, hil, hb2, hget]; rfl) ⟨rfl, ?_⟩)))
    refine W_region (fun k => by simp (decide := true) (disch := first | omega | (simp (decide := true) only [List.length_set, hl]; done) | fail) only [sims, evRegion, evOps, evOp, evG, evR, guardT, callee, opRes, pureR, binT, unT, T.cells, T.leaf, fillT, splice, Nat.reduceLT, Nat.reduceAdd, Nat.reduceMul, Nat.reduceLeDiff, Nat.reduceEqDiff, reduceIte, Int.reduceBEq, Int.reduceBNe, Int.reduceLT, Int.reduceLE, Int.reduceGT, Int.reduceGE, Int.reduceNeg, reduceCtorEq, h3, hcv, hw3, hneg, htn, hsh, hor]; rfl) (.inr (.inl ⟨by simp, rfl, ?_⟩))
    refine W_region (fun k => by simp (decide := true) (disch := first | omega | (simp (decide := true) only [List.length_set, hl]; done) | fail) only [sims, evRegion, evOps, evOp, evG, evR, guardT, callee, opRes, pureR, binT, unT, T.cells, T.leaf, fillT, splice, Nat.reduceLT, Nat.reduceAdd, Nat.reduceMul, Nat.reduceLeDiff, Nat.reduceEqDiff, reduceIte, Int.reduceBEq, Int.reduceBNe, Int.reduceLT, Int.reduceLE, Int.reduceGT, Int.reduceGE, Int.reduceNeg, reduceCtorEq, h12, hw2]; rfl) ?_
    refine (.inl ⟨rfl, l.length - (i + 1), by omega, i + 1, ?_, ?_, ?_, ?_, ?_, by omega, rfl⟩)
    all_goals simp (decide := true) (disch := first | omega | (simp (decide := true) only [List.length_set, hl]; done) | fail) only [sims, evRegion, evOps, evOp, evG, evR, guardT, callee, opRes, pureR, binT, unT, T.cells, T.leaf, fillT, splice, Nat.reduceLT, Nat.reduceAdd, Nat.reduceMul, Nat.reduceLeDiff, Nat.reduceEqDiff, reduceIte, Int.reduceBEq, Int.reduceBNe, Int.reduceLT, Int.reduceLE, Int.reduceGT, Int.reduceGE, Int.reduceNeg, reduceCtorEq, hl, h10, h11]
theorem bits_of (f : Bool) (l : List Int) (hl4 : l.length ≤ 4) (hb : ∀ b ∈ l, Byte b) : E ap 44 [.imm f l.length (dataT l)] (.int .u32 (val l)) := by
  refine E_body (F := f44) rfl rfl rfl ?_
  generalize hs0 : (_ : List T) ++ List.replicate _ T.undef = s0
  have e0 : s0.length = 26 ∧ rho s0 (.tmp 0) = .imm f l.length (dataT l) := by subst hs0; exact ⟨rfl, rfl⟩
  clear hs0
  obtain ⟨hl, h0⟩ := e0
  have hmin : (if (4 : Int) < (l.length : Int) then (4 : Int) else (l.length : Int)) = (l.length : Int) := if_neg (by omega)
  have hcut : cut (dataT l) 0 (l.length * 1) = dataT l := cut_all (by rw [data_len]; omega)
  have hz : (0 : Nat) * 1 = 0 := rfl
  have hsub : l.length - 0 = l.length := rfl
  refine W_seqn (W_region (fun k => by simp (decide := true) (disch := first | omega | (simp (decide := true) only [List.length_set, hl]; done) | fail) only [sims, evRegion, evOps, evOp, evG, evR, guardT, callee, opRes, pureR, binT, unT, T.cells, T.leaf, fillT, splice, Nat.reduceLT, Nat.reduceAdd, Nat.reduceMul, Nat.reduceLeDiff, Nat.reduceEqDiff, reduceIte, Int.reduceBEq, Int.reduceBNe, Int.reduceLT, Int.reduceLE, Int.reduceGT, Int.reduceGE, Int.reduceNeg, reduceCtorEq]; rfl) ⟨rfl, ?_⟩)
  refine W_seqn (W_region (fun k => by simp (decide := true) (disch := first | omega | (simp (decide := true) only [List.length_set, hl]; done) | fail) only [sims, evRegion, evOps, evOp, evG, evR, guardT, callee, opRes, pureR, binT, unT, T.cells, T.leaf, fillT, splice, Nat.reduceLT, Nat.reduceAdd, Nat.reduceMul, Nat.reduceLeDiff, Nat.reduceEqDiff, reduceIte, Int.reduceBEq, Int.reduceBNe, Int.reduceLT, Int.reduceLE, Int.reduceGT, Int.reduceGE, Int.reduceNeg, reduceCtorEq]; rfl) ⟨rfl, ?_⟩)
  have hle : l.length ≤ l.length := Nat.le_refl _
  have hle0 : 0 ≤ l.length := Nat.zero_le _
  refine W_seq (W_seqn (W_region (fun k => by simp (decide := true) (disch := first | omega | (simp (decide := true) only [List.length_set, hl]; done) | fail) only [sims, evRegion, evOps, evOp, evG, evR, guardT, callee, opRes, pureR, binT, unT, T.cells, T.leaf, fillT, splice, Nat.reduceLT, Nat.reduceAdd, Nat.reduceMul, Nat.reduceLeDiff, Nat.reduceEqDiff, reduceIte, Int.reduceBEq, Int.reduceBNe, Int.reduceLT, Int.reduceLE, Int.reduceGT, Int.reduceGE, Int.reduceNeg, reduceCtorEq, h0, minL, List.foldlM_cons, List.foldlM_nil, hmin, Option.map_none, Option.map_some, Option.isSome_none, hle, hle0, hsub, hz, hcut, bind, Option.bind_some, pure]; rfl) ⟨rfl, W_block ?_⟩))
  refine of_loop (f && l.length == l.length) l hl4 hb _ (fun st hst h3 => ?_) (l.length - 0) _ ⟨0, ?_, ?_, ?_, ?_, ?_, by omega, rfl⟩
  · have hl := hst
    refine .inl ⟨rfl, .inl ⟨rfl, W_seqn (W_region (fun k => by simp (decide := true) (disch := first | omega | (simp (decide := true) only [List.length_set, hl]; done) | fail) only [sims, evRegion, evOps, evOp, evG, evR, guardT, callee, opRes, pureR, binT, unT, T.cells, T.leaf, fillT, splice, Nat.reduceLT, Nat.reduceAdd, Nat.reduceMul, Nat.reduceLeDiff, Nat.reduceEqDiff, reduceIte, Int.reduceBEq, Int.reduceBNe, Int.reduceLT, Int.reduceLE, Int.reduceGT, Int.reduceGE, Int.reduceNeg, reduceCtorEq, h3]; rfl) ⟨rfl, W_ret ?_⟩)⟩⟩
    refine fin_of (F := f44) rfl (fun _ => rfl) ?_
    simp (decide := true) (disch := first | omega | (simp (decide := true) only [List.length_set, hl]; done) | fail) only [sims, evRegion, evOps, evOp, evG, evR, guardT, callee, opRes, pureR, binT, unT, T.cells, T.leaf, fillT, splice, Nat.reduceLT, Nat.reduceAdd, Nat.reduceMul, Nat.reduceLeDiff, Nat.reduceEqDiff, reduceIte, Int.reduceBEq, Int.reduceBNe, Int.reduceLT, Int.reduceLE, Int.reduceGT, Int.reduceGE, Int.reduceNeg, reduceCtorEq]
  all_goals first | (simp (decide := true) (disch := first | omega | (simp (decide := true) only [List.length_set, hl]; done) | fail) only [sims, evRegion, evOps, evOp, evG, evR, guardT, callee, opRes, pureR, binT, unT, T.cells, T.leaf, fillT, splice, Nat.reduceLT, Nat.reduceAdd, Nat.reduceMul, Nat.reduceLeDiff, Nat.reduceEqDiff, reduceIte, Int.reduceBEq, Int.reduceBNe, Int.reduceLT, Int.reduceLE, Int.reduceGT, Int.reduceGE, Int.reduceNeg, reduceCtorEq, hl]; done) | (simp (decide := true) (disch := first | omega | (simp (decide := true) only [List.length_set, hl]; done) | fail) only [sims, evRegion, evOps, evOp, evG, evR, guardT, callee, opRes, pureR, binT, unT, T.cells, T.leaf, fillT, splice, Nat.reduceLT, Nat.reduceAdd, Nat.reduceMul, Nat.reduceLeDiff, Nat.reduceEqDiff, reduceIte, Int.reduceBEq, Int.reduceBNe, Int.reduceLT, Int.reduceLE, Int.reduceGT, Int.reduceGE, Int.reduceNeg, reduceCtorEq, hl]; rfl)
end Go.Proofs.Ythanlobfjpjegaa.Abs
