/- New memory behind caches: both functions' walks, and the law's. -/
import Derived.Test.YtikeeegkndnnfaaKit
namespace Go.Proofs.Ytikeeegkndnnfaa.Abs
open Go Go.RowKit Fn
set_option linter.unusedVariables false
set_option linter.unusedSimpArgs false
set_option linter.unnecessarySimpa false
set_option maxRecDepth 100000
set_option maxHeartbeats 4000000

theorem ap22 : ap 22 = some f22 := rfl
theorem n22 : f22.nat = some (1, 1) := rfl
theorem ap23 : ap 23 = some f23 := rfl
theorem p23 : f23.pure = true := rfl
theorem n23 : f23.nat = none := rfl
theorem ap24 : ap 24 = some f24 := rfl
theorem p24 : f24.pure = true := rfl
theorem n24 : f24.nat = none := rfl
def newM (b : List Int) (s w c : Int) : Coh := ⟨b, List.replicate (clampN c 2) (newC s w)⟩
theorem rep_enc (n : Nat) (c : Cache) : (List.replicate n c).flatMap Cache.enc = List.replicate n (setsT c) := by
  induction n with
  | zero => rfl
  | succ n ih => rw [List.replicate_succ, List.flatMap_cons, ih]; rfl
theorem newM_cache (b : List Int) (s w c : Int) (k : Nat) (hk : k < (newM b s w c).caches.length) : cacheAt (newM b s w c) k = newC s w := by
  have hl : (newM b s w c).caches = List.replicate (clampN c 2) (newC s w) := rfl
  unfold cacheAt
  rw [hl] at hk ⊢
  rw [List.getElem?_eq_getElem hk, List.getElem_replicate]; rfl
theorem newM_ok (b : List Int) (hb : b.length ≤ 1024) (hw : ∀ y ∈ b, (Lit.int .u8 y).wf = true) (s w c : Int) : Ok (newM b s w c) := by
  have hmx : (1024 : Nat) ≤ maxLen := by decide
  have hr := clampN_range c 2 (by omega)
  have hl : (newM b s w c).caches.length = clampN c 2 := by show (List.replicate _ _).length = _; rw [List.length_replicate]
  refine ⟨⟨⟨by show b.length ≤ maxLen; omega, hw⟩, by rw [hl]; omega, fun y hy => ?_⟩, hb, by omega, fun k hk => ?_⟩
  · have hy : y ∈ List.replicate (clampN c 2) (newC s w) := hy
    rw [List.mem_replicate] at hy
    rw [hy.2]
    exact newC_wf s w
  · rw [newM_cache b s w c k hk]
    exact newC_fit s w
theorem bnd2 (c : Int) : (if (2 : Int) < (if (1 : Int) > c then (1 : Int) else c) then (2 : Int) else (if (1 : Int) > c then (1 : Int) else c)) = (clampN c 2 : Int) := clamp_val c 2 (by omega)
def CAcc (g : Mem) (v : T) (z : T) (i nx : Nat) : Prop := (i = 0 ∧ v = .imm true 0 []) ∨ (0 < i ∧ ∃ t, 4 < t ∧ t < nx ∧ v = .own t 0 i 1 ∧ g t = some (List.replicate i z))
def cnLoop : ACode := match f8.body with | .seq _ (.seq _ (.seq (.seq _ (.block _ (.loop c))) _)) => c | _ => .skip
theorem cn_loop (B : List T) (s w : Int) (k : Nat) (hk : k ≤ 2) (x : T) (Q : AExit → St → Prop)
    (hQ : ∀ st v, st.s.length = 28 → rho st.s (.tmp 8) = .ptr 0 0 → rho st.s (.tmp 9) = .ptr 4 0 → st.g 0 = some [.imm true 0 [], .imm true 0 []] → st.g 4 = some [x, v] → ListAt (fun t => t = 2) st.g x B → CAcc st.g v (setsT (newC s w)) k st.nx → Q (.exit 0) st) :
    ∀ (n : Nat) (st : St), (∃ (i : Nat) (v : T), st.s.length = 28 ∧ rho st.s (.tmp 1) = .int .i64 s ∧ rho st.s (.tmp 2) = .int .i64 w ∧ rho st.s (.tmp 8) = .ptr 0 0 ∧ rho st.s (.tmp 9) = .ptr 4 0 ∧ rho st.s (.tmp 15) = .int .i64 (k : Int) ∧ rho st.s (.tmp 16) = .int .i64 (i : Int) ∧ st.g 0 = some [.imm true 0 [], .imm true 0 []] ∧ st.g 4 = some [x, v] ∧ ListAt (fun t => t = 2) st.g x B ∧ CAcc st.g v (setsT (newC s w)) i st.nx ∧ 6 ≤ st.nx ∧ i ≤ k ∧ n = k - i) → W ap (.loop cnLoop) st Q := by
  refine W_loop _ ?_
  rintro n st ⟨i, v, hl, h1, h2, h8, h9, h15, h16, g0, g4, hx, hv, hnx, hi, hn⟩
  by_cases hend : i = k
  · have hlt : decide ((i : Int) < (k : Int)) = false := decide_eq_false (by omega)
    refine W_seqn (W_region (fun k => by simp (decide := true) (disch := first | omega | (simp (decide := true) only [List.length_set, hl]; done) | fail) only [sims, eqs, autos, T.cells, T.leaf, Nat.reduceLT, Nat.reduceAdd, Nat.reduceMul, Nat.reduceLeDiff, Nat.reduceEqDiff, reduceIte, Int.reduceBEq, Int.reduceBNe, Int.reduceLT, Int.reduceLE, Int.reduceGT, Int.reduceGE, Int.reduceNeg, reduceCtorEq, hps, h15, h16, hlt]; rfl) ⟨rfl, ?_⟩)
    refine W_seq (W_false (by simp (decide := true) (disch := first | omega | (simp (decide := true) only [List.length_set, hl]; done) | fail) only [sims, eqs, autos, T.cells, T.leaf, Nat.reduceLT, Nat.reduceAdd, Nat.reduceMul, Nat.reduceLeDiff, Nat.reduceEqDiff, reduceIte, Int.reduceBEq, Int.reduceBNe, Int.reduceLT, Int.reduceLE, Int.reduceGT, Int.reduceGE, Int.reduceNeg, reduceCtorEq] <;> rfl) (W_exit (.inr ⟨by simp, .inr ⟨by simp, hQ _ v ?_ ?_ ?_ g0 g4 hx ?_⟩⟩)))
    · simp (decide := true) (disch := first | omega | (simp (decide := true) only [List.length_set, hl]; done) | fail) only [sims, eqs, autos, T.cells, T.leaf, Nat.reduceLT, Nat.reduceAdd, Nat.reduceMul, Nat.reduceLeDiff, Nat.reduceEqDiff, reduceIte, Int.reduceBEq, Int.reduceBNe, Int.reduceLT, Int.reduceLE, Int.reduceGT, Int.reduceGE, Int.reduceNeg, reduceCtorEq, hl]
    · simp (decide := true) (disch := first | omega | (simp (decide := true) only [List.length_set, hl]; done) | fail) only [sims, eqs, autos, T.cells, T.leaf, Nat.reduceLT, Nat.reduceAdd, Nat.reduceMul, Nat.reduceLeDiff, Nat.reduceEqDiff, reduceIte, Int.reduceBEq, Int.reduceBNe, Int.reduceLT, Int.reduceLE, Int.reduceGT, Int.reduceGE, Int.reduceNeg, reduceCtorEq, h8]
    · simp (decide := true) (disch := first | omega | (simp (decide := true) only [List.length_set, hl]; done) | fail) only [sims, eqs, autos, T.cells, T.leaf, Nat.reduceLT, Nat.reduceAdd, Nat.reduceMul, Nat.reduceLeDiff, Nat.reduceEqDiff, reduceIte, Int.reduceBEq, Int.reduceBNe, Int.reduceLT, Int.reduceLE, Int.reduceGT, Int.reduceGE, Int.reduceNeg, reduceCtorEq, h9]
    · rw [← hend]
      rcases hv with hv | ⟨a, t, b, c, d⟩
      · exact .inl hv
      · exact .inr ⟨a, t, b, by show t < st.nx + 1; omega, d⟩
  · have hlt : decide ((i : Int) < (k : Int)) = true := decide_eq_true (by omega)
    have hw2 : IntKind.i64.wrap ((i : Int) + 1) = ((i + 1 : Nat) : Int) := by rw [wrap_id (by omega)]; omega
    obtain ⟨N, q⟩ := (bus_new s w).call ap23 (fun g => rfl)
    have q := q N (Nat.le_refl _)
    have hzl : allLeaf [setsT (newC s w)] = true := rfl
    generalize setsT (newC s w) = z at *
    have hfl : fillT [T.imm true 0 []] [(0, 1, .agg [z])] = some [z] := by
      have : ([z].all T.leaf) = true := hzl
      simp (decide := true) only [fillT, T.cells, List.length_cons, List.length_nil, this, if_true, splice, List.set_cons_zero]
    have hnil : allLeaf ([] : List T) = true := rfl
    have hcz : cut [z] 0 1 = [z] := rfl
    refine W_seqn (W_region (fun k => by simp (decide := true) (disch := first | omega | (simp (decide := true) only [List.length_set, hl]; done) | fail) only [sims, eqs, autos, T.cells, T.leaf, Nat.reduceLT, Nat.reduceAdd, Nat.reduceMul, Nat.reduceLeDiff, Nat.reduceEqDiff, reduceIte, Int.reduceBEq, Int.reduceBNe, Int.reduceLT, Int.reduceLE, Int.reduceGT, Int.reduceGE, Int.reduceNeg, reduceCtorEq, hps, h15, h16, hlt]; rfl) ⟨rfl, ?_⟩)
    refine W_seqn (W_true (by simp (decide := true) (disch := first | omega | (simp (decide := true) only [List.length_set, hl]; done) | fail) only [sims, eqs, autos, T.cells, T.leaf, Nat.reduceLT, Nat.reduceAdd, Nat.reduceMul, Nat.reduceLeDiff, Nat.reduceEqDiff, reduceIte, Int.reduceBEq, Int.reduceBNe, Int.reduceLT, Int.reduceLE, Int.reduceGT, Int.reduceGE, Int.reduceNeg, reduceCtorEq] <;> rfl) (W_skip ⟨rfl, ?_⟩))
    refine W_seqn (W_block ?_)
    have hinc : ∀ st' v', st'.s.length = 28 → rho st'.s (.tmp 1) = .int .i64 s → rho st'.s (.tmp 2) = .int .i64 w → rho st'.s (.tmp 8) = .ptr 0 0 → rho st'.s (.tmp 9) = .ptr 4 0 → rho st'.s (.tmp 15) = .int .i64 (k : Int) → rho st'.s (.tmp 16) = .int .i64 (i : Int) → st'.g 0 = some [.imm true 0 [], .imm true 0 []] → st'.g 4 = some [x, v'] → ListAt (fun t => t = 2) st'.g x B → CAcc st'.g v' z (i + 1) st'.nx → 6 ≤ st'.nx → W ap (.region [⟨some 26, .bin .add (.tmp 16) (.con (.int .i64 1)), none⟩, ⟨some 16, .mv (.tmp 26), none⟩] []) st' (fun e s' => (e = .normal ∧ ∃ mm, mm < n ∧ ∃ (i : Nat) (v : T), s'.s.length = 28 ∧ rho s'.s (.tmp 1) = .int .i64 s ∧ rho s'.s (.tmp 2) = .int .i64 w ∧ rho s'.s (.tmp 8) = .ptr 0 0 ∧ rho s'.s (.tmp 9) = .ptr 4 0 ∧ rho s'.s (.tmp 15) = .int .i64 (k : Int) ∧ rho s'.s (.tmp 16) = .int .i64 (i : Int) ∧ s'.g 0 = some [.imm true 0 [], .imm true 0 []] ∧ s'.g 4 = some [x, v] ∧ ListAt (fun t => t = 2) s'.g x B ∧ CAcc s'.g v z i s'.nx ∧ 6 ≤ s'.nx ∧ i ≤ k ∧ mm = k - i) ∨ (e ≠ .normal ∧ Q e s')) := by
      intro st' v' hl h1 h2 h8 h9 h15 h16 g0 g4 hx hv hnx
      refine W_region (fun k => by simp (decide := true) (disch := first | omega | (simp (decide := true) only [List.length_set, hl]; done) | fail) only [sims, eqs, autos, T.cells, T.leaf, Nat.reduceLT, Nat.reduceAdd, Nat.reduceMul, Nat.reduceLeDiff, Nat.reduceEqDiff, reduceIte, Int.reduceBEq, Int.reduceBNe, Int.reduceLT, Int.reduceLE, Int.reduceGT, Int.reduceGE, Int.reduceNeg, reduceCtorEq, hps, h16, hw2]; rfl) (.inl ⟨rfl, k - (i + 1), by omega, i + 1, v', ?_, ?_, ?_, ?_, ?_, ?_, ?_, ?_, ?_, ?_, ?_, ?_, by omega, rfl⟩)
      iterate 7 (· simp (decide := true) (disch := first | omega | (simp (decide := true) only [List.length_set, hl]; done) | fail) only [sims, eqs, autos, T.cells, T.leaf, Nat.reduceLT, Nat.reduceAdd, Nat.reduceMul, Nat.reduceLeDiff, Nat.reduceEqDiff, reduceIte, Int.reduceBEq, Int.reduceBNe, Int.reduceLT, Int.reduceLE, Int.reduceGT, Int.reduceGE, Int.reduceNeg, reduceCtorEq, hl, h1, h2, h8, h9, h15])
      · exact g0
      · exact g4
      · exact hx
      · rcases hv with hv | ⟨a, t, b, c, d⟩
        · exact .inl hv
        · exact .inr ⟨a, t, b, by show t < st'.nx + 2; omega, d⟩
      · show 6 ≤ st'.nx + 2
        omega
    rcases hv with ⟨rfl, rfl⟩ | ⟨hi0, t, ht4, htn, rfl, gt⟩
    · refine W_regionN ⟨N, by simp (decide := true) (disch := first | omega | (simp (decide := true) only [List.length_set, hl]; done) | fail) only [sims, eqs, autos, T.cells, T.leaf, Nat.reduceLT, Nat.reduceAdd, Nat.reduceMul, Nat.reduceLeDiff, Nat.reduceEqDiff, reduceIte, Int.reduceBEq, Int.reduceBNe, Int.reduceLT, Int.reduceLE, Int.reduceGT, Int.reduceGE, Int.reduceNeg, reduceCtorEq, hps, h1, h2, h9, g4, ap23, p23, n23, q, hfl, hzl, hnil, cellsOf, hcz, Nat.le_refl, Nat.mul_one]; rfl⟩ (.inr (.inl ⟨by simp, rfl, hinc _ (.own (st.nx + 1 + 6) 0 1 1) ?_ ?_ ?_ ?_ ?_ ?_ ?_ ?_ ?_ ?_ (.inr ⟨by omega, st.nx + 1 + 6, by omega, ?_, rfl, ?_⟩) ?_⟩))
      iterate 7 (· simp (decide := true) (disch := first | omega | (simp (decide := true) only [List.length_set, hl]; done) | fail) only [sims, eqs, autos, T.cells, T.leaf, Nat.reduceLT, Nat.reduceAdd, Nat.reduceMul, Nat.reduceLeDiff, Nat.reduceEqDiff, reduceIte, Int.reduceBEq, Int.reduceBNe, Int.reduceLT, Int.reduceLE, Int.reduceGT, Int.reduceGE, Int.reduceNeg, reduceCtorEq, hl, h1, h2, h8, h9, h15, h16])
      · simp (decide := true) (disch := first | omega | (simp (decide := true) only [List.length_set, hl]; done) | fail) only [sims, eqs, autos, T.cells, T.leaf, Nat.reduceLT, Nat.reduceAdd, Nat.reduceMul, Nat.reduceLeDiff, Nat.reduceEqDiff, reduceIte, Int.reduceBEq, Int.reduceBNe, Int.reduceLT, Int.reduceLE, Int.reduceGT, Int.reduceGE, Int.reduceNeg, reduceCtorEq, hps, g0]
      · simp (decide := true) (disch := first | omega | (simp (decide := true) only [List.length_set, hl]; done) | fail) only [sims, eqs, autos, T.cells, T.leaf, Nat.reduceLT, Nat.reduceAdd, Nat.reduceMul, Nat.reduceLeDiff, Nat.reduceEqDiff, reduceIte, Int.reduceBEq, Int.reduceBNe, Int.reduceLT, Int.reduceLE, Int.reduceGT, Int.reduceGE, Int.reduceNeg, reduceCtorEq, hps]
      · exact hx.mono (fun _ h => h) (fun t h => by subst h; simp (decide := true) (disch := first | omega | (simp (decide := true) only [List.length_set, hl]; done) | fail) only [sims, eqs, autos, T.cells, T.leaf, Nat.reduceLT, Nat.reduceAdd, Nat.reduceMul, Nat.reduceLeDiff, Nat.reduceEqDiff, reduceIte, Int.reduceBEq, Int.reduceBNe, Int.reduceLT, Int.reduceLE, Int.reduceGT, Int.reduceGE, Int.reduceNeg, reduceCtorEq, hps])
      · show st.nx + 1 + 6 < st.nx + 1 + 9
        omega
      · simp (decide := true) (disch := first | omega | (simp (decide := true) only [List.length_set, hl]; done) | fail) only [sims, eqs, autos, T.cells, T.leaf, Nat.reduceLT, Nat.reduceAdd, Nat.reduceMul, Nat.reduceLeDiff, Nat.reduceEqDiff, reduceIte, Int.reduceBEq, Int.reduceBNe, Int.reduceLT, Int.reduceLE, Int.reduceGT, Int.reduceGE, Int.reduceNeg, reduceCtorEq, hps]
        rfl
      · show 6 ≤ st.nx + 1 + 9
        omega
    · have hrl : (List.replicate i z).length = i := List.length_replicate
      have hcr : cut (List.replicate i z) 0 i = List.replicate i z := cut_all hrl
      have hrs : List.replicate i z ++ [z] = List.replicate (i + 1) z := List.replicate_succ'.symm
      have hr1 : (i + 1) * 24 ≤ 549755813888 := by omega
      have hr2 : i + 1 ≤ 549755813888 := by omega
      refine W_regionN ⟨N, by simp (decide := true) (disch := first | omega | (simp (decide := true) only [List.length_set, hl]; done) | fail) only [sims, eqs, autos, T.cells, T.leaf, Nat.reduceLT, Nat.reduceAdd, Nat.reduceMul, Nat.reduceLeDiff, Nat.reduceEqDiff, reduceIte, Int.reduceBEq, Int.reduceBNe, Int.reduceLT, Int.reduceLE, Int.reduceGT, Int.reduceGE, Int.reduceNeg, reduceCtorEq, hps, h1, h2, h9, g4, gt, ap23, p23, n23, q, hfl, hzl, hnil, cellsOf, hcz, hrl, hcr, hrs, hr1, hr2, Nat.le_refl, Nat.mul_one]; rfl⟩ (.inr (.inl ⟨by simp, rfl, hinc _ (.own (st.nx + 1 + 6) 0 (i + 1) 1) ?_ ?_ ?_ ?_ ?_ ?_ ?_ ?_ ?_ ?_ (.inr ⟨by omega, st.nx + 1 + 6, by omega, ?_, rfl, ?_⟩) ?_⟩))
      iterate 7 (· simp (decide := true) (disch := first | omega | (simp (decide := true) only [List.length_set, hl]; done) | fail) only [sims, eqs, autos, T.cells, T.leaf, Nat.reduceLT, Nat.reduceAdd, Nat.reduceMul, Nat.reduceLeDiff, Nat.reduceEqDiff, reduceIte, Int.reduceBEq, Int.reduceBNe, Int.reduceLT, Int.reduceLE, Int.reduceGT, Int.reduceGE, Int.reduceNeg, reduceCtorEq, hl, h1, h2, h8, h9, h15, h16])
      · simp (decide := true) (disch := first | omega | (simp (decide := true) only [List.length_set, hl]; done) | fail) only [sims, eqs, autos, T.cells, T.leaf, Nat.reduceLT, Nat.reduceAdd, Nat.reduceMul, Nat.reduceLeDiff, Nat.reduceEqDiff, reduceIte, Int.reduceBEq, Int.reduceBNe, Int.reduceLT, Int.reduceLE, Int.reduceGT, Int.reduceGE, Int.reduceNeg, reduceCtorEq, hps, g0]
      · simp (decide := true) (disch := first | omega | (simp (decide := true) only [List.length_set, hl]; done) | fail) only [sims, eqs, autos, T.cells, T.leaf, Nat.reduceLT, Nat.reduceAdd, Nat.reduceMul, Nat.reduceLeDiff, Nat.reduceEqDiff, reduceIte, Int.reduceBEq, Int.reduceBNe, Int.reduceLT, Int.reduceLE, Int.reduceGT, Int.reduceGE, Int.reduceNeg, reduceCtorEq, hps]
      · exact hx.mono (fun _ h => h) (fun t h => by subst h; simp (decide := true) (disch := first | omega | (simp (decide := true) only [List.length_set, hl]; done) | fail) only [sims, eqs, autos, T.cells, T.leaf, Nat.reduceLT, Nat.reduceAdd, Nat.reduceMul, Nat.reduceLeDiff, Nat.reduceEqDiff, reduceIte, Int.reduceBEq, Int.reduceBNe, Int.reduceLT, Int.reduceLE, Int.reduceGT, Int.reduceGE, Int.reduceNeg, reduceCtorEq, hps])
      · show st.nx + 1 + 6 < st.nx + 1 + 9
        omega
      · simp (decide := true) (disch := first | omega | (simp (decide := true) only [List.length_set, hl]; done) | fail) only [sims, eqs, autos, T.cells, T.leaf, Nat.reduceLT, Nat.reduceAdd, Nat.reduceMul, Nat.reduceLeDiff, Nat.reduceEqDiff, reduceIte, Int.reduceBEq, Int.reduceBNe, Int.reduceLT, Int.reduceLE, Int.reduceGT, Int.reduceGE, Int.reduceNeg, reduceCtorEq, hps]
      · show 6 ≤ st.nx + 1 + 9
        omega
theorem coh_fin {F : AFun} {x y : T} {m : Coh} {P : Nat → Prop} {s : St} (hF : F.res = [.cell 8 false 2]) (h8 : rho s.s (.tmp 8) = .ptr 0 0) (g0 : s.g 0 = some [x, y]) (h : CohIn P s.g x y m) : AExit.ret.leaves = true ∧ ∃ v, UpT (.agg m.enc) v ∧ ∃ u ids, resT s.s s.g F.res = some u ∧ frz ⟨s.g, s.nx⟩ frzDepth u = some (v, ids) := by
  obtain ⟨v, ids, hv, hf⟩ := coh_frz h s.nx
  have hcut : cut [x, y] 0 2 = [x, y] := rfl
  refine ⟨rfl, v, hv, .agg [x, y], ids, ?_, hf⟩
  simp only [resT, resL, resOne, hF]
  simp (decide := true) (disch := first | omega | (simp (decide := true) only [List.length_set, hl]; done) | fail) only [sims, eqs, autos, T.cells, T.leaf, Nat.reduceLT, Nat.reduceAdd, Nat.reduceMul, Nat.reduceLeDiff, Nat.reduceEqDiff, reduceIte, Int.reduceBEq, Int.reduceBNe, Int.reduceLT, Int.reduceLE, Int.reduceGT, Int.reduceGE, Int.reduceNeg, reduceCtorEq, hps, h8, g0, hcut]
theorem coh_new (b : List Int) (hb : b.length ≤ 1024) (s w c : Int) : ∃ v, E ap 8 [.imm false b.length (b.flatMap u8T), .int .i64 s, .int .i64 w, .int .i64 c] v ∧ UpT (.agg (newM b s w c).enc) v := by
  refine E_bodyV (F := f8) rfl rfl rfl (P := fun v => UpT (.agg (newM b s w c).enc) v) ?_
  generalize hs0 : (_ : List T) ++ List.replicate _ T.undef = s0
  have e0 : s0.length = 28 ∧ rho s0 (.tmp 0) = .imm false b.length (b.flatMap u8T) ∧ rho s0 (.tmp 1) = .int .i64 s ∧ rho s0 (.tmp 2) = .int .i64 w ∧ rho s0 (.tmp 3) = .int .i64 c := by subst hs0; exact ⟨rfl, rfl, rfl, rfl, rfl⟩
  clear hs0
  obtain ⟨hl, h0, h1, h2, h3⟩ := e0
  have hBl := u8_len b
  have hBf : allLeaf (b.flatMap u8T) = true := leaf_ints _ (u8_ints b)
  have hbd := bnd2 c
  have hr := clampN_range c 2 (by omega)
  have hen : (newM b s w c).enc = [memT (newM b s w c), cachT (newM b s w c)] := rfl
  have hcs : (newM b s w c).caches.flatMap Cache.enc = List.replicate (clampN c 2) (setsT (newC s w)) := rep_enc _ _
  have hms : (newM b s w c).mem.flatMap u8T = b.flatMap u8T := rfl
  refine W_cut (fun st => st.s.length = 28 ∧ rho st.s (.tmp 0) = .imm false b.length (b.flatMap u8T) ∧ rho st.s (.tmp 1) = .int .i64 s ∧ rho st.s (.tmp 2) = .int .i64 w ∧ rho st.s (.tmp 3) = .int .i64 c ∧ rho st.s (.tmp 8) = .ptr 0 0 ∧ st.g 0 = some [.imm true 0 [], .imm true 0 []] ∧ st.nx = 1) (W_region (fun k => by simp (decide := true) (disch := first | omega | (simp (decide := true) only [List.length_set, hl]; done) | fail) only [sims, eqs, autos, T.cells, T.leaf, Nat.reduceLT, Nat.reduceAdd, Nat.reduceMul, Nat.reduceLeDiff, Nat.reduceEqDiff, reduceIte, Int.reduceBEq, Int.reduceBNe, Int.reduceLT, Int.reduceLE, Int.reduceGT, Int.reduceGE, Int.reduceNeg, reduceCtorEq, hps]; rfl) ⟨rfl, ?_⟩) ?_
  · refine ⟨?_, ?_, ?_, ?_, ?_, ?_, ?_, rfl⟩ <;> simp (decide := true) (disch := first | omega | (simp (decide := true) only [List.length_set, hl]; done) | fail) only [sims, eqs, autos, T.cells, T.leaf, Nat.reduceLT, Nat.reduceAdd, Nat.reduceMul, Nat.reduceLeDiff, Nat.reduceEqDiff, reduceIte, Int.reduceBEq, Int.reduceBNe, Int.reduceLT, Int.reduceLE, Int.reduceGT, Int.reduceGE, Int.reduceNeg, reduceCtorEq, hps, hl, h0, h1, h2, h3]
  rintro st ⟨hl, h0, h1, h2, h3, h8, g0, hnx⟩
  obtain ⟨ss, gg, nx⟩ := st
  simp only at hl h0 h1 h2 h3 h8 g0 hnx
  subst hnx
  have hr1 : b.length * 1 ≤ 549755813888 := by omega
  have hr2 : b.length ≤ 549755813888 := by omega
  have hb1 : ((b.flatMap u8T).length = b.length * 1) = True := by rw [hBl]; simp
  generalize hBe : b.flatMap u8T = B at *
  refine W_cut (fun st => ∃ x, st.s.length = 28 ∧ rho st.s (.tmp 1) = .int .i64 s ∧ rho st.s (.tmp 2) = .int .i64 w ∧ rho st.s (.tmp 3) = .int .i64 c ∧ rho st.s (.tmp 8) = .ptr 0 0 ∧ rho st.s (.tmp 9) = .ptr 4 0 ∧ st.g 0 = some [.imm true 0 [], .imm true 0 []] ∧ st.g 4 = some [x, .imm true 0 []] ∧ ListAt (fun t => t = 2) st.g x B ∧ st.nx = 6) ?_ ?_
  · by_cases hn0 : b.length = 0
    · have hBn : B = [] := List.length_eq_zero_iff.mp (by omega)
      have hz : (b.length = 0) = True := eq_true hn0
      refine W_region (fun k => by simp (decide := true) (disch := first | omega | (simp (decide := true) only [List.length_set, hl]; done) | fail) only [sims, eqs, autos, T.cells, T.leaf, Nat.reduceLT, Nat.reduceAdd, Nat.reduceMul, Nat.reduceLeDiff, Nat.reduceEqDiff, reduceIte, Int.reduceBEq, Int.reduceBNe, Int.reduceLT, Int.reduceLE, Int.reduceGT, Int.reduceGE, Int.reduceNeg, reduceCtorEq, hps, h0, ap22, n22, cloneRes, cellsOf, hb1, hBf, hr1, hr2, hz]; rfl) ⟨rfl, .imm true 0 [], ?_, ?_, ?_, ?_, ?_, ?_, ?_, ?_, .inl ⟨true, by rw [hBn]; rfl⟩, rfl⟩ <;> simp (decide := true) (disch := first | omega | (simp (decide := true) only [List.length_set, hl]; done) | fail) only [sims, eqs, autos, T.cells, T.leaf, Nat.reduceLT, Nat.reduceAdd, Nat.reduceMul, Nat.reduceLeDiff, Nat.reduceEqDiff, reduceIte, Int.reduceBEq, Int.reduceBNe, Int.reduceLT, Int.reduceLE, Int.reduceGT, Int.reduceGE, Int.reduceNeg, reduceCtorEq, hps, hl, h1, h2, h3, h8, g0]
    · have hz : (b.length = 0) = False := eq_false hn0
      have hll : ∀ a b c d : Nat, allLeaf [T.own a b c d] = true := fun _ _ _ _ => rfl
      refine W_region (fun k => by simp (decide := true) (disch := first | omega | (simp (decide := true) only [List.length_set, hl]; done) | fail) only [sims, eqs, autos, T.cells, T.leaf, Nat.reduceLT, Nat.reduceAdd, Nat.reduceMul, Nat.reduceLeDiff, Nat.reduceEqDiff, reduceIte, Int.reduceBEq, Int.reduceBNe, Int.reduceLT, Int.reduceLE, Int.reduceGT, Int.reduceGE, Int.reduceNeg, reduceCtorEq, hps, h0, ap22, n22, cloneRes, cellsOf, hb1, hBf, hr1, hr2, hz]; rfl) ⟨rfl, .own 2 0 b.length 1, ?_, ?_, ?_, ?_, ?_, ?_, ?_, ?_, .inr ⟨2, rfl, by rw [hBl], ?_⟩, rfl⟩ <;> simp (decide := true) (disch := first | omega | (simp (decide := true) only [List.length_set, hl]; done) | fail) only [sims, eqs, autos, T.cells, T.leaf, Nat.reduceLT, Nat.reduceAdd, Nat.reduceMul, Nat.reduceLeDiff, Nat.reduceEqDiff, reduceIte, Int.reduceBEq, Int.reduceBNe, Int.reduceLT, Int.reduceLE, Int.reduceGT, Int.reduceGE, Int.reduceNeg, reduceCtorEq, hps, hl, h1, h2, h3, h8, g0] <;> rfl
  clear hl h0 h1 h2 h3 h8 g0
  rintro st ⟨x, hl, h1, h2, h3, h8, h9, g0, g4, hx, hnx⟩
  refine W_seq (W_seqn (W_region (fun k => by simp (decide := true) (disch := first | omega | (simp (decide := true) only [List.length_set, hl]; done) | fail) only [sims, eqs, autos, T.cells, T.leaf, Nat.reduceLT, Nat.reduceAdd, Nat.reduceMul, Nat.reduceLeDiff, Nat.reduceEqDiff, reduceIte, Int.reduceBEq, Int.reduceBNe, Int.reduceLT, Int.reduceLE, Int.reduceGT, Int.reduceGE, Int.reduceNeg, reduceCtorEq, hps, h3, maxL, minL, List.foldlM_cons, List.foldlM_nil, Option.bind_eq_bind, Option.bind_some, Option.pure_def, hbd]; rfl) ⟨rfl, W_block ?_⟩))
  refine cn_loop B s w (clampN c 2) hr.2 x _ (fun st v hl h8 h9 g0 g4 hx hv => ?_) (clampN c 2 - 0) _ ⟨0, .imm true 0 [], ?_, ?_, ?_, ?_, ?_, ?_, ?_, g0, g4, hx, .inl ⟨rfl, rfl⟩, by show 6 ≤ st.nx + 4; omega, by omega, rfl⟩
  · refine .inl ⟨rfl, .inl ⟨rfl, ?_⟩⟩
    rcases hv with ⟨h, _⟩ | ⟨_, t, ht4, htn, rfl, gt⟩
    · omega
    have hcut2 : cut [x, .own t 0 (clampN c 2) 1] 0 2 = [x, .own t 0 (clampN c 2) 1] := rfl
    have hlf : allLeaf [x, .own t 0 (clampN c 2) 1] = true := by
      show ([x, T.own t 0 (clampN c 2) 1].all T.leaf) = true
      rw [List.all_cons, List.all_cons, hx.leaf]; rfl
    refine W_seqn (W_region (fun k => by simp (decide := true) (disch := first | omega | (simp (decide := true) only [List.length_set, hl]; done) | fail) only [sims, eqs, autos, T.cells, T.leaf, Nat.reduceLT, Nat.reduceAdd, Nat.reduceMul, Nat.reduceLeDiff, Nat.reduceEqDiff, reduceIte, Int.reduceBEq, Int.reduceBNe, Int.reduceLT, Int.reduceLE, Int.reduceGT, Int.reduceGE, Int.reduceNeg, reduceCtorEq, hps, h8, h9, g0, g4, hcut2, hlf]; rfl) ⟨rfl, W_ret (coh_fin (P := fun t => t ≠ 0) (x := x) (y := .own t 0 (clampN c 2) 1) rfl ?_ ?_ ⟨?_, _, UpL.refl _, .inr ⟨t, by omega, ?_, ?_⟩⟩)⟩)
    · simp (decide := true) (disch := first | omega | (simp (decide := true) only [List.length_set, hl]; done) | fail) only [sims, eqs, autos, T.cells, T.leaf, Nat.reduceLT, Nat.reduceAdd, Nat.reduceMul, Nat.reduceLeDiff, Nat.reduceEqDiff, reduceIte, Int.reduceBEq, Int.reduceBNe, Int.reduceLT, Int.reduceLE, Int.reduceGT, Int.reduceGE, Int.reduceNeg, reduceCtorEq, h8]
    · simp (decide := true) (disch := first | omega | (simp (decide := true) only [List.length_set, hl]; done) | fail) only [sims, eqs, autos, T.cells, T.leaf, Nat.reduceLT, Nat.reduceAdd, Nat.reduceMul, Nat.reduceLeDiff, Nat.reduceEqDiff, reduceIte, Int.reduceBEq, Int.reduceBNe, Int.reduceLT, Int.reduceLE, Int.reduceGT, Int.reduceGE, Int.reduceNeg, reduceCtorEq, hps]
    · rw [hms]
      exact hx.mono (fun t h => by omega) (fun t h => by subst h; simp (decide := true) (disch := first | omega | (simp (decide := true) only [List.length_set, hl]; done) | fail) only [sims, eqs, autos, T.cells, T.leaf, Nat.reduceLT, Nat.reduceAdd, Nat.reduceMul, Nat.reduceLeDiff, Nat.reduceEqDiff, reduceIte, Int.reduceBEq, Int.reduceBNe, Int.reduceLT, Int.reduceLE, Int.reduceGT, Int.reduceGE, Int.reduceNeg, reduceCtorEq, hps])
    · rw [hcs, List.length_replicate]
    · rw [hcs]
      simp (decide := true) (disch := first | omega | (simp (decide := true) only [List.length_set, hl]; done) | fail) only [sims, eqs, autos, T.cells, T.leaf, Nat.reduceLT, Nat.reduceAdd, Nat.reduceMul, Nat.reduceLeDiff, Nat.reduceEqDiff, reduceIte, Int.reduceBEq, Int.reduceBNe, Int.reduceLT, Int.reduceLE, Int.reduceGT, Int.reduceGE, Int.reduceNeg, reduceCtorEq, hps, gt]
  all_goals simp (decide := true) (disch := first | omega | (simp (decide := true) only [List.length_set, hl]; done) | fail) only [sims, eqs, autos, T.cells, T.leaf, Nat.reduceLT, Nat.reduceAdd, Nat.reduceMul, Nat.reduceLeDiff, Nat.reduceEqDiff, reduceIte, Int.reduceBEq, Int.reduceBNe, Int.reduceLT, Int.reduceLE, Int.reduceGT, Int.reduceGE, Int.reduceNeg, reduceCtorEq, hl, h1, h2, h8, h9]
  rfl
theorem rcoh_new (b : List Int) (hb : b.length ≤ 1024) (s w c : Int) : ∃ v, E ap 9 [.imm false b.length (b.flatMap u8T), .int .i64 s, .int .i64 w, .int .i64 c] v ∧ UpT (.agg (newM b s w c).enc) v := by
  refine E_bodyV (F := f9) rfl rfl rfl (P := fun v => UpT (.agg (newM b s w c).enc) v) ?_
  generalize hs0 : (_ : List T) ++ List.replicate _ T.undef = s0
  have e0 : s0.length = 27 ∧ rho s0 (.tmp 0) = .imm false b.length (b.flatMap u8T) ∧ rho s0 (.tmp 1) = .int .i64 s ∧ rho s0 (.tmp 2) = .int .i64 w ∧ rho s0 (.tmp 3) = .int .i64 c := by subst hs0; exact ⟨rfl, rfl, rfl, rfl, rfl⟩
  clear hs0
  obtain ⟨hl, h0, h1, h2, h3⟩ := e0
  have hBl := u8_len b
  have hcs : (newM b s w c).caches.flatMap Cache.enc = List.replicate (clampN c 2) (setsT (newC s w)) := rep_enc _ _
  have hms : (newM b s w c).mem.flatMap u8T = b.flatMap u8T := rfl
  obtain ⟨v1, hE, hof⟩ := ref_new s w
  obtain ⟨z, rfl, hz, hzl⟩ := cell_up (R := (newC s w).sets) (up_of hof)
  have hz : UpT (setsT (newC s w)) z := hz
  obtain ⟨N, q⟩ := hE.call ap24 (fun g => rfl)
  have q := q N (Nat.le_refl _)
  have hfl : fillT [T.imm true 0 []] [(0, 1, .agg [z])] = some [z] := by
    have : ([z].all T.leaf) = true := hzl
    simp (decide := true) only [fillT, T.cells, List.length_cons, List.length_nil, this, if_true, splice, List.set_cons_zero]
  have hcz : cut [z] 0 1 = [z] := rfl
  generalize hBe : b.flatMap u8T = B at *
  refine W_cut (fun st => st.s.length = 27 ∧ rho st.s (.tmp 0) = .imm false b.length B ∧ rho st.s (.tmp 1) = .int .i64 s ∧ rho st.s (.tmp 2) = .int .i64 w ∧ rho st.s (.tmp 3) = .int .i64 c ∧ rho st.s (.tmp 8) = .ptr 0 0 ∧ st.g 0 = some [.imm true 0 [], .imm true 0 []] ∧ st.nx = 1) (W_region (fun k => by simp (decide := true) (disch := first | omega | (simp (decide := true) only [List.length_set, hl]; done) | fail) only [sims, eqs, autos, T.cells, T.leaf, Nat.reduceLT, Nat.reduceAdd, Nat.reduceMul, Nat.reduceLeDiff, Nat.reduceEqDiff, reduceIte, Int.reduceBEq, Int.reduceBNe, Int.reduceLT, Int.reduceLE, Int.reduceGT, Int.reduceGE, Int.reduceNeg, reduceCtorEq, hps]; rfl) ⟨rfl, ?_⟩) ?_
  · refine ⟨?_, ?_, ?_, ?_, ?_, ?_, ?_, rfl⟩ <;> simp (decide := true) (disch := first | omega | (simp (decide := true) only [List.length_set, hl]; done) | fail) only [sims, eqs, autos, T.cells, T.leaf, Nat.reduceLT, Nat.reduceAdd, Nat.reduceMul, Nat.reduceLeDiff, Nat.reduceEqDiff, reduceIte, Int.reduceBEq, Int.reduceBNe, Int.reduceLT, Int.reduceLE, Int.reduceGT, Int.reduceGE, Int.reduceNeg, reduceCtorEq, hps, hl, h0, h1, h2, h3]
  rintro st ⟨hl, h0, h1, h2, h3, h8, g0, hnx⟩
  obtain ⟨ss, gg, nx⟩ := st
  simp only at hl h0 h1 h2 h3 h8 g0 hnx
  subst hnx
  refine W_cut (fun st => st.s.length = 27 ∧ rho st.s (.tmp 1) = .int .i64 s ∧ rho st.s (.tmp 2) = .int .i64 w ∧ rho st.s (.tmp 3) = .int .i64 c ∧ rho st.s (.tmp 8) = .ptr 0 0 ∧ rho st.s (.tmp 9) = .ptr 7 0 ∧ st.g 0 = some [.imm true 0 [], .imm true 0 []] ∧ st.g 7 = some [.imm false b.length B, .own 5 0 1 1] ∧ st.g 5 = some [z] ∧ st.nx = 9) (W_regionN ⟨N, by simp (decide := true) (disch := first | omega | (simp (decide := true) only [List.length_set, hl]; done) | fail) only [sims, eqs, autos, T.cells, T.leaf, Nat.reduceLT, Nat.reduceAdd, Nat.reduceMul, Nat.reduceLeDiff, Nat.reduceEqDiff, reduceIte, Int.reduceBEq, Int.reduceBNe, Int.reduceLT, Int.reduceLE, Int.reduceGT, Int.reduceGE, Int.reduceNeg, reduceCtorEq, hps, h0, h1, h2, ap24, p24, n24, q, hfl, hzl]; rfl⟩ ⟨rfl, ?_⟩) ?_
  · refine ⟨?_, ?_, ?_, ?_, ?_, ?_, ?_, ?_, ?_, rfl⟩ <;> simp (decide := true) (disch := first | omega | (simp (decide := true) only [List.length_set, hl]; done) | fail) only [sims, eqs, autos, T.cells, T.leaf, Nat.reduceLT, Nat.reduceAdd, Nat.reduceMul, Nat.reduceLeDiff, Nat.reduceEqDiff, reduceIte, Int.reduceBEq, Int.reduceBNe, Int.reduceLT, Int.reduceLE, Int.reduceGT, Int.reduceGE, Int.reduceNeg, reduceCtorEq, hps, hl, h1, h2, h3, h8, g0]
  clear hl h0 h1 h2 h3 h8 g0
  rintro st ⟨hl, h1, h2, h3, h8, h9, g0, g7, g5, hnx⟩
  obtain ⟨ss, gg, nx⟩ := st
  simp only at hl h1 h2 h3 h8 h9 g0 g7 g5 hnx
  subst hnx
  have fin : ∀ (st : St) (t : Nat) (ys : List T), t ≠ 0 → t ≠ 7 → st.s.length = 27 → rho st.s (.tmp 8) = .ptr 0 0 → rho st.s (.tmp 9) = .ptr 7 0 → st.g 0 = some [.imm true 0 [], .imm true 0 []] → st.g 7 = some [.imm false b.length B, .own t 0 ys.length 1] → st.g t = some ys → UpL (List.replicate (clampN c 2) (setsT (newC s w))) ys → W ap (match f9.body with | .seq _ (.seq _ (.seq _ c)) => c | _ => .skip) st (fun e st => e.leaves = true ∧ ∃ v, UpT (.agg (newM b s w c).enc) v ∧ ∃ u ids, resT st.s st.g f9.res = some u ∧ frz ⟨st.g, st.nx⟩ frzDepth u = some (v, ids)) := by
    intro st t ys ht0 ht7 hl h8 h9 g0 g7 gt hu
    have hcut2 : cut [T.imm false b.length B, .own t 0 ys.length 1] 0 2 = [T.imm false b.length B, .own t 0 ys.length 1] := rfl
    have hlf : allLeaf [T.imm false b.length B, .own t 0 ys.length 1] = true := rfl
    refine W_seqn (W_region (fun k => by simp (decide := true) (disch := first | omega | (simp (decide := true) only [List.length_set, hl]; done) | fail) only [sims, eqs, autos, T.cells, T.leaf, Nat.reduceLT, Nat.reduceAdd, Nat.reduceMul, Nat.reduceLeDiff, Nat.reduceEqDiff, reduceIte, Int.reduceBEq, Int.reduceBNe, Int.reduceLT, Int.reduceLE, Int.reduceGT, Int.reduceGE, Int.reduceNeg, reduceCtorEq, hps, h8, h9, g0, g7, hcut2, hlf]; rfl) ⟨rfl, W_ret (coh_fin (P := fun t => t ≠ 0) (x := .imm false b.length B) (y := .own t 0 ys.length 1) rfl ?_ ?_ ⟨.inl ⟨false, by rw [hms, hBl]⟩, ys, by rw [hcs]; exact hu, .inr ⟨t, ht0, rfl, ?_⟩⟩)⟩)
    · simp (decide := true) (disch := first | omega | (simp (decide := true) only [List.length_set, hl]; done) | fail) only [sims, eqs, autos, T.cells, T.leaf, Nat.reduceLT, Nat.reduceAdd, Nat.reduceMul, Nat.reduceLeDiff, Nat.reduceEqDiff, reduceIte, Int.reduceBEq, Int.reduceBNe, Int.reduceLT, Int.reduceLE, Int.reduceGT, Int.reduceGE, Int.reduceNeg, reduceCtorEq, h8]
    · simp (decide := true) (disch := first | omega | (simp (decide := true) only [List.length_set, hl]; done) | fail) only [sims, eqs, autos, T.cells, T.leaf, Nat.reduceLT, Nat.reduceAdd, Nat.reduceMul, Nat.reduceLeDiff, Nat.reduceEqDiff, reduceIte, Int.reduceBEq, Int.reduceBNe, Int.reduceLT, Int.reduceLE, Int.reduceGT, Int.reduceGE, Int.reduceNeg, reduceCtorEq, hps]
    · simp (decide := true) (disch := first | omega | (simp (decide := true) only [List.length_set, hl]; done) | fail) only [sims, eqs, autos, T.cells, T.leaf, Nat.reduceLT, Nat.reduceAdd, Nat.reduceMul, Nat.reduceLeDiff, Nat.reduceEqDiff, reduceIte, Int.reduceBEq, Int.reduceBNe, Int.reduceLT, Int.reduceLE, Int.reduceGT, Int.reduceGE, Int.reduceNeg, reduceCtorEq, hps, gt]
  by_cases hc1 : c > 1
  · have hd : decide (c > 1) = true := decide_eq_true hc1
    have hk : clampN c 2 = 2 := by unfold clampN; rw [if_neg (by omega)]; split <;> omega
    have hyy : UpL (List.replicate (clampN c 2) (setsT (newC s w))) [z, z] := by rw [hk]; exact UpL.cons hz (UpL.cons hz UpL.nil)
    have hl2 : allLeaf [z, z] = true := by
      show ([z, z].all T.leaf) = true
      have : z.leaf = true := by have : ([z].all T.leaf) = true := hzl; simpa using this
      rw [List.all_cons, List.all_cons, this]; rfl
    refine W_seqn (W_seqn (W_region (fun k => by simp (decide := true) (disch := first | omega | (simp (decide := true) only [List.length_set, hl]; done) | fail) only [sims, eqs, autos, T.cells, T.leaf, Nat.reduceLT, Nat.reduceAdd, Nat.reduceMul, Nat.reduceLeDiff, Nat.reduceEqDiff, reduceIte, Int.reduceBEq, Int.reduceBNe, Int.reduceLT, Int.reduceLE, Int.reduceGT, Int.reduceGE, Int.reduceNeg, reduceCtorEq, hps, h3, hd]; rfl) ⟨rfl, W_true (by simp (decide := true) (disch := first | omega | (simp (decide := true) only [List.length_set, hl]; done) | fail) only [sims, eqs, autos, T.cells, T.leaf, Nat.reduceLT, Nat.reduceAdd, Nat.reduceMul, Nat.reduceLeDiff, Nat.reduceEqDiff, reduceIte, Int.reduceBEq, Int.reduceBNe, Int.reduceLT, Int.reduceLE, Int.reduceGT, Int.reduceGE, Int.reduceNeg, reduceCtorEq] <;> rfl) ?_⟩))
    refine W_regionN ⟨N, by simp (decide := true) (disch := first | omega | (simp (decide := true) only [List.length_set, hl]; done) | fail) only [sims, eqs, autos, T.cells, T.leaf, Nat.reduceLT, Nat.reduceAdd, Nat.reduceMul, Nat.reduceLeDiff, Nat.reduceEqDiff, reduceIte, Int.reduceBEq, Int.reduceBNe, Int.reduceLT, Int.reduceLE, Int.reduceGT, Int.reduceGE, Int.reduceNeg, reduceCtorEq, hps, h1, h2, h9, g7, g5, ap24, p24, n24, q, hfl, hzl, cellsOf, hcz, Nat.le_refl, Nat.mul_one]; rfl⟩ ⟨rfl, fin _ 17 [z, z] (by omega) (by omega) ?_ ?_ ?_ ?_ ?_ ?_ hyy⟩
    · simp (decide := true) (disch := first | omega | (simp (decide := true) only [List.length_set, hl]; done) | fail) only [sims, eqs, autos, T.cells, T.leaf, Nat.reduceLT, Nat.reduceAdd, Nat.reduceMul, Nat.reduceLeDiff, Nat.reduceEqDiff, reduceIte, Int.reduceBEq, Int.reduceBNe, Int.reduceLT, Int.reduceLE, Int.reduceGT, Int.reduceGE, Int.reduceNeg, reduceCtorEq, hl]
    · simp (decide := true) (disch := first | omega | (simp (decide := true) only [List.length_set, hl]; done) | fail) only [sims, eqs, autos, T.cells, T.leaf, Nat.reduceLT, Nat.reduceAdd, Nat.reduceMul, Nat.reduceLeDiff, Nat.reduceEqDiff, reduceIte, Int.reduceBEq, Int.reduceBNe, Int.reduceLT, Int.reduceLE, Int.reduceGT, Int.reduceGE, Int.reduceNeg, reduceCtorEq, h8]
    · simp (decide := true) (disch := first | omega | (simp (decide := true) only [List.length_set, hl]; done) | fail) only [sims, eqs, autos, T.cells, T.leaf, Nat.reduceLT, Nat.reduceAdd, Nat.reduceMul, Nat.reduceLeDiff, Nat.reduceEqDiff, reduceIte, Int.reduceBEq, Int.reduceBNe, Int.reduceLT, Int.reduceLE, Int.reduceGT, Int.reduceGE, Int.reduceNeg, reduceCtorEq, h9]
    · simp (decide := true) (disch := first | omega | (simp (decide := true) only [List.length_set, hl]; done) | fail) only [sims, eqs, autos, T.cells, T.leaf, Nat.reduceLT, Nat.reduceAdd, Nat.reduceMul, Nat.reduceLeDiff, Nat.reduceEqDiff, reduceIte, Int.reduceBEq, Int.reduceBNe, Int.reduceLT, Int.reduceLE, Int.reduceGT, Int.reduceGE, Int.reduceNeg, reduceCtorEq, hps, g0]
    · simp (decide := true) (disch := first | omega | (simp (decide := true) only [List.length_set, hl]; done) | fail) only [sims, eqs, autos, T.cells, T.leaf, Nat.reduceLT, Nat.reduceAdd, Nat.reduceMul, Nat.reduceLeDiff, Nat.reduceEqDiff, reduceIte, Int.reduceBEq, Int.reduceBNe, Int.reduceLT, Int.reduceLE, Int.reduceGT, Int.reduceGE, Int.reduceNeg, reduceCtorEq, hps]
    · simp (decide := true) (disch := first | omega | (simp (decide := true) only [List.length_set, hl]; done) | fail) only [sims, eqs, autos, T.cells, T.leaf, Nat.reduceLT, Nat.reduceAdd, Nat.reduceMul, Nat.reduceLeDiff, Nat.reduceEqDiff, reduceIte, Int.reduceBEq, Int.reduceBNe, Int.reduceLT, Int.reduceLE, Int.reduceGT, Int.reduceGE, Int.reduceNeg, reduceCtorEq, hps]
  · have hd : decide (c > 1) = false := decide_eq_false hc1
    have hk : clampN c 2 = 1 := by unfold clampN; split <;> (try split) <;> omega
    have hyy : UpL (List.replicate (clampN c 2) (setsT (newC s w))) [z] := by rw [hk]; exact UpL.cons hz UpL.nil
    refine W_seqn (W_seqn (W_region (fun k => by simp (decide := true) (disch := first | omega | (simp (decide := true) only [List.length_set, hl]; done) | fail) only [sims, eqs, autos, T.cells, T.leaf, Nat.reduceLT, Nat.reduceAdd, Nat.reduceMul, Nat.reduceLeDiff, Nat.reduceEqDiff, reduceIte, Int.reduceBEq, Int.reduceBNe, Int.reduceLT, Int.reduceLE, Int.reduceGT, Int.reduceGE, Int.reduceNeg, reduceCtorEq, hps, h3, hd]; rfl) ⟨rfl, W_false (by simp (decide := true) (disch := first | omega | (simp (decide := true) only [List.length_set, hl]; done) | fail) only [sims, eqs, autos, T.cells, T.leaf, Nat.reduceLT, Nat.reduceAdd, Nat.reduceMul, Nat.reduceLeDiff, Nat.reduceEqDiff, reduceIte, Int.reduceBEq, Int.reduceBNe, Int.reduceLT, Int.reduceLE, Int.reduceGT, Int.reduceGE, Int.reduceNeg, reduceCtorEq] <;> rfl) (W_skip ⟨rfl, fin _ 5 [z] (by omega) (by omega) ?_ ?_ ?_ g0 g7 g5 hyy⟩)⟩))
    · simp (decide := true) (disch := first | omega | (simp (decide := true) only [List.length_set, hl]; done) | fail) only [sims, eqs, autos, T.cells, T.leaf, Nat.reduceLT, Nat.reduceAdd, Nat.reduceMul, Nat.reduceLeDiff, Nat.reduceEqDiff, reduceIte, Int.reduceBEq, Int.reduceBNe, Int.reduceLT, Int.reduceLE, Int.reduceGT, Int.reduceGE, Int.reduceNeg, reduceCtorEq, hl]
    · simp (decide := true) (disch := first | omega | (simp (decide := true) only [List.length_set, hl]; done) | fail) only [sims, eqs, autos, T.cells, T.leaf, Nat.reduceLT, Nat.reduceAdd, Nat.reduceMul, Nat.reduceLeDiff, Nat.reduceEqDiff, reduceIte, Int.reduceBEq, Int.reduceBNe, Int.reduceLT, Int.reduceLE, Int.reduceGT, Int.reduceGE, Int.reduceNeg, reduceCtorEq, h8]
    · simp (decide := true) (disch := first | omega | (simp (decide := true) only [List.length_set, hl]; done) | fail) only [sims, eqs, autos, T.cells, T.leaf, Nat.reduceLT, Nat.reduceAdd, Nat.reduceMul, Nat.reduceLeDiff, Nat.reduceEqDiff, reduceIte, Int.reduceBEq, Int.reduceBNe, Int.reduceLT, Int.reduceLE, Int.reduceGT, Int.reduceGE, Int.reduceNeg, reduceCtorEq, h9]
theorem awake_runs : evF ap 400 6 [] = some (.bool true) := by kernel_rfl
theorem ap6 : ap 6 = some f6 := rfl
theorem p6 : f6.pure = true := rfl
theorem n6 : f6.nat = none := rfl
theorem ap7 : ap 7 = some f7 := rfl
theorem p7 : f7.pure = true := rfl
theorem n7 : f7.nat = none := rfl
theorem ap8 : ap 8 = some f8 := rfl
theorem p8 : f8.pure = true := rfl
theorem n8 : f8.nat = none := rfl
theorem ap9 : ap 9 = some f9 := rfl
theorem p9 : f9.pure = true := rfl
theorem n9 : f9.nat = none := rfl
theorem coh_frzL {m m' : Coh} {u v : T} (hu : UpT (.agg m.enc) u) (hv : UpT (.agg m'.enc) v) (g : Mem) : frzL ⟨g, 0⟩ frzDepth [u, v] = some ([u, v], []) := by
  obtain ⟨_, _, _, _, _, _, rfl⟩ := coh_up hu
  obtain ⟨_, _, _, _, _, _, rfl⟩ := coh_up hv
  rfl
theorem Pure.CohNew (a0 : List Int) (a1 : List Int) (h0 : (a0.length ≤ maxLen ∧ ∀ y0 ∈ a0, (Lit.int .u8 y0).wf = true)) (h1 : (a1.length = 3 ∧ ∀ y0 ∈ a1, (Lit.int .i64 y0).wf = true)) :
    ∃ k, evF ap k 3 [T.imm false a0.length (a0.flatMap (fun n => [T.int .u8 n])), T.agg (a1.flatMap (fun n => [T.int .i64 n]))] = some (.bool true) := by
  refine E.get ?_
  obtain ⟨x, y, z, rfl⟩ : ∃ x y z : Int, a1 = [x, y, z] := by
    match a1, h1.1 with
    | [x, y, z], _ => exact ⟨x, y, z, rfl⟩
  rw [show [x, y, z].flatMap (fun n => [T.int .i64 n]) = [T.int .i64 x, T.int .i64 y, T.int .i64 z] from rfl]
  refine E_body (F := f3) rfl rfl rfl ?_
  generalize hs0 : (_ : List T) ++ List.replicate _ T.undef = s0
  have e0 : s0.length = 29 ∧ rho s0 (.tmp 0) = .imm false a0.length (a0.flatMap u8T) ∧ rho s0 (.tmp 1) = .agg [T.int .i64 x, T.int .i64 y, T.int .i64 z] := by subst hs0; exact ⟨rfl, rfl, rfl⟩
  clear hs0
  obtain ⟨hl, e0, e1⟩ := e0
  have hleaf : allLeaf [T.int .i64 x, T.int .i64 y, T.int .i64 z] = true := rfl
  obtain ⟨n6', c6⟩ := (E_of awake_runs).call ap6 (fun g => rfl)
  have q6' := c6 n6' (Nat.le_refl _)
  refine W_seqn (W_region (fun k => by simp (decide := true) (disch := first | omega | (simp (decide := true) only [List.length_set, hl]; done) | fail) only [sims, eqs, autos, T.cells, T.leaf, Nat.reduceLT, Nat.reduceAdd, Nat.reduceMul, Nat.reduceLeDiff, Nat.reduceEqDiff, reduceIte, Int.reduceBEq, Int.reduceBNe, Int.reduceLT, Int.reduceLE, Int.reduceGT, Int.reduceGE, Int.reduceNeg, reduceCtorEq, hps, e1, hleaf]; rfl) ⟨rfl, ?_⟩)
  by_cases hbig : (a0.length : Int) > 1024
  · have hd : decide ((a0.length : Int) > 1024) = true := decide_eq_true hbig
    refine W_seq (W_seqn (W_region (fun k => by simp (decide := true) (disch := first | omega | (simp (decide := true) only [List.length_set, hl]; done) | fail) only [sims, eqs, autos, T.cells, T.leaf, Nat.reduceLT, Nat.reduceAdd, Nat.reduceMul, Nat.reduceLeDiff, Nat.reduceEqDiff, reduceIte, Int.reduceBEq, Int.reduceBNe, Int.reduceLT, Int.reduceLE, Int.reduceGT, Int.reduceGE, Int.reduceNeg, reduceCtorEq, hps, e0, hd]; rfl) ⟨rfl, W_true (by simp (decide := true) (disch := first | omega | (simp (decide := true) only [List.length_set, hl]; done) | fail) only [sims, eqs, autos, T.cells, T.leaf, Nat.reduceLT, Nat.reduceAdd, Nat.reduceMul, Nat.reduceLeDiff, Nat.reduceEqDiff, reduceIte, Int.reduceBEq, Int.reduceBNe, Int.reduceLT, Int.reduceLE, Int.reduceGT, Int.reduceGE, Int.reduceNeg, reduceCtorEq] <;> rfl) ?_⟩))
    refine W_seqn (W_regionN ⟨n6', by simp (decide := true) (disch := first | omega | (simp (decide := true) only [List.length_set, hl]; done) | fail) only [sims, eqs, autos, T.cells, T.leaf, Nat.reduceLT, Nat.reduceAdd, Nat.reduceMul, Nat.reduceLeDiff, Nat.reduceEqDiff, reduceIte, Int.reduceBEq, Int.reduceBNe, Int.reduceLT, Int.reduceLE, Int.reduceGT, Int.reduceGE, Int.reduceNeg, reduceCtorEq, hps, ap6, p6, n6, q6']; rfl⟩ ⟨rfl, W_ret ?_⟩)
    simp only [reduceCtorEq, false_and, false_or, or_false, exists_false, exists_const, ne_eq, not_false_eq_true, true_and, implies_true]
    refine fin_of (F := f3) rfl (fun _ => rfl) ?_
    simp (decide := true) (disch := first | omega | (simp (decide := true) only [List.length_set, hl]; done) | fail) only [sims, eqs, autos, T.cells, T.leaf, Nat.reduceLT, Nat.reduceAdd, Nat.reduceMul, Nat.reduceLeDiff, Nat.reduceEqDiff, reduceIte, Int.reduceBEq, Int.reduceBNe, Int.reduceLT, Int.reduceLE, Int.reduceGT, Int.reduceGE, Int.reduceNeg, reduceCtorEq]
  · have hd : decide ((a0.length : Int) > 1024) = false := decide_eq_false hbig
    obtain ⟨v8, E8, u8⟩ := coh_new a0 (by omega) x y z
    obtain ⟨v9, E9, u9⟩ := rcoh_new a0 (by omega) x y z
    obtain ⟨N8, c8⟩ := E8.call ap8 (fun g => rfl)
    obtain ⟨N9, c9⟩ := E9.call ap9 (fun g => rfl)
    obtain ⟨NA, cA⟩ := (same_cohU _ (newM_ok a0 (by omega) h0.2 x y z) u8 u9).call ap7 (coh_frzL u8 u9)
    generalize hM : n6' + N8 + N9 + NA = M
    have q6 := c6 M (by omega)
    have q8 := c8 M (by omega)
    have q9 := c9 M (by omega)
    have qA := cA M (by omega)
    generalize a0.flatMap u8T = B at *
    have hn0 : natOf (.int .i64 0) = some 0 := rfl
    have hn1 : natOf (.int .i64 1) = some 1 := rfl
    have hn2 : natOf (.int .i64 2) = some 2 := rfl
    refine W_seqn (W_seqn (W_region (fun k => by simp (decide := true) (disch := first | omega | (simp (decide := true) only [List.length_set, hl]; done) | fail) only [sims, eqs, autos, T.cells, T.leaf, Nat.reduceLT, Nat.reduceAdd, Nat.reduceMul, Nat.reduceLeDiff, Nat.reduceEqDiff, reduceIte, Int.reduceBEq, Int.reduceBNe, Int.reduceLT, Int.reduceLE, Int.reduceGT, Int.reduceGE, Int.reduceNeg, reduceCtorEq, hps, e0, hd]; rfl) ⟨rfl, W_false (by simp (decide := true) (disch := first | omega | (simp (decide := true) only [List.length_set, hl]; done) | fail) only [sims, eqs, autos, T.cells, T.leaf, Nat.reduceLT, Nat.reduceAdd, Nat.reduceMul, Nat.reduceLeDiff, Nat.reduceEqDiff, reduceIte, Int.reduceBEq, Int.reduceBNe, Int.reduceLT, Int.reduceLE, Int.reduceGT, Int.reduceGE, Int.reduceNeg, reduceCtorEq] <;> rfl) (W_skip ⟨rfl, ?_⟩)⟩))
    refine W_seqn (W_regionN ⟨M, by simp (decide := true) (disch := first | omega | (simp (decide := true) only [List.length_set, hl]; done) | fail) only [sims, eqs, autos, T.cells, T.leaf, Nat.reduceLT, Nat.reduceAdd, Nat.reduceMul, Nat.reduceLeDiff, Nat.reduceEqDiff, reduceIte, Int.reduceBEq, Int.reduceBNe, Int.reduceLT, Int.reduceLE, Int.reduceGT, Int.reduceGE, Int.reduceNeg, reduceCtorEq, hps, e0, ap6, p6, n6, q6, ap7, p7, n7, qA, ap8, p8, n8, q8, ap9, p9, n9, q9, hn0, hn1, hn2, Nat.mul_one, Nat.zero_mul]; rfl⟩ ⟨rfl, W_ret ?_⟩)
    refine fin_of (F := f3) rfl (fun _ => rfl) ?_
    simp (decide := true) (disch := first | omega | (simp (decide := true) only [List.length_set, hl]; done) | fail) only [sims, eqs, autos, T.cells, T.leaf, Nat.reduceLT, Nat.reduceAdd, Nat.reduceMul, Nat.reduceLeDiff, Nat.reduceEqDiff, reduceIte, Int.reduceBEq, Int.reduceBNe, Int.reduceLT, Int.reduceLE, Int.reduceGT, Int.reduceGE, Int.reduceNeg, reduceCtorEq]
end Go.Proofs.Ytikeeegkndnnfaa.Abs
