/- copy onto a row of one's own from some place on: what the row holds then. -/
import Derived.Test.YtmkipjmadmjfaaaWWords
import Derived.Test.YtmkipjmadmjfaaaWMore
import Derived.Laws.CopyOwn
import Derived.BigFrame
import Derived.Lib.SlBytesConst
import Derived.Deep.RegionHeld3
import Derived.Laws.Rows
import Derived.Lib.SliceRun
namespace Go.Proofs.Ytmkipjmadmjfaaa.Cp
open Go.RowKit Go.Proofs.YtmkipjmadmjfaaaW.PrintWords Go.Proofs.YtmkipjmadmjfaaaW.PrintWords.Kd
set_option linter.unusedVariables false
/-- A row of bools, by a number's bits. -/
def bf (n m : Nat) : Array Bool := ((List.range n).map m.testBit).toArray
section
variable {P : Program} {ops : Array Oper} {rest : List Oper} {o : Oper} {a : Act} {Q : Exit → Act → World → Prop} {W : World} {α : Type}
theorem run_copy_at {enc : α → Value} {h1 : ∀ x, (enc x).oneCell' = true} (d : α) (base : Nat) (t t' ty e : TypeId) (ht : P.underlying t = some (.slice e)) (hinfo : (P.info? e).map (·.size) = some 1)
    (xs ys : List α) (g cap off c m : Nat) (A : Option Addr) (ok : Nat → Prop) (hoff : off ≤ xs.length)
    (HO : (scalar enc h1).R e W base ok (.slice (some ⟨g, 0, none⟩) xs.length cap) xs) (HR : (scalar enc h1).C W A m ys) :
    ∃ w1, (Builtin.copy_ #[t, t'] ty #[.slice (some ⟨g, off, none⟩) (xs.length - off) (cap - off), .slice A m c]).run P W = .ok (goInt ((min m (xs.length - off) : Nat) : Int)) w1 ∧
      (scalar enc h1).R e w1 base ok (.slice (some ⟨g, 0, none⟩) xs.length cap) (xs.take off ++ ys.take (min m (xs.length - off)) ++ xs.drop (off + min m (xs.length - off))) ∧ W.grownBy w1 (some g) := by
  have hR := reads_of_C (enc := enc) (d := d) (h1 := h1) HR
  have hm : ys.length = m := hR.1
  have hown := own_of_R HO
  rcases Nat.eq_zero_or_pos (min m (xs.length - off)) with h0 | hp
  · refine ⟨W, ?_, by rw [h0, List.take_zero, List.append_nil, Nat.add_zero, List.take_append_drop]; exact HO, World.grownBy.refl W _⟩
    rw [h0]
    exact run_copy_none W t t' ty e _ A (xs.length - off) _ m c ht hinfo h0
  · obtain ⟨ad, hA, hc⟩ := hR.2.2 (by omega)
    rcases hown.2 with ⟨_, hx0⟩ | ⟨g', cap', cur, hv, hb, hh, hnc, hcm, hcs, htake⟩
    · omega
    injection hv with hv1 hv2 hv3
    injection hv1 with hv1
    injection hv1 with hv1
    subst hv1 hv3
    have hcs1 : cur.size = cap := by omega
    have hsrc : ∀ j u, (encs enc (ys.take (min m (xs.length - off))))[j]? = some u → W.cell? (ad.add j) = some u := by
      intro j u hu
      have hj : j < (ys.take (min m (xs.length - off))).length := by
        rcases Nat.lt_or_ge j (ys.take (min m (xs.length - off))).length with h | h
        · exact h
        · rw [List.getElem?_eq_none (by rw [encs_length]; exact h)] at hu
          cases hu
      have hjm : j < min m (xs.length - off) := by rw [List.length_take] at hj; omega
      rw [encs_get (d := d) _ j hj] at hu
      rw [hc j (by omega), ← hu]
      simp [List.getD_eq_getElem?_getD, hjm]
    have hkl : (encs enc (ys.take (min m (xs.length - off)))).length = min m (xs.length - off) := by rw [encs_length, List.length_take]; omega
    have hr := run_copy_cells (P := P) W t t' ty e g off (xs.length - off) (cap - off) ad m c (encs enc (ys.take (min m (xs.length - off)))) ht hinfo (by rw [hkl]) hsrc
      (fun j hj => by rw [cell_of_row W g _ cur e (0, 0) hh]; simp; omega) (fun j _ => blk_frozen hh _) (by intro u hu; simp only [encs, List.mem_map] at hu; obtain ⟨q, _, rfl⟩ := hu; exact h1 q)
    obtain ⟨cur', h3, h4, h5⟩ := setCells_row (encs enc (ys.take (min m (xs.length - off)))) off W cur hh (by rw [hkl]; omega)
    obtain ⟨s1, s2, s3, s4⟩ := setCells_same g (encs enc (ys.take (min m (xs.length - off)))) off W
    refine ⟨_, by rw [hA, hr, hkl], R_of_own ?_ HO.1, ⟨s1, s2, s3, by rw [s4]; exact Nat.le_refl _, fun k _ hk => setCells_far _ _ k (fun he => hk (by rw [he]))⟩⟩
    have hln : (xs.take off ++ ys.take (min m (xs.length - off)) ++ xs.drop (off + min m (xs.length - off))).length = xs.length := by
      rw [List.length_append, List.length_append, List.length_take, List.length_take, List.length_drop]
      omega
    rw [hln]
    refine ⟨by rw [encs_length, hln, Nat.mul_one], .inr ⟨g, cap, cur', rfl, hb, h3, hnc, hcm, by rw [h4, hcs], ?_⟩⟩
    have htk : cur.toList.take xs.length = encs enc xs := by rw [← htake, Nat.mul_one]
    have e1 : encs enc (xs.take off) = (encs enc xs).take off := by simp [encs, List.map_take]
    have e2 : encs enc (xs.drop (off + min m (xs.length - off))) = (encs enc xs).drop (off + min m (xs.length - off)) := by simp [encs, List.map_drop]
    rw [h5, hkl, Nat.mul_one, encs_append, encs_append, e1, e2, ← htk, List.take_take, Nat.min_eq_left hoff]
    have hl1 : (cur.toList.take off).length = off := by rw [List.length_take, Array.length_toList]; omega
    rw [List.take_append, List.take_of_length_le (by rw [List.length_append, hl1, hkl]; omega), List.length_append, hl1, hkl]
    congr 1
    rw [List.drop_take]
theorem copy_at {enc : α → Value} {h1 : ∀ x, (enc x).oneCell' = true} (d : α) {w0 : World} (base : Nat) (hgd : o.guard = none) (s x : Operand) (t t' e : TypeId)
    (ho : o.op = .call { callee := .builtin .copy, args := #[s, x], argTypes := #[t, t'] }) (ht : P.underlying t = some (.slice e)) (hinfo : (P.info? e).map (·.size) = some 1)
    (xs ys : List α) (g cap off m c : Nat) (A : Option Addr) (ok : Nat → Prop) (hoff : off ≤ xs.length) (hs : a.eval s = .slice (some ⟨g, off, none⟩) (xs.length - off) (cap - off)) (hx : a.eval x = .slice A m c)
    (HO : (scalar enc h1).R e W base ok (.slice (some ⟨g, 0, none⟩) xs.length cap) xs) (HR : (scalar enc h1).C W A m ys) (HB : Below base w0 W) (hbase : base ≤ W.heap.size)
    (h : ∀ w1, (scalar enc h1).R e w1 base ok (.slice (some ⟨g, 0, none⟩) xs.length cap) (xs.take off ++ ys.take (min m (xs.length - off)) ++ xs.drop (off + min m (xs.length - off))) → Below base w0 w1 → W.grownBy w1 (some g) → wpList P ops Q rest (a.put o.dst (.int .i64 ((min m (xs.length - off) : Nat) : Int))) w1) :
    wpList P ops Q (o :: rest) a W := by
  obtain ⟨w1, hr, hrow, hg⟩ := run_copy_at (P := P) d base t t' o.type e ht hinfo xs ys g cap off c m A ok hoff HO HR
  refine wpList_plain hgd fun K hK => ?_
  unfold Oper.wp execOp
  simp only [ho, resolve, invoke, builtin, Sem.run_bind, Sem.run_pure, Result.andThen_ok, List.map_toArray, List.map_cons, List.map_nil, hs, hx, hr]
  exact hK _ _ (h w1 hrow (HB.grown hg hbase (fun k hk => own_base (own_of_R HO) k (by rw [← hk]; rfl))) hg)
/-- The same as one step of a region that draws its order. -/
theorem step_copy_at {enc : α → Value} {h1 : ∀ x, (enc x).oneCell' = true} {K : Act → World → Prop} {E : Prop} (d : α) {w0 : World} (base : Nat) (hgd : o.guard = none) (s x : Operand) (t t' e : TypeId)
    (ho : o.op = .call { callee := .builtin .copy, args := #[s, x], argTypes := #[t, t'] }) (ht : P.underlying t = some (.slice e)) (hinfo : (P.info? e).map (·.size) = some 1)
    (xs ys : List α) (g cap off m c : Nat) (A : Option Addr) (ok : Nat → Prop) (hoff : off ≤ xs.length) (hs : a.eval s = .slice (some ⟨g, off, none⟩) (xs.length - off) (cap - off)) (hx : a.eval x = .slice A m c)
    (HO : (scalar enc h1).R e W base ok (.slice (some ⟨g, 0, none⟩) xs.length cap) xs) (HR : (scalar enc h1).C W A m ys) (HB : Below base w0 W) (hbase : base ≤ W.heap.size)
    (h : ∀ w1, (scalar enc h1).R e w1 base ok (.slice (some ⟨g, 0, none⟩) xs.length cap) (xs.take off ++ ys.take (min m (xs.length - off)) ++ xs.drop (off + min m (xs.length - off))) → Below base w0 w1 → W.grownBy w1 (some g) → K (a.put o.dst (.int .i64 ((min m (xs.length - off) : Nat) : Int))) w1) :
    if Region.wanted o (yielded ops a.tmps) = true then Oper.wp P o a W K Q else E := by
  have hw : Region.wanted o (yielded ops a.tmps) = true := by simp [Region.wanted, hgd]
  rw [if_pos hw]
  obtain ⟨w1, hr, hrow, hg⟩ := run_copy_at (P := P) d base t t' o.type e ht hinfo xs ys g cap off c m A ok hoff HO HR
  unfold Oper.wp
  simp only [execOp, ho, resolve, invoke, builtin, Sem.run_bind, Sem.run_pure, Result.andThen_ok, List.map_toArray, List.map_cons, List.map_nil, hs, hx, hr]
  exact h w1 hrow (HB.grown hg hbase (fun k hk => own_base (own_of_R HO) k (by rw [← hk]; rfl))) hg
/-! Cuts that tell the new room: l[:n:n], l[1:n:n]. -/
theorem cut_full3 (t e : TypeId) {i : TypeInfo} (ht : P.underlying t = some (.slice e)) (hi : P.info? e = some i) (A : Option Addr) (n c : Nat) (h : n ≤ c) :
    ∀ W : World, (Instr.slice t (.slice A n c) none (some (.int .i64 (n : Int))) (some (.int .i64 (n : Int)))).run P W = .ok (.slice A n n) W := by
  intro W
  have hel : P.elem t = e := by simp [Program.elem, ht]
  have h1 : (n : Int) ≤ (c : Int) := by omega
  have h2 : Option.map (fun x : Addr => x.add 0) A = A := by cases A <;> rfl
  simp [Instr.slice, Instr.sliceBounds, Instr.sliceBound, asIntOf, run_underlying ht, sizeOf, typeInfo, hi, h, h2]
theorem cut_tail3 (t e : TypeId) {i : TypeInfo} (ht : P.underlying t = some (.slice e)) (hi : P.info? e = some i) (size : Nat) (hsz : i.size = size) (A : Option Addr) (n c : Nat) (h0 : 1 ≤ n) (h : n ≤ c) :
    ∀ W : World, (Instr.slice t (.slice A n c) (some (.int .i64 1)) (some (.int .i64 (n : Int))) (some (.int .i64 (n : Int)))).run P W = .ok (.slice (if n = 1 then A else A.map (·.add (1 * size))) (n - 1) (n - 1)) W := by
  intro W
  have h1 : (n : Int) ≤ (c : Int) := by omega
  have h2 : (1 : Int) ≤ (n : Int) := by omega
  simp [Instr.slice, Instr.sliceBounds, Instr.sliceBound, asIntOf, run_underlying ht, sizeOf, typeInfo, hi, h, h2, hsz]
/-- append onto a row that came in and has no room: a new row. -/
theorem run_append_full (W : World) (base : Nat) (t ty e : TypeId) (i : TypeInfo) (z : Value) (size bytes : Nat) (ht : P.underlying t = some (.slice e)) (hi : P.info? e = some i) (hz : i.zero = some z)
    (hsize : i.size = size) (hby : i.bytes = bytes) (hzs : z.cells.size = size) (A : Option Addr) (n : Nat) (xs : List Value) (hl0 : xs.length = n * size)
    (holds : A = none ∧ n = 0 ∨ ∃ ad, A = some ad ∧ ∀ j u, xs[j]? = some u → W.cell? (ad.add j) = some u)
    (a : Addr) (m c : Nat) (news : List Value) (hl : news.length = m * size) (hnews : ∀ j u, news[j]? = some u → W.cell? (a.add j) = some u) (hm : 0 < m)
    (h63 : n + m ≤ maxLen) (hbytes : (n + m) * bytes ≤ 140737488355328) (hbase : base ≤ W.heap.size) :
    ∃ v1 w1, (Builtin.append_ #[t, t] ty #[.slice A n n, .slice (some a) m c]).run P W = .ok v1 w1 ∧ w1.ownsRow base e size v1 (n + m) (xs ++ news) ∧ W.grownBy w1 none ∧ v1.ownBlock = some W.heap.size := by
  subst hsize
  subst hby
  have hsmall : n + m ≤ 9223372036854775807 := by simp only [maxLen] at h63; omega
  have hlen : (xs ++ news).length = (n + m) * i.size := by rw [List.length_append, hl0, hl, Nat.add_mul]
  have hge := grownCap_ge W (n + m) n e
  have hcm : grownCap W (n + m) n e ≤ maxLen := grownCap_le_maxLen W (n + m) n e h63
  have grown : (W.drew.alloc (.cells (xs.toArray ++ news.toArray ++ Builtin.zeroCells z.cells (grownCap W (n + m) n e - (n + m))) e)).ownsRow base e i.size (.slice (some ⟨W.heap.size, 0, none⟩) (n + m) (grownCap W (n + m) n e)) (n + m) (xs ++ news) ∧
      W.grownBy (W.drew.alloc (.cells (xs.toArray ++ news.toArray ++ Builtin.zeroCells z.cells (grownCap W (n + m) n e - (n + m))) e)) none := by
    refine ⟨⟨hlen, .inr ⟨W.heap.size, _, _, rfl, hbase, heap_alloc_new W.drew _, hge, hcm, ?_, ?_⟩⟩, ⟨rfl, rfl, rfl, by simp, fun k hk _ => heap_alloc_old W.drew _ hk⟩⟩
    · simp only [Array.size_append, List.size_toArray, size_zeroCells, hzs, hl0, hl, ← Nat.add_mul]
      congr 1
      omega
    · simp only [Array.toList_append, List.append_assoc]
      rw [← List.append_assoc, ← hlen]
      exact List.take_left
  rcases holds with ⟨rfl, rfl⟩ | ⟨ad, rfl, hc⟩
  · have hx : xs = [] := List.eq_nil_of_length_eq_zero (by simpa using hl0)
    subst hx
    have hr := run_append_nil (P := P) W t ty e i z ht hi hz a m c news hl hnews hm (by omega) (by have hb := hbytes; simp only [Nat.zero_add] at hb; omega)
    simp only [Nat.zero_add, List.nil_append, Array.empty_append] at grown ⊢
    exact ⟨_, _, hr, grown.1, grown.2, rfl⟩
  · have hr := run_append_grow (P := P) W t ty e i z ht hi hz ad n n xs hl0 hc a m c news hl hnews (by omega) (by omega) (growslice_fits (by omega) hbytes)
    exact ⟨_, _, hr, grown.1, grown.2, rfl⟩
theorem step_append_full {Kc : Act → World → Prop} (d : Kd α) {w0 W : World} (base : Nat) (hw : Region.wanted o (yielded ops a.tmps) = true) (s x : Operand) (t e : TypeId) (z : Value) (bytes : Nat)
    (ho : o.op = .call { callee := .builtin .append, args := #[s, x], argTypes := #[t, t] })
    (ht : P.underlying t = some (.slice e)) (hinfo : (P.info? e).map (fun i => (i.zero, i.size, i.bytes)) = some (some z, d.sz, bytes)) (hz : z.cells.size = d.sz) (hs0 : 0 < d.sz) (hb0 : 0 < bytes)
    (A : Option Addr) (xs : List α) (p : α) (cs : List Value) (ok : Nat → Prop) (hs : a.eval s = .slice A xs.length xs.length) (hx : a.eval x = .slice (some ⟨W.heap.size, 0, none⟩) 1 1)
    (hflat : ∀ W x cs, d.K W x cs → ∀ w b okp, d.M w b okp x cs) (hp : ∀ w b okp, d.M w b okp p cs) (hfresh : ∀ k, W.heap.size ≤ k → ok k)
    (HC : d.C W A xs.length xs) (HB : Below base w0 W) (hbase : base ≤ W.heap.size) (hl : (xs.length + 1) * bytes ≤ 140737488355328)
    (h : ∀ v1 w1, d.R e w1 base ok v1 (xs ++ [p]) → Below base w0 w1 → W.grownBy w1 (Value.slice none 0 0).ownBlock → (v1.ownBlock = (Value.slice none 0 0).ownBlock ∨ ∃ b, v1.ownBlock = some b ∧ W.heap.size ≤ b) → Kc (a.put o.dst v1) w1) :
    if Region.wanted o (yielded ops a.tmps) = true then Oper.wp P o a (W.alloc (.cells cs.toArray e)) Kc Q else Kc (a.put o.dst undef) (W.alloc (.cells cs.toArray e)) := by
  obtain ⟨i0, hi, hzz⟩ := Option.map_eq_some_iff.1 hinfo
  simp only [Prod.mk.injEq] at hzz
  obtain ⟨hz0, hz1, hz2⟩ := hzz
  have hlen : xs.length + 1 ≤ 140737488355328 := Nat.le_trans (Nat.le_mul_of_pos_right _ hb0) hl
  have hcs : cs.length = d.sz := d.K_len (d.K_of_M (hp W base ok))
  rw [if_pos hw]
  have HC1 : d.C (W.alloc (.cells cs.toArray e)) A xs.length xs := C_alloc HC _
  have hin : ∃ inner : List Value, inner.length = xs.length * d.sz ∧ (A = none ∧ xs.length = 0 ∨ ∃ ad, A = some ad ∧ ∀ j u, inner[j]? = some u → (W.alloc (.cells cs.toArray e)).cell? (ad.add j) = some u) ∧ Reps (fun x cs => ∀ w b okp, d.M w b okp x cs) d.sz xs inner := by
    rcases A with _ | ad
    · have h0 : xs.length = 0 := by
        rcases Nat.eq_zero_or_pos xs.length with h0 | h0
        · exact h0
        · obtain ⟨ad, h, _⟩ := HC.2.2 h0
          cases h
      obtain rfl := List.eq_nil_of_length_eq_zero h0
      exact ⟨[], by simp, .inl ⟨rfl, rfl⟩, Reps.none _ _⟩
    · obtain ⟨news1, hnr1, hnc1⟩ := ReadsRow.inner_ HC1
      exact ⟨news1, hnr1.1, .inr ⟨ad, rfl, hnc1⟩, hnr1.imp_ (fun x cs hq => hflat _ x cs hq)⟩
  obtain ⟨inner, hil, hih, hir⟩ := hin
  obtain ⟨v1, w1, hr, hown, hg, hat⟩ := run_append_full (P := P) (W.alloc (.cells cs.toArray e)) base t o.type e i0 z d.sz bytes ht hi hz0 hz1 hz2 hz A xs.length inner hil hih ⟨W.heap.size, 0, none⟩ 1 1 cs (by rw [hcs]; simp)
    (by simpa using World.news_of_block (cs := cs.toArray) (t := e) (fr := (0, 0)) (heap_alloc_new W (.cells cs.toArray e))) (by decide) (by simp only [maxLen]; omega) hl (by simp; omega)
  unfold Oper.wp execOp
  simp only [ho, resolve, invoke, builtin, Sem.run_bind, Sem.run_pure, Result.andThen_ok, List.map_toArray, List.map_cons, List.map_nil, hs, hx, hr]
  refine h v1 w1 ⟨fun k hk => ?_, inner ++ cs, by rw [List.length_append]; exact hown, reps_append (hir.imp_ (fun _ _ hq => hq _ _ _)) ?_⟩ ((HB.alloc hbase _).grown hg (by simp; omega) (fun k hk => by cases hk)) (World.grownBy.trans (World.grownBy_alloc W _ _) hg) (.inr ⟨_, hat, by simp⟩)
  · rw [hat] at hk
    injection hk with hk
    exact hfresh k (by rw [← hk]; simp)
  · refine ⟨by simp [hcs], fun j q hj => ?_⟩
    cases j with
    | succ j => simp at hj
    | zero =>
      simp only [List.getElem?_cons_zero, Option.some.injEq] at hj
      subst hj
      rw [Nat.zero_mul, List.drop_zero, List.take_of_length_le (by omega)]
      exact hp _ _ _
/-- copy of a whole row onto a row of one's own that is as long. -/
theorem R_copy_all (d : Kd α) {Rr : α → List Value → Prop} {w0 : World} (base : Nat) (hgd : o.guard = none) (s x : Operand) (t e : TypeId)
    (ho : o.op = .call { callee := .builtin .copy, args := #[s, x], argTypes := #[t, t] }) (ht : P.underlying t = some (.slice e)) (hinfo : (P.info? e).map (·.size) = some d.sz) (hs0 : 0 < d.sz)
    (v : Value) (ys xs : List α) (A : Option Addr) (m c : Nat) (ok okp : Nat → Prop) (hs : a.eval s = v) (hx : a.eval x = .slice A m c) (hlen : ys.length = xs.length)
    (HO : d.R e W base ok v ys) (HR : ReadsRow Rr d.sz W A m xs) (hKM : ∀ x cs, Rr x cs → d.M W base okp x cs) (hokp : ∀ k, okp k → ok k ∧ some k ≠ v.ownBlock) (HB : Below base w0 W) (hbase : base ≤ W.heap.size)
    (h : ∀ w1, d.R e w1 base ok v xs → Below base w0 w1 → W.grownBy w1 v.ownBlock → wpList P ops Q rest (a.put o.dst (.int .i64 (xs.length : Int))) w1) : wpList P ops Q (o :: rest) a W := by
  obtain ⟨i0, hi, hz1⟩ := Option.map_eq_some_iff.1 hinfo
  have hm : xs.length = m := HR.1
  obtain ⟨hok, inner, hown, hr⟩ := HO
  have hrun : ∃ w1, (Builtin.copy_ #[t, t] o.type #[v, .slice A m c]).run P W = .ok (goInt ((xs.length : Nat) : Int)) w1 ∧ d.R e w1 base ok v xs ∧ W.grownBy w1 v.ownBlock := by
    rcases hown.2 with ⟨rfl, hy0⟩ | ⟨g, cap, cur, rfl, hb, hh, hnc, hcm, hcs, htake⟩
    · have h0 : xs.length = 0 := by omega
      obtain rfl := List.eq_nil_of_length_eq_zero h0
      have hm0 : m = 0 := by simpa using hm.symm
      subst hm0
      obtain rfl : ys = [] := List.eq_nil_of_length_eq_zero (by simpa using hlen)
      refine ⟨W, ?_, ⟨hok, inner, hown, hr⟩, World.grownBy.refl W _⟩
      cases A with
      | none => simp [Builtin.copy_, run_underlying ht, Builtin.lenOf, Builtin.firstCells, sizeOf, typeInfo, hi]
      | some ad =>
        have hl0 : (loadCells ad 0).run P W = .ok #[] W := run_loadCells_list W ad [] (fun j v h => by simp at h)
        simp [Builtin.copy_, run_underlying ht, Builtin.lenOf, Builtin.firstCells, sizeOf, typeInfo, hi, hl0]
    · rcases A with _ | ad
      · have h0 : m = 0 := by
          rcases Nat.eq_zero_or_pos m with h0 | h0
          · exact h0
          · obtain ⟨ad, h, _⟩ := HR.2.2 h0
            cases h
        subst h0
        obtain rfl := List.eq_nil_of_length_eq_zero hm
        obtain rfl : ys = [] := List.eq_nil_of_length_eq_zero (by simpa using hlen)
        refine ⟨W, ?_, ⟨hok, inner, hown, hr⟩, World.grownBy.refl W _⟩
        simp [Builtin.copy_, run_underlying ht, Builtin.lenOf, Builtin.firstCells, sizeOf, typeInfo, hi, storeCells]
      · obtain ⟨news, hnr, hnc1⟩ := ReadsRow.inner_ HR
        have hnM : Reps (d.M W base okp) d.sz xs news := hnr.imp_ (fun p c hp => hKM p c hp)
        have hone : ∀ u ∈ news, u.oneCell' = true := by
          intro u hu
          obtain ⟨q, hq, rfl⟩ := List.mem_iff_getElem.1 hu
          have hql : q / d.sz < xs.length := by
            rw [Nat.div_lt_iff_lt_mul hs0]
            rw [← hnM.1]
            exact hq
          have hc := hnM.2 (q / d.sz) _ (List.getElem?_eq_getElem hql)
          refine d.K_one (d.K_of_M hc) _ ?_
          rw [List.mem_iff_getElem?]
          refine ⟨q % d.sz, ?_⟩
          rw [List.getElem?_take, if_pos (Nat.mod_lt _ hs0), List.getElem?_drop, Nat.mul_comm, Nat.div_add_mod, List.getElem?_eq_getElem hq]
        have hnl : news.length = xs.length * d.sz := hnM.1
        have hfit : 0 + 0 + news.length ≤ cur.size := by
          rw [hcs, hnl, ← hlen]
          have := Nat.mul_le_mul_right d.sz hnc
          omega
        have hld := run_loadCells_list (P := P) W ad news hnc1
        have hst := run_storeCells_at P g 0 e news 0 cur W hh hfit hone
        have hg : W.grownBy (W.setRow g (cur.toList.take (0 + 0) ++ news ++ cur.toList.drop (0 + 0 + news.length)).toArray) (some g) :=
          ⟨rfl, rfl, rfl, by simp [World.setRow], fun k _ hk => setRow_other W g k _ (fun e => hk (by rw [e]))⟩
        refine ⟨W.setRow g (cur.toList.take (0 + 0) ++ news ++ cur.toList.drop (0 + 0 + news.length)).toArray, ?_, ⟨hok, news, ⟨hnl, .inr ⟨g, cap, _, by rw [hlen], hb, setRow_heap W g cur _ e (0, 0) hh, by rw [← hlen]; exact hnc, hcm, ?_, ?_⟩⟩, ?_⟩, hg⟩
        · have hmin : Nat.min m ys.length = xs.length := by rw [hlen, hm]; exact Nat.min_self _
          rw [hnl] at hld
          simp [Builtin.copy_, run_underlying ht, Builtin.lenOf, Builtin.firstCells, sizeOf, typeInfo, hi, hz1, hmin, hld, hst]
        · rw [← hcs]
          simp
          simp at hfit
          omega
        · simp [← hnl]
        · refine hnM.imp_ (fun p cs hp => ?_)
          exact d.M_mono (fun k hk => hokp k hk) (M_grown hp hg (fun k hk => (hokp k hk).2))
  obtain ⟨w1, hr1, hR1, hg1⟩ := hrun
  refine wpList_plain hgd fun K hK => ?_
  unfold Oper.wp execOp
  simp only [ho, resolve, invoke, builtin, Sem.run_bind, Sem.run_pure, Result.andThen_ok, List.map_toArray, List.map_cons, List.map_nil, hs, hx, hr1]
  exact hK _ _ (h w1 hR1 (HB.grown hg1 hbase (fun k hk => own_base hown k hk)) hg1)
/-- A row that is read lies in its blocks. -/
theorem V_away {d : Kd α} {e : Nat} {base n c g : Nat} {ok : Nat → Prop} {ad : Addr} {xs : List α} (hn : 0 < n) (hs : 0 < d.sz) (h : V d e W base ok (.slice (some ad) n c) xs) (hok : ∀ k, ok k → k ≠ g) : some g ≠ (Value.slice (some ad) n c).ownBlock := by
  intro he
  have hb : g = ad.block := by simpa [Value.ownBlock] using he
  obtain ⟨hl, _, hf⟩ := V_at h
  have hC := hf { W with heap := W.heap.setIfInBounds g (.cells #[] 0) } (fun k hk _ => by
    show (W.heap.setIfInBounds g (.cells #[] 0))[k]? = _
    rw [Array.getElem?_setIfInBounds_ne (fun hh => hok k hk hh.symm)])
  obtain ⟨ad', e1, q⟩ := hC.2.2 (by omega)
  cases e1
  obtain ⟨cs, hcs, _, hcell⟩ := q 0 _ (List.getElem?_eq_getElem (by omega : 0 < xs.length))
  have hu := hcell 0 _ (List.getElem?_eq_getElem (by omega : 0 < cs.length))
  have hlt := World.block_lt_of_cell? _ _ hu
  have hz : World.cell? { W with heap := W.heap.setIfInBounds g (.cells #[] 0) } (ad.add (0 * d.sz + 0)) = none := by
    have hbl : (ad.add (0 * d.sz + 0)).block = g := by rw [hb]; exact add_block _ _
    unfold World.cell?
    rw [hbl]
    by_cases hg : g < W.heap.size
    · simp [hg]
    · simp [hg]
  rw [hz] at hu
  cases hu
/-- A whole struct or array is loaded from its block. -/
theorem load_whole {d : TypeDesc} {t : TypeId} {cs : Array Value} {fr : Nat × Nat} (ty : TypeId) (x : Operand) (g : Nat) (hw : Region.wanted o (yielded ops a.tmps) = true) (ho : o.op = .load ty x) (hx : a.eval x = .pointer (some ⟨g, 0, none⟩))
    (hg : W.heap[g]? = some (.cells cs t fr)) (hu : P.underlying ty = some d) (hd : (match d with | .struct _ | .array _ _ => true | _ => false) = true) (hi : (P.info? ty).map (·.size) = some cs.size)
    (h : wpList P ops Q rest (a.put o.dst (.agg cs)) W) : wpList P ops Q (o :: rest) a W :=
  BigFrame.wpList_want hw fun _ hK => wp_load_row ty x ho g hx t cs fr d hg hu hd hi (hK _ _ h)
/-- The operation is this store. -/
theorem gate_store {ty : TypeId} {x y : Operand} (_ho : o.op = .store ty x y) (h : wpList P ops Q (o :: rest) a W) : wpList P ops Q (o :: rest) a W := h
/-- A whole struct or array is stored into its block. -/
theorem store_whole {t : TypeId} {old : Array Value} (ty : TypeId) (x y : Operand) (g : Nat) (vs : Array Value) (hgd : o.guard = none) (ho : o.op = .store ty x y) (hx : a.eval x = .pointer (some ⟨g, 0, none⟩)) (hy : a.eval y = .agg vs)
    (hg : W.heap[g]? = some (.cells old t (0, 0))) (hi : (P.info? ty).map (·.size) = some vs.size) (hold : old.size = vs.size) (h1 : vs.all (·.oneCell') = true)
    (h : ∀ w1, w1.heap[g]? = some (.cells vs t (0, 0)) → (∀ (w0 : World) (B : Nat), B ≤ g → Below B w0 W → Below B w0 w1) → wpList P ops Q rest (a.put o.dst undef) w1) : wpList P ops Q (o :: rest) a W :=
  wpList_store_row hgd ty x y ho g vs hx hy t old hg hi hold h1 (h _ (setRow_heap W g old vs t (0, 0) hg) (fun _ _ hB hb => below_setRow hb hB vs))
/-- A whole struct or array is loaded, in any world that holds it. -/
theorem yield_whole {d : TypeDesc} {t : TypeId} {cs : Array Value} {fr : Nat × Nat} (ty : TypeId) (x : Operand) (g : Nat) (ho : o.op = .load ty x) (hx : a.eval x = .pointer (some ⟨g, 0, none⟩))
    (hg : W.heap[g]? = some (.cells cs t fr)) (hu : P.underlying ty = some d) (hd : (match d with | .struct _ | .array _ _ => true | _ => false) = true) (hi : (P.info? ty).map (·.size) = some cs.size) :
    (execOp a.eval o).run P W = .ok (.value (.agg cs)) W := by
  unfold execOp
  simp only [ho, hx, Instr.loadAt, Instr.sureAddr, Sem.run_bind, Sem.run_pure, Result.andThen_ok, run_loadVar_row W g t ty cs fr d hg hu hd hi]
/-- The operation calls a function value. -/
theorem gate_dyn {d : Nat} {as : Array Operand} {ts : Array TypeId} (_ho : o.op = .call { callee := .value (.tmp d), args := as, argTypes := ts }) (h : wpList P ops Q (o :: rest) a W) : wpList P ops Q (o :: rest) a W := h
theorem enters_ {f : FuncId} {fn : Func} (hf : P.funcs[f]? = some fn) (hname : (fn.name == "runtime.NumGoroutine") = false) (hb : fn.body.isSome = true) (args : Array Value) (w : World) : (callFunc f args).run P w = .ok (.enter f args) w := by
  have h1 : fn.name ≠ "runtime.NumGoroutine" := by simpa using hname
  obtain ⟨c, hc⟩ := Option.isSome_iff_exists.1 hb
  simp [callFunc, hf, h1, hc]
/-- A call of a function value that holds no captured values. -/
theorem goesD_ {rest : List Oper} {oi : Oper} {a : Act} {w : World} {d : Nat} {f : FuncId} (N : Option Tmp) (hd : oi.dst = N) (hg : oi.guard = none) {fn : Func} {as : Array Operand} {ts : Array TypeId} (hf : P.funcs[f]? = some fn) (hname : (fn.name == "runtime.NumGoroutine") = false) (hb : fn.body.isSome = true) (args : Array Value)
    (hop : oi.op = .call { callee := .value (.tmp d), args := as, argTypes := ts }) (hv : a.eval (.tmp d) = .func (.func f) #[] #[]) (hargs : as.map a.eval = args)
    (h : Calls P f args w fun e w' => ∃ v, e = .returned v ∧ wpList P ops Q rest (a.put N v) w') : wpList P ops Q (oi :: rest) a w := by
  refine wpList_plain hg fun K hK => ?_
  have he := enters_ hf hname hb args w
  have hrun : (execOp a.eval oi).run P w = .ok (.enter f args) w := by
    unfold execOp
    simp [hop, resolve, Deferred.ofValue, invoke, hv, hargs, he]
  unfold Oper.wp
  rw [hrun, Oper.upon_enter]
  refine h.mono fun e w'' hh => ?_
  obtain ⟨v, rfl, hk⟩ := hh
  subst hd
  exact hK _ _ hk
/-- A call of a function value that holds captured values. -/
theorem goesC_ {rest : List Oper} {oi : Oper} {a : Act} {w : World} {d : Nat} {f : FuncId} (N : Option Tmp) (hd : oi.dst = N) (hg : oi.guard = none) {fn : Func} {as : Array Operand} {ts : Array TypeId} (hf : P.funcs[f]? = some fn) (hname : (fn.name == "runtime.NumGoroutine") = false) (hb : fn.body.isSome = true) (args caps : Array Value)
    (hop : oi.op = .call { callee := .value (.tmp d), args := as, argTypes := ts }) (hv : a.eval (.tmp d) = .func (.func f) #[] caps) (hargs : as.map a.eval = args)
    (h : Calls P f (args ++ caps) w fun e w' => ∃ v, e = .returned v ∧ wpList P ops Q rest (a.put N v) w') : wpList P ops Q (oi :: rest) a w := by
  refine wpList_plain hg fun K hK => ?_
  have he := enters_ hf hname hb (args ++ caps) w
  have hrun : (execOp a.eval oi).run P w = .ok (.enter f (args ++ caps)) w := by
    unfold execOp
    simp [hop, resolve, Deferred.ofValue, invoke, hv, hargs, he]
  unfold Oper.wp
  rw [hrun, Oper.upon_enter]
  refine h.mono fun e w'' hh => ?_
  obtain ⟨v, rfl, hk⟩ := hh
  subst hd
  exact hK _ _ hk
end
end Go.Proofs.Ytmkipjmadmjfaaa.Cp

