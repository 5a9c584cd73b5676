/- slices.Clone: told by its answer alone, for it asks whether its argument is nil. -/
import Derived.Test.YthanlobfjpjegaaC2
import Derived.Lib.SliceRun
namespace Go.Proofs.Ythanlobfjpjegaa.Abs
open Go Go.RowKit
set_option linter.unusedVariables false
set_option linter.unusedSimpArgs false
set_option linter.unnecessarySimpa false

section
variable {P : Program} {f : Nat} {fn : Func} {ty E : TypeId} {i : TypeInfo} {z : List T} {r0 r1 r2 r3 : Nat} {o0 o1 o2 o3 o4 o5 o6 o7 : Oper} {t2 : TypeId}
theorem Inv.allocX {B : Nat} {W0 w : World} {Z0 Z : Nat → Nat → Prop} {g : Mem} {μ : Nat → Option Loc} (h : Inv B W0 Z0 g w Z μ) (ob : Obj) : Inv B W0 Z0 g (w.alloc ob) Z μ := by
  have hsz : (w.alloc ob).heap.size = w.heap.size + 1 := by simp
  refine ⟨h.bel.alloc h.base _, by rw [hsz]; have := h.base; omega, fun b o hb => by rw [hsz]; have := h.zin b o hb; omega, h.zold, fun u cu hu => ?_, h.dis⟩
  obtain ⟨mu, k1, k2, k3, k4, k5, k6, k7⟩ := h.blk u cu hu
  exact ⟨mu, k1, k2, by rw [hsz]; omega, k4, World.there_alloc k5 _, k6, k7.mono (ZLe.alloc h.zin _) MLe.refl fun i hi => World.cell?_alloc_lt _ _ _ k3⟩
theorem wpOp_goes {ops : Array Oper} {j : Nat} {o : Oper} {v : Value} {a : Act} {w w' : World} {Q : Exit → Act → World → Prop} {K : Act → World → Prop} (ho : ops[j]? = some o) (hg : o.guard = none) (h : Goes P o a w v w') (hk : K (a.put o.dst v) w') : wpOp P ops Q j K a w := by
  unfold wpOp
  simp only [ho, Region.wanted, hg, if_true]
  exact .inl (h _ _ hk)
theorem region1 {id : Nat} {o : Oper} {v : Value} {a : Act} {w : World} {Q : Exit → Act → World → Prop} (hg : o.guard = none) (h : Goes P o a w v w) (hq : Q .normal (a.put o.dst v) w) : (Code.region id #[o] false).wp P Q a w := by
  refine wp_region ?_
  have : List.range (#[o] : Array Oper).size = [0] := rfl
  rw [this, wpOps_cons]
  exact wpOp_goes (o := o) rfl hg h hq
theorem region2 {id : Nat} {o o' : Oper} {v v' : Value} {a : Act} {w : World} {Q : Exit → Act → World → Prop} (hg : o.guard = none) (hg' : o'.guard = none) (h : Goes P o a w v w) (h' : Goes P o' (a.put o.dst v) w v' w) (hq : Q .normal ((a.put o.dst v).put o'.dst v') w) : (Code.region id #[o, o'] false).wp P Q a w := by
  refine wp_region ?_
  have : List.range (#[o, o'] : Array Oper).size = [0, 1] := rfl
  rw [this, wpOps_cons]
  refine wpOp_goes (o := o) rfl hg h ?_
  rw [wpOps_cons]
  exact wpOp_goes (o := o') rfl hg' h' hq

theorem clone_ok (hf : P.funcs[f]? = some fn)
    (hb : fn.body = some (Code.seq (.region r0 #[o0] false) (.seq (.seq (.region r1 #[o1, o2] false) (.cond (.tmp 4) (.seq (.region r2 #[o3] false) .ret) .skip)) (.seq (.region r3 #[o4, o5, o6, o7] false) .ret))))
    (h0 : o0.op = .assign (.const (.slice none 0 0)) ∧ o0.dst = some 2 ∧ o0.guard = none) (h1 : o1.op = .move (.tmp 0) ∧ o1.dst = some 3 ∧ o1.guard = none)
    (h2 : o2.op = .binOp .eql ty (.tmp 3) (.const (.slice none 0 0)) t2 ∧ o2.dst = some 4 ∧ o2.guard = none) (h3 : o3.op = .assign (.const (.slice none 0 0)) ∧ o3.dst = some 2 ∧ o3.guard = none)
    (h4 : o4.op = .buildSlice ty 0 #[] ∧ o4.dst = some 5 ∧ o4.guard = none) (h5 : o5.op = .move (.tmp 0) ∧ o5.dst = some 6 ∧ o5.guard = none)
    (h6 : o6.op = .call { callee := .builtin .append, args := #[.tmp 5, .tmp 6], argTypes := #[ty, ty] } ∧ o6.dst = some 7 ∧ o6.guard = none) (h7 : o7.op = .assign (.tmp 7) ∧ o7.dst = some 2 ∧ o7.guard = none)
    (hn : fn.ntmps = 8) (hr : fn.results = #[.tmp 2]) (hT : P.underlying ty = some (.slice E)) (hz : zc P E = some z) (hi : P.info? E = some i) : CloneOk P f i.size i.bytes := by
  intro B W0 Z0 g w Z μ fr x v n c rd hinv hfr hvx hcl c1 c2 c3 c4
  obtain ⟨i', zv, z1, z2, z3, hpos, z5⟩ := zc_ok hz
  obtain rfl : i' = i := by rw [hi] at z1; exact (Option.some.inj z1).symm
  obtain ⟨a, cap, news, rfl, k2, k3, k4, k5, k6⟩ := src_ok hinv hcl hvx hpos c1 c2
  refine calls_of_wp hf hb ?_
  have htm : (#[Value.slice a n cap] ++ Array.replicate (fn.ntmps - (#[Value.slice a n cap] : Array Value).size) Go.undef) = #[.slice a n cap, Go.undef, Go.undef, Go.undef, Go.undef, Go.undef, Go.undef, Go.undef] := by rw [hn]; rfl
  rw [htm]
  have hres2 : ∀ (a : Act) (w : World), (results fn a.tmps).run P w = .ok (a.tmps.getD 2 Go.undef) w := fun a w => by
    have hl : (#[ResultVar.tmp 2] : Array ResultVar) = [ResultVar.tmp 2].toArray := rfl
    rw [results_eq, hr, hl, List.mapM_toArray]
    simp [resF]
  have nilcase : ∀ {o : Oper} {a' : Act}, o.op = .assign (.const (.slice none 0 0)) → Goes P o a' w (.slice none 0 0) w := fun {o a'} ho => goes_value (by unfold execOp; rw [ho]; rfl)
  have hnil : ∀ {w : World}, VR w Z μ (.imm true 0 []) (.slice none 0 0) := fun {w} => by simp only [VR, VI]; exact ⟨none, 0, rfl, Nat.le_refl _, by simp, .inl trivial⟩
  have hu : ∀ {w : World}, VR w Z μ .undef Go.undef := fun {w} => by simp only [VR, VI]
  refine wp_seq (region1 h0.2.2 (nilcase h0.1) ?_)
  rw [h0.2.1]
  refine wp_seq (wp_seq (region2 (v := .slice a n cap) (v' := .bool a.isNone) h1.2.2 h2.2.2 (goes_value ?_) (goes_value ?_) ?_))
  · unfold execOp; rw [h1.1]; rfl
  · unfold execOp; rw [h2.1, h1.2.1]
    have he : (binOp .eql ty (.slice a n cap) (.slice none 0 0)).run P w = .ok (.bool a.isNone) w := Lib.run_eql_slice_nil w ty E a n cap 0 0 hT
    have hgd : (eqGuard .eql ty (.tmp 3) (.const (.slice none 0 0)) (.slice a n cap) (.slice none 0 0)).run P w = .ok () w := by simp [eqGuard]
    have h4' : (do eqGuard .eql ty (.tmp 3) (.const (.slice none 0 0)) (.slice a n cap) (.slice none 0 0); binOp .eql ty (.slice a n cap) (.slice none 0 0) : Sem Value).run P w = .ok (.bool a.isNone) w := by
      rw [Sem.run_bind, hgd, Result.andThen_ok, he]
    exact run_v h4'
  · rw [h1.2.1, h2.2.1]
    cases ha : a with
    | none =>
      refine wp_cond_true (by simp [Act.eval, Act.put, ha]) (wp_seq (region1 h3.2.2 (nilcase h3.1) (wp_ret ?_)))
      have hn0 : n = 0 := by
        rcases Nat.eq_zero_or_pos n with h | h
        · exact h
        · obtain ⟨b, p, e⟩ := k4 h; rw [ha] at e; cases e
      subst hn0
      rw [h3.2.1]
      refine ⟨rfl, .slice none 0 0, by rw [hres2]; rfl, .slice none 0 0, μ, rfl, by rw [if_pos rfl]; exact hnil, by rw [if_pos rfl]; exact hinv, ZLe.refl, MLe.refl, fun _ _ => rfl⟩
    | some ad =>
      rw [ha] at hvx
      refine wp_cond_false (by simp [Act.eval, Act.put, ha]) (wp_skip ?_)
      refine wp_seq (wp_region ?_)
      have hrange : List.range (#[o4, o5, o6, o7] : Array Oper).size = [0, 1, 2, 3] := rfl
      rw [hrange, wpOps_cons]
      -- an empty slice, in a block of its own
      have g4 : ∀ a' : Act, Goes P o4 a' w (.slice (some ⟨w.heap.size, 0, none⟩) 0 0) (w.alloc (.cells #[] E)) := fun a' => goes_value (by
        unfold execOp; rw [h4.1]
        refine run_v ?_
        have hr0 : Array.range 0 = #[] := rfl
        simp [Instr.buildSlice, run_underlying hT, sizeOf, typeInfo, hi, newRow, hr0, Instr.fill])
      refine wpOp_goes (o := o4) rfl h4.2.2 (g4 _) ?_
      rw [wpOps_cons, h4.2.1]
      refine wpOp_goes (o := o5) rfl h5.2.2 (v := .slice (some ad) n cap) (goes_value (by unfold execOp; rw [h5.1]; rfl)) ?_
      rw [wpOps_cons, h5.2.1]
      have hinv1 := hinv.allocX (.cells #[] E)
      have hz1 : ZLe w (w.alloc (.cells #[] E)) Z Z := ZLe.alloc hinv.zin _
      have hvx1 := VR.mono (w' := w.alloc (.cells #[] E)) hz1 MLe.refl _ _ hvx
      have hem : VR (w.alloc (.cells #[] E)) Z μ (.imm true 0 []) (.slice (some ⟨w.heap.size, 0, none⟩) 0 0) := by simp only [VR, VI]; exact ⟨_, 0, rfl, Nat.le_refl _, by simp, .inl trivial⟩
      have hslots : ∀ (a' : Act), a'.tmps = #[.slice (some ad) n cap, Go.undef, .slice none 0 0, .slice (some ad) n cap, .bool false, .slice (some ⟨w.heap.size, 0, none⟩) 0 0, .slice (some ad) n cap, Go.undef] →
          VRL (w.alloc (.cells #[] E)) Z μ [x, .undef, .imm true 0 [], x, .bool false, .imm true 0 [], x, .undef] a'.tmps.toList := fun a' h => by
        rw [h]
        have hbf : VR (w.alloc (.cells #[] E)) Z μ (.bool false) (.bool false) := by simp only [VR, VI]
        exact ⟨_, _, rfl, hvx1, _, _, rfl, hu, _, _, rfl, hnil, _, _, rfl, hvx1, _, _, rfl, hbf, _, _, rfl, hem, _, _, rfl, hvx1, _, _, rfl, hu, rfl⟩
      have hallnil : allLeaf ([] : List T) = true := rfl
      by_cases hn0 : n = 0
      · subst hn0
        have hc0 : c = [] := List.eq_nil_of_length_eq_zero (by simpa using c1)
        have hop : opRes (.append i'.size i'.bytes (.tmp 5) (.tmp 6)) fr [x, .undef, .imm true 0 [], x, .bool false, .imm true 0 [], x, .undef] g = some ⟨.imm true 0 [], rd, []⟩ := by
          simp [opRes, rho, hcl, hc0]
        obtain ⟨v, w', μ', q1, q2, q3, q4, q5, q6⟩ := append_ok (a := ⟨#[.slice (some ad) 0 cap, Go.undef, .slice none 0 0, .slice (some ad) 0 cap, .bool false, .slice (some ⟨w.heap.size, 0, none⟩) 0 0, .slice (some ad) 0 cap, Go.undef], []⟩) hinv1 hfr (hslots _ rfl) h6.1 rfl rfl hT hT hz hi (sl' := .tmp 5) (x' := .tmp 6) rfl rfl hop
        refine wpOp_goes (o := o6) rfl h6.2.2 q1 ?_
        rw [wpOps_cons, h6.2.1]
        refine wpOp_goes (o := o7) rfl h7.2.2 (v := v) (goes_value (by unfold execOp; rw [h7.1]; rfl)) ?_
        rw [h7.2.1]
        refine wp_ret ⟨rfl, v, by rw [hres2]; rfl, v, μ', rfl, by rw [if_pos rfl]; exact q2, by rw [if_pos rfl]; simpa [putAll] using q3, hz1.trans q4, q5, q6⟩
      · have hsz : (0 + n) * i'.bytes ≤ room ∧ 0 + n ≤ room := by rw [Nat.zero_add]; exact ⟨c3, c4⟩
        have hop : opRes (.append i'.size i'.bytes (.tmp 5) (.tmp 6)) fr [x, .undef, .imm true 0 [], x, .bool false, .imm true 0 [], x, .undef] g = some ⟨.own fr 0 n i'.size, rd, [(fr, some c)]⟩ := by
          simp [opRes, rho, hcl, hn0, c1, c2, c3, c4, hallnil]
        obtain ⟨v, w', μ', q1, q2, q3, q4, q5, q6⟩ := append_ok (a := ⟨#[.slice (some ad) n cap, Go.undef, .slice none 0 0, .slice (some ad) n cap, .bool false, .slice (some ⟨w.heap.size, 0, none⟩) 0 0, .slice (some ad) n cap, Go.undef], []⟩) hinv1 hfr (hslots _ rfl) h6.1 rfl rfl hT hT hz hi (sl' := .tmp 5) (x' := .tmp 6) rfl rfl hop
        refine wpOp_goes (o := o6) rfl h6.2.2 q1 ?_
        rw [wpOps_cons, h6.2.1]
        refine wpOp_goes (o := o7) rfl h7.2.2 (v := v) (goes_value (by unfold execOp; rw [h7.1]; rfl)) ?_
        rw [h7.2.1]
        refine wp_ret ⟨rfl, v, by rw [hres2]; rfl, v, μ', rfl, by rw [if_neg hn0]; exact q2, by rw [if_neg hn0]; simpa [putAll] using q3, hz1.trans q4, q5, q6⟩
theorem clone_ok2 {es bytes : Nat} (hf : P.funcs[f]? = some fn)
    (hb : fn.body = some (Code.seq (.region r0 #[o0] false) (.seq (.seq (.region r1 #[o1, o2] false) (.cond (.tmp 4) (.seq (.region r2 #[o3] false) .ret) .skip)) (.seq (.region r3 #[o4, o5, o6, o7] false) .ret))))
    (h0 : o0.op = .assign (.const (.slice none 0 0)) ∧ o0.dst = some 2 ∧ o0.guard = none) (h1 : o1.op = .move (.tmp 0) ∧ o1.dst = some 3 ∧ o1.guard = none)
    (h2 : o2.op = .binOp .eql ty (.tmp 3) (.const (.slice none 0 0)) t2 ∧ o2.dst = some 4 ∧ o2.guard = none) (h3 : o3.op = .assign (.const (.slice none 0 0)) ∧ o3.dst = some 2 ∧ o3.guard = none)
    (h4 : o4.op = .buildSlice ty 0 #[] ∧ o4.dst = some 5 ∧ o4.guard = none) (h5 : o5.op = .move (.tmp 0) ∧ o5.dst = some 6 ∧ o5.guard = none)
    (h6 : o6.op = .call { callee := .builtin .append, args := #[.tmp 5, .tmp 6], argTypes := #[ty, ty] } ∧ o6.dst = some 7 ∧ o6.guard = none) (h7 : o7.op = .assign (.tmp 7) ∧ o7.dst = some 2 ∧ o7.guard = none)
    (hn : fn.ntmps = 8) (hr : fn.results = #[.tmp 2]) (hT : P.underlying ty = some (.slice E)) (hz : (zc P E).isSome = true) (hi : (P.info? E).map (fun i => (i.size, i.bytes)) = some (es, bytes)) : CloneOk P f es bytes := by
  cases hz' : zc P E with
  | none => rw [hz'] at hz; cases hz
  | some z =>
    cases hi' : P.info? E with
    | none => rw [hi'] at hi; cases hi
    | some i =>
      rw [hi'] at hi
      simp at hi
      obtain ⟨rfl, rfl⟩ := hi
      exact clone_ok hf hb h0 h1 h2 h3 h4 h5 h6 h7 hn hr hT hz' hi'
end
end Go.Proofs.Ythanlobfjpjegaa.Abs
