/- Each operation of the model does what the plain machine's does. -/
import Derived.Test.YthanlobfjpjegaaA5
namespace Go.Proofs.Ythanlobfjpjegaa.Abs
open Go Go.RowKit
set_option linter.unusedVariables false
set_option linter.unusedSimpArgs false

def OpOk (P : Program) (o : Oper) (a : Act) (B : Nat) (W0 : World) (Z0 : Nat → Nat → Prop) (g : Mem) (w : World) (Z : Nat → Nat → Prop) (μ : Nat → Option Loc) (fr : Nat) (r : Res) : Prop :=
  ∃ v w' μ', Goes P o a w v w' ∧ VR w' Z μ' r.v v ∧ Inv B W0 Z0 (putAll g r.ed) w' Z μ' ∧ ZLe w w' Z Z ∧ MLe μ μ' ∧ ∀ u, u ≠ fr → μ' u = μ u

section
variable {P : Program} {o : Oper} {a : Act} {B : Nat} {W0 w : World} {Z0 Z : Nat → Nat → Prop} {g : Mem} {μ : Nat → Option Loc} {fr : Nat} {r : Res} {s : List T}

theorem opok_quiet (hi : Inv B W0 Z0 g w Z μ) {v : Value} {x : T} {rd : List Nat} (hg : Goes P o a w v w) (hv : VR w Z μ x v) : OpOk P o a B W0 Z0 g w Z μ fr ⟨x, rd, []⟩ :=
  ⟨v, w, μ, hg, hv, hi, ZLe.refl, MLe.refl, fun _ _ => rfl⟩

theorem asg_ok (hi : Inv B W0 Z0 g w Z μ) (hs : VRL w Z μ s a.tmps.toList) {x : Operand} {y : Opd} (ho : o.op = .move x ∨ o.op = .assign x) (hx : opd x = some y) : OpOk P o a B W0 Z0 g w Z μ fr ⟨rho s y, [], []⟩ := by
  refine opok_quiet hi (goes_value ?_) (rho_ok hs hx)
  unfold execOp; rcases ho with ho | ho <;> rw [ho] <;> rfl

theorem vr_bool {x : T} {v : Value} {b : Bool} (h : VR w Z μ x v) (e : x = .bool b) : v = .bool b := by subst e; simpa only [VR, VI] using h
theorem vr_int {x : T} {v : Value} {k : IntKind} {n : Int} (h : VR w Z μ x v) (e : x = .int k n) : v = .int k n := by subst e; simpa only [VR, VI] using h

theorem pick_ok (hi : Inv B W0 Z0 g w Z μ) (hs : VRL w Z μ s a.tmps.toList) {c x y : Operand} {c' x' y' : Opd} (ho : o.op = .pick c x y) (hc : opd c = some c') (hx : opd x = some x') (hy : opd y = some y')
    (hr : opRes (.pick c' x' y') fr s g = some r) : OpOk P o a B W0 Z0 g w Z μ fr r := by
  simp only [opRes] at hr
  split at hr
  · rename_i e
    obtain rfl := Option.some.inj hr
    refine opok_quiet hi (goes_value ?_) (rho_ok hs hx)
    unfold execOp; rw [ho]; simp [vr_bool (rho_ok hs hc) e, asBool]
  · rename_i e
    obtain rfl := Option.some.inj hr
    refine opok_quiet hi (goes_value ?_) (rho_ok hs hy)
    unfold execOp; rw [ho]; simp [vr_bool (rho_ok hs hc) e, asBool]
  · cases hr

theorem zc_ok {t : TypeId} {z : List T} (h : zc P t = some z) : ∃ i zv, P.info? t = some i ∧ i.zero = some zv ∧ zv.cells.size = i.size ∧ 0 < i.size ∧ ofVL zv.cells.toList = some z := by
  unfold zc at h
  split at h
  · rename_i i hi
    split at h
    · rename_i zv hz
      split at h
      · rename_i hc; exact ⟨i, zv, hi, hz, hc.1, hc.2, h⟩
      · cases h
    · cases h
  · cases h

theorem new_ok (hi : Inv B W0 Z0 g w Z μ) (hn : μ fr = none) {c : List T} {arr : Array Value} (e : TypeId) {x : T} {v : Value} (hl : allLeaf c = true) (hc : VRL w Z μ c arr.toList)
    (hg : Goes P o a w v (w.alloc (.cells arr e))) (hv : VR (w.alloc (.cells arr e)) Z (upd μ fr (w.heap.size, 0, arr.size)) x v) {rd : List Nat} : OpOk P o a B W0 Z0 g w Z μ fr ⟨x, rd, [(fr, some c)]⟩ := by
  have hsz : arr.size = c.length := by have := hc.len; simpa using this
  obtain ⟨h1, h2⟩ := hi.alloc (t := fr) (c := c) arr e hn hl (by omega) fun i y hy => by
    obtain ⟨u, k1, k2⟩ := hc.get hy
    exact ⟨u, by simpa using k1, k2⟩
  exact ⟨v, _, _, hg, hv, h1, h2, MLe.upd hn, fun u hu => by simp [upd, hu]⟩

theorem alloc_ok (hi : Inv B W0 Z0 g w Z μ) (hn : μ fr = none) {e : TypeId} {z : List T} (ho : o.op = .alloc e) (hz : zc P e = some z) (hr : opRes (.alloc z) fr s g = some r) : OpOk P o a B W0 Z0 g w Z μ fr r := by
  simp only [opRes] at hr
  obtain ⟨i, zv, h1, h2, h3, h4, h5⟩ := zc_ok hz
  obtain ⟨k1, k2⟩ := ofVL_ok (w := w) (Z := Z) h5
  rw [if_pos k2] at hr
  obtain rfl := Option.some.inj hr
  refine new_ok hi hn e k2 (VIL.vr _ _ k1) (v := .pointer (some ⟨w.heap.size, 0, none⟩)) (goes_value ?_) ?_
  · unfold execOp; rw [ho]; simp [Instr.alloc, zeroValue, typeInfo, h1, h2, newVar, newRow]
  · simp only [VR]; exact ⟨(w.heap.size, 0, _), by simp [upd]; rfl, by simp⟩

theorem leaf_cells {x : T} (h : allLeaf x.cells = true) : x ≠ .junk ∧ x ≠ .undef ∧ ∀ l, x ≠ .tup l := by
  refine ⟨?_, ?_, ?_⟩ <;> intros <;> rintro rfl <;> simp [T.cells, allLeaf, T.leaf] at h

theorem box_ok (hi : Inv B W0 Z0 g w Z μ) (hn : μ fr = none) (hs : VRL w Z μ s a.tmps.toList) {e : TypeId} {x : Operand} {y : Opd} (ho : o.op = .box e x) (hx : opd x = some y) (hr : opRes (.box y) fr s g = some r) : OpOk P o a B W0 Z0 g w Z μ fr r := by
  simp only [opRes] at hr
  split at hr
  · rename_i hl
    obtain rfl := Option.some.inj hr
    obtain ⟨n1, n2, n3⟩ := leaf_cells hl
    refine new_ok hi hn e hl ((rho_ok hs hx).cells n1 n2 n3) (v := .pointer (some ⟨w.heap.size, 0, none⟩)) (goes_value ?_) ?_
    · unfold execOp; rw [ho]; simp [Instr.box, newVar, newRow]
    · simp only [VR]; exact ⟨(w.heap.size, 0, _), by simp [upd]; rfl, by simp⟩
  · cases hr

theorem nilchk_ok (hi : Inv B W0 Z0 g w Z μ) (hs : VRL w Z μ s a.tmps.toList) {x : Operand} {y : Opd} (ho : o.op = .nilCheck x) (hx : opd x = some y) (hr : opRes (.nilchk y) fr s g = some r) : OpOk P o a B W0 Z0 g w Z μ fr r := by
  simp only [opRes] at hr
  have hv := rho_ok hs hx
  split at hr
  · rename_i t p e
    obtain rfl := Option.some.inj hr
    rw [e] at hv
    refine opok_quiet hi (goes_value ?_) hv
    simp only [VR] at hv
    obtain ⟨m, _, hv⟩ := hv
    unfold execOp; rw [ho]; simp [hv]
  · rename_i t p e
    obtain rfl := Option.some.inj hr
    rw [e] at hv
    refine opok_quiet hi (goes_value ?_) hv
    simp only [VR, VI] at hv
    obtain ⟨b, q, hv, _⟩ := hv
    unfold execOp; rw [ho]; simp [hv]
  · rename_i f p q e
    obtain rfl := Option.some.inj hr
    rw [e] at hv
    refine opok_quiet hi (goes_value ?_) hv
    simp only [VR] at hv
    obtain ⟨b, q, hv, _⟩ := hv
    unfold execOp; rw [ho]; simp [hv]
  · cases hr

def T.v : T → Value
  | .int k n => .int k n
  | .bool b => .bool b
  | _ => Go.undef
theorem binT_run {op : BinOp} {t : TypeId} {x y z : T} {u v : Value} (h : binT op x y = some z) (hu : VR w Z μ x u) (hv : VR w Z μ y v) (p q : Operand) : VR w Z μ z z.v ∧ (do eqGuard op t p q u v; binOp op t u v : Sem Value).run P w = .ok z.v w := by
  unfold binT at h
  split at h
  · rename_i k m k' n
    simp only [VR, VI] at hu hv
    subst hu; subst hv
    have hq : ∀ f : Unit → Sem Value, (do eqGuard op t p q (.int k m) (.int k' n); f () : Sem Value).run P w = (f ()).run P w := by
      intro f; unfold eqGuard; split <;> simp
    have hq' := hq fun _ => binOp op t (.int k m) (.int k' n)
    rw [hq']
    cases op <;> dsimp only at h
    case shl => split at h
                · cases h
                · rename_i hb; obtain rfl := Option.some.inj h; exact ⟨by simp only [VR, VI, T.v], by simp [binOp, Op.shift, hb, T.v]⟩
    case shr => split at h
                · cases h
                · rename_i hb; obtain rfl := Option.some.inj h; exact ⟨by simp only [VR, VI, T.v], by simp [binOp, Op.shift, hb, T.v]⟩
    all_goals
      split at h
      · rename_i hk; subst hk
        first
          | (obtain rfl := Option.some.inj h; exact ⟨by simp only [VR, VI, T.v], by simp [binOp, Op.intArith, Op.intCmp, Op.intBits, T.v]⟩)
          | (split at h
             · cases h
             · rename_i hb; obtain rfl := Option.some.inj h; exact ⟨by simp only [VR, VI, T.v], by simp [binOp, Op.intDiv, hb, T.v]⟩)
      · cases h
  · cases h

theorem bin_ok (hi : Inv B W0 Z0 g w Z μ) (hs : VRL w Z μ s a.tmps.toList) {op : BinOp} {t u : TypeId} {x y : Operand} {x' y' : Opd} (ho : o.op = .binOp op t x y u) (hx : opd x = some x') (hy : opd y = some y')
    (hr : opRes (.bin op x' y') fr s g = some r) : OpOk P o a B W0 Z0 g w Z μ fr r := by
  simp only [opRes] at hr
  split at hr
  · rename_i z e
    obtain rfl := Option.some.inj hr
    obtain ⟨k1, k2⟩ := binT_run (P := P) (t := t) e (rho_ok hs hx) (rho_ok hs hy) x y
    refine opok_quiet hi (goes_value ?_) k1
    unfold execOp; rw [ho]; simp only [map_eq_pure_bind, Sem.run_bind] at k2 ⊢; simp [k2]
  · cases hr

theorem equal_bool1 {t : TypeId} (ht : P.underlying t = some .bool) (m n : Bool) (w : World) (d : Nat) : (Op.equalIn (d + 1) t (.bool m) (.bool n)).run P w = .ok (m == n) w := by
  simp only [Op.equalIn, Sem.run_bind, run_underlying ht, Result.andThen_ok, Sem.run_pure]
theorem equal_bool {t : TypeId} (ht : P.underlying t = some .bool) (m n : Bool) (w : World) : (Op.equal t (.bool m) (.bool n)).run P w = .ok (m == n) w := by
  unfold Op.equal
  exact equal_bool1 ht m n w 9999
theorem beq_ok (hi : Inv B W0 Z0 g w Z μ) (hs : VRL w Z μ s a.tmps.toList) {op : BinOp} {t u : TypeId} {x y : Operand} {x' y' : Opd} {neg : Bool} (ho : o.op = .binOp op t x y u) (hop : op = if neg then .neq else .eql) (ht : P.underlying t = some .bool)
    (hx : opd x = some x') (hy : opd y = some y') (hr : opRes (.beq neg x' y') fr s g = some r) : OpOk P o a B W0 Z0 g w Z μ fr r := by
  simp only [opRes] at hr
  split at hr
  · rename_i m n e1 e2
    obtain rfl := Option.some.inj hr
    refine opok_quiet hi (v := .bool (if neg then !(m == n) else m == n)) (goes_value ?_) (by simp only [VR, VI])
    have h1 := vr_bool (rho_ok hs hx) e1
    have h2 := vr_bool (rho_ok hs hy) e2
    have h3 := equal_bool ht m n w
    unfold execOp; rw [ho]
    cases neg <;> simp only [Bool.false_eq_true, if_false, if_true] at hop <;> subst hop
    · have h4 : (do eqGuard .eql t x y (.bool m) (.bool n); binOp .eql t (.bool m) (.bool n) : Sem Value).run P w = .ok (.bool (m == n)) w := by
        simp only [eqGuard, binOp, Sem.run_bind]
        simp [h3]
      simp only [h1, h2]
      rw [Sem.run_bind, h4]
      rfl
    · have h4 : (do eqGuard .neq t x y (.bool m) (.bool n); binOp .neq t (.bool m) (.bool n) : Sem Value).run P w = .ok (.bool !(m == n)) w := by
        simp only [eqGuard, binOp, Sem.run_bind]
        simp [h3]
      simp only [h1, h2]
      rw [Sem.run_bind, h4]
      rfl
  · cases hr

theorem un_ok (hi : Inv B W0 Z0 g w Z μ) (hs : VRL w Z μ s a.tmps.toList) {op : UnOp} {t : TypeId} {x : Operand} {x' : Opd} (ho : o.op = .unOp op t x) (hx : opd x = some x')
    (hr : opRes (.un op x') fr s g = some r) : OpOk P o a B W0 Z0 g w Z μ fr r := by
  simp only [opRes] at hr
  split at hr
  · rename_i z e
    obtain rfl := Option.some.inj hr
    have hv := rho_ok hs hx
    unfold unT at e
    split at e
    · rename_i k n ex
      obtain rfl := Option.some.inj e
      exact opok_quiet hi (v := .int k (k.wrap (0 - n))) (goes_value (by unfold execOp; rw [ho]; simp [vr_int hv ex, Op.unary, Op.intArith])) (by simp only [VR, VI])
    · rename_i k ex
      obtain rfl := Option.some.inj e
      exact opok_quiet hi (v := .bool (!k)) (goes_value (by unfold execOp; rw [ho]; simp [vr_bool hv ex, Op.unary, Op.intArith])) (by simp only [VR, VI])
    · rename_i k n ex
      obtain rfl := Option.some.inj e
      exact opok_quiet hi (v := .int k (k.wrap (BitVec.ofInt k.bits (if k.signed then -1 else k.max) ^^^ BitVec.ofInt k.bits n).toNat)) (goes_value (by unfold execOp; rw [ho]; simp [vr_int hv ex, Op.unary, Op.intBits])) (by simp only [VR, VI])
    · cases e
  · cases hr

theorem conv_ok (hi : Inv B W0 Z0 g w Z μ) (hs : VRL w Z μ s a.tmps.toList) {t u : TypeId} {k : IntKind} {d : TypeDesc} {x : Operand} {x' : Opd} (ho : o.op = .convert t u x) (ht : P.underlying t = some d) (hu : P.underlying u = some (.int k)) (hx : opd x = some x')
    (hr : opRes (.conv k x') fr s g = some r) : OpOk P o a B W0 Z0 g w Z μ fr r := by
  simp only [opRes] at hr
  split at hr
  · rename_i k' n e
    obtain rfl := Option.some.inj hr
    refine opok_quiet hi (v := .int k (k.wrap n)) (goes_value ?_) (by simp only [VR, VI])
    unfold execOp; rw [ho]
    simp [convert, run_underlying ht, run_underlying hu, vr_int (rho_ok hs hx) e, Conv.intToInt]
  · cases hr

theorem mkfn_ok (hi : Inv B W0 Z0 g w Z μ) (hs : VRL w Z μ s a.tmps.toList) {f : Nat} {fs cs : Array Operand} {fs' cs' : List Opd} (ho : o.op = .makeFunc (.func f) fs cs) (hf : opds fs.toList = some fs') (hc : opds cs.toList = some cs') :
    OpOk P o a B W0 Z0 g w Z μ fr ⟨.fn f (fs'.map (rho s)) (cs'.map (rho s)), [], []⟩ := by
  refine opok_quiet hi (v := .func (.func f) (fs.map a.eval) (cs.map a.eval)) (goes_value ?_) ?_
  · unfold execOp; rw [ho]; simp [Instr.makeFunc]
  · simp only [VR]
    exact ⟨_, _, rfl, by rw [Array.toList_map]; exact rhos_ok hs hf, by rw [Array.toList_map]; exact rhos_ok hs hc⟩

theorem extract_ok (hi : Inv B W0 Z0 g w Z μ) (hs : VRL w Z μ s a.tmps.toList) {x : Operand} {x' : Opd} {i : Nat} (ho : o.op = .extract x i) (hx : opd x = some x') (hr : opRes (.extract x' i) fr s g = some r) : OpOk P o a B W0 Z0 g w Z μ fr r := by
  simp only [opRes] at hr
  split at hr
  · rename_i l e
    split at hr
    · rename_i v e2
      obtain rfl := Option.some.inj hr
      have hv := rho_ok hs hx
      rw [e] at hv; simp only [VR] at hv
      obtain ⟨vs, hv, hl⟩ := hv
      obtain ⟨u, h1, h2⟩ := hl.get e2
      refine opok_quiet hi (goes_value ?_) h2
      have h1' : vs[i]? = some u := by simpa using h1
      unfold execOp; rw [ho]; simp [hv, Instr.extract, h1']
    · cases hr
  · cases hr

theorem one_ok {t : TypeId} {one : Bool} {n : Nat} (h : oneOf P t = some (one, n)) : ∃ d i, P.underlying t = some d ∧ P.info? t = some i ∧ i.size = n ∧ (one = true → n = 1) ∧ (∀ w : World, (isAgg t).run P w = .ok (!one) w) ∧ (one = false → d.isRow = true) := by
  unfold oneOf at h
  split at h
  · rename_i fs i h1 h2
    simp at h; obtain ⟨rfl, rfl⟩ := h
    exact ⟨_, _, h1, h2, rfl, by simp, fun w => by simp [isAgg, run_underlying h1], fun _ => rfl⟩
  · rename_i m e i h1 h2
    simp at h; obtain ⟨rfl, rfl⟩ := h
    exact ⟨_, _, h1, h2, rfl, by simp, fun w => by simp [isAgg, run_underlying h1], fun _ => rfl⟩
  · rename_i d i n1 n2 h1 h2
    split at h
    · rename_i hs
      simp at h; obtain ⟨rfl, rfl⟩ := h
      refine ⟨_, _, h1, h2, hs, fun _ => rfl, fun w => ?_, by simp⟩
      unfold isAgg; rw [Sem.run_bind, run_underlying h1]
      cases d <;> first | rfl | exact absurd rfl (n1 _ i) | exact absurd rfl (n2 _ _ i) | simp_all
    · cases h
  · cases h
end
end Go.Proofs.Ythanlobfjpjegaa.Abs
