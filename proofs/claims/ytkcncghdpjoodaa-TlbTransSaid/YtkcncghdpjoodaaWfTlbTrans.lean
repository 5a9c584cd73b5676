/- Which numbers fit: the arguments of TlbTrans, out of their reading as data. Written by this session's program rowgen.py. -/
import Derived.Test.YtkcncghdpjoodaaOpn
import Derived.Test.YtkcncghdpjoodaaPTlbTransx8
import Derived.KernelRfl
namespace Go.Proofs.Ytkcncghdpjoodaa.PTlbTrans
open Go.RowKit Go.Proofs.YtkcncghdpjoodaaW.PrintWords Go.Proofs.Ytkcncghdpjoodaa.Opn
set_option linter.unusedVariables false
/-! #### struct type 33 -/
structure S33 where
  f0 : Int
  f1 : Int
  f2 : Int
  f3 : Int
  f4 : Int
  f5 : Int
  f6 : Int
  f7 : Int
  f8 : Int
  f9 : Int
  f10 : Int
  f11 : Int
  f12 : Int
  f13 : Int
  f14 : Int
  f15 : Int
def k33 : Kd S33 := Kd.iso (Kd.pair (Kd.int .u32) (Kd.pair (Kd.int .u32) (Kd.pair (Kd.int .u32) (Kd.pair (Kd.int .u32) (Kd.pair (Kd.int .u32) (Kd.pair (Kd.int .u32) (Kd.pair (Kd.int .u32) (Kd.pair (Kd.int .u32) (Kd.pair (Kd.int .u32) (Kd.pair (Kd.int .u32) (Kd.pair (Kd.int .u32) (Kd.pair (Kd.int .u32) (Kd.pair (Kd.int .u32) (Kd.pair (Kd.int .u32) (Kd.pair (Kd.int .u32) (Kd.int .u32)))))))))))))))) (fun x : S33 => (x.f0, x.f1, x.f2, x.f3, x.f4, x.f5, x.f6, x.f7, x.f8, x.f9, x.f10, x.f11, x.f12, x.f13, x.f14, x.f15))
theorem k33_open {w : World} {x : S33} {cs : List Value} (h : k33.K w x cs) : cs = [.int .u32 x.f0, .int .u32 x.f1, .int .u32 x.f2, .int .u32 x.f3, .int .u32 x.f4, .int .u32 x.f5, .int .u32 x.f6, .int .u32 x.f7, .int .u32 x.f8, .int .u32 x.f9, .int .u32 x.f10, .int .u32 x.f11, .int .u32 x.f12, .int .u32 x.f13, .int .u32 x.f14, .int .u32 x.f15] := by
  obtain ⟨_, _, rfl, rfl, ⟨_, _, rfl, rfl, ⟨_, _, rfl, rfl, ⟨_, _, rfl, rfl, ⟨_, _, rfl, rfl, ⟨_, _, rfl, rfl, ⟨_, _, rfl, rfl, ⟨_, _, rfl, rfl, ⟨_, _, rfl, rfl, ⟨_, _, rfl, rfl, ⟨_, _, rfl, rfl, ⟨_, _, rfl, rfl, ⟨_, _, rfl, rfl, ⟨_, _, rfl, rfl, ⟨_, _, rfl, rfl, rfl⟩⟩⟩⟩⟩⟩⟩⟩⟩⟩⟩⟩⟩⟩⟩ := h
  exact rfl
/-! #### struct type 34 -/
structure S34 where
  f0 : Int
  f1 : Int
  f2 : Int
  f3 : Int
  f4 : Int
  f5 : Int
  f6 : Int
  f7 : Int
  f8 : Int
  f9 : Int
  f10 : Int
  f11 : Int
def k34 : Kd S34 := Kd.iso (Kd.pair (Kd.int .u32) (Kd.pair (Kd.int .u32) (Kd.pair (Kd.int .u32) (Kd.pair (Kd.int .u32) (Kd.pair (Kd.int .u32) (Kd.pair (Kd.int .u32) (Kd.pair (Kd.int .u32) (Kd.pair (Kd.int .u32) (Kd.pair (Kd.int .u32) (Kd.pair (Kd.int .u32) (Kd.pair (Kd.int .u32) (Kd.int .u32)))))))))))) (fun x : S34 => (x.f0, x.f1, x.f2, x.f3, x.f4, x.f5, x.f6, x.f7, x.f8, x.f9, x.f10, x.f11))
theorem k34_open {w : World} {x : S34} {cs : List Value} (h : k34.K w x cs) : cs = [.int .u32 x.f0, .int .u32 x.f1, .int .u32 x.f2, .int .u32 x.f3, .int .u32 x.f4, .int .u32 x.f5, .int .u32 x.f6, .int .u32 x.f7, .int .u32 x.f8, .int .u32 x.f9, .int .u32 x.f10, .int .u32 x.f11] := by
  obtain ⟨_, _, rfl, rfl, ⟨_, _, rfl, rfl, ⟨_, _, rfl, rfl, ⟨_, _, rfl, rfl, ⟨_, _, rfl, rfl, ⟨_, _, rfl, rfl, ⟨_, _, rfl, rfl, ⟨_, _, rfl, rfl, ⟨_, _, rfl, rfl, ⟨_, _, rfl, rfl, ⟨_, _, rfl, rfl, rfl⟩⟩⟩⟩⟩⟩⟩⟩⟩⟩⟩ := h
  exact rfl
/-! #### struct type 36 -/
structure S36 where
  f0 : Int
  f1 : S33
  f2 : S34
  f3 : Bool
def k36 : Kd S36 := Kd.iso (Kd.pair (Kd.int .u32) (Kd.pair k33 (Kd.pair k34 Kd.bool))) (fun x : S36 => (x.f0, x.f1, x.f2, x.f3))
theorem k36_open {w : World} {x : S36} {cs : List Value} (h : k36.K w x cs) : cs = [.int .u32 x.f0, .int .u32 x.f1.f0, .int .u32 x.f1.f1, .int .u32 x.f1.f2, .int .u32 x.f1.f3, .int .u32 x.f1.f4, .int .u32 x.f1.f5, .int .u32 x.f1.f6, .int .u32 x.f1.f7, .int .u32 x.f1.f8, .int .u32 x.f1.f9, .int .u32 x.f1.f10, .int .u32 x.f1.f11, .int .u32 x.f1.f12, .int .u32 x.f1.f13, .int .u32 x.f1.f14, .int .u32 x.f1.f15, .int .u32 x.f2.f0, .int .u32 x.f2.f1, .int .u32 x.f2.f2, .int .u32 x.f2.f3, .int .u32 x.f2.f4, .int .u32 x.f2.f5, .int .u32 x.f2.f6, .int .u32 x.f2.f7, .int .u32 x.f2.f8, .int .u32 x.f2.f9, .int .u32 x.f2.f10, .int .u32 x.f2.f11, .bool x.f3] := by
  obtain ⟨_, _, rfl, rfl, ⟨_, _, rfl, s1, ⟨_, _, rfl, s17, rfl⟩⟩⟩ := h
  obtain rfl := k33_open s1
  obtain rfl := k34_open s17
  exact rfl
/-! #### struct type 40 -/
structure S40 where
  f0 : S36
  f1 : (List Int)
  f2 : (List Int)
  f3 : (List Int)
def k40 : Kd S40 := Kd.iso (Kd.pair k36 (Kd.pair (Kd.slice 5 (Kd.int .u8)) (Kd.pair (Kd.slice 5 (Kd.int .u8)) (Kd.slice 23 (Kd.int .u32))))) (fun x : S40 => (x.f0, x.f1, x.f2, x.f3))
theorem k40_open {w : World} {x : S40} {cs : List Value} (h : k40.K w x cs) : ∃ A30 c30 A31 c31 A32 c32, cs = [.int .u32 x.f0.f0, .int .u32 x.f0.f1.f0, .int .u32 x.f0.f1.f1, .int .u32 x.f0.f1.f2, .int .u32 x.f0.f1.f3, .int .u32 x.f0.f1.f4, .int .u32 x.f0.f1.f5, .int .u32 x.f0.f1.f6, .int .u32 x.f0.f1.f7, .int .u32 x.f0.f1.f8, .int .u32 x.f0.f1.f9, .int .u32 x.f0.f1.f10, .int .u32 x.f0.f1.f11, .int .u32 x.f0.f1.f12, .int .u32 x.f0.f1.f13, .int .u32 x.f0.f1.f14, .int .u32 x.f0.f1.f15, .int .u32 x.f0.f2.f0, .int .u32 x.f0.f2.f1, .int .u32 x.f0.f2.f2, .int .u32 x.f0.f2.f3, .int .u32 x.f0.f2.f4, .int .u32 x.f0.f2.f5, .int .u32 x.f0.f2.f6, .int .u32 x.f0.f2.f7, .int .u32 x.f0.f2.f8, .int .u32 x.f0.f2.f9, .int .u32 x.f0.f2.f10, .int .u32 x.f0.f2.f11, .bool x.f0.f3, .slice A30 x.f1.length c30, .slice A31 x.f2.length c31, .slice A32 x.f3.length c32] ∧ x.f1.length ≤ c30 ∧ (Kd.int .u8).C w A30 x.f1.length x.f1 ∧ x.f2.length ≤ c31 ∧ (Kd.int .u8).C w A31 x.f2.length x.f2 ∧ x.f3.length ≤ c32 ∧ (Kd.int .u32).C w A32 x.f3.length x.f3 := by
  obtain ⟨_, _, rfl, s0, ⟨_, _, rfl, ⟨A30, c30, rfl, l30, g30⟩, ⟨_, _, rfl, ⟨A31, c31, rfl, l31, g31⟩, ⟨A32, c32, rfl, l32, g32⟩⟩⟩⟩ := h
  obtain rfl := k36_open s0
  exact ⟨A30, c30, A31, c31, A32, c32, rfl, l30, g30, l31, g31, l32, g32⟩
/-! #### struct type 25 -/
structure S25 where
  f0 : (List S53)
  f1 : Int
  f2 : Int
def k25 : Kd S25 := Kd.iso (Kd.pair (Kd.slice 53 k53) (Kd.pair (Kd.int .i64) (Kd.int .u32))) (fun x : S25 => (x.f0, x.f1, x.f2))
theorem k25_open {w : World} {x : S25} {cs : List Value} (h : k25.K w x cs) : ∃ A0 c0, cs = [.slice A0 x.f0.length c0, .int .i64 x.f1, .int .u32 x.f2] ∧ x.f0.length ≤ c0 ∧ k53.C w A0 x.f0.length x.f0 := by
  obtain ⟨_, _, rfl, ⟨A0, c0, rfl, l0, g0⟩, ⟨_, _, rfl, rfl, rfl⟩⟩ := h
  exact ⟨A0, c0, rfl, l0, g0⟩
set_option maxRecDepth 100000
def W33 (x : S33) : Prop := (Lit.int .u32 x.f0).wf = true ∧ (Lit.int .u32 x.f1).wf = true ∧ (Lit.int .u32 x.f2).wf = true ∧ (Lit.int .u32 x.f3).wf = true ∧ (Lit.int .u32 x.f4).wf = true ∧ (Lit.int .u32 x.f5).wf = true ∧ (Lit.int .u32 x.f6).wf = true ∧ (Lit.int .u32 x.f7).wf = true ∧ (Lit.int .u32 x.f8).wf = true ∧ (Lit.int .u32 x.f9).wf = true ∧ (Lit.int .u32 x.f10).wf = true ∧ (Lit.int .u32 x.f11).wf = true ∧ (Lit.int .u32 x.f12).wf = true ∧ (Lit.int .u32 x.f13).wf = true ∧ (Lit.int .u32 x.f14).wf = true ∧ (Lit.int .u32 x.f15).wf = true
theorem o33 : Opens Try.prog 33 k33 W33 := opens_array (sz := 1) (by kernel_rfl) (fun x : S33 => (x.f0, x.f1, x.f2, x.f3, x.f4, x.f5, x.f6, x.f7, x.f8, x.f9, x.f10, x.f11, x.f12, x.f13, x.f14, x.f15)) (fun p => ⟨p.1, p.2.1, p.2.2.1, p.2.2.2.1, p.2.2.2.2.1, p.2.2.2.2.2.1, p.2.2.2.2.2.2.1, p.2.2.2.2.2.2.2.1, p.2.2.2.2.2.2.2.2.1, p.2.2.2.2.2.2.2.2.2.1, p.2.2.2.2.2.2.2.2.2.2.1, p.2.2.2.2.2.2.2.2.2.2.2.1, p.2.2.2.2.2.2.2.2.2.2.2.2.1, p.2.2.2.2.2.2.2.2.2.2.2.2.2.1, p.2.2.2.2.2.2.2.2.2.2.2.2.2.2.1, p.2.2.2.2.2.2.2.2.2.2.2.2.2.2.2⟩) (fun _ => rfl) Try.underlying33 (opensF_cons (opens_int Try.underlying23) (by kernel_rfl) (by kernel_rfl) (opensF_cons (opens_int Try.underlying23) (by kernel_rfl) (by kernel_rfl) (opensF_cons (opens_int Try.underlying23) (by kernel_rfl) (by kernel_rfl) (opensF_cons (opens_int Try.underlying23) (by kernel_rfl) (by kernel_rfl) (opensF_cons (opens_int Try.underlying23) (by kernel_rfl) (by kernel_rfl) (opensF_cons (opens_int Try.underlying23) (by kernel_rfl) (by kernel_rfl) (opensF_cons (opens_int Try.underlying23) (by kernel_rfl) (by kernel_rfl) (opensF_cons (opens_int Try.underlying23) (by kernel_rfl) (by kernel_rfl) (opensF_cons (opens_int Try.underlying23) (by kernel_rfl) (by kernel_rfl) (opensF_cons (opens_int Try.underlying23) (by kernel_rfl) (by kernel_rfl) (opensF_cons (opens_int Try.underlying23) (by kernel_rfl) (by kernel_rfl) (opensF_cons (opens_int Try.underlying23) (by kernel_rfl) (by kernel_rfl) (opensF_cons (opens_int Try.underlying23) (by kernel_rfl) (by kernel_rfl) (opensF_cons (opens_int Try.underlying23) (by kernel_rfl) (by kernel_rfl) (opensF_cons (opens_int Try.underlying23) (by kernel_rfl) (by kernel_rfl) (opensF_one (opens_int Try.underlying23) (by kernel_rfl) (by kernel_rfl))))))))))))))))) (by kernel_rfl)
def W34 (x : S34) : Prop := (Lit.int .u32 x.f0).wf = true ∧ (Lit.int .u32 x.f1).wf = true ∧ (Lit.int .u32 x.f2).wf = true ∧ (Lit.int .u32 x.f3).wf = true ∧ (Lit.int .u32 x.f4).wf = true ∧ (Lit.int .u32 x.f5).wf = true ∧ (Lit.int .u32 x.f6).wf = true ∧ (Lit.int .u32 x.f7).wf = true ∧ (Lit.int .u32 x.f8).wf = true ∧ (Lit.int .u32 x.f9).wf = true ∧ (Lit.int .u32 x.f10).wf = true ∧ (Lit.int .u32 x.f11).wf = true
theorem o34 : Opens Try.prog 34 k34 W34 := opens_array (sz := 1) (by kernel_rfl) (fun x : S34 => (x.f0, x.f1, x.f2, x.f3, x.f4, x.f5, x.f6, x.f7, x.f8, x.f9, x.f10, x.f11)) (fun p => ⟨p.1, p.2.1, p.2.2.1, p.2.2.2.1, p.2.2.2.2.1, p.2.2.2.2.2.1, p.2.2.2.2.2.2.1, p.2.2.2.2.2.2.2.1, p.2.2.2.2.2.2.2.2.1, p.2.2.2.2.2.2.2.2.2.1, p.2.2.2.2.2.2.2.2.2.2.1, p.2.2.2.2.2.2.2.2.2.2.2⟩) (fun _ => rfl) Try.underlying34 (opensF_cons (opens_int Try.underlying23) (by kernel_rfl) (by kernel_rfl) (opensF_cons (opens_int Try.underlying23) (by kernel_rfl) (by kernel_rfl) (opensF_cons (opens_int Try.underlying23) (by kernel_rfl) (by kernel_rfl) (opensF_cons (opens_int Try.underlying23) (by kernel_rfl) (by kernel_rfl) (opensF_cons (opens_int Try.underlying23) (by kernel_rfl) (by kernel_rfl) (opensF_cons (opens_int Try.underlying23) (by kernel_rfl) (by kernel_rfl) (opensF_cons (opens_int Try.underlying23) (by kernel_rfl) (by kernel_rfl) (opensF_cons (opens_int Try.underlying23) (by kernel_rfl) (by kernel_rfl) (opensF_cons (opens_int Try.underlying23) (by kernel_rfl) (by kernel_rfl) (opensF_cons (opens_int Try.underlying23) (by kernel_rfl) (by kernel_rfl) (opensF_cons (opens_int Try.underlying23) (by kernel_rfl) (by kernel_rfl) (opensF_one (opens_int Try.underlying23) (by kernel_rfl) (by kernel_rfl))))))))))))) (by kernel_rfl)
def W36 (x : S36) : Prop := (Lit.int .u32 x.f0).wf = true ∧ W33 x.f1 ∧ W34 x.f2 ∧ True
theorem o36 : Opens Try.prog 36 k36 W36 := opens_struct (fun x : S36 => (x.f0, x.f1, x.f2, x.f3)) (fun p => ⟨p.1, p.2.1, p.2.2.1, p.2.2.2⟩) (fun _ => rfl) Try.underlying36 (opensF_cons (opens_int Try.underlying23) (by kernel_rfl) (by kernel_rfl) (opensF_cons o33 (by kernel_rfl) (by kernel_rfl) (opensF_cons o34 (by kernel_rfl) (by kernel_rfl) (opensF_one (opens_bool Try.underlying4) (by kernel_rfl) (by kernel_rfl))))) (by kernel_rfl)
def W40 (x : S40) : Prop := W36 x.f0 ∧ (x.f1.length ≤ maxLen ∧ ∀ y ∈ x.f1, (Lit.int .u8 y).wf = true) ∧ (x.f2.length ≤ maxLen ∧ ∀ y ∈ x.f2, (Lit.int .u8 y).wf = true) ∧ (x.f3.length ≤ maxLen ∧ ∀ y ∈ x.f3, (Lit.int .u32 y).wf = true)
theorem o40 : Opens Try.prog 40 k40 W40 := opens_struct (fun x : S40 => (x.f0, x.f1, x.f2, x.f3)) (fun p => ⟨p.1, p.2.1, p.2.2.1, p.2.2.2⟩) (fun _ => rfl) Try.underlying40 (opensF_cons o36 (by kernel_rfl) (by kernel_rfl) (opensF_cons (opens_slice Try.underlying37 (opens_int Try.underlying5) (by kernel_rfl)) (by kernel_rfl) (by kernel_rfl) (opensF_cons (opens_slice Try.underlying37 (opens_int Try.underlying5) (by kernel_rfl)) (by kernel_rfl) (by kernel_rfl) (opensF_one (opens_slice Try.underlying38 (opens_int Try.underlying23) (by kernel_rfl)) (by kernel_rfl) (by kernel_rfl))))) (by kernel_rfl)
def W27 (x : S27) : Prop := (Lit.int .u32 x.f0).wf = true ∧ (Lit.int .i64 x.f1).wf = true
theorem o27 : Opens Try.prog 27 k27 W27 := opens_struct (fun x : S27 => (x.f0, x.f1)) (fun p => ⟨p.1, p.2⟩) (fun _ => rfl) Try.underlying27 (opensF_cons (opens_int Try.underlying23) (by kernel_rfl) (by kernel_rfl) (opensF_one (opens_int Try.underlying3) (by kernel_rfl) (by kernel_rfl))) (by kernel_rfl)
def W53 (x : S53) : Prop := True ∧ (Lit.int .u32 x.f1).wf = true ∧ W27 x.f2
theorem o53 : Opens Try.prog 53 k53 W53 := opens_struct (fun x : S53 => (x.f0, x.f1, x.f2)) (fun p => ⟨p.1, p.2.1, p.2.2⟩) (fun _ => rfl) Try.underlying53 (opensF_cons (opens_bool Try.underlying4) (by kernel_rfl) (by kernel_rfl) (opensF_cons (opens_int Try.underlying23) (by kernel_rfl) (by kernel_rfl) (opensF_one o27 (by kernel_rfl) (by kernel_rfl)))) (by kernel_rfl)
def W25 (x : S25) : Prop := (x.f0.length ≤ maxLen ∧ ∀ y ∈ x.f0, W53 y) ∧ (Lit.int .i64 x.f1).wf = true ∧ (Lit.int .u32 x.f2).wf = true
theorem o25 : Opens Try.prog 25 k25 W25 := opens_struct (fun x : S25 => (x.f0, x.f1, x.f2)) (fun p => ⟨p.1, p.2.1, p.2.2⟩) (fun _ => rfl) Try.underlying25 (opensF_cons (opens_slice Try.underlying22 o53 (by kernel_rfl)) (by kernel_rfl) (by kernel_rfl) (opensF_cons (opens_int Try.underlying3) (by kernel_rfl) (by kernel_rfl) (opensF_one (opens_int Try.underlying23) (by kernel_rfl) (by kernel_rfl)))) (by kernel_rfl)
end Go.Proofs.Ytkcncghdpjoodaa.PTlbTrans
