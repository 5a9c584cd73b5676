/- Which numbers fit: the arguments of TlbFinds, out of their reading as data. Written by this session's program rowgen.py. -/
import Derived.Test.YtkcncghdpjoodaaOpn
import Derived.Test.YtkcncghdpjoodaaPTlbFindsx6
import Derived.KernelRfl
namespace Go.Proofs.Ytkcncghdpjoodaa.PTlbFinds
open Go.RowKit Go.Proofs.YtkcncghdpjoodaaW.PrintWords Go.Proofs.Ytkcncghdpjoodaa.Opn
set_option linter.unusedVariables false
/-! #### struct type 25 -/
structure S25 where
  f0 : (List S53)
  f1 : Int
  f2 : Int
def z25 : S25 := ⟨([] : List S53), (0 : Int), (0 : Int)⟩
def k25 : Kd S25 := Kd.iso (Kd.pair (Kd.slice 53 k53) (Kd.pair (Kd.int .i64) (Kd.int .u32))) (fun x : S25 => (x.f0, x.f1, x.f2))
theorem k25_open {w : World} {x : S25} {cs : List Value} (h : k25.K w x cs) : ∃ A0 c0, cs = [.slice A0 x.f0.length c0, .int .i64 x.f1, .int .u32 x.f2] ∧ x.f0.length ≤ c0 ∧ k53.C w A0 x.f0.length x.f0 := by
  obtain ⟨_, _, rfl, ⟨A0, c0, rfl, l0, g0⟩, ⟨_, _, rfl, rfl, rfl⟩⟩ := h
  exact ⟨A0, c0, rfl, l0, g0⟩
theorem k25_openM {w : World} {base : Nat} {ok : Nat → Prop} {x : S25} {cs : List Value} (h : k25.M w base ok x cs) : ∃ v0, cs = [v0, .int .i64 x.f1, .int .u32 x.f2] ∧ k53.R 53 w base ok v0 x.f0 := by
  obtain ⟨_, _, rfl, ⟨v0, rfl, g0⟩, ⟨_, _, rfl, rfl, rfl⟩⟩ := h
  exact ⟨v0, rfl, g0⟩
theorem k25_mk (w : World) (x : S25) {A0 : Option Addr} {c0 : Nat} (l0 : x.f0.length ≤ c0) (g0 : k53.C w A0 x.f0.length x.f0) : k25.K w x [.slice A0 x.f0.length c0, .int .i64 x.f1, .int .u32 x.f2] := ⟨[.slice A0 x.f0.length c0], [.int .i64 x.f1, .int .u32 x.f2], rfl, ⟨A0, c0, rfl, l0, g0⟩, ⟨[.int .i64 x.f1], [.int .u32 x.f2], rfl, rfl, rfl⟩⟩
theorem k25_mkM (w : World) (base : Nat) (ok : Nat → Prop) (x : S25) {v0 : Value} (g0 : k53.R 53 w base ok v0 x.f0) : k25.M w base ok x [v0, .int .i64 x.f1, .int .u32 x.f2] := ⟨[v0], [.int .i64 x.f1, .int .u32 x.f2], rfl, ⟨v0, rfl, g0⟩, ⟨[.int .i64 x.f1], [.int .u32 x.f2], rfl, rfl, rfl⟩⟩
def rd_T25 (xs : List S25) (i : Int) : S25 := xs.getD i.toNat z25
theorem at_T25 {w : World} {A : Option Addr} {n : Nat} {xs : List S25} (h : Kd.C k25 w A n xs) (i : Int) (h0 : 0 ≤ i) (h1 : i < n) : ∃ ad A0 c0, A = some ad ∧ w.cell? (ad.add (i.toNat * 3)) = some (.slice A0 (rd_T25 xs i).f0.length c0) ∧ w.cell? ⟨(ad.add (i.toNat * 3)).block, (ad.add (i.toNat * 3)).off + 1, none⟩ = some (.int .i64 (rd_T25 xs i).f1) ∧ w.cell? ⟨(ad.add (i.toNat * 3)).block, (ad.add (i.toNat * 3)).off + 2, none⟩ = some (.int .u32 (rd_T25 xs i).f2) ∧ (rd_T25 xs i).f0.length ≤ c0 ∧ k53.C w A0 (rd_T25 xs i).f0.length (rd_T25 xs i).f0 := by
  obtain ⟨ad, c, e, _, hK, hc0⟩ := Kd.C_get h z25 i h0 h1
  have hc : ∀ j u, c[j]? = some u → w.cell? (ad.add (i.toNat * 3 + j)) = some u := hc0
  obtain ⟨A0, c0, rfl, l0, g0⟩ := k25_open hK
  exact ⟨ad, A0, c0, e, hc 0 _ rfl, by rw [← add_field _ _ 1 (by omega)]; exact hc 1 _ rfl, by rw [← add_field _ _ 2 (by omega)]; exact hc 2 _ rfl, l0, g0⟩

set_option maxRecDepth 100000
def W27 (x : S27) : Prop := (Lit.int .u32 x.f0).wf = true ∧ (Lit.int .i64 x.f1).wf = true
theorem o27 : Opens Try.prog 27 k27 W27 := opens_struct (fun x : S27 => (x.f0, x.f1)) (fun p => ⟨p.1, p.2⟩) (fun _ => rfl) Try.underlying27 (opensF_cons (opens_int Try.underlying23) (by kernel_rfl) (by kernel_rfl) (opensF_one (opens_int Try.underlying3) (by kernel_rfl) (by kernel_rfl))) (by kernel_rfl)
def W53 (x : S53) : Prop := True ∧ (Lit.int .u32 x.f1).wf = true ∧ W27 x.f2
theorem o53 : Opens Try.prog 53 k53 W53 := opens_struct (fun x : S53 => (x.f0, x.f1, x.f2)) (fun p => ⟨p.1, p.2.1, p.2.2⟩) (fun _ => rfl) Try.underlying53 (opensF_cons (opens_bool Try.underlying4) (by kernel_rfl) (by kernel_rfl) (opensF_cons (opens_int Try.underlying23) (by kernel_rfl) (by kernel_rfl) (opensF_one o27 (by kernel_rfl) (by kernel_rfl)))) (by kernel_rfl)
def W25 (x : S25) : Prop := (x.f0.length ≤ maxLen ∧ ∀ y ∈ x.f0, W53 y) ∧ (Lit.int .i64 x.f1).wf = true ∧ (Lit.int .u32 x.f2).wf = true
theorem o25 : Opens Try.prog 25 k25 W25 := opens_struct (fun x : S25 => (x.f0, x.f1, x.f2)) (fun p => ⟨p.1, p.2.1, p.2.2⟩) (fun _ => rfl) Try.underlying25 (opensF_cons (opens_slice Try.underlying22 o53 (by kernel_rfl)) (by kernel_rfl) (by kernel_rfl) (opensF_cons (opens_int Try.underlying3) (by kernel_rfl) (by kernel_rfl) (opensF_one (opens_int Try.underlying23) (by kernel_rfl) (by kernel_rfl)))) (by kernel_rfl)
end Go.Proofs.Ytkcncghdpjoodaa.PTlbFinds
