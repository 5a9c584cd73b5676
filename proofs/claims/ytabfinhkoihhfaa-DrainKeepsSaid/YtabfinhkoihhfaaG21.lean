/- Words of other seats' texts, as they are used here: One2. -/
import Derived.Test.YtabfinhkoihhfaaG20
namespace Go.Proofs.Ytabfinhkoihhfaa.Abs
open Go Go.RowKit Fn
set_option linter.unusedVariables false
set_option linter.unusedSimpArgs false
set_option linter.unnecessarySimpa false
set_option maxRecDepth 100000
set_option maxHeartbeats 4000000

def Good (m : Coh) : Prop := Ok m ∧ RightM m
theorem Good.sound {m : Coh} (h : Good m) : SoundP m := (sound_iff h.1).mp h.2.2.2.2
theorem good_of {m t : Coh} (h : Good m) (ht : Ok t) (hs : SoundP t) (h1 : t.mem.length = m.mem.length) (h2 : t.caches.length = m.caches.length) : Good t := by
  obtain ⟨a, b, c, _⟩ := h.2
  refine ⟨ht, ?_, by rw [h2]; exact b, by rw [h2]; exact c, (sound_iff ht).mpr hs⟩
  unfold MemP at a ⊢
  rw [h1]; exact a
theorem lies_of {m : Coh} (h : Good m) {addr z : Nat} (hz : 1 ≤ z) (hin : addr + z ≤ m.mem.length) : addr / 16 * 16 + 16 ≤ m.mem.length := by
  have := h.2.1.2.2
  omega
theorem write_all {m : Coh} (h : Good m) {w z addr : Nat} (ha : addr ≤ 4294967295) (hw : w < m.caches.length) (hz : z = 1 ∨ z = 2 ∨ z = 4) (haz : addr % 16 + z ≤ 16) (hin : addr + z ≤ m.mem.length) (v : Int) :
    Good (writeM m (w : Int) addr (z : Int) v).1 ∧ viewM (writeM m (w : Int) addr (z : Int) v).1 = spl (viewM m) addr (bytesOf v z) ∧ (writeM m (w : Int) addr (z : Int) v).1.caches.length = m.caches.length ∧ (writeM m (w : Int) addr (z : Int) v).1.mem.length = m.mem.length ∧ stA (writeM m (w : Int) addr (z : Int) v).1 w (addr / 16) = 3 ∧ (∀ j, j < m.caches.length → j ≠ w → stA (writeM m (w : Int) addr (z : Int) v).1 j (addr / 16) = 0) ∧ ((writeM m (w : Int) addr (z : Int) v).2 = true ↔ askv (stA m w (addr / 16)) 2 = 0) := by
  have hok := h.1
  have hs := h.sound
  have hmay : MayP m (w : Int) addr (z : Int) := ⟨⟨by omega, by omega⟩, by omega, by omega, by omega⟩
  have hlies := lies_of h (show 1 ≤ z by omega) hin
  have e : writeM m (w : Int) addr (z : Int) v = (touchM (wrM (askM m (w : Int) (addr / 16) 2).1 w addr (z : Int) v) w (addr / 16), (askM m (w : Int) (addr / 16) 2).2) := if_pos hmay
  rw [e]
  obtain ⟨a1, a2, a3, a4, a5, a6, a7⟩ := ask_all hok hs w hw (addr / 16) (by omega) hlies 2 (.inr rfl)
  obtain ⟨b1, b2⟩ := ask_is m w hw (addr / 16) 2
  have a7 := a7 rfl
  generalize hn : (askM m (w : Int) (addr / 16) 2).1 = n at *
  have hwn : w < n.caches.length := by rw [a4]; exact hw
  obtain ⟨c1, c2, c3, c4, c5, c6, c7, _⟩ := wr_all a1 a2 hwn addr z hz haz v a7
  generalize wrM n w addr (z : Int) v = t at *
  have hwt : w < t.caches.length := by rw [c3]; exact hwn
  obtain ⟨t1, t2, t3, t4⟩ := touch_all c1 c2 w (addr / 16) hwt
  refine ⟨good_of h t1 t2 (by rw [touchM_mem]; omega) (by rw [touchM_len]; omega), by rw [show viewM (touchM t w (addr / 16)) = viewM t from t3, c5, a3], ?_, ?_, ?_, fun j hj hjw => ?_, b2⟩
  · show (touchM t w (addr / 16)).caches.length = _; rw [touchM_len]; omega
  · show (touchM t w (addr / 16)).mem.length = _; rw [touchM_mem]; omega
  · show stA (touchM t w (addr / 16)) w _ = 3; rw [(t4 w _ hwt).1]; exact c6
  · show stA (touchM t w (addr / 16)) j _ = 0
    rw [(t4 j _ (by omega)).1]; exact c7 j (by omega) hjw
/-! ### What the functions answer, however a system is told -/
def Lax (m : Coh) (x y : T) : Prop := UpT (.agg m.enc) (.agg [x, y])
theorem lax_strict (m : Coh) : Lax m (memT m) (cachT m) := by unfold Lax; rw [coh_enc]; exact UpT.refl _
theorem lax_frz {m : Coh} {x y : T} (h : Lax m x y) : ∃ f1 n1 c1 f2 n2 c2, x = .imm f1 n1 c1 ∧ y = .imm f2 n2 c2 := by
  obtain ⟨f1, f2, ys, e, _⟩ := coh_parts h
  injection e with e
  injection e with e1 e2
  injection e2 with e2 _
  exact ⟨_, _, _, _, _, _, e1, e2⟩
theorem lax_args {m : Coh} {x y : T} (h : Lax m x y) (rest : List T) : UpL (.agg [memT m, cachT m] :: rest) (.agg [x, y] :: rest) := UpL.cons (by rw [← coh_enc]; exact h) (UpL.refl _)
theorem lax_out {m : Coh} {u : T} (h : UpT (.agg m.enc) u) : ∃ x y, u = .agg [x, y] ∧ Lax m x y := by
  obtain ⟨f1, f2, ys, rfl, _⟩ := coh_parts h
  exact ⟨_, _, rfl, h⟩
theorem lax_leaf {m : Coh} {x y : T} (h : Lax m x y) : allLeaf [x, y] = true := by
  obtain ⟨f1, n1, c1, f2, n2, c2, rfl, rfl⟩ := lax_frz h; rfl
theorem write_lax {m : Coh} (hok : Ok m) {x y : T} (h : Lax m x y) (who : Int) (addr : Nat) (ha : addr ≤ 4294967295) (size v : Int) (hv : 0 ≤ v ∧ v ≤ 4294967295) : ∃ N x' y', Lax (writeM m who addr size v).1 x' y' ∧ ∀ k, N ≤ k → ∀ g, callPure (ev ap k) f36 [.agg [x, y], .int .i64 who, .int .u32 (addr : Int), .int .i64 size, .int .u32 v] g = some ⟨.tup [.agg [x', y'], .bool (writeM m who addr size v).2], [], []⟩ := by
  obtain ⟨u, hE, hu⟩ := bus_writeM m hok who addr ha size v hv
  obtain ⟨v', hE', hu'⟩ := hE.up (lax_args h _)
  obtain ⟨u', rfl, hu2⟩ := up_tupb hu'
  obtain ⟨x', y', rfl, hl⟩ := lax_out (hu.trans hu2)
  obtain ⟨f1, n1, c1, f2, n2, c2, rfl, rfl⟩ := lax_frz h
  obtain ⟨N, q⟩ := hE'.call (F := f36) rfl (fun g => rfl)
  exact ⟨N, x', y', hl, q⟩
theorem bool_lax {m : Coh} {x y : T} (h : Lax m x y) {f : Nat} {F : AFun} (hF : ap f = some F) {rest : List T} {b : Bool} (hr : ∀ x ∈ rest, ∃ k n, x = .int k n) (hE : E ap f (.agg [memT m, cachT m] :: rest) (.bool b)) : ∃ N, ∀ k, N ≤ k → ∀ g, callPure (ev ap k) F (.agg [x, y] :: rest) g = some ⟨.bool b, [], []⟩ := by
  obtain ⟨v', hE', hu'⟩ := hE.up (lax_args h _)
  rw [UpT.bool hu'] at hE'
  obtain ⟨f1, n1, c1, f2, n2, c2, rfl, rfl⟩ := lax_frz h
  exact hE'.call hF (fun g => by
    have e1 : frz ⟨g, 0⟩ 12 (.agg [.imm f1 n1 c1, .imm f2 n2 c2]) = some (.agg [.imm f1 n1 c1, .imm f2 n2 c2], []) := rfl
    have e2 := frzAll_int (h := ⟨g, 0⟩) (d := 11) rest hr
    unfold frzL
    rw [show frzDepth = 12 from rfl]
    simp only [frzAll, e1, e2, List.append_nil])
end Go.Proofs.Ytabfinhkoihhfaa.Abs
