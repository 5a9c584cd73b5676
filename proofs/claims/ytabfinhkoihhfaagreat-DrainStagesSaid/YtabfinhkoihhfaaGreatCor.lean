/- A core's cells; what a stage leaves may be. -/
import Derived.Test.YtabfinhkoihhfaaGreatLight2
namespace Go.Proofs.YtabfinhkoihhfaaGreat.Abs
open Go Go.RowKit Fn
set_option linter.unusedVariables false
set_option linter.unusedSimpArgs false
set_option linter.unnecessarySimpa false
set_option maxRecDepth 100000
set_option maxHeartbeats 4000000

theorem cut_at {cs c : List T} {o n i : Nat} (h : cut cs o n = c) (hi : i < n) : cs[o + i]? = c[i]? := by
  rw [← h, cut_get, if_pos hi]
theorem core_c (c : Core) (h : c.wf) : CoreC c.enc := by
  have hl := core_len c h false c.sb c.wait
  have hs := core_still c h
  rw [core_parts] at hs ⊢
  obtain ⟨u0, u1, u2, u3, u4, a0, a1, a2, a3, a4, a5, a6, a7, a8, a9, a10, a11, a12, a13, a14, a15⟩ := core_at c h false c.sb c.wait
  have hn := h.2.2.2.2.2.2.2.2.2.2.1
  have k1 := (cut_at (i := 1) u2 (by omega)).trans rfl
  have k2 := (cut_at (i := 2) u2 (by omega)).trans rfl
  have k4 := (cut_at (i := 4) u2 (by omega)).trans rfl
  have k32 : (coreF c false c.sb c.wait)[65 + 32]? = some (.imm false c.names.free.ring.length (c.names.free.ring.flatMap (fun n => [T.int .i64 n]))) := by
    rw [cut_at u3 (by omega)]
    unfold Names.enc
    rw [List.getElem?_append_right (by rw [ints_len]; have := hn.1.1; omega), List.getElem?_append_right (by rw [ints_len, ints_len]; have := hn.1.1; have := hn.2.1.1; omega)]
    rw [ints_len, ints_len, hn.1.1, hn.2.1.1]; rfl
  have k0 := (cut_at (i := 0) u4 (by omega)).trans rfl
  exact ⟨hl, hs, ⟨_, _, _, a0⟩, ⟨_, _, _, k1⟩, ⟨_, _, _, k2⟩, ⟨_, _, _, k4⟩, ⟨_, _, _, a4⟩, ⟨_, _, _, a6⟩, ⟨_, _, _, k32⟩, ⟨_, _, _, k0⟩, ⟨_, _, _, a7⟩, ⟨_, _, _, a8⟩, ⟨_, _, _, a9⟩, ⟨_, _, _, a10⟩, ⟨_, _, _, a11⟩, ⟨_, _, _, a12⟩, ⟨_, _, _, a13⟩⟩
theorem core_stillF (c : Core) (h : c.wf) (f : Bool) (l : List Sb) (w : Int) : (coreF c f l w).all still1 = true := by
  rw [← core_put c h]
  unfold putC
  exact all_set (all_set (core_still c h) _ rfl) _ rfl
theorem stM_ok {m : Coh} (hok : Ok m) (who : Int) (dr : Bool) (l : List Sb) (wt ml : Int) (hs : ∀ s ∈ l, s.wf) (hl : l.length ≤ 20) : Ok (stM m who dr l wt ml).2.2.1 ∧ (stM m who dr l wt ml).1.length ≤ 20 ∧ ∀ s ∈ (stM m who dr l wt ml).1, s.wf := by
  unfold stM
  split
  · exact ⟨hok, hl, hs⟩
  · split
    · rename_i s l' 
      exact ⟨ok_wrS hok who (hs s (List.mem_cons_self ..)), by simp at hl ⊢; omega, fun s' h' => hs s' (List.mem_cons_of_mem _ h')⟩
    · exact ⟨hok, hl, hs⟩
end Go.Proofs.YtabfinhkoihhfaaGreat.Abs
