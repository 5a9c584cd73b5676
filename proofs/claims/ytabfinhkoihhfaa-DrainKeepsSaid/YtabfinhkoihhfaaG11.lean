/- Words of other seats' texts, as they are used here: Okd. -/
import Derived.Test.YtabfinhkoihhfaaG10
namespace Go.Proofs.Ytabfinhkoihhfaa.Abs
open Go Go.RowKit Fn
set_option linter.unusedVariables false
set_option linter.unusedSimpArgs false
set_option linter.unnecessarySimpa false
set_option maxRecDepth 100000
set_option maxHeartbeats 4000000

theorem ok_back {m : Coh} (h : Ok m) (w : Way) (hw : w.wf) : Ok (backM m w) := by
  unfold backM
  split
  · exact ok_put h _ hw.2.2.1.2
  · exact h
theorem ok_doGot {m : Coh} (h : Ok m) (w : Nat) (hw : w < m.caches.length) (kind : Int) (ln : Nat) (hln : ln ≤ 4294967295) (hlies : ln * 16 + 16 ≤ m.mem.length) : Ok (doGot m (w : Int) kind ln) := by
  unfold doGot
  rw [Int.toNat_natCast]
  split
  · exact ok_with h hw (fit_setR (h.2.2.2 w hw) _ _)
  · obtain ⟨h1, h2⟩ := fit_fillR (h.2.2.2 w hw) ln hln (gotv kind (sharedN m (w : Int) ln 0 m.caches.length)) (bytesM m ln) ⟨bytesM_len m ln hlies, bytesM_wf h.1 ln⟩
    exact ok_back (ok_with h hw h1) _ h2
theorem ok_do {m : Coh} (h : Ok m) (who kind : Int) (ln : Nat) (hln : ln ≤ 4294967295) : Ok (doM m who kind ln) := by
  unfold doM
  split
  · rename_i hg
    obtain ⟨⟨h1, h2⟩, h3, h4⟩ := hg
    obtain ⟨w, rfl⟩ : ∃ w : Nat, who = (w : Int) := ⟨who.toNat, by omega⟩
    have hsl := snoopN_len (w : Int) kind ln m m.caches.length
    exact ok_doGot (ok_snoopN h (w : Int) kind ln _ (Nat.le_refl _)) w (by rw [hsl.1]; omega) kind ln hln (by rw [hsl.2]; exact h4)
  · exact h
end Go.Proofs.Ytabfinhkoihhfaa.Abs
