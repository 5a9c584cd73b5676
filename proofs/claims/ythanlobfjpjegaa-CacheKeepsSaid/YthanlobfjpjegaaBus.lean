/- What the program's filling and setting give, whole. -/
import Derived.Test.YthanlobfjpjegaaSet
import Derived.Test.YthanlobfjpjegaaWrite
namespace Go.Proofs.Ythanlobfjpjegaa.Abs
open Go Go.RowKit Fn
set_option linter.unusedVariables false
set_option linter.unusedSimpArgs false
set_option linter.unnecessarySimpa false
set_option maxRecDepth 100000
set_option maxHeartbeats 1000000

theorem ap23 : ap 23 = some f23 := rfl
theorem p23 : f23.pure = true := rfl
theorem n23 : f23.nat = none := rfl
theorem ap25 : ap 25 = some f25 := rfl
theorem p25 : f25.pure = true := rfl
theorem n25 : f25.nat = none := rfl
theorem ap27 : ap 27 = some f27 := rfl
theorem p27 : f27.pure = true := rfl
theorem n27 : f27.nat = none := rfl
theorem bus_fill (c : Cache) (hc : c.wf) (hfit : Fit c.sets) (ln : Nat) (hln : ln ≤ 4294967295) (st : Int) (data : List Int) (hd : data.length = 16 ∧ ∀ y ∈ data, (Lit.int .u8 y).wf = true) :
    ∃ u, E ap 25 [.agg [setsT c], .int .u32 (ln : Int), .int .i64 st, .agg (dataT data)] (.tup [u, .agg (fillR c ln st data).2.enc]) ∧ CacheEx (fillR c ln st data).1 u := by
  by_cases hb : st < 1 ∨ st > 3 ∨ c.sets.length = 0 ∨ (row c (seti c ln)).length = 0
  · have e : fillR c ln st data = (c.sets, zeroW) := if_pos hb
    rw [e]
    exact ⟨_, bus_fill_bad c hc ln hln st data hd.1 hb, ex_sets c⟩
  · obtain ⟨v, h, u, rfl, o⟩ := bus_fill_ok c hc hfit ln hln st data hd (by omega) (by omega) (by omega)
    exact ⟨u, h, o⟩
theorem bus_set_rows (c : Cache) (hc : c.wf) (hfit : Fit c.sets) (ln : Nat) (hln : ln ≤ 4294967295) (st : Int) :
    ∃ v, E ap 27 [.agg [setsT c], .int .u32 (ln : Int), .int .i64 st] v ∧ CacheEx (setR c ln st) v := by
  unfold setR
  cases hf : find c ln with
  | none => exact ⟨_, bus_set_bad c hc ln hln st (.inl hf), ex_sets c⟩
  | some k =>
    by_cases hb : st < 0 ∨ st > 3
    · simp only [if_pos hb]
      exact ⟨_, bus_set_bad c hc ln hln st (.inr hb), ex_sets c⟩
    · simp only [if_neg hb]
      exact bus_set_ok c hc hfit ln hln st k hf (by omega)
theorem fit_setR {c : Cache} (hfit : Fit c.sets) (ln : Nat) (st : Int) : Fit (setR c ln st) := by
  unfold setR
  cases hf : find c ln with
  | none => exact hfit
  | some k =>
    by_cases hb : st < 0 ∨ st > 3
    · simp only [if_pos hb]; exact hfit
    · simp only [if_neg hb]
      obtain ⟨hil, hkl⟩ := find_lt hf
      have hrow := fit_row hfit _ hil
      exact fit_set hfit _ _ ⟨by rw [List.length_set]; exact hrow.1, mem_setw hrow.2 k (setW_wf (wayN_wf hrow.2 hkl) (by omega))⟩
theorem fit_fillR {c : Cache} (hfit : Fit c.sets) (ln : Nat) (hln : ln ≤ 4294967295) (st : Int) (data : List Int) (hd : data.length = 16 ∧ ∀ y ∈ data, (Lit.int .u8 y).wf = true) : Fit (fillR c ln st data).1 ∧ (fillR c ln st data).2.wf := by
  by_cases hb : st < 1 ∨ st > 3 ∨ c.sets.length = 0 ∨ (row c (seti c ln)).length = 0
  · rw [show fillR c ln st data = (c.sets, zeroW) from if_pos hb]
    exact ⟨hfit, zeroW_wf⟩
  · rw [show fillR c ln st data = _ from if_neg hb]
    obtain ⟨hv1, hil, hkl⟩ := victim_lt c ln (by omega) (by omega)
    have hrow := fit_row hfit _ hil
    exact ⟨fit_touch (fit_set hfit _ _ ⟨by rw [List.length_set]; exact hrow.1, mem_setw hrow.2 _ (fillW_wf (wayN_wf hrow.2 hkl) hln (by omega) hd)⟩) _ _, goneW_wf (wayN_wf hrow.2 hkl) ln⟩
theorem frzL_fill (c : Cache) (ln : Int) (st : Int) (data : List Int) (g : Mem) : frzL ⟨g, 0⟩ frzDepth [.agg [setsT c], .int .u32 ln, .int .i64 st, .agg (dataT data)] = some ([.agg [setsT c], .int .u32 ln, .int .i64 st, .agg (dataT data)], []) := by
  have e0 : frz ⟨g, 0⟩ frzDepth (.agg [setsT c]) = some (.agg [setsT c], []) := rfl
  have e1 : frz ⟨g, 0⟩ frzDepth (.int .u32 ln) = some (.int .u32 ln, []) := rfl
  have e2 : frz ⟨g, 0⟩ frzDepth (.int .i64 st) = some (.int .i64 st, []) := rfl
  have e3 : frz ⟨g, 0⟩ frzDepth (.agg (dataT data)) = some (.agg (dataT data), []) := by
    show frz ⟨g, 0⟩ (11 + 1) _ = _
    rw [frz]
    simp only [frzAll_int (d := 10) _ (data_ints data)]
  unfold frzL
  simp only [frzAll, e0, e1, e2, e3, List.append_nil]
theorem fit_writeR {c : Cache} (hfit : Fit c.sets) (addr : Nat) (size v : Int) : Fit (writeR c addr size v).1 := by
  unfold writeR
  cases hK : writeK c addr size with
  | none => exact ⟨by simp, fun l h => by simp at h⟩
  | some k =>
    have hk : readK c addr size = some k := by
      unfold writeK at hK
      cases h : readK c addr size with
      | none => rw [h] at hK; cases hK
      | some j =>
        rw [h] at hK
        simp only at hK
        split at hK
        · exact hK
        · cases hK
    obtain ⟨hok, hf, _⟩ := place_some hk
    obtain ⟨hil, hkl⟩ := find_lt hf
    have hrow := fit_row hfit _ hil
    obtain ⟨n, rfl, hn, hn1, hn4, han⟩ := okay_nat hok
    exact fit_set hfit _ _ ⟨by rw [List.length_set]; exact hrow.1, (set_wr _ hrow.2 k hkl _ _ v (by rw [hn]; exact han)).2.2⟩
end Go.Proofs.Ythanlobfjpjegaa.Abs
