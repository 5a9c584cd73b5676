-- This session's own text: written by wip/tools/myprint.sh after the kit's printer.
import Derived.Test.YtmkipjmadmjfaaaPWalkMapsx0
import Derived.Test.YtmkipjmadmjfaaaPWalkMapsx3
namespace Go.Proofs.Ytmkipjmadmjfaaa.PWalkMaps
open Go.RowKit Go.Proofs.YtmkipjmadmjfaaaW.PrintWords Go.Proofs.YtmkipjmadmjfaaaW.PrintLast Go.Proofs.YtmkipjmadmjfaaaW.PrintMore
attribute [local go_sem] max2_int min2_int max_two min_two max_three min_three max_four min_four   -- for this text's walks alone
set_option linter.unusedVariables false
set_option linter.unusedSimpArgs false

/-! ### walk_letters: function 35 -/
/-- A letter behind n rounds. -/
def walk_letters.lc (b : Int) (n i m c : Int) : Int := if i < n ∧ Go.bits .and .u32 b m = 0 then 45 else c
theorem walk_letters.lc_hit {b n i m c : Int} (h : i < n) (hb : Go.bits .and .u32 b m = 0) : walk_letters.lc b n i m c = 45 := if_pos ⟨h, hb⟩
theorem walk_letters.lc_miss {b n i m c : Int} (hb : ¬ Go.bits .and .u32 b m = 0) : walk_letters.lc b n i m c = c := if_neg (fun h => hb h.2)
theorem walk_letters.lc_later {b n i m c : Int} (h : ¬ i < n) : walk_letters.lc b n i m c = c := if_neg (fun h' => h h'.1)
theorem walk_letters.lc_step {b n i m c : Int} (h : i < n) : walk_letters.lc b (n + 1) i m c = walk_letters.lc b n i m c := by unfold walk_letters.lc; simp [h, show i < n + 1 by omega]
def walk_letters.row (b : Int) (n : Int) : Array Value := #[.int .u8 (walk_letters.lc b n 0 2 114), .int .u8 (walk_letters.lc b n 1 4 119), .int .u8 (walk_letters.lc b n 2 8 120), .int .u8 (walk_letters.lc b n 3 16 117), .int .u8 (walk_letters.lc b n 4 32 116), .int .u8 (walk_letters.lc b n 5 64 100)]
theorem walk_letters.put_row {W : World} {g t : Nat} {cs : Array Value} {fr : Nat × Nat} (h : W.heap[g]? = some (.cells cs t fr)) (i : Nat) (u : Value) : (W.setCell ⟨g, i, none⟩ u).heap[g]? = some (.cells (cs.setIfInBounds i u) t fr) := by
  simp [World.setCell, Array.getElem?_modify, h]
theorem walk_letters.idx (i : Nat) (m : Int) (hi : i < 6) (hm : #[Value.int .u32 2, Value.int .u32 4, Value.int .u32 8, Value.int .u32 16, Value.int .u32 32, Value.int .u32 64][i]? = some (Value.int .u32 m)) (W : World) : (Instr.index 70 (.agg #[Value.int .u32 2, Value.int .u32 4, Value.int .u32 8, Value.int .u32 16, Value.int .u32 32, Value.int .u32 64]) (.int .i64 (i : Int))).run Try.prog W = .ok (.int .u32 m) W := by
  obtain ⟨i0, h0, h1⟩ := Option.map_eq_some_iff.1 (show (Try.prog.info? 23).map (·.size) = some 1 by kernel_rfl)
  have hr : 0 ≤ (i : Int) ∧ (i : Int) < ((6 : Nat) : Int) := by omega
  have hu := Try.underlying70
  have hv := Try.underlying23
  have h6 : i = 0 ∨ i = 1 ∨ i = 2 ∨ i = 3 ∨ i = 4 ∨ i = 5 := by omega
  unfold Instr.index
  rcases h6 with rfl | rfl | rfl | rfl | rfl | rfl <;> (simp at hm; subst hm; simp [asIntOf, run_underlying hu, run_underlying hv, sizeOf, typeInfo, h0, h1, part])
def walk_letters.f (a0_0 : Int) (a0_1 : Int) : Option (ByteArray) := some (strOfNums [walk_letters.lc a0_0 6 0 2 114, walk_letters.lc a0_0 6 1 4 119, walk_letters.lc a0_0 6 2 8 120, walk_letters.lc a0_0 6 3 16 117, walk_letters.lc a0_0 6 4 32 116, walk_letters.lc a0_0 6 5 64 100])
set_option maxHeartbeats 8000000 in
set_option maxRecDepth 100000 in
theorem walk_letters.calls (a0_0 : Int) (a0_1 : Int) (r : ByteArray) (w : World) (h : walk_letters.f a0_0 a0_1 = some r) :
    Calls Try.prog 35 #[.agg #[.int .u32 a0_0, .int .i64 a0_1]] w fun e w' => e = .returned (.string r) ∧ Below w.heap.size w w' := by
  have hu26 := Try.underlying26
  have hu22 := Try.underlying22
  have hu70 := Try.underlying70
  have HB := Aside0.mk (Below.refl w.heap.size w)
  unfold walk_letters.f at h
  obtain rfl := Option.some.inj h
  clear h
  go_enter Try.func35, Try.ntmps35
  go_wp2_with (first | ((with_reducible refine gate_dst (N := 1) rfl ?_); refine box_event ?hg (N := 1) ?hd (cs := #[.int .u32 a0_0, .int .i64 a0_1]) (t := 26) ?hr ?_; (case hd => rfl); (case hg => rfl); (case hr => first | (go_simp; done) | (go_simp; rfl)); intro gp hg w1 hbox hb; have n0_ := Aside0.mk (below_step HB.out hb); have n1_ := Aside0.mk hbox; have n2_ := Aside0.mk ((by rw [hg]; exact below_size HB.out) : w.heap.size ≤ gp); clear HB; have HB := n0_; have BKP := n1_; have GP := n2_; clear n0_ n1_ n2_; clear hb hbox hg; have hcv := Go.Lib.run_convert_bytes_const (P := Try.prog) w1 22 5 #[Value.int .u8 114, Value.int .u8 119, Value.int .u8 120, Value.int .u8 117, Value.int .u8 116, Value.int .u8 100] 6 6 Try.underlying22 Try.underlying5))
  go_loopg [9] 7 (fun kq v9 w' => ∃ (n : Nat), v9 = .int .i64 (n : Int) ∧ Aside0 (kq + n = 7) ∧ Aside0 (n ≤ 6) ∧ Aside0 (w'.heap[w1.heap.size]? = some (.cells (walk_letters.row a0_0 (n : Int)) 5 (6, 7))) ∧ Aside0 (w'.heap[gp]? = some (.cells #[.int .u32 a0_0, .int .i64 a0_1] 26 (0, 0))) ∧ Aside0 (Below w.heap.size w w'))
  case atStart => exact ⟨0, rfl, ⟨rfl⟩, ⟨by omega⟩, ⟨by rw [show walk_letters.row a0_0 ((0 : Nat) : Int) = #[Value.int .u8 114, Value.int .u8 119, Value.int .u8 120, Value.int .u8 117, Value.int .u8 116, Value.int .u8 100] from by simp [walk_letters.row, walk_letters.lc]]; exact blk_new w1 _⟩, ⟨blk_alloc BKP.out _⟩, ⟨below_alloc HB.out _⟩⟩
  case round =>
    clear hcv
    obtain ⟨n, rfl, HK, HN, HS, HP, HB⟩ := hrel
    have hne : gp ≠ w1.heap.size := Nat.ne_of_lt (blk_lt BKP.out)
    have hge : w.heap.size ≤ w1.heap.size := below_size (by assumption : Aside0 (Below w.heap.size w w1)).out
    have hp : wr.cell? ⟨gp, 0, none⟩ = some (.int .u32 a0_0) := (blk_cell HP.out 0).trans rfl
    have hn : n = 0 ∨ n = 1 ∨ n = 2 ∨ n = 3 ∨ n = 4 ∨ n = 5 ∨ n = 6 := by have := HN.out; omega
    rcases hn with rfl | rfl | rfl | rfl | rfl | rfl | rfl
    · obtain ⟨k1, rfl⟩ : ∃ k1, gk = k1 + 1 := ⟨gk - 1, by have := HK.out; omega⟩
      have hs : wr.cell? ⟨w1.heap.size, 0, none⟩ = some (.int .u8 114) := (cell_of_row wr w1.heap.size 0 _ _ _ HS.out).trans (by simp [walk_letters.row, walk_letters.lc])
      have hf : wr.frozen? ⟨w1.heap.size, 0, none⟩ = false := by simp [World.frozen?, HS.out]
      have hix : ∀ W : World, (Instr.index 70 (.agg #[Value.int .u32 2, Value.int .u32 4, Value.int .u32 8, Value.int .u32 16, Value.int .u32 32, Value.int .u32 64]) (.int .i64 0)).run Try.prog W = .ok (.int .u32 2) W := fun W => walk_letters.idx 0 2 (by decide) rfl W
      by_cases c : Go.bits .and .u32 a0_0 2 = 0
      · have cb : (Go.bits .and .u32 a0_0 2 == 0) = true := beq_iff_eq.mpr c
        go_wp2
        go_roundg k1
        case measure => omega
        case rel => exact ⟨1, rfl, ⟨by have := HK.out; omega⟩, ⟨by omega⟩, ⟨(walk_letters.put_row HS.out 0 _).trans (by congr 2; simp [walk_letters.row, walk_letters.lc, c])⟩, ⟨blk_far HP.out hne _⟩, ⟨below_set HB.out hge⟩⟩
      · have cb : (Go.bits .and .u32 a0_0 2 == 0) = false := beq_eq_false_iff_ne.mpr c
        go_wp2
        go_roundg k1
        case measure => omega
        case rel => exact ⟨1, rfl, ⟨by have := HK.out; omega⟩, ⟨by omega⟩, ⟨HS.out.trans (by congr 2; simp [walk_letters.row, walk_letters.lc, c])⟩, ⟨HP.out⟩, ⟨HB.out⟩⟩
    · obtain ⟨k1, rfl⟩ : ∃ k1, gk = k1 + 1 := ⟨gk - 1, by have := HK.out; omega⟩
      have hs : wr.cell? ⟨w1.heap.size, 1, none⟩ = some (.int .u8 119) := (cell_of_row wr w1.heap.size 1 _ _ _ HS.out).trans (by simp [walk_letters.row, walk_letters.lc])
      have hf : wr.frozen? ⟨w1.heap.size, 1, none⟩ = false := by simp [World.frozen?, HS.out]
      have hix : ∀ W : World, (Instr.index 70 (.agg #[Value.int .u32 2, Value.int .u32 4, Value.int .u32 8, Value.int .u32 16, Value.int .u32 32, Value.int .u32 64]) (.int .i64 1)).run Try.prog W = .ok (.int .u32 4) W := fun W => walk_letters.idx 1 4 (by decide) rfl W
      by_cases c : Go.bits .and .u32 a0_0 4 = 0
      · have cb : (Go.bits .and .u32 a0_0 4 == 0) = true := beq_iff_eq.mpr c
        go_wp2
        go_roundg k1
        case measure => omega
        case rel => exact ⟨2, rfl, ⟨by have := HK.out; omega⟩, ⟨by omega⟩, ⟨(walk_letters.put_row HS.out 1 _).trans (by congr 2; simp [walk_letters.row, walk_letters.lc, c])⟩, ⟨blk_far HP.out hne _⟩, ⟨below_set HB.out hge⟩⟩
      · have cb : (Go.bits .and .u32 a0_0 4 == 0) = false := beq_eq_false_iff_ne.mpr c
        go_wp2
        go_roundg k1
        case measure => omega
        case rel => exact ⟨2, rfl, ⟨by have := HK.out; omega⟩, ⟨by omega⟩, ⟨HS.out.trans (by congr 2; simp [walk_letters.row, walk_letters.lc, c])⟩, ⟨HP.out⟩, ⟨HB.out⟩⟩
    · obtain ⟨k1, rfl⟩ : ∃ k1, gk = k1 + 1 := ⟨gk - 1, by have := HK.out; omega⟩
      have hs : wr.cell? ⟨w1.heap.size, 2, none⟩ = some (.int .u8 120) := (cell_of_row wr w1.heap.size 2 _ _ _ HS.out).trans (by simp [walk_letters.row, walk_letters.lc])
      have hf : wr.frozen? ⟨w1.heap.size, 2, none⟩ = false := by simp [World.frozen?, HS.out]
      have hix : ∀ W : World, (Instr.index 70 (.agg #[Value.int .u32 2, Value.int .u32 4, Value.int .u32 8, Value.int .u32 16, Value.int .u32 32, Value.int .u32 64]) (.int .i64 2)).run Try.prog W = .ok (.int .u32 8) W := fun W => walk_letters.idx 2 8 (by decide) rfl W
      by_cases c : Go.bits .and .u32 a0_0 8 = 0
      · have cb : (Go.bits .and .u32 a0_0 8 == 0) = true := beq_iff_eq.mpr c
        go_wp2
        go_roundg k1
        case measure => omega
        case rel => exact ⟨3, rfl, ⟨by have := HK.out; omega⟩, ⟨by omega⟩, ⟨(walk_letters.put_row HS.out 2 _).trans (by congr 2; simp [walk_letters.row, walk_letters.lc, c])⟩, ⟨blk_far HP.out hne _⟩, ⟨below_set HB.out hge⟩⟩
      · have cb : (Go.bits .and .u32 a0_0 8 == 0) = false := beq_eq_false_iff_ne.mpr c
        go_wp2
        go_roundg k1
        case measure => omega
        case rel => exact ⟨3, rfl, ⟨by have := HK.out; omega⟩, ⟨by omega⟩, ⟨HS.out.trans (by congr 2; simp [walk_letters.row, walk_letters.lc, c])⟩, ⟨HP.out⟩, ⟨HB.out⟩⟩
    · obtain ⟨k1, rfl⟩ : ∃ k1, gk = k1 + 1 := ⟨gk - 1, by have := HK.out; omega⟩
      have hs : wr.cell? ⟨w1.heap.size, 3, none⟩ = some (.int .u8 117) := (cell_of_row wr w1.heap.size 3 _ _ _ HS.out).trans (by simp [walk_letters.row, walk_letters.lc])
      have hf : wr.frozen? ⟨w1.heap.size, 3, none⟩ = false := by simp [World.frozen?, HS.out]
      have hix : ∀ W : World, (Instr.index 70 (.agg #[Value.int .u32 2, Value.int .u32 4, Value.int .u32 8, Value.int .u32 16, Value.int .u32 32, Value.int .u32 64]) (.int .i64 3)).run Try.prog W = .ok (.int .u32 16) W := fun W => walk_letters.idx 3 16 (by decide) rfl W
      by_cases c : Go.bits .and .u32 a0_0 16 = 0
      · have cb : (Go.bits .and .u32 a0_0 16 == 0) = true := beq_iff_eq.mpr c
        go_wp2
        go_roundg k1
        case measure => omega
        case rel => exact ⟨4, rfl, ⟨by have := HK.out; omega⟩, ⟨by omega⟩, ⟨(walk_letters.put_row HS.out 3 _).trans (by congr 2; simp [walk_letters.row, walk_letters.lc, c])⟩, ⟨blk_far HP.out hne _⟩, ⟨below_set HB.out hge⟩⟩
      · have cb : (Go.bits .and .u32 a0_0 16 == 0) = false := beq_eq_false_iff_ne.mpr c
        go_wp2
        go_roundg k1
        case measure => omega
        case rel => exact ⟨4, rfl, ⟨by have := HK.out; omega⟩, ⟨by omega⟩, ⟨HS.out.trans (by congr 2; simp [walk_letters.row, walk_letters.lc, c])⟩, ⟨HP.out⟩, ⟨HB.out⟩⟩
    · obtain ⟨k1, rfl⟩ : ∃ k1, gk = k1 + 1 := ⟨gk - 1, by have := HK.out; omega⟩
      have hs : wr.cell? ⟨w1.heap.size, 4, none⟩ = some (.int .u8 116) := (cell_of_row wr w1.heap.size 4 _ _ _ HS.out).trans (by simp [walk_letters.row, walk_letters.lc])
      have hf : wr.frozen? ⟨w1.heap.size, 4, none⟩ = false := by simp [World.frozen?, HS.out]
      have hix : ∀ W : World, (Instr.index 70 (.agg #[Value.int .u32 2, Value.int .u32 4, Value.int .u32 8, Value.int .u32 16, Value.int .u32 32, Value.int .u32 64]) (.int .i64 4)).run Try.prog W = .ok (.int .u32 32) W := fun W => walk_letters.idx 4 32 (by decide) rfl W
      by_cases c : Go.bits .and .u32 a0_0 32 = 0
      · have cb : (Go.bits .and .u32 a0_0 32 == 0) = true := beq_iff_eq.mpr c
        go_wp2
        go_roundg k1
        case measure => omega
        case rel => exact ⟨5, rfl, ⟨by have := HK.out; omega⟩, ⟨by omega⟩, ⟨(walk_letters.put_row HS.out 4 _).trans (by congr 2; simp [walk_letters.row, walk_letters.lc, c])⟩, ⟨blk_far HP.out hne _⟩, ⟨below_set HB.out hge⟩⟩
      · have cb : (Go.bits .and .u32 a0_0 32 == 0) = false := beq_eq_false_iff_ne.mpr c
        go_wp2
        go_roundg k1
        case measure => omega
        case rel => exact ⟨5, rfl, ⟨by have := HK.out; omega⟩, ⟨by omega⟩, ⟨HS.out.trans (by congr 2; simp [walk_letters.row, walk_letters.lc, c])⟩, ⟨HP.out⟩, ⟨HB.out⟩⟩
    · obtain ⟨k1, rfl⟩ : ∃ k1, gk = k1 + 1 := ⟨gk - 1, by have := HK.out; omega⟩
      have hs : wr.cell? ⟨w1.heap.size, 5, none⟩ = some (.int .u8 100) := (cell_of_row wr w1.heap.size 5 _ _ _ HS.out).trans (by simp [walk_letters.row, walk_letters.lc])
      have hf : wr.frozen? ⟨w1.heap.size, 5, none⟩ = false := by simp [World.frozen?, HS.out]
      have hix : ∀ W : World, (Instr.index 70 (.agg #[Value.int .u32 2, Value.int .u32 4, Value.int .u32 8, Value.int .u32 16, Value.int .u32 32, Value.int .u32 64]) (.int .i64 5)).run Try.prog W = .ok (.int .u32 64) W := fun W => walk_letters.idx 5 64 (by decide) rfl W
      by_cases c : Go.bits .and .u32 a0_0 64 = 0
      · have cb : (Go.bits .and .u32 a0_0 64 == 0) = true := beq_iff_eq.mpr c
        go_wp2
        go_roundg k1
        case measure => omega
        case rel => exact ⟨6, rfl, ⟨by have := HK.out; omega⟩, ⟨by omega⟩, ⟨(walk_letters.put_row HS.out 5 _).trans (by congr 2; simp [walk_letters.row, walk_letters.lc, c])⟩, ⟨blk_far HP.out hne _⟩, ⟨below_set HB.out hge⟩⟩
      · have cb : (Go.bits .and .u32 a0_0 64 == 0) = false := beq_eq_false_iff_ne.mpr c
        go_wp2
        go_roundg k1
        case measure => omega
        case rel => exact ⟨6, rfl, ⟨by have := HK.out; omega⟩, ⟨by omega⟩, ⟨HS.out.trans (by congr 2; simp [walk_letters.row, walk_letters.lc, c])⟩, ⟨HP.out⟩, ⟨HB.out⟩⟩
    · have hC : Kd.C (Kd.int .u8) wr (some ⟨w1.heap.size, 0, none⟩) 6 [walk_letters.lc a0_0 6 0 2 114, walk_letters.lc a0_0 6 1 4 119, walk_letters.lc a0_0 6 2 8 120, walk_letters.lc a0_0 6 3 16 117, walk_letters.lc a0_0 6 4 32 116, walk_letters.lc a0_0 6 5 64 100] := by
        refine ⟨rfl, by decide, fun _ => ⟨_, rfl, fun j p hj => ⟨[.int .u8 p], rfl, rfl, fun i u hu => ?_⟩⟩⟩
        have hi : i = 0 := by
          rcases i with _ | i
          · rfl
          · simp at hu
        subst hi
        have hu' : u = .int .u8 p := by simpa using hu.symm
        subst hu'
        have hadd : (⟨w1.heap.size, 0, none⟩ : Addr).add (j * 1 + 0) = ⟨w1.heap.size, j, none⟩ := by unfold Addr.add; split <;> simp_all
        show wr.cell? ((⟨w1.heap.size, 0, none⟩ : Addr).add (j * 1 + 0)) = _
        rw [hadd, cell_of_row wr w1.heap.size j _ _ _ HS.out]
        have h6 : j < 6 := by have := (List.getElem?_eq_some_iff.1 hj).1; simpa using this
        have hc6 : j = 0 ∨ j = 1 ∨ j = 2 ∨ j = 3 ∨ j = 4 ∨ j = 5 := by omega
        rcases hc6 with rfl | rfl | rfl | rfl | rfl | rfl <;> (simp at hj; subst hj; rfl)
      have hcv2 := Kd.C_string (P := Try.prog) (A := some ⟨w1.heap.size, 0, none⟩) (c := 6) Try.underlying22 Try.underlying5 Try.underlying9 hC
      go_wp2
      go_ret
      exact ⟨by first | rfl | simp, HB.out⟩

/-! ### walk_Map: function 19 -/
def walk_Map.l0 : Nat → List Int → Int → List (S61) → Int → Option ((List (S61)))
  | 0, _, _, _, _ => none
  | k + 1, x0, x1, x5, x10 => if x10 < 256 then ((walk_Walk.f k x0 x1 ((x10 * 64) % 4294967296)).bind fun bt170 => (if bt170.2.2.2 = true then ((walk_letters.f bt170.1 bt170.2.1).bind fun t177 => (if x5.length < 5864062014805 then (walk_Map.l0 k x0 x1 (x5 ++ [(⟨t177, ((x10 * 65536) + (bt170.2.1)) % 4294967296⟩ : S61)]) ((x10 + 1) % 4294967296)) else (none))) else (walk_Map.l0 k x0 x1 x5 ((x10 + 1) % 4294967296)))) else (some x5)
def walk_Map.f (k : Nat) (l0 : List Int) (a1 : Int) : Option ((List (S61))) := walk_Map.l0 k l0 a1 ([] : List (S61)) 0
theorem walk_Map.mono_l : ∀ k, (∀ y0 y1 y2 y3, LeO (walk_Map.l0 k y0 y1 y2 y3) (walk_Map.l0 (k + 1) y0 y1 y2 y3))
  | 0 => fun _ _ _ _ r h => by simp [walk_Map.l0] at h
  | k + 1 => by
    have ih0 := walk_Map.mono_l k
    · intro y0 y1 y2 y3
      unfold walk_Map.l0
      repeat' first
      | (with_reducible exact ih0 _ _ _ _)
      | (with_reducible exact walk_Walk.mono _ _ _ _)
      | (with_reducible exact LeO.refl _)
      | (with_reducible exact LeO.none _)
      | (with_reducible refine LeO.ite ?_ ?_)
      | (with_reducible refine LeO.bind ?_ (fun _ => ?_))
      | exact ih0 _ _ _ _
      | exact walk_Walk.mono _ _ _ _
      | exact LeO.none _
      | refine LeO.ite ?_ ?_
      | refine LeO.bind ?_ (fun _ => ?_)
theorem walk_Map.mono : ∀ a0 a1 k, LeO (walk_Map.f k a0 a1) (walk_Map.f (k + 1) a0 a1) := by
  intro a0 a1 k
  have ih0 := walk_Map.mono_l k
  unfold walk_Map.f
  repeat' first
      | (with_reducible exact ih0 _ _ _ _)
      | (with_reducible exact walk_Walk.mono _ _ _ _)
      | (with_reducible exact LeO.refl _)
      | (with_reducible exact LeO.none _)
      | (with_reducible refine LeO.ite ?_ ?_)
      | (with_reducible refine LeO.bind ?_ (fun _ => ?_))
      | exact ih0 _ _ _ _
      | exact walk_Walk.mono _ _ _ _
      | exact LeO.none _
      | refine LeO.ite ?_ ?_
      | refine LeO.bind ?_ (fun _ => ?_)
def walk_Map.T7 : Bool × List (List Nat × List Nat) := (true, [([], []), ([], []), ([1], [1]), ([], []), ([3], [3]), ([], []), ([5], [5]), ([6], [6]), ([4, 7], [4, 7]), ([2, 8], [2, 8]), ([9], [9]), ([0, 10, 2], [0, 10]), ([11, 11, 0, 1, 2, 3, 4, 5, 6, 7, 8, 9, 10, 11], [0, 11])])
def walk_Map.B7 : List Nat := [0, 0, 2, 0, 8, 0, 32, 96, 248, 510, 1022, 2047, 4095]
theorem walk_Map.tab7 : rtab .any (opsOf Try.f19 7) = walk_Map.T7 := by kernel_rfl
theorem walk_Map.bits7 : waitsOk walk_Map.T7.2 walk_Map.B7 = true := by kernel_rfl
set_option maxHeartbeats 8000000 in
set_option maxRecDepth 100000 in
theorem walk_Map.calls (k : Nat) (A0 : Option Addr) (c0 : Nat) (l0 : List Int) (a1 : Int) (r : List (S61)) (w : World) (hr0 : Kd.C (Kd.int .u8) w A0 l0.length l0) (hc0 : l0.length ≤ c0) (h : walk_Map.f k l0 a1 = some r) :
    Calls Try.prog 19 #[.slice A0 l0.length c0, .int .u32 a1] w fun e w' => ∃ v0_ : Value, e = .returned (v0_) ∧ Kd.R k61 61 w' w.heap.size (fun _ => True) v0_ r ∧ Below w.heap.size w w' := by
  have hu26 := Try.underlying26
  have hu61 := Try.underlying61
  have HR0 := Aside0.mk hr0
  have HC0 := Aside0.mk hc0
  clear hr0 hc0
  have HB := Aside0.mk (Below.refl w.heap.size w)
  have H : (walk_Map.l0 k l0 a1 ([] : List (S61)) 0) = some r := h
  clear h
  have H' := Aside0.mk H
  clear H
  go_enter Try.func19, Try.ntmps19
  go_wp2
  go_loopg [5, 10] k (fun kq v5 v10 w' => ∃ (x5_1 : List (S61)) (x10_1 : Int), v10 = .int .u32 x10_1 ∧ Aside0 (walk_Map.l0 kq l0 a1 x5_1 x10_1 = some r) ∧ Aside0 (kq ≤ k) ∧ Aside0 (Kd.R k61 61 w' w.heap.size (fun _ => True) v5 x5_1) ∧ Aside0 (Below w.heap.size w w'))
  case atStart => exact ⟨(([] : List (S61))), (0), (by first | rfl | (simp; done) | (simp [*]; done)), H', ⟨Nat.le_refl _⟩, ⟨by first | exact Kd.R_nil _ _ _ _ _ | exact Kd.N_nil _ _ _ _ _ | exact Kd.V_nil _ _ _ _ _ | exact Kd.Q_nil _ _ _ _ _ | exact Kd.S_nil _ _ _ _ _⟩, ⟨by repeat (first | (with_reducible first | exact HB.out | apply below_alloc | apply pw_below_drewN | apply below_drew1) | exact HB.out)⟩⟩
  case round =>
    clear H'
    try clear c1
    try clear p2
    obtain ⟨x5_1, x10_1, rfl, HA, HK1, HO_5, HB⟩ := hrel
    cases gk with
    | zero => exact absurd HA.out (by simp [walk_Map.l0])
    | succ k1 =>
      have H := HA.out
      clear HA
      simp only [walk_Map.l0] at H
      by_cases c3 : x10_1 < 256
      · rw [if_pos c3] at H
        have c3b0 : decide (x10_1 < 256) = true := decide_eq_true c3
        clear c3
        replace H := Option.bind_eq_some_iff.mp H
        obtain ⟨⟨t170, t171, t172, t175⟩, A40, H⟩ := H
        replace H : (if t175 = true then ((walk_letters.f t170 t171).bind fun t177 => (if x5_1.length < 5864062014805 then (walk_Map.l0 k1 l0 a1 (x5_1 ++ [(⟨t177, ((x10_1 * 65536) + (t171)) % 4294967296⟩ : S61)]) ((x10_1 + 1) % 4294967296)) else (none))) else (walk_Map.l0 k1 l0 a1 x5_1 ((x10_1 + 1) % 4294967296))) = some r := H
        have A4 := Aside0.mk A40
        clear A40
        by_cases c5 : t175 = true
        · subst c5
          have H1 : ((walk_letters.f t170 t171).bind fun t177 => (if x5_1.length < 5864062014805 then (walk_Map.l0 k1 l0 a1 (x5_1 ++ [(⟨t177, ((x10_1 * 65536) + (t171)) % 4294967296⟩ : S61)]) ((x10_1 + 1) % 4294967296)) else (none))) = some r := by rw [if_pos rfl] at H; exact H
          clear H
          have H := H1
          clear H1
          replace H := Option.bind_eq_some_iff.mp H
          obtain ⟨t177, A60, H⟩ := H
          replace H : (if x5_1.length < 5864062014805 then (walk_Map.l0 k1 l0 a1 (x5_1 ++ [(⟨t177, ((x10_1 * 65536) + (t171)) % 4294967296⟩ : S61)]) ((x10_1 + 1) % 4294967296)) else (none)) = some r := H
          have A6 := Aside0.mk A60
          clear A60
          by_cases c7 : x5_1.length < 5864062014805
          · rw [if_pos c7] at H
            have LMc7 := Aside0.mk c7
            clear c7
            obtain ⟨y178, hy178⟩ : ∃ y_ : List (S61), y_ = (x5_1 ++ [(⟨t177, ((x10_1 * 65536) + (t171)) % 4294967296⟩ : S61)]) := ⟨_, rfl⟩
            replace H : (walk_Map.l0 k1 l0 a1 y178 ((x10_1 + 1) % 4294967296)) = some r := by first | (rw [hy178]; with_reducible exact H) | (have H2_ := (Option.bind_some _ _).symm.trans H; rw [hy178]; with_reducible exact H2_) | (have H2_ := (Option.bind_some _ _).symm.trans H; with_reducible exact H2_) | with_reducible exact H | (rw [hy178]; exact H) | exact H
            have Ny178 := Aside0.mk hy178
            clear hy178
            have H' := Aside0.mk H
            clear H
            try go_wp2_with (first | ((with_reducible refine gate_callee (f := 9) rfl ?_); refine goesL_ (some 18) rfl rfl Try.func9 (by kernel_rfl) rfl #[.slice A0 l0.length c0, .int .u32 a1, .int .u32 ((x10_1 * 64) % 4294967296)] rfl (by (try simp only [List.map_toArray, List.map_cons, List.map_nil]); first | done | rfl | (go_simp; done) | (simp only [List.length_drop, List.length_take]; rfl)) ?_; (first | (with_reducible refine (walk_Walk.calls k1 _ _ l0 a1 ((x10_1 * 64) % 4294967296) t170 t171 t172 true _ ?side1 ?side2 A4.out).mono ?_) | (with_reducible refine (walk_Walk.calls k1 _ _ l0 a1 _ t170 t171 t172 true _ ?side1 ?side2 (by have h_ := A4.out; first | exact h_ | (simp only [Int.add_emod_emod, Int.emod_add_emod, Int.sub_emod_emod, Int.emod_sub_emod, Int.reduceDvd, Int.emod_emod_of_dvd, Int.emod_emod] at h_ ⊢; exact h_))).mono ?_)); (case side1 => repeat (first | exact (Kd.C_below HR0.out HB.out) | (with_reducible refine Kd.C_alloc ?_ _) | (with_reducible refine Kd.C_drewN ?_ _) | (with_reducible refine Kd.C_drew ?_))); (case side2 => exact HC0.out); rintro e w8 ⟨v173, rfl, ho0, hb⟩; refine ⟨_, rfl, ?_⟩; have n0_ := Aside0.mk (Kd.R_below (by (with_reducible repeat (first | apply Kd.R_alloc | apply Kd.R_drewN | apply Kd.R_drew)); exact HO_5.out) hb); have n1_ := Aside0.mk (Kd.R_lower ho0 (below_size (by repeat (first | (with_reducible first | exact HB.out | apply below_alloc | apply pw_below_drewN | apply below_drew1) | exact HB.out)))); have n2_ := Aside0.mk (below_step (by repeat (first | (with_reducible first | exact HB.out | apply below_alloc | apply pw_below_drewN | apply below_drew1) | exact HB.out)) hb); clear HO_5; clear HB; have HO_5 := n0_; have HO174 := n1_; have HB := n2_; clear n0_ n1_ n2_; (try clear hb); (try clear hb2); (try clear hk); (try clear hi); (try clear ho0)) | ((with_reducible refine gate_dst (N := 7) rfl ?_); refine box_event ?hg (N := 7) ?hd (cs := #[.int .u32 0, .int .i64 0]) (t := 26) ?hr ?_; (case hd => rfl); (case hg => rfl); (case hr => first | (go_simp; done) | (go_simp; rfl)); intro gb176 hg w9 hbox hb; have n0_ := Aside0.mk (Kd.R_below (by (with_reducible repeat (first | apply Kd.R_alloc | apply Kd.R_drewN | apply Kd.R_drew)); exact HO_5.out) hb); have n1_ := Aside0.mk (Kd.R_below (by (with_reducible repeat (first | apply Kd.R_alloc | apply Kd.R_drewN | apply Kd.R_drew)); exact HO174.out) hb); have n2_ := Aside0.mk (below_step (by repeat (first | (with_reducible first | exact HB.out | apply below_alloc | apply pw_below_drewN | apply below_drew1) | exact HB.out)) hb); have n3_ := Aside0.mk (hbox); have n4_ := Aside0.mk ((by rw [hg]; exact (below_size (by repeat (first | (with_reducible first | exact HB.out | apply below_alloc | apply pw_below_drewN | apply below_drew1) | exact HB.out))) : w.heap.size ≤ gb176)); have n5_ := Aside0.mk ((by rw [hg]; exact (below_size (by repeat (first | (with_reducible first | exact HB.out | apply below_alloc | apply pw_below_drewN | apply below_drew1) | exact HB.out))) : w.heap.size ≤ gb176)); clear HO_5; clear HO174; clear HB; have HO_5 := n0_; have HO174 := n1_; have HB := n2_; have BK176 := n3_; have GW176 := n4_; have GE176 := n5_; clear n0_ n1_ n2_ n3_ n4_ n5_; clear hb hbox hg; have hcz10_0 : w9.cell? ⟨gb176, 0, none⟩ = some (.int .u32 0) := (blk_cell BK176.out 0).trans rfl; have hcz10_1 : w9.cell? ⟨gb176, 1, none⟩ = some (.int .i64 0) := (blk_cell BK176.out 1).trans rfl; have hfz10_0 := blk_frozen BK176.out 0; have hfz10_1 := blk_frozen BK176.out 1))
            have n0_ : Aside0 (Kd.R k61 61 ((w9.setCell ⟨gb176, 0, none⟩ (.int .u32 t170)).setCell ⟨gb176, 1, none⟩ (.int .i64 t171)) w.heap.size (fun _ => True) u5 x5_1) := ⟨by (with_reducible repeat (first | apply Kd.R_alloc | apply Kd.R_drewN | apply Kd.R_drew)); exact Kd.R_mono (Kd.R_far (p := ⟨gb176, 1, none⟩) (Kd.R_far (p := ⟨gb176, 0, none⟩) (Kd.R_types HO_5.out BK176.out (by decide)) (fun _ hk => hk.2) (.int .u32 t170)) (fun _ hk => hk.2) (.int .i64 t171)) (fun _ hk => trivial)⟩
            have n1_ : Aside0 (Kd.R (Kd.int .u32) 23 ((w9.setCell ⟨gb176, 0, none⟩ (.int .u32 t170)).setCell ⟨gb176, 1, none⟩ (.int .i64 t171)) w.heap.size (fun _ => True) v173 t172) := ⟨by (with_reducible repeat (first | apply Kd.R_alloc | apply Kd.R_drewN | apply Kd.R_drew)); exact Kd.R_mono (Kd.R_far (p := ⟨gb176, 1, none⟩) (Kd.R_far (p := ⟨gb176, 0, none⟩) (Kd.R_types HO174.out BK176.out (by decide)) (fun _ hk => hk.2) (.int .u32 t170)) (fun _ hk => hk.2) (.int .i64 t171)) (fun _ hk => trivial)⟩
            have n2_ : Aside0 (((w9.setCell ⟨gb176, 0, none⟩ (.int .u32 t170)).setCell ⟨gb176, 1, none⟩ (.int .i64 t171)).heap[gb176]? = some (.cells #[.int .u32 t170, .int .i64 t171] 26 (0, 0))) := ⟨by (with_reducible repeat (first | refine blk_drewN ?_ _ | refine blk_drew ?_ | refine blk_alloc ?_ _)); refine blk_put (cs := #[.int .u32 t170, .int .i64 0]) ?_ 1 _ (by first | rfl | (simp [Int.emod_emod_of_dvd]; done)); (with_reducible repeat (first | refine blk_drewN ?_ _ | refine blk_drew ?_ | refine blk_alloc ?_ _)); refine blk_put (cs := #[.int .u32 0, .int .i64 0]) ?_ 0 _ (by first | rfl | (simp [Int.emod_emod_of_dvd]; done)); (with_reducible repeat (first | refine blk_drewN ?_ _ | refine blk_drew ?_ | refine blk_alloc ?_ _)); exact BK176.out⟩
            have n3_ : Aside0 (Below w.heap.size w ((w9.setCell ⟨gb176, 0, none⟩ (.int .u32 t170)).setCell ⟨gb176, 1, none⟩ (.int .i64 t171))) := ⟨by repeat (first | (with_reducible first | exact HB.out | apply below_alloc | apply pw_below_drewN | apply below_drew1 | refine below_set ?_ GE176.out) | exact HB.out)⟩
            (try clear HO_5)
            (try clear HO174)
            (try clear BK176)
            (try clear HB)
            generalize ((w9.setCell ⟨gb176, 0, none⟩ (.int .u32 t170)).setCell ⟨gb176, 1, none⟩ (.int .i64 t171)) = w11 at n0_ n1_ n2_ n3_ ⊢
            have HO_5 := n0_
            have HO174 := n1_
            have BK176 := n2_
            have HB := n3_
            clear n0_ n1_ n2_ n3_
            have n0_ := Aside0.mk (Kd.R_drew HO_5.out)
            have n1_ := Aside0.mk (Kd.R_drew HO174.out)
            have n2_ := Aside0.mk (blk_drew BK176.out)
            have n3_ := Aside0.mk (below_drew1 HB.out)
            clear HO_5
            clear HO174
            clear BK176
            clear HB
            have HO_5 := n0_
            have HO174 := n1_
            have BK176 := n2_
            have HB := n3_
            clear n0_ n1_ n2_ n3_
            refine start_ (n := 13) (S := fun w' => w'.cell? ⟨gb176, 0, none⟩ = some (.int .u32 t170) ∧ w'.cell? ⟨gb176, 1, none⟩ = some (.int .i64 t171)) (ds := []) #[false, false, false, false, false, false, false, false, false, false, false, false, false] (by kernel_rfl) rfl rfl ⟨(blk_cell BK176.out 0).trans rfl, (blk_cell BK176.out 1).trans rfl⟩ (fun hHeld => ?_); refine with_tabW walk_Map.tab7 walk_Map.bits7 (fun HT_ HW_ => ?_)
            generalize w11.drew = w12 at HO_5 HO174 BK176 HB hHeld ⊢
            refine pure_ (i := 0) (N := some 23) (v := ?_) (a' := ?_) #[true, false, false, false, false, false, false, false, false, false, false, false, false] rfl rfl (any_of HT_.out (by kernel_rfl)) (fun _ _ _ h => h) (Or.inl ⟨by rfl, ?_⟩) ?_ ?_
            rotate_left
            · intro w'
              go_simp
              with_reducible rfl
            rotate_left
            · simp only [Act.put, List.setIfInBounds_toArray, List.set_cons_zero, List.set_cons_succ, i64_w, i32_w, IntKind.wrap_u32]
              rfl
            refine pure_ (i := 3) (N := some 26) (v := ?_) (a' := ?_) #[true, false, false, true, false, false, false, false, false, false, false, false, false] rfl rfl (any_of HT_.out (by kernel_rfl)) (fun _ _ _ h => h) (Or.inl ⟨by rfl, ?_⟩) ?_ ?_
            rotate_left
            · intro w'
              go_simp
              with_reducible rfl
            rotate_left
            · simp only [Act.put, List.setIfInBounds_toArray, List.set_cons_zero, List.set_cons_succ, i64_w, i32_w, IntKind.wrap_u32]
              rfl
            refine pure_ (i := 4) (N := some 27) (v := ?_) (a' := ?_) #[true, false, false, true, true, false, false, false, false, false, false, false, false] rfl rfl (any_of HT_.out (by kernel_rfl)) (fun _ _ _ h => h) (Or.inl ⟨by rfl, ?_⟩) ?_ ?_
            rotate_left
            · intro w'
              go_simp
              with_reducible rfl
            rotate_left
            · simp only [Act.put, List.setIfInBounds_toArray, List.set_cons_zero, List.set_cons_succ, i64_w, i32_w, IntKind.wrap_u32]
              rfl
            refine pure_ (i := 5) (N := some 28) (v := ?_) (a' := ?_) #[true, false, false, true, true, true, false, false, false, false, false, false, false] rfl rfl (any_of HT_.out (by kernel_rfl)) (fun _ _ _ h => h) (Or.inl ⟨by rfl, ?_⟩) ?_ ?_
            rotate_left
            · intro w'
              go_simp
              with_reducible rfl
            rotate_left
            · simp only [Act.put, List.setIfInBounds_toArray, List.set_cons_zero, List.set_cons_succ, i64_w, i32_w, IntKind.wrap_u32]
              rfl
            refine take_ (i := 1) (N := some 24) (v := ?_) (a' := ?_) #[true, true, false, true, true, true, false, false, false, false, false, false, false] rfl rfl (take_ofW HT_.out HW_.out (by kernel_rfl)) (fun _ _ _ h => h) (Or.inl ⟨by rfl, ?_⟩) hHeld ?_ ?_
            rotate_left
            · rintro w' ⟨s0, s1⟩
              go_simp
              with_reducible rfl
            rotate_left
            · simp only [Act.put, List.setIfInBounds_toArray, List.set_cons_zero, List.set_cons_succ, i64_w, i32_w, IntKind.wrap_u32]
              rfl
            refine take_ (i := 6) (N := some 29) (v := ?_) (a' := ?_) #[true, true, false, true, true, true, true, false, false, false, false, false, false] rfl rfl (take_ofW HT_.out HW_.out (by kernel_rfl)) (fun _ _ _ h => h) (Or.inl ⟨by rfl, ?_⟩) hHeld ?_ ?_
            rotate_left
            · rintro w' ⟨s0, s1⟩
              go_simp
              with_reducible rfl
            rotate_left
            · simp only [Act.put, List.setIfInBounds_toArray, List.set_cons_zero, List.set_cons_succ, i64_w, i32_w, IntKind.wrap_u32]
              rfl
            refine pure_ (i := 7) (N := some 30) (v := ?_) (a' := ?_) #[true, true, false, true, true, true, true, true, false, false, false, false, false] rfl rfl (any_of HT_.out (by kernel_rfl)) (fun _ _ _ h => h) (Or.inl ⟨by rfl, ?_⟩) ?_ ?_
            rotate_left
            · intro w'
              go_simp
              with_reducible rfl
            rotate_left
            · simp only [Act.put, List.setIfInBounds_toArray, List.set_cons_zero, List.set_cons_succ, i64_w, i32_w, IntKind.wrap_u32]
              rfl
            refine pure_ (i := 8) (N := some 31) (v := ?_) (a' := ?_) #[true, true, false, true, true, true, true, true, true, false, false, false, false] rfl rfl (any_of HT_.out (by kernel_rfl)) (fun _ _ _ h => h) (Or.inl ⟨by rfl, ?_⟩) ?_ ?_
            rotate_left
            · intro w'
              go_simp
              with_reducible rfl
            rotate_left
            · simp only [Act.put, List.setIfInBounds_toArray, List.set_cons_zero, List.set_cons_succ, i64_w, i32_w, IntKind.wrap_u32]
              rfl
            refine one_ (i := 2) (N := some 25) #[true, true, true, true, true, true, true, true, true, false, false, false, false] rfl rfl (one_of HT_.out (by kernel_rfl)) (by decide) (fun K hK => ?_)
            refine goes_ Try.func35 (by kernel_rfl) rfl #[.agg #[.int .u32 t170, .int .i64 t171]] (by rfl) rfl rfl (by (try simp only [List.map_toArray, List.map_cons, List.map_nil]); first | done | rfl | (simp only [List.length_drop, List.length_take]; rfl)) ?_
            with_reducible refine (walk_letters.calls t170 t171 t177 _ A6.out).mono ?_
            rintro e w13 ⟨rfl, hb⟩
            refine ⟨_, rfl, ?_⟩
            have n0_ := Aside0.mk (Kd.R_below (by (with_reducible repeat (first | apply Kd.R_alloc | apply Kd.R_drewN | apply Kd.R_drew)); exact HO_5.out) hb)
            have n1_ := Aside0.mk (Kd.R_below (by (with_reducible repeat (first | apply Kd.R_alloc | apply Kd.R_drewN | apply Kd.R_drew)); exact HO174.out) hb)
            have n2_ := Aside0.mk (blk_below (g := gb176) (o := .cells #[.int .u32 t170, .int .i64 t171] 26 (0, 0)) (by (with_reducible repeat (first | refine blk_drewN ?_ _ | refine blk_drew ?_ | refine blk_alloc ?_ _)); exact BK176.out) hb)
            have n3_ := Aside0.mk (below_step (by repeat (first | (with_reducible first | exact HB.out | apply below_alloc | apply pw_below_drewN | apply below_drew1 | refine below_set ?_ GE176.out) | exact HB.out)) hb)
            clear HO_5
            clear HO174
            clear BK176
            clear HB
            have HO_5 := n0_
            have HO174 := n1_
            have BK176 := n2_
            have HB := n3_
            clear n0_ n1_ n2_ n3_
            (try clear hb)
            (try clear hb2)
            (try clear hk)
            (try clear hi)
            refine hK.out _ _ ⟨(blk_cell BK176.out 0).trans rfl, (blk_cell BK176.out 1).trans rfl⟩ (fun hHeld => ?_)
            clear hK K
            refine norm_ (a' := ?_) ?_ ?_
            rotate_left
            · show Act.put _ (some 25) _ = _
              simp only [Act.put, List.setIfInBounds_toArray, List.set_cons_zero, List.set_cons_succ, i64_w, i32_w, IntKind.wrap_u32]
              rfl
            refine pure_ (i := 9) (N := some 32) (v := ?_) (a' := ?_) #[true, true, true, true, true, true, true, true, true, true, false, false, false] rfl rfl (any_of HT_.out (by kernel_rfl)) (fun _ _ _ h => h) (Or.inl ⟨by rfl, ?_⟩) ?_ ?_
            rotate_left
            · intro w'
              go_simp
              with_reducible rfl
            rotate_left
            · simp only [Act.put, List.setIfInBounds_toArray, List.set_cons_zero, List.set_cons_succ, i64_w, i32_w, IntKind.wrap_u32]
              rfl
            refine one_ (i := 10) (N := some 33) #[true, true, true, true, true, true, true, true, true, true, true, false, false] rfl rfl (one_of HT_.out (by kernel_rfl)) (by decide) (fun K hK => ?_)
            refine value_ (w1 := ?_) (v := ?_) (by rfl) rfl ?_ ?_
            rotate_left 2
            · go_simp
              constructor
              · rfl
              · rfl
            refine hK.out _ _ ⟨(blk_cell (blk_alloc BK176.out _) 0).trans rfl, (blk_cell (blk_alloc BK176.out _) 1).trans rfl⟩ (fun hHeld => ?_)
            clear hK K
            refine norm_ (a' := ?_) ?_ ?_
            rotate_left
            · show Act.put _ (some 33) _ = _
              simp only [Act.put, List.setIfInBounds_toArray, List.set_cons_zero, List.set_cons_succ, i64_w, i32_w, IntKind.wrap_u32]
              rfl
            refine one_ (i := 11) (N := some 34) #[true, true, true, true, true, true, true, true, true, true, true, true, false] rfl rfl (one_of HT_.out (by kernel_rfl)) (by decide) (fun K hK => ?_)
            refine Kd.R_append_step k61 (w0 := w) w.heap.size (by rfl) (.tmp 23) (.tmp 33) 45 61 (.agg #[(.string ⟨#[]⟩), (.int .u32 0)]) 24 rfl Try.underlying45 info61 rfl (by decide) (by omega) u5 x5_1 (⟨t177, ((x10_1 * 65536) + (t171)) % 4294967296⟩ : S61) [.string t177, .int .u32 (((x10_1 * 65536) + (t171)) % 4294967296)] (fun _ => True) (fun _ => False) rfl rfl ?aP (fun _ hk => hk.elim) ?aF ?aO ?aB ?aS ?aL ?_
            (case aP => exact k61_mkM _ _ _ (⟨t177, ((x10_1 * 65536) + (t171)) % 4294967296⟩ : S61))
            (case aB => exact (by repeat (first | (with_reducible first | exact HB.out | apply below_alloc | apply pw_below_drewN | apply below_drew1 | refine below_set ?_ GE176.out) | exact HB.out)))
            (case aF => exact (fun _ _ => trivial))
            (case aO => exact (by (with_reducible repeat (first | apply Kd.R_alloc | apply Kd.R_drewN | apply Kd.R_drew)); exact HO_5.out))
            (case aS => exact (below_size (by repeat (first | (with_reducible first | exact HB.out | apply below_alloc | apply pw_below_drewN | apply below_drew1 | refine below_set ?_ GE176.out) | exact HB.out))))
            (case aL => have := LMc7.out; omega)
            intro v179 w14 ho hb hg hat
            rw [← Ny178.out] at ho
            have n0_ := Aside0.mk (Kd.R_over' (by (with_reducible repeat (first | apply Kd.R_alloc | apply Kd.R_drewN | apply Kd.R_drew)); exact HO174.out) (Kd.R_typed (by (with_reducible repeat (first | apply Kd.R_alloc | apply Kd.R_drewN | apply Kd.R_drew)); exact HO_5.out)) (by decide) hg)
            have n1_ := Aside0.mk (blk_grown (g := gb176) (o := .cells #[.int .u32 t170, .int .i64 t171] 26 (0, 0)) (by (with_reducible repeat (first | refine blk_drewN ?_ _ | refine blk_drew ?_ | refine blk_alloc ?_ _)); exact BK176.out) hg (Kd.R_ne HO_5.out BK176.out (by decide)))
            have n2_ := Aside0.mk (hb)
            have n3_ := Aside0.mk (ho)
            clear HO174
            clear BK176
            clear HB
            clear HO_5
            have HO174 := n0_
            have BK176 := n1_
            have HB := n2_
            have HO180 := n3_
            clear n0_ n1_ n2_ n3_
            clear ho hb hg hat
            refine hK.out _ _ ⟨(blk_cell BK176.out 0).trans rfl, (blk_cell BK176.out 1).trans rfl⟩ (fun hHeld => ?_)
            clear hK K
            refine norm_ (a' := ?_) ?_ ?_
            rotate_left
            · show Act.put _ (some 34) _ = _
              simp only [Act.put, List.setIfInBounds_toArray, List.set_cons_zero, List.set_cons_succ, i64_w, i32_w, IntKind.wrap_u32]
              rfl
            refine pure_ (i := 12) (N := some 5) (v := ?_) (a' := ?_) #[true, true, true, true, true, true, true, true, true, true, true, true, true] rfl rfl (any_of HT_.out (by kernel_rfl)) (fun _ _ _ h => h) (Or.inl ⟨by rfl, ?_⟩) ?_ ?_
            rotate_left
            · intro w'
              go_simp
              with_reducible rfl
            rotate_left
            · simp only [Act.put, List.setIfInBounds_toArray, List.set_cons_zero, List.set_cons_succ, i64_w, i32_w, IntKind.wrap_u32]
              rfl
            refine done_ (done_of HT_.out (by kernel_rfl)) ?_
            try go_wp2
            go_roundg k1
            case measure => have := HK1.out; omega
            case rel => exact ⟨(y178), ((x10_1 + 1) % 4294967296), (by first | rfl | (simp; done) | (simp [*]; done)), H', ⟨by have := HK1.out; omega⟩, ⟨by (with_reducible repeat (first | apply Kd.R_alloc | apply Kd.R_drewN | apply Kd.R_drew)); exact HO180.out⟩, ⟨by repeat (first | (with_reducible first | exact HB.out | apply below_alloc | apply pw_below_drewN | apply below_drew1 | refine below_set ?_ GE176.out) | exact HB.out)⟩⟩
          · rw [if_neg c7] at H
            exact absurd H (by simp)
        · replace c5 := Bool.eq_false_iff.mpr c5
          subst c5
          have H1 : (walk_Map.l0 k1 l0 a1 x5_1 ((x10_1 + 1) % 4294967296)) = some r := by rw [if_neg (show ¬ (false = true) by decide)] at H; exact H
          clear H
          have H := H1
          clear H1
          have H' := Aside0.mk H
          clear H
          go_wp2_with (first | ((with_reducible refine gate_callee (f := 9) rfl ?_); refine goesL_ (some 18) rfl rfl Try.func9 (by kernel_rfl) rfl #[.slice A0 l0.length c0, .int .u32 a1, .int .u32 ((x10_1 * 64) % 4294967296)] rfl (by (try simp only [List.map_toArray, List.map_cons, List.map_nil]); first | done | rfl | (go_simp; done) | (simp only [List.length_drop, List.length_take]; rfl)) ?_; (first | (with_reducible refine (walk_Walk.calls k1 _ _ l0 a1 ((x10_1 * 64) % 4294967296) t170 t171 t172 false _ ?side1 ?side2 A4.out).mono ?_) | (with_reducible refine (walk_Walk.calls k1 _ _ l0 a1 _ t170 t171 t172 false _ ?side1 ?side2 (by have h_ := A4.out; first | exact h_ | (simp only [Int.add_emod_emod, Int.emod_add_emod, Int.sub_emod_emod, Int.emod_sub_emod, Int.reduceDvd, Int.emod_emod_of_dvd, Int.emod_emod] at h_ ⊢; exact h_))).mono ?_)); (case side1 => repeat (first | exact (Kd.C_below HR0.out HB.out) | (with_reducible refine Kd.C_alloc ?_ _) | (with_reducible refine Kd.C_drewN ?_ _) | (with_reducible refine Kd.C_drew ?_))); (case side2 => exact HC0.out); rintro e w15 ⟨v173, rfl, ho0, hb⟩; refine ⟨_, rfl, ?_⟩; have n0_ := Aside0.mk (Kd.R_below (by (with_reducible repeat (first | apply Kd.R_alloc | apply Kd.R_drewN | apply Kd.R_drew)); exact HO_5.out) hb); have n1_ := Aside0.mk (Kd.R_lower ho0 (below_size (by repeat (first | (with_reducible first | exact HB.out | apply below_alloc | apply pw_below_drewN | apply below_drew1) | exact HB.out)))); have n2_ := Aside0.mk (below_step (by repeat (first | (with_reducible first | exact HB.out | apply below_alloc | apply pw_below_drewN | apply below_drew1) | exact HB.out)) hb); clear HO_5; clear HB; have HO_5 := n0_; have HO174 := n1_; have HB := n2_; clear n0_ n1_ n2_; (try clear hb); (try clear hb2); (try clear hk); (try clear hi); (try clear ho0)) | ((with_reducible refine gate_dst (N := 7) rfl ?_); refine box_event ?hg (N := 7) ?hd (cs := #[.int .u32 0, .int .i64 0]) (t := 26) ?hr ?_; (case hd => rfl); (case hg => rfl); (case hr => first | (go_simp; done) | (go_simp; rfl)); intro gb176 hg w16 hbox hb; have n0_ := Aside0.mk (Kd.R_below (by (with_reducible repeat (first | apply Kd.R_alloc | apply Kd.R_drewN | apply Kd.R_drew)); exact HO_5.out) hb); have n1_ := Aside0.mk (Kd.R_below (by (with_reducible repeat (first | apply Kd.R_alloc | apply Kd.R_drewN | apply Kd.R_drew)); exact HO174.out) hb); have n2_ := Aside0.mk (below_step (by repeat (first | (with_reducible first | exact HB.out | apply below_alloc | apply pw_below_drewN | apply below_drew1) | exact HB.out)) hb); have n3_ := Aside0.mk (hbox); have n4_ := Aside0.mk ((by rw [hg]; exact (below_size (by repeat (first | (with_reducible first | exact HB.out | apply below_alloc | apply pw_below_drewN | apply below_drew1) | exact HB.out))) : w.heap.size ≤ gb176)); have n5_ := Aside0.mk ((by rw [hg]; exact (below_size (by repeat (first | (with_reducible first | exact HB.out | apply below_alloc | apply pw_below_drewN | apply below_drew1) | exact HB.out))) : w.heap.size ≤ gb176)); clear HO_5; clear HO174; clear HB; have HO_5 := n0_; have HO174 := n1_; have HB := n2_; have BK176 := n3_; have GW176 := n4_; have GE176 := n5_; clear n0_ n1_ n2_ n3_ n4_ n5_; clear hb hbox hg; have hcz17_0 : w16.cell? ⟨gb176, 0, none⟩ = some (.int .u32 0) := (blk_cell BK176.out 0).trans rfl; have hcz17_1 : w16.cell? ⟨gb176, 1, none⟩ = some (.int .i64 0) := (blk_cell BK176.out 1).trans rfl; have hfz17_0 := blk_frozen BK176.out 0; have hfz17_1 := blk_frozen BK176.out 1))
          go_roundg k1
          case measure => have := HK1.out; omega
          case rel => exact ⟨(x5_1), ((x10_1 + 1) % 4294967296), (by first | rfl | (simp; done) | (simp [*]; done)), H', ⟨by have := HK1.out; omega⟩, ⟨by (with_reducible repeat (first | apply Kd.R_alloc | apply Kd.R_drewN | apply Kd.R_drew)); exact Kd.R_mono (Kd.R_far (p := ⟨gb176, 1, none⟩) (Kd.R_far (p := ⟨gb176, 0, none⟩) (Kd.R_types HO_5.out BK176.out (by decide)) (fun _ hk => hk.2) (.int .u32 t170)) (fun _ hk => hk.2) (.int .i64 t171)) (fun _ hk => trivial)⟩, ⟨by repeat (first | (with_reducible first | exact HB.out | apply below_alloc | apply pw_below_drewN | apply below_drew1 | refine below_set ?_ GE176.out) | exact HB.out)⟩⟩
      · rw [if_neg c3] at H
        have c3b0 : decide (x10_1 < 256) = false := decide_eq_false c3
        clear c3
        obtain rfl := Option.some.inj H
        go_wp2
        go_ret
        exact ⟨_, by first | rfl | (simp [errW_none, errW_some] <;> rfl) | (simp [*, errW_none, errW_some] <;> rfl), by (with_reducible repeat (first | apply Kd.R_alloc | apply Kd.R_drewN | apply Kd.R_drew)); exact HO_5.out, by repeat (first | (with_reducible first | exact HB.out | apply below_alloc | apply pw_below_drewN | apply below_drew1) | exact HB.out)⟩

/-! ### cotterelref12_Index: function 25 -/
def cotterelref12_Index.f (a0 : Int) (a1 : Int) : Option (Int) := if a1 = 0 then (some (((Int.tdiv a0 1024) % 4294967296) % 16)) else (if a1 = 1 then (some (((Int.tdiv a0 64) % 4294967296) % 16)) else (some 0))
set_option maxHeartbeats 8000000 in
set_option maxRecDepth 100000 in
theorem cotterelref12_Index.calls (a0 : Int) (a1 : Int) (r : Int) (w : World) (h : cotterelref12_Index.f a0 a1 = some r) :
    Calls Try.prog 25 #[.int .u32 a0, .int .i64 a1] w fun e w' => e = .returned (.int .i64 r) ∧ Drawn0 w w' := by
  have H : (if a1 = 0 then (some (((Int.tdiv a0 1024) % 4294967296) % 16)) else (if a1 = 1 then (some (((Int.tdiv a0 64) % 4294967296) % 16)) else (some 0))) = some r := h
  clear h
  by_cases c3 : a1 = 0
  · rw [if_pos c3] at H
    have c3b0 : (a1 == 0) = true := beq_iff_eq.mpr c3
    have c3b1 : (a1 != 0) = false := bne_eq_false_iff_eq.mpr c3
    clear c3
    obtain rfl := Option.some.inj H
    go_enter Try.func25, Try.ntmps25
    go_wp2
    go_ret
    exact ⟨by first | rfl | (simp; done) | (simp [*]; done), by repeat (first | exact Drawn0.refl _ | apply Drawn0.step)⟩
  · rw [if_neg c3] at H
    have c3b0 : (a1 == 0) = false := beq_eq_false_iff_ne.mpr c3
    have c3b1 : (a1 != 0) = true := bne_iff_ne.mpr c3
    by_cases c4 : a1 = 1
    · rw [if_pos c4] at H
      have c4b0 : (a1 == 1) = true := beq_iff_eq.mpr c4
      have c4b1 : (a1 != 1) = false := bne_eq_false_iff_eq.mpr c4
      clear c4
      obtain rfl := Option.some.inj H
      go_enter Try.func25, Try.ntmps25
      go_wp2
      go_ret
      exact ⟨by first | rfl | (simp; done) | (simp [*]; done), by repeat (first | exact Drawn0.refl _ | apply Drawn0.step)⟩
    · rw [if_neg c4] at H
      have c4b0 : (a1 == 1) = false := beq_eq_false_iff_ne.mpr c4
      have c4b1 : (a1 != 1) = true := bne_iff_ne.mpr c4
      obtain rfl := Option.some.inj H
      go_enter Try.func25, Try.ntmps25
      go_wp2
      go_ret
      exact ⟨by first | rfl | (simp; done) | (simp [*]; done), by repeat (first | exact Drawn0.refl _ | apply Drawn0.step)⟩

/-! ### cotterelref10_Check: function 40 -/
def cotterelref10_Check.f (l0 : List Int) (a1 : Int) (a2 : Int) : Option (Int) := if a2 = 1 then (if (wrap64 ((wrap64 (a1)) + a2)) ≤ (l0.length : Int) then (some 0) else (some 9)) else (if a2 = 2 then (if (wrap64 ((wrap64 (a1)) + a2)) ≤ (l0.length : Int) then (some 0) else (some 9)) else (if a2 = 4 then (if (wrap64 ((wrap64 (a1)) + a2)) ≤ (l0.length : Int) then (some 0) else (some 9)) else (some 9)))
set_option maxHeartbeats 8000000 in
set_option maxRecDepth 100000 in
theorem cotterelref10_Check.calls (A0 : Option Addr) (c0 : Nat) (l0 : List Int) (a1 : Int) (a2 : Int) (r : Int) (w : World) (hr0 : Kd.C (Kd.int .u8) w A0 l0.length l0) (hc0 : l0.length ≤ c0) (h : cotterelref10_Check.f l0 a1 a2 = some r) :
    Calls Try.prog 40 #[.slice A0 l0.length c0, .int .u32 a1, .int .i64 a2] w fun e w' => e = .returned (.int .i64 r) ∧ Drawn0 w w' := by
  have HR0 := Aside0.mk hr0
  have HC0 := Aside0.mk hc0
  clear hr0 hc0
  have H : (if a2 = 1 then (if (wrap64 ((wrap64 (a1)) + a2)) ≤ (l0.length : Int) then (some 0) else (some 9)) else (if a2 = 2 then (if (wrap64 ((wrap64 (a1)) + a2)) ≤ (l0.length : Int) then (some 0) else (some 9)) else (if a2 = 4 then (if (wrap64 ((wrap64 (a1)) + a2)) ≤ (l0.length : Int) then (some 0) else (some 9)) else (some 9)))) = some r := h
  clear h
  by_cases c4 : a2 = 1
  · rw [if_pos c4] at H
    have c4b0 : (a2 == 1) = true := beq_iff_eq.mpr c4
    have c4b1 : (a2 != 1) = false := bne_eq_false_iff_eq.mpr c4
    clear c4
    by_cases c5 : (wrap64 ((wrap64 (a1)) + a2)) ≤ (l0.length : Int)
    · rw [if_pos c5] at H
      have c5b0 : decide ((wrap64 ((wrap64 (a1)) + a2)) ≤ (l0.length : Int)) = true := decide_eq_true c5
      clear c5
      obtain rfl := Option.some.inj H
      go_enter Try.func40, Try.ntmps40
      go_wp2
      go_ret
      exact ⟨by first | rfl | (simp; done) | (simp [*]; done), by repeat (first | exact Drawn0.refl _ | apply Drawn0.step)⟩
    · rw [if_neg c5] at H
      have c5b0 : decide ((wrap64 ((wrap64 (a1)) + a2)) ≤ (l0.length : Int)) = false := decide_eq_false c5
      clear c5
      obtain rfl := Option.some.inj H
      go_enter Try.func40, Try.ntmps40
      go_wp2
      go_ret
      exact ⟨by first | rfl | (simp; done) | (simp [*]; done), by repeat (first | exact Drawn0.refl _ | apply Drawn0.step)⟩
  · rw [if_neg c4] at H
    have c4b0 : (a2 == 1) = false := beq_eq_false_iff_ne.mpr c4
    have c4b1 : (a2 != 1) = true := bne_iff_ne.mpr c4
    by_cases c6 : a2 = 2
    · rw [if_pos c6] at H
      have c6b0 : (a2 == 2) = true := beq_iff_eq.mpr c6
      have c6b1 : (a2 != 2) = false := bne_eq_false_iff_eq.mpr c6
      clear c6
      by_cases c7 : (wrap64 ((wrap64 (a1)) + a2)) ≤ (l0.length : Int)
      · rw [if_pos c7] at H
        have c7b0 : decide ((wrap64 ((wrap64 (a1)) + a2)) ≤ (l0.length : Int)) = true := decide_eq_true c7
        clear c7
        obtain rfl := Option.some.inj H
        go_enter Try.func40, Try.ntmps40
        go_wp2
        go_ret
        exact ⟨by first | rfl | (simp; done) | (simp [*]; done), by repeat (first | exact Drawn0.refl _ | apply Drawn0.step)⟩
      · rw [if_neg c7] at H
        have c7b0 : decide ((wrap64 ((wrap64 (a1)) + a2)) ≤ (l0.length : Int)) = false := decide_eq_false c7
        clear c7
        obtain rfl := Option.some.inj H
        go_enter Try.func40, Try.ntmps40
        go_wp2
        go_ret
        exact ⟨by first | rfl | (simp; done) | (simp [*]; done), by repeat (first | exact Drawn0.refl _ | apply Drawn0.step)⟩
    · rw [if_neg c6] at H
      have c6b0 : (a2 == 2) = false := beq_eq_false_iff_ne.mpr c6
      have c6b1 : (a2 != 2) = true := bne_iff_ne.mpr c6
      by_cases c8 : a2 = 4
      · rw [if_pos c8] at H
        have c8b0 : (a2 == 4) = true := beq_iff_eq.mpr c8
        have c8b1 : (a2 != 4) = false := bne_eq_false_iff_eq.mpr c8
        clear c8
        by_cases c9 : (wrap64 ((wrap64 (a1)) + a2)) ≤ (l0.length : Int)
        · rw [if_pos c9] at H
          have c9b0 : decide ((wrap64 ((wrap64 (a1)) + a2)) ≤ (l0.length : Int)) = true := decide_eq_true c9
          clear c9
          obtain rfl := Option.some.inj H
          go_enter Try.func40, Try.ntmps40
          go_wp2
          go_ret
          exact ⟨by first | rfl | (simp; done) | (simp [*]; done), by repeat (first | exact Drawn0.refl _ | apply Drawn0.step)⟩
        · rw [if_neg c9] at H
          have c9b0 : decide ((wrap64 ((wrap64 (a1)) + a2)) ≤ (l0.length : Int)) = false := decide_eq_false c9
          clear c9
          obtain rfl := Option.some.inj H
          go_enter Try.func40, Try.ntmps40
          go_wp2
          go_ret
          exact ⟨by first | rfl | (simp; done) | (simp [*]; done), by repeat (first | exact Drawn0.refl _ | apply Drawn0.step)⟩
      · rw [if_neg c8] at H
        have c8b0 : (a2 == 4) = false := beq_eq_false_iff_ne.mpr c8
        have c8b1 : (a2 != 4) = true := bne_iff_ne.mpr c8
        obtain rfl := Option.some.inj H
        go_enter Try.func40, Try.ntmps40
        go_wp2
        go_ret
        exact ⟨by first | rfl | (simp; done) | (simp [*]; done), by repeat (first | exact Drawn0.refl _ | apply Drawn0.step)⟩

/-! ### cotterelref10_Read: function 26 -/
def cotterelref10_Read.l0 : Nat → List Int → Int → Int → Int → Option (Int × Int)
  | 0, _, _, _, _ => none
  | k + 1, x0, x1, x9, x10 => if x10 ≥ 0 then (if 0 ≤ (wrap64 ((wrap64 (x1)) + x10)) then (if (wrap64 ((wrap64 (x1)) + x10)) < (x0.length : Int) then (cotterelref10_Read.l0 k x0 x1 (((256 * x9) + (rd x0 (wrap64 ((wrap64 (x1)) + x10)))) % 4294967296) (wrap64 (x10 - 1))) else (none)) else (none)) else (some (x9, 0))
def cotterelref10_Read.f (k : Nat) (l0 : List Int) (a1 : Int) (a2 : Int) : Option (Int × Int) := (cotterelref10_Check.f l0 a1 a2).bind fun t181 => (if t181 = 0 then (cotterelref10_Read.l0 k l0 a1 0 (wrap64 (a2 - 1))) else (some (0, t181)))
theorem cotterelref10_Read.mono_l : ∀ k, (∀ y0 y1 y2 y3, LeO (cotterelref10_Read.l0 k y0 y1 y2 y3) (cotterelref10_Read.l0 (k + 1) y0 y1 y2 y3))
  | 0 => fun _ _ _ _ r h => by simp [cotterelref10_Read.l0] at h
  | k + 1 => by
    have ih0 := cotterelref10_Read.mono_l k
    · intro y0 y1 y2 y3
      unfold cotterelref10_Read.l0
      repeat' first
      | (with_reducible exact ih0 _ _ _ _)
      | (with_reducible exact LeO.refl _)
      | (with_reducible exact LeO.none _)
      | (with_reducible refine LeO.ite ?_ ?_)
      | (with_reducible refine LeO.bind ?_ (fun _ => ?_))
      | exact ih0 _ _ _ _
      | exact LeO.none _
      | refine LeO.ite ?_ ?_
      | refine LeO.bind ?_ (fun _ => ?_)
theorem cotterelref10_Read.mono : ∀ a0 a1 a2 k, LeO (cotterelref10_Read.f k a0 a1 a2) (cotterelref10_Read.f (k + 1) a0 a1 a2) := by
  intro a0 a1 a2 k
  have ih0 := cotterelref10_Read.mono_l k
  unfold cotterelref10_Read.f
  repeat' first
      | (with_reducible exact ih0 _ _ _ _)
      | (with_reducible exact LeO.refl _)
      | (with_reducible exact LeO.none _)
      | (with_reducible refine LeO.ite ?_ ?_)
      | (with_reducible refine LeO.bind ?_ (fun _ => ?_))
      | exact ih0 _ _ _ _
      | exact LeO.none _
      | refine LeO.ite ?_ ?_
      | refine LeO.bind ?_ (fun _ => ?_)
set_option maxHeartbeats 8000000 in
set_option maxRecDepth 100000 in
theorem cotterelref10_Read.calls (k : Nat) (A0 : Option Addr) (c0 : Nat) (l0 : List Int) (a1 : Int) (a2 : Int) (r1 : Int) (r2 : Int) (w : World) (hr0 : Kd.C (Kd.int .u8) w A0 l0.length l0) (hc0 : l0.length ≤ c0) (h : cotterelref10_Read.f k l0 a1 a2 = some (r1, r2)) :
    Calls Try.prog 26 #[.slice A0 l0.length c0, .int .u32 a1, .int .i64 a2] w fun e w' => e = .returned (.tuple #[.int .u32 r1, .int .i64 r2]) ∧ Drawn0 w w' := by
  have HR0 := Aside0.mk hr0
  have HC0 := Aside0.mk hc0
  clear hr0 hc0
  have H : ((cotterelref10_Check.f l0 a1 a2).bind fun t181 => (if t181 = 0 then (cotterelref10_Read.l0 k l0 a1 0 (wrap64 (a2 - 1))) else (some (0, t181)))) = some (r1, r2) := h
  clear h
  replace H := Option.bind_eq_some_iff.mp H
  obtain ⟨t181, A40, H⟩ := H
  replace H : (if t181 = 0 then (cotterelref10_Read.l0 k l0 a1 0 (wrap64 (a2 - 1))) else (some (0, t181))) = some (r1, r2) := H
  have A4 := Aside0.mk A40
  clear A40
  by_cases c5 : t181 = 0
  · rw [if_pos c5] at H
    have c5b0 : (t181 == 0) = true := beq_iff_eq.mpr c5
    have c5b1 : (t181 != 0) = false := bne_eq_false_iff_eq.mpr c5
    clear c5
    have H' := Aside0.mk H
    clear H
    go_enter Try.func26, Try.ntmps26
    go_wp2_with (first | ((with_reducible refine gate_callee (f := 40) rfl ?_); refine goesL_ (some 14) rfl rfl Try.func40 (by kernel_rfl) rfl #[.slice A0 l0.length c0, .int .u32 a1, .int .i64 a2] rfl (by (try simp only [List.map_toArray, List.map_cons, List.map_nil]); first | done | rfl | (simp only [List.length_drop, List.length_take]; rfl)) ?_; (with_reducible refine (cotterelref10_Check.calls _ _ l0 a1 a2 t181 _ ?side1 ?side2 A4.out).mono ?_); (case side1 => repeat (first | exact HR0.out | (with_reducible refine Kd.C_alloc ?_ _) | (with_reducible refine Kd.C_drewN ?_ _) | (with_reducible refine Kd.C_drew ?_))); (case side2 => exact HC0.out); rintro e w' ⟨rfl, ⟨nd, rfl⟩⟩; refine ⟨_, rfl, ?_⟩))
    go_loopg [9, 10] k (fun kq v9 v10 w' => ∃ (x9_1 : Int) (x10_1 : Int), v9 = .int .u32 x9_1 ∧ v10 = .int .i64 x10_1 ∧ Aside0 (cotterelref10_Read.l0 kq l0 a1 x9_1 x10_1 = some (r1, r2)) ∧ Aside0 (kq ≤ k) ∧ Drawn0 w w')
    case atStart => exact ⟨(0), (wrap64 (a2 - 1)), (by first | rfl | (simp; done) | (simp [*]; done)), (by first | rfl | (simp; done) | (simp [*]; done)), H', ⟨Nat.le_refl _⟩, by repeat (first | exact Drawn0.refl _ | apply Drawn0.step)⟩
    case round =>
      clear H'
      try clear c2
      try clear p2
      try clear c4
      try clear c5
      try clear c5b0
      try clear c5b1
      obtain ⟨x9_1, x10_1, rfl, rfl, HA, HK1, ⟨m1, rfl⟩⟩ := hrel
      cases gk with
      | zero => exact absurd HA.out (by simp [cotterelref10_Read.l0])
      | succ k1 =>
        have H := HA.out
        clear HA
        simp only [cotterelref10_Read.l0] at H
        by_cases c6 : x10_1 ≥ 0
        · rw [if_pos c6] at H
          have c6b0 : decide (0 ≤ x10_1) = true := decide_eq_true c6
          clear c6
          obtain ⟨ji7, hji7⟩ : ∃ j_ : Int, (wrap64 ((wrap64 (a1)) + x10_1)) = j_ := ⟨_, rfl⟩
          replace H : (if 0 ≤ (ji7) then (if (ji7) < (l0.length : Int) then (cotterelref10_Read.l0 k1 l0 a1 (((256 * x9_1) + (rd l0 (ji7))) % 4294967296) (wrap64 (x10_1 - 1))) else (none)) else (none)) = some (r1, r2) := by first | (rw [hji7] at H; exact H) | (simp only [hji7] at H ⊢; exact H)
          have hji7w : (IntKind.i64.wrap ((wrap64 (a1)) + x10_1)) = ji7 := (i64_w _).trans hji7
          by_cases c8 : 0 ≤ (ji7)
          · rw [if_pos c8] at H
            have c8b0 : decide (0 ≤ (ji7)) = true := decide_eq_true c8
            clear c8
            by_cases c9 : (ji7) < (l0.length : Int)
            · rw [if_pos c9] at H
              have c9b0 : decide ((ji7) < (l0.length : Int)) = true := decide_eq_true c9
              clear c9
              have H' := Aside0.mk H
              clear H
              have p182 : 0 ≤ ((ji7) : Int) := of_decide_eq_true (by first | (with_reducible assumption) | assumption)
              have q182 : (ji7) < (l0.length : Int) := of_decide_eq_true (by first | (with_reducible assumption) | assumption)
              obtain ⟨ad182, e182, hx182_0⟩ := Kd.at_int HR0.out (ji7) p182 q182
              cases e182
              replace p182 := eq_true p182
              replace q182 := eq_true q182
              go_wp2
              go_roundg k1
              case measure => have := HK1.out; omega
              case rel => exact ⟨(((256 * x9_1) + (rd l0 (ji7))) % 4294967296), (wrap64 (x10_1 - 1)), (by first | rfl | (simp; done) | (simp only [← hji7] <;> (first | rfl | simp)) | (simp [*]; done)), (by first | rfl | (simp; done) | (simp [*]; done)), H', ⟨by have := HK1.out; omega⟩, by repeat (first | exact Drawn0.refl _ | apply Drawn0.step)⟩
            · rw [if_neg c9] at H
              exact absurd H (by simp)
          · rw [if_neg c8] at H
            exact absurd H (by simp)
        · rw [if_neg c6] at H
          have c6b0 : decide (0 ≤ x10_1) = false := decide_eq_false c6
          clear c6
          simp only [Option.some.injEq, Prod.mk.injEq] at H
          obtain ⟨rfl, rfl⟩ := H
          go_wp2
          go_ret2
          exact ⟨by first | rfl | (simp; done) | (simp [*]; done), by repeat (first | exact Drawn0.refl _ | apply Drawn0.step)⟩
  · rw [if_neg c5] at H
    have c5b0 : (t181 == 0) = false := beq_eq_false_iff_ne.mpr c5
    have c5b1 : (t181 != 0) = true := bne_iff_ne.mpr c5
    simp only [Option.some.injEq, Prod.mk.injEq] at H
    obtain ⟨rfl, rfl⟩ := H
    go_enter Try.func26, Try.ntmps26
    go_wp2_with (first | ((with_reducible refine gate_callee (f := 40) rfl ?_); refine goesL_ (some 14) rfl rfl Try.func40 (by kernel_rfl) rfl #[.slice A0 l0.length c0, .int .u32 a1, .int .i64 a2] rfl (by (try simp only [List.map_toArray, List.map_cons, List.map_nil]); first | done | rfl | (simp only [List.length_drop, List.length_take]; rfl)) ?_; (with_reducible refine (cotterelref10_Check.calls _ _ l0 a1 a2 t181 _ ?side1 ?side2 A4.out).mono ?_); (case side1 => repeat (first | exact HR0.out | (with_reducible refine Kd.C_alloc ?_ _) | (with_reducible refine Kd.C_drewN ?_ _) | (with_reducible refine Kd.C_drew ?_))); (case side2 => exact HC0.out); rintro e w' ⟨rfl, ⟨nd, rfl⟩⟩; refine ⟨_, rfl, ?_⟩))
    go_ret2
    exact ⟨by first | rfl | (simp; done) | (simp [*]; done), by repeat (first | exact Drawn0.refl _ | apply Drawn0.step)⟩

/-! ### cotterelref12_Of: function 27 -/
def cotterelref12_Of.f (a0 : Int) : Option (Int × Int) := some (Int.tmod a0 128, ((Int.tdiv a0 256) % 4294967296) % 256)
set_option maxHeartbeats 8000000 in
set_option maxRecDepth 100000 in
theorem cotterelref12_Of.calls (a0 : Int) (r1 : Int) (r2 : Int) (w : World) (h : cotterelref12_Of.f a0 = some (r1, r2)) :
    Calls Try.prog 27 #[.int .u32 a0] w fun e w' => e = .returned (.agg #[.int .u32 r1, .int .i64 r2]) ∧ Below w.heap.size w w' := by
  have hu26 := Try.underlying26
  have HB := Aside0.mk (Below.refl w.heap.size w)
  have H : (some (Int.tmod a0 128, ((Int.tdiv a0 256) % 4294967296) % 256)) = some (r1, r2) := h
  clear h
  simp only [Option.some.injEq, Prod.mk.injEq] at H
  obtain ⟨rfl, rfl⟩ := H
  go_enter Try.func27, Try.ntmps27
  go_wp2_with (first | ((with_reducible refine gate_dst (N := 2) rfl ?_); refine box_event ?hg (N := 2) ?hd (cs := #[.int .u32 0, .int .i64 0]) (t := 26) ?hr ?_; (case hd => rfl); (case hg => rfl); (case hr => first | (go_simp; done) | (go_simp; rfl)); intro gb183 hg w2 hbox hb; have n0_ := Aside0.mk (below_step (by repeat (first | (with_reducible first | exact HB.out | apply below_alloc | apply pw_below_drewN | apply below_drew1) | exact HB.out)) hb); have n1_ := Aside0.mk (hbox); have n2_ := Aside0.mk ((by rw [hg]; exact (below_size (by repeat (first | (with_reducible first | exact HB.out | apply below_alloc | apply pw_below_drewN | apply below_drew1) | exact HB.out))) : w.heap.size ≤ gb183)); have n3_ := Aside0.mk ((by rw [hg]; exact (below_size (by repeat (first | (with_reducible first | exact HB.out | apply below_alloc | apply pw_below_drewN | apply below_drew1) | exact HB.out))) : w.heap.size ≤ gb183)); clear HB; have HB := n0_; have BK183 := n1_; have GW183 := n2_; have GE183 := n3_; clear n0_ n1_ n2_ n3_; clear hb hbox hg; have hcz3_0 : w2.cell? ⟨gb183, 0, none⟩ = some (.int .u32 0) := (blk_cell BK183.out 0).trans rfl; have hcz3_1 : w2.cell? ⟨gb183, 1, none⟩ = some (.int .i64 0) := (blk_cell BK183.out 1).trans rfl; have hfz3_0 := blk_frozen BK183.out 0; have hfz3_1 := blk_frozen BK183.out 1))
  refine bodyPost_ret (results_cell_row rfl _ _ gb183 26 #[.int .u32 (Int.tmod a0 128), .int .i64 (((Int.tdiv a0 256) % 4294967296) % 256)] (0, 0) _ rfl (by (with_reducible repeat (first | refine blk_drewN ?_ _ | refine blk_drew ?_ | refine blk_alloc ?_ _)); refine blk_put (cs := #[.int .u32 (Int.tmod a0 128), .int .i64 0]) ?_ 1 _ (by first | rfl | (simp [Int.emod_emod_of_dvd]; done)); (with_reducible repeat (first | refine blk_drewN ?_ _ | refine blk_drew ?_ | refine blk_alloc ?_ _)); refine blk_put (cs := #[.int .u32 0, .int .i64 0]) ?_ 0 _ (by first | rfl | (simp [Int.emod_emod_of_dvd]; done)); (with_reducible repeat (first | refine blk_drewN ?_ _ | refine blk_drew ?_ | refine blk_alloc ?_ _)); exact BK183.out) Try.underlying26 rfl (by kernel_rfl)) rfl ?_
  exact ⟨by first | rfl | (simp [errW_none, errW_some] <;> rfl) | (simp [*, errW_none, errW_some] <;> rfl), by repeat (first | (with_reducible first | exact HB.out | apply below_alloc | apply pw_below_drewN | apply below_drew1 | refine below_set ?_ GE183.out) | exact HB.out)⟩

/-! ### cotterelref12_bit: function 41 -/
def cotterelref12_bit.l0 : Nat → Int → Int → Int → Option (Bool)
  | 0, _, _, _ => none
  | k + 1, x0, x1, x5 => if x5 < x1 then (cotterelref12_bit.l0 k ((Int.tdiv x0 2) % 4294967296) x1 (wrap64 (x5 + 1))) else (some ((Int.tmod x0 2) == 1))
def cotterelref12_bit.f (k : Nat) (a0 : Int) (a1 : Int) : Option (Bool) := cotterelref12_bit.l0 k a0 a1 0
theorem cotterelref12_bit.mono_l : ∀ k, (∀ y0 y1 y2, LeO (cotterelref12_bit.l0 k y0 y1 y2) (cotterelref12_bit.l0 (k + 1) y0 y1 y2))
  | 0 => fun _ _ _ r h => by simp [cotterelref12_bit.l0] at h
  | k + 1 => by
    have ih0 := cotterelref12_bit.mono_l k
    · intro y0 y1 y2
      unfold cotterelref12_bit.l0
      repeat' first
      | (with_reducible exact ih0 _ _ _)
      | (with_reducible exact LeO.refl _)
      | (with_reducible exact LeO.none _)
      | (with_reducible refine LeO.ite ?_ ?_)
      | (with_reducible refine LeO.bind ?_ (fun _ => ?_))
      | exact ih0 _ _ _
      | exact LeO.none _
      | refine LeO.ite ?_ ?_
      | refine LeO.bind ?_ (fun _ => ?_)
theorem cotterelref12_bit.mono : ∀ a0 a1 k, LeO (cotterelref12_bit.f k a0 a1) (cotterelref12_bit.f (k + 1) a0 a1) := by
  intro a0 a1 k
  have ih0 := cotterelref12_bit.mono_l k
  unfold cotterelref12_bit.f
  repeat' first
      | (with_reducible exact ih0 _ _ _)
      | (with_reducible exact LeO.refl _)
      | (with_reducible exact LeO.none _)
      | (with_reducible refine LeO.ite ?_ ?_)
      | (with_reducible refine LeO.bind ?_ (fun _ => ?_))
      | exact ih0 _ _ _
      | exact LeO.none _
      | refine LeO.ite ?_ ?_
      | refine LeO.bind ?_ (fun _ => ?_)
set_option maxHeartbeats 8000000 in
set_option maxRecDepth 100000 in
theorem cotterelref12_bit.calls (k : Nat) (a0 : Int) (a1 : Int) (r : Bool) (w : World) (h : cotterelref12_bit.f k a0 a1 = some r) :
    Calls Try.prog 41 #[.int .u32 a0, .int .i64 a1] w fun e w' => e = .returned (.bool r) ∧ Drawn0 w w' := by
  have H : (cotterelref12_bit.l0 k a0 a1 0) = some r := h
  clear h
  have H' := Aside0.mk H
  clear H
  go_enter Try.func41, Try.ntmps41
  go_wp2
  go_loopg [0, 5] k (fun kq v0 v5 w' => ∃ (x0_1 : Int) (x5_1 : Int), v0 = .int .u32 x0_1 ∧ v5 = .int .i64 x5_1 ∧ Aside0 (cotterelref12_bit.l0 kq x0_1 a1 x5_1 = some r) ∧ Aside0 (kq ≤ k) ∧ Drawn0 w w')
  case atStart => exact ⟨(a0), (0), (by first | rfl | (simp; done) | (simp [*]; done)), (by first | rfl | (simp; done) | (simp [*]; done)), H', ⟨Nat.le_refl _⟩, by repeat (first | exact Drawn0.refl _ | apply Drawn0.step)⟩
  case round =>
    clear H'
    try clear p2
    obtain ⟨x0_1, x5_1, rfl, rfl, HA, HK1, ⟨m1, rfl⟩⟩ := hrel
    cases gk with
    | zero => exact absurd HA.out (by simp [cotterelref12_bit.l0])
    | succ k1 =>
      have H := HA.out
      clear HA
      simp only [cotterelref12_bit.l0] at H
      by_cases c3 : x5_1 < a1
      · rw [if_pos c3] at H
        have c3b0 : decide (x5_1 < a1) = true := decide_eq_true c3
        clear c3
        have H' := Aside0.mk H
        clear H
        go_wp2
        go_roundg k1
        case measure => have := HK1.out; omega
        case rel => exact ⟨((Int.tdiv x0_1 2) % 4294967296), (wrap64 (x5_1 + 1)), (by first | rfl | (simp; done) | (simp [*]; done)), (by first | rfl | (simp; done) | (simp [*]; done)), H', ⟨by have := HK1.out; omega⟩, by repeat (first | exact Drawn0.refl _ | apply Drawn0.step)⟩
      · rw [if_neg c3] at H
        have c3b0 : decide (x5_1 < a1) = false := decide_eq_false c3
        clear c3
        obtain rfl := Option.some.inj H
        go_wp2
        go_ret
        exact ⟨by first | rfl | (simp; done) | (simp [*]; done), by repeat (first | exact Drawn0.refl _ | apply Drawn0.step)⟩

/-! ### cotterelref12_Leaf: function 28 -/
def cotterelref12_Leaf.f (k : Nat) (a0_0 : Int) (a0_1 : Int) : Option (Bool) := (cotterelref12_bit.f k a0_0 1).bind fun t185 => (if t185 = true then (some true) else ((cotterelref12_bit.f k a0_0 2).bind fun t186 => (if t186 = true then (some true) else ((cotterelref12_bit.f k a0_0 3).bind fun t187 => (some t187)))))
theorem cotterelref12_Leaf.mono : ∀ a0 a1 k, LeO (cotterelref12_Leaf.f k a0 a1) (cotterelref12_Leaf.f (k + 1) a0 a1) := by
  intro a0 a1 k
  unfold cotterelref12_Leaf.f
  repeat' first
      | (with_reducible exact cotterelref12_bit.mono _ _ _)
      | (with_reducible exact LeO.refl _)
      | (with_reducible exact LeO.none _)
      | (with_reducible refine LeO.ite ?_ ?_)
      | (with_reducible refine LeO.bind ?_ (fun _ => ?_))
      | exact cotterelref12_bit.mono _ _ _
      | exact LeO.none _
      | refine LeO.ite ?_ ?_
      | refine LeO.bind ?_ (fun _ => ?_)
set_option maxHeartbeats 8000000 in
set_option maxRecDepth 100000 in
theorem cotterelref12_Leaf.calls (k : Nat) (a0_0 : Int) (a0_1 : Int) (r : Bool) (w : World) (h : cotterelref12_Leaf.f k a0_0 a0_1 = some r) :
    Calls Try.prog 28 #[.agg #[.int .u32 a0_0, .int .i64 a0_1]] w fun e w' => e = .returned (.bool r) ∧ Below w.heap.size w w' := by
  have hu26 := Try.underlying26
  have HB := Aside0.mk (Below.refl w.heap.size w)
  have H : ((cotterelref12_bit.f k a0_0 1).bind fun t185 => (if t185 = true then (some true) else ((cotterelref12_bit.f k a0_0 2).bind fun t186 => (if t186 = true then (some true) else ((cotterelref12_bit.f k a0_0 3).bind fun t187 => (some t187)))))) = some r := h
  clear h
  replace H := Option.bind_eq_some_iff.mp H
  obtain ⟨t185, A20, H⟩ := H
  replace H : (if t185 = true then (some true) else ((cotterelref12_bit.f k a0_0 2).bind fun t186 => (if t186 = true then (some true) else ((cotterelref12_bit.f k a0_0 3).bind fun t187 => (some t187))))) = some r := H
  have A2 := Aside0.mk A20
  clear A20
  by_cases c3 : t185 = true
  · subst c3
    have H1 : (some true) = some r := by rw [if_pos rfl] at H; exact H
    clear H
    have H := H1
    clear H1
    obtain rfl := Option.some.inj H
    go_enter Try.func28, Try.ntmps28
    go_wp2_with (first | ((with_reducible refine gate_dst (N := 1) rfl ?_); refine box_event ?hg (N := 1) ?hd (cs := #[.int .u32 a0_0, .int .i64 a0_1]) (t := 26) ?hr ?_; (case hd => rfl); (case hg => rfl); (case hr => first | (go_simp; done) | (go_simp; rfl)); intro gb184 hg w4 hbox hb; have n0_ := Aside0.mk (below_step (by repeat (first | (with_reducible first | exact HB.out | apply below_alloc | apply pw_below_drewN | apply below_drew1) | exact HB.out)) hb); have n1_ := Aside0.mk (hbox); have n2_ := Aside0.mk ((by rw [hg]; exact (below_size (by repeat (first | (with_reducible first | exact HB.out | apply below_alloc | apply pw_below_drewN | apply below_drew1) | exact HB.out))) : w.heap.size ≤ gb184)); have n3_ := Aside0.mk ((by rw [hg]; exact (below_size (by repeat (first | (with_reducible first | exact HB.out | apply below_alloc | apply pw_below_drewN | apply below_drew1) | exact HB.out))) : w.heap.size ≤ gb184)); clear HB; have HB := n0_; have BK184 := n1_; have GW184 := n2_; have GE184 := n3_; clear n0_ n1_ n2_ n3_; clear hb hbox hg; have hcz5_0 : w4.cell? ⟨gb184, 0, none⟩ = some (.int .u32 a0_0) := (blk_cell BK184.out 0).trans rfl; have hcz5_1 : w4.cell? ⟨gb184, 1, none⟩ = some (.int .i64 a0_1) := (blk_cell BK184.out 1).trans rfl; have hfz5_0 := blk_frozen BK184.out 0; have hfz5_1 := blk_frozen BK184.out 1) | ((with_reducible refine gate_callee (f := 41) rfl ?_); refine goesL_ (some 5) rfl rfl Try.func41 (by kernel_rfl) rfl #[.int .u32 a0_0, .int .i64 1] rfl (by (try simp only [List.map_toArray, List.map_cons, List.map_nil]); first | done | rfl | (simp only [List.length_drop, List.length_take]; rfl)) ?_; (with_reducible refine (cotterelref12_bit.calls k a0_0 1 true _ A2.out).mono ?_); rintro e w' ⟨rfl, ⟨nd, rfl⟩⟩; refine ⟨_, rfl, ?_⟩))
    go_ret
    exact ⟨by first | rfl | (simp [errW_none, errW_some] <;> rfl) | (simp [*, errW_none, errW_some] <;> rfl), by repeat (first | (with_reducible first | exact HB.out | apply below_alloc | apply pw_below_drewN | apply below_drew1 | refine below_set ?_ GE184.out) | exact HB.out)⟩
  · replace c3 := Bool.eq_false_iff.mpr c3
    subst c3
    have H1 : ((cotterelref12_bit.f k a0_0 2).bind fun t186 => (if t186 = true then (some true) else ((cotterelref12_bit.f k a0_0 3).bind fun t187 => (some t187)))) = some r := by rw [if_neg (show ¬ (false = true) by decide)] at H; exact H
    clear H
    have H := H1
    clear H1
    replace H := Option.bind_eq_some_iff.mp H
    obtain ⟨t186, A60, H⟩ := H
    replace H : (if t186 = true then (some true) else ((cotterelref12_bit.f k a0_0 3).bind fun t187 => (some t187))) = some r := H
    have A6 := Aside0.mk A60
    clear A60
    by_cases c7 : t186 = true
    · subst c7
      have H1 : (some true) = some r := by rw [if_pos rfl] at H; exact H
      clear H
      have H := H1
      clear H1
      obtain rfl := Option.some.inj H
      go_enter Try.func28, Try.ntmps28
      go_wp2_with (first | ((with_reducible refine gate_dst (N := 1) rfl ?_); refine box_event ?hg (N := 1) ?hd (cs := #[.int .u32 a0_0, .int .i64 a0_1]) (t := 26) ?hr ?_; (case hd => rfl); (case hg => rfl); (case hr => first | (go_simp; done) | (go_simp; rfl)); intro gb184 hg w8 hbox hb; have n0_ := Aside0.mk (below_step (by repeat (first | (with_reducible first | exact HB.out | apply below_alloc | apply pw_below_drewN | apply below_drew1) | exact HB.out)) hb); have n1_ := Aside0.mk (hbox); have n2_ := Aside0.mk ((by rw [hg]; exact (below_size (by repeat (first | (with_reducible first | exact HB.out | apply below_alloc | apply pw_below_drewN | apply below_drew1) | exact HB.out))) : w.heap.size ≤ gb184)); have n3_ := Aside0.mk ((by rw [hg]; exact (below_size (by repeat (first | (with_reducible first | exact HB.out | apply below_alloc | apply pw_below_drewN | apply below_drew1) | exact HB.out))) : w.heap.size ≤ gb184)); clear HB; have HB := n0_; have BK184 := n1_; have GW184 := n2_; have GE184 := n3_; clear n0_ n1_ n2_ n3_; clear hb hbox hg; have hcz9_0 : w8.cell? ⟨gb184, 0, none⟩ = some (.int .u32 a0_0) := (blk_cell BK184.out 0).trans rfl; have hcz9_1 : w8.cell? ⟨gb184, 1, none⟩ = some (.int .i64 a0_1) := (blk_cell BK184.out 1).trans rfl; have hfz9_0 := blk_frozen BK184.out 0; have hfz9_1 := blk_frozen BK184.out 1) | ((with_reducible refine gate_callee (f := 41) rfl ?_); refine goesL_ (some 5) rfl rfl Try.func41 (by kernel_rfl) rfl #[.int .u32 a0_0, .int .i64 1] rfl (by (try simp only [List.map_toArray, List.map_cons, List.map_nil]); first | done | rfl | (simp only [List.length_drop, List.length_take]; rfl)) ?_; (with_reducible refine (cotterelref12_bit.calls k a0_0 1 false _ A2.out).mono ?_); rintro e w' ⟨rfl, ⟨nd, rfl⟩⟩; refine ⟨_, rfl, ?_⟩) | (go_at_call 41; (with_reducible refine (cotterelref12_bit.calls k a0_0 2 true _ A6.out).mono ?_); rintro e w' ⟨rfl, ⟨nd, rfl⟩⟩))
      go_ret
      exact ⟨by first | rfl | (simp [errW_none, errW_some] <;> rfl) | (simp [*, errW_none, errW_some] <;> rfl), by repeat (first | (with_reducible first | exact HB.out | apply below_alloc | apply pw_below_drewN | apply below_drew1 | refine below_set ?_ GE184.out) | exact HB.out)⟩
    · replace c7 := Bool.eq_false_iff.mpr c7
      subst c7
      have H1 : ((cotterelref12_bit.f k a0_0 3).bind fun t187 => (some t187)) = some r := by rw [if_neg (show ¬ (false = true) by decide)] at H; exact H
      clear H
      have H := H1
      clear H1
      replace H := Option.bind_eq_some_iff.mp H
      obtain ⟨t187, A100, H⟩ := H
      replace H : (some t187) = some r := H
      have A10 := Aside0.mk A100
      clear A100
      obtain rfl := Option.some.inj H
      go_enter Try.func28, Try.ntmps28
      go_wp2_with (first | ((with_reducible refine gate_dst (N := 1) rfl ?_); refine box_event ?hg (N := 1) ?hd (cs := #[.int .u32 a0_0, .int .i64 a0_1]) (t := 26) ?hr ?_; (case hd => rfl); (case hg => rfl); (case hr => first | (go_simp; done) | (go_simp; rfl)); intro gb184 hg w11 hbox hb; have n0_ := Aside0.mk (below_step (by repeat (first | (with_reducible first | exact HB.out | apply below_alloc | apply pw_below_drewN | apply below_drew1) | exact HB.out)) hb); have n1_ := Aside0.mk (hbox); have n2_ := Aside0.mk ((by rw [hg]; exact (below_size (by repeat (first | (with_reducible first | exact HB.out | apply below_alloc | apply pw_below_drewN | apply below_drew1) | exact HB.out))) : w.heap.size ≤ gb184)); have n3_ := Aside0.mk ((by rw [hg]; exact (below_size (by repeat (first | (with_reducible first | exact HB.out | apply below_alloc | apply pw_below_drewN | apply below_drew1) | exact HB.out))) : w.heap.size ≤ gb184)); clear HB; have HB := n0_; have BK184 := n1_; have GW184 := n2_; have GE184 := n3_; clear n0_ n1_ n2_ n3_; clear hb hbox hg; have hcz12_0 : w11.cell? ⟨gb184, 0, none⟩ = some (.int .u32 a0_0) := (blk_cell BK184.out 0).trans rfl; have hcz12_1 : w11.cell? ⟨gb184, 1, none⟩ = some (.int .i64 a0_1) := (blk_cell BK184.out 1).trans rfl; have hfz12_0 := blk_frozen BK184.out 0; have hfz12_1 := blk_frozen BK184.out 1) | ((with_reducible refine gate_callee (f := 41) rfl ?_); refine goesL_ (some 5) rfl rfl Try.func41 (by kernel_rfl) rfl #[.int .u32 a0_0, .int .i64 1] rfl (by (try simp only [List.map_toArray, List.map_cons, List.map_nil]); first | done | rfl | (simp only [List.length_drop, List.length_take]; rfl)) ?_; (with_reducible refine (cotterelref12_bit.calls k a0_0 1 false _ A2.out).mono ?_); rintro e w' ⟨rfl, ⟨nd, rfl⟩⟩; refine ⟨_, rfl, ?_⟩) | (go_at_call 41; (with_reducible refine (cotterelref12_bit.calls k a0_0 2 false _ A6.out).mono ?_); rintro e w' ⟨rfl, ⟨nd, rfl⟩⟩) | (go_at_call 41; (with_reducible refine (cotterelref12_bit.calls k a0_0 3 t187 _ A10.out).mono ?_); rintro e w' ⟨rfl, ⟨nd, rfl⟩⟩))
      go_ret
      exact ⟨by first | rfl | (simp [errW_none, errW_some] <;> rfl) | (simp [*, errW_none, errW_some] <;> rfl), by repeat (first | (with_reducible first | exact HB.out | apply below_alloc | apply pw_below_drewN | apply below_drew1 | refine below_set ?_ GE184.out) | exact HB.out)⟩

end Go.Proofs.Ytmkipjmadmjfaaa.PWalkMaps
