/- May a system be? The given function's walk. -/
import Derived.Test.YtdkaclgfkgcmpaaVw2
namespace Go.Proofs.Ytdkaclgfkgcmpaa.Abs
open Go Go.RowKit Fn
set_option linter.unusedVariables false
set_option linter.unusedSimpArgs false
set_option linter.unnecessarySimpa false
set_option maxRecDepth 100000
set_option maxHeartbeats 1000000

theorem conf16 {d : List Int} (hl : d.length = 16) (h : ∀ y ∈ d, (Lit.int .u8 y).wf = true) : conf [some .u8, some .u8, some .u8, some .u8, some .u8, some .u8, some .u8, some .u8, some .u8, some .u8, some .u8, some .u8, some .u8, some .u8, some .u8, some .u8] (d.flatMap u8T) = true := by
  have hd := conf_u8 d [] [] h
  rw [hl] at hd
  have e : conf (List.replicate 16 (some .u8) ++ []) (d.flatMap (fun n => [T.int .u8 n]) ++ []) = true := by rw [hd]; rfl
  rw [List.append_nil, List.append_nil] at e
  exact e
theorem eq16 (d d' : List Int) : eqL (d.flatMap u8T) (d'.flatMap u8T) = true ↔ d = d' := by
  constructor
  · intro h
    rcases eqL_asInt _ _ h with h | ⟨x, hx, h⟩
    · exact map_some_inj (by rw [← dataT_asInt, ← dataT_asInt]; exact h)
    · obtain ⟨k, n, e⟩ := u8_ints d x hx
      exact absurd e (h k n)
  · rintro rfl
    exact eqL_ints _ (u8_ints _)
/-- A line's states. -/
def stL (m : Coh) (ln : Nat) : List Int := (List.range m.caches.length).map fun (j : Nat) => stateOf m (j : Int) ln
def SoundX (m : Coh) (x : Way) : Prop := x.state = 0 ∨ (x.tag.toNat * 16 + 16 ≤ m.mem.length ∧ (x.state = 3 ∨ x.data = bytesM m x.tag.toNat) ∧ LegalP (stL m x.tag.toNat))
def SoundW (m : Coh) (l : List Way) (n : Nat) : Prop := ∀ w, w < n → SoundX m (wayN l w)
def SoundT (m : Coh) (c : Cache) (n : Nat) : Prop := ∀ s, s < n → SoundW m (row c s) (row c s).length
def SoundK (m : Coh) (n : Nat) : Prop := ∀ k, k < n → RightP (cacheAt m k) ∧ SoundT m (cacheAt m k) (cacheAt m k).sets.length
theorem stL_len (m : Coh) (ln : Nat) : (stL m ln).length = m.caches.length := by unfold stL; rw [List.length_map, List.length_range]
theorem stL_take (m : Coh) (ln j : Nat) (h : j < m.caches.length) : (lgT (stL m ln)).take (j + 1) = (lgT (stL m ln)).take j ++ [T.int .i64 (stateOf m (j : Int) ln)] := by
  have e : (lgT (stL m ln))[j]? = some (T.int .i64 (stateOf m (j : Int) ln)) := by
    unfold lgT stL
    rw [List.getElem?_map, List.getElem?_map, List.getElem?_range h]; rfl
  rw [List.take_add_one, e]; rfl
theorem lgT_ints (L : List Int) : ∀ x ∈ lgT L, ∃ k n, x = .int k n := fun x hx => by
  obtain ⟨n, _, e⟩ := List.mem_map.mp hx
  exact ⟨_, _, e.symm⟩
def snL1 : ACode := match f21.body with | .seq _ (.seq (.seq _ (.block _ (.loop c))) _) => c | _ => .skip
def snL2 : ACode := match snL1 with | .seq _ (.seq (.block _ (.seq _ (.seq _ (.block _ (.loop c))))) _) => c | _ => .skip
def snL3 : ACode := match snL2 with | .seq _ (.seq (.block _ (.seq _ (.block _ (.loop c)))) _) => c | _ => .skip
def snRest : ACode := match snL3 with | .seq _ (.seq (.block _ (.seq _ (.seq _ (.seq _ c)))) _) => c | _ => .skip
def snL4 : ACode := match snRest with | .seq _ (.seq (.seq _ (.block _ (.loop c))) _) => c | _ => .skip
def SnS (m : Coh) (k i w : Nat) (st : St) : Prop := st.s.length = 101 ∧ rho st.s (.tmp 1) = .ptr 0 0 ∧ st.g 0 = some [memT m, cachT m] ∧ 1 ≤ st.nx ∧ rho st.s (.tmp 3) = .int .i64 (k : Int) ∧ rho st.s (.tmp 4) = .int .i64 (i : Int) ∧ rho st.s (.tmp 5) = .int .i64 (w : Int)
def SnC (x : Way) (p : Nat) (st : St) : Prop := rho st.s (.tmp 6) = .ptr p 0 ∧ st.g p = some x.enc ∧ 1 ≤ p ∧ p < st.nx
def SnA (m : Coh) (ln p j : Nat) (st : St) : Prop := ∃ t, rho st.s (.tmp 7) = .own t 0 j 1 ∧ st.g t = some ((lgT (stL m ln)).take j) ∧ p < t ∧ t < st.nx
theorem ap24s : ap 24 = some f24 := rfl
theorem p24s : f24.pure = true := rfl
theorem n24s : f24.nat = none := rfl
theorem sn4_loop (m : Coh) (hok : Ok m) (k i w : Nat) (x : Way) (hx : x.wf) (ln : Nat) (hln : x.tag = (ln : Int)) (hlb : ln ≤ 4294967295) (p : Nat) (Q : AExit → St → Prop)
    (hQe : ∀ st : St, SnS m k i w st → SnC x p st → SnA m ln p m.caches.length st → Q (.exit 6) st) :
    ∀ (n : Nat) (st : St), (∃ j : Nat, SnS m k i w st ∧ SnC x p st ∧ SnA m ln p j st ∧ rho st.s (.tmp 8) = .int .i64 (j : Int) ∧ j ≤ m.caches.length ∧ n = m.caches.length - j) → W ap (.loop snL4) st Q := by
  refine W_loop _ ?_
  rintro n st ⟨j, ⟨hl, h1, g0, hnx, h3, h4, h5⟩, ⟨h6, gp, hp, hpn⟩, ⟨t, h7, gt, hpt, htn⟩, h8, hj, hn⟩
  have hcc : cachT m = .imm false m.caches.length (m.caches.flatMap Cache.enc) := rfl
  have hc4 := hok.2.2.1
  by_cases hend : j = m.caches.length
  · have hlt : decide ((j : Int) < (m.caches.length : Int)) = false := decide_eq_false (by omega)
    rw [hend] at gt h7
    refine W_seq (W_seqn (W_region (fun k => by simp (decide := true) (disch := first | omega | simp (decide := true) only [List.length_set, hl]) only [sims, autos, simprocAttr, h1, g0, h8, hcc, hlt]; rfl) ⟨rfl, W_fls (W_exit (.inr ⟨by simp, .inr ⟨by simp, hQe _ ⟨?_, ?_, ?_, ?_, ?_, ?_, ?_⟩ ⟨?_, ?_, hp, ?_⟩ ⟨t, ?_, ?_, hpt, ?_⟩⟩⟩))⟩))
    case refine_4 => show 1 ≤ st.nx + 5; omega
    case refine_10 => show p < st.nx + 5; omega
    case refine_13 => show t < st.nx + 5; omega
    case refine_3 => exact g0
    case refine_9 => exact gp
    case refine_12 => exact gt
    all_goals simp (decide := true) (disch := first | omega | simp (decide := true) only [List.length_set, hl]) only [sims, autos, simprocAttr, hl, h1, h3, h4, h5, h6, h7]
  have hlt : decide ((j : Int) < (m.caches.length : Int)) = true := decide_eq_true (by omega)
  have hjl : j < m.caches.length := by omega
  have hw2 : IntKind.i64.wrap ((j : Int) + 1) = ((j + 1 : Nat) : Int) := by rw [wrap_id (by omega)]; omega
  have hcut : cut [memT m, cachT m] 0 2 = [memT m, cachT m] := rfl
  obtain ⟨N, q⟩ := (ref_state m hok.1 (j : Int) ln hlb).call ap24s (fun g => rfl)
  have q24 := q N (Nat.le_refl _)
  have hyl := way_len hx
  have hyt := way_tag x
  rw [hln] at hyt
  have htk := stL_take m ln j hjl
  have hcl : ((lgT (stL m ln)).take j).length = j := by rw [List.length_take]; unfold lgT; rw [List.length_map, stL_len]; omega
  have hclf : allLeaf ((lgT (stL m ln)).take j) = true := leaf_ints _ (fun y hy => lgT_ints _ y (List.mem_of_mem_take hy))
  have hcc2 : cut ((lgT (stL m ln)).take j) 0 (j * 1) = (lgT (stL m ln)).take j := cut_all (by omega)
  have hr1 : (j + 1) * 8 ≤ 549755813888 := by omega
  have hr2 : j + 1 ≤ 549755813888 := by omega
  have hle : j * 1 ≤ j := by omega
  have hroom : room = 549755813888 := rfl
  have hsp : splice [T.int .i64 0] 0 [T.int .i64 (stateOf m (j : Int) ln)] = [T.int .i64 (stateOf m (j : Int) ln)] := rfl
  have hct1 : cut [T.int .i64 (stateOf m (j : Int) ln)] 0 1 = [T.int .i64 (stateOf m (j : Int) ln)] := rfl
  have hpt' : p ≠ t := by omega
  have h0t : 0 ≠ t := by omega
  refine W_seqn (W_seqn (W_region (fun k => by simp (decide := true) (disch := first | omega | simp (decide := true) only [List.length_set, hl]) only [sims, autos, simprocAttr, h1, g0, h8, hcc, hlt]; rfl) ⟨rfl, W_tru (W_skip ⟨rfl, ?_⟩)⟩))
  generalize (lgT (stL m ln)).take j = cells at *
  generalize hss : stateOf m (j : Int) ln = ss at *
  generalize hxe : x.enc = ow at *
  refine W_seqn (W_block (W_regionN ⟨N, by simp (decide := true) (disch := first | omega | simp (decide := true) only [List.length_set, hl]) only [sims, autos, simprocAttr, hps, cellsOf, h1, g0, hcut, h6, h7, h8, gp, gt, hyl, hyt, ap24s, p24s, n24s, q24, hcl, hclf, hcc2, hr1, hr2, hle, hroom, hsp, hct1]; rfl⟩ (.inr (.inl ⟨by simp, rfl, ?_⟩))))
  refine W_region (fun k => by simp (decide := true) (disch := first | omega | simp (decide := true) only [List.length_set, hl]) only [sims, autos, simprocAttr, h8, hw2]; rfl) ?_
  refine .inl ⟨rfl, m.caches.length - (j + 1), by omega, j + 1, ⟨?_, ?_, ?_, ?_, ?_, ?_, ?_⟩, ⟨?_, ?_, hp, ?_⟩, ⟨st.nx + 5 + 7, ?_, ?_, ?_, ?_⟩, ?_, by omega, rfl⟩
  case refine_4 => show 1 ≤ st.nx + 5 + 9 + 3; omega
  case refine_10 => show p < st.nx + 5 + 9 + 3; omega
  case refine_13 => omega
  case refine_14 => show st.nx + 5 + 7 < st.nx + 5 + 9 + 3; omega
  case refine_12 => rw [htk]; simp (decide := true) (disch := first | omega | simp (decide := true) only [List.length_set, hl]) only [sims, autos, simprocAttr, hps]
  all_goals simp (decide := true) (disch := first | omega | simp (decide := true) only [List.length_set, hl]) only [sims, autos, simprocAttr, hps, hl, h1, h3, h4, h5, h6, g0, gp, hxe]
end Go.Proofs.Ytdkaclgfkgcmpaa.Abs
