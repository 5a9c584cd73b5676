/- What the given functions ask of a system, and what the plain law of the bus says of it. -/
import Derived.Test.YtikeeegkndnnfaaSnd
namespace Go.Proofs.Ytikeeegkndnnfaa.Abs
open Go Go.RowKit Fn
set_option linter.unusedVariables false
set_option linter.unusedSimpArgs false
set_option linter.unnecessarySimpa false
set_option maxRecDepth 100000
set_option maxHeartbeats 4000000

theorem at_stL (m : Coh) (ln j : Nat) (h : j < m.caches.length) : at0 (stL m ln) j = stA m j ln := by
  unfold at0 stL
  rw [List.getElem?_map, List.getElem?_range h, ← stateOf_is m j h ln]; rfl
theorem sound_iff {m : Coh} (hok : Ok m) : SoundK m m.caches.length ↔ SoundP m := by
  have hq := fun k hk => right_q (cacheAt m k) (cacheAt_wf hok.1 k hk)
  constructor
  · intro h
    have hr : ∀ k, k < m.caches.length → RQ (cacheAt m k) := fun k hk => (hq k hk).mp (h k hk).1
    refine ⟨hr, fun k hk x hx => ?_⟩
    obtain ⟨n, hrq⟩ := hr k hk
    rcases wayOf_cases hrq x with ⟨w, hw, hf, e, ht, hs⟩ | ⟨_, e, _⟩
    · have hlt := mod_lt' hrq x
      have hrow : (row (cacheAt m k) (x % (cacheAt m k).sets.length)).length = n := (hrq.2.2.2.2.2 _ hlt).1
      have hX := (h k hk).2 _ hlt w (by rw [hrow]; exact hw)
      unfold SoundX at hX
      rw [← e] at hX ht hs
      rw [ht, Int.toNat_natCast] at hX
      rcases hX with hX | ⟨h1, h2, h3⟩
      · exact absurd hX hs
      · obtain ⟨hrng, hleg⟩ := (legal_iff _).mp h3
        rw [stL_len] at hleg
        refine ⟨h1, fun h3 => h2.resolve_left h3, fun hgt j hj hjk => ?_⟩
        have := hleg k hk (by rw [at_stL m x k hk]; exact hgt) j hj hjk
        rw [at_stL m x j hj] at this
        exact this
    · exact absurd (show stA m k x = 0 by unfold stA; rw [e]; rfl) hx
  · rintro ⟨hr, h⟩ k hk
    refine ⟨(hq k hk).mpr (hr k hk), fun s hs w hw => ?_⟩
    obtain ⟨n, hrq⟩ := hr k hk
    have hro := hrq.2.2.2.2.2 s hs
    have hrow : (row (cacheAt m k) s).length = n := hro.1
    have hwo := hro.2 w (by rw [← hrow]; exact hw)
    unfold SoundX
    by_cases hz : (wayN (row (cacheAt m k) s) w).state = 0
    · exact .inl hz
    refine .inr ?_
    have hmod := hwo.2.2.2.2.2.2.1 hz
    have hwf := wayN_wf (row_wf (cacheAt_wf hok.1 k hk) s hs).2 hw
    have htw := wf_u32 hwf.2.1
    obtain ⟨x, hx⟩ : ∃ x, x = (wayN (row (cacheAt m k) s) w).tag.toNat := ⟨_, rfl⟩
    have hmod : x % (cacheAt m k).sets.length = s := by rw [hx]; exact hmod
    have hxt : (wayN (row (cacheAt m k) s) w).tag = (x : Int) := by omega
    rw [← hx]
    obtain ⟨_, e⟩ := wayOf_of hrq (x := x) (k := w) (by rw [← hrow]; exact hw) (by rw [hmod]; exact hxt) (by rw [hmod]; exact hz)
    rw [hmod] at e
    have hst : stA m k x = (wayN (row (cacheAt m k) s) w).state := by unfold stA; rw [e]
    have hda : daA m k x = (wayN (row (cacheAt m k) s) w).data := by unfold daA; rw [e]
    obtain ⟨c1, c2, _⟩ := h k hk x (by rw [hst]; exact hz)
    refine ⟨c1, ?_, (legal_iff _).mpr ⟨fun j hj => ?_, fun i hi hgt j hj hji => ?_⟩⟩
    · rw [← hst, ← hda]
      by_cases h3 : stA m k x = 3
      · exact .inl h3
      · exact .inr (c2 h3)
    · rw [stL_len] at hj
      rw [at_stL m x j hj]
      exact rq_range (hr j hj) x
    · rw [stL_len] at hi hj
      rw [at_stL m x i hi] at hgt
      rw [at_stL m x j hj]
      exact (h i hi x (by omega)).2.2 hgt j hj hji
/-! ### All memory -/
theorem vput_len (mem : List Int) (x : Way) : (vputM mem x).length = mem.length := by
  unfold vputM; split
  · exact putM_len _ _ _
  · rfl
theorem viewW_len (l : List Way) (mem : List Int) : ∀ n, (viewW l mem n).length = mem.length
  | 0 => rfl
  | n + 1 => by rw [viewW, vput_len, viewW_len l mem n]
theorem viewS_len (c : Cache) (mem : List Int) : ∀ n, (viewS c mem n).length = mem.length
  | 0 => rfl
  | n + 1 => by rw [viewS, viewW_len, viewS_len c mem n]
theorem viewK_len (m : Coh) : ∀ n, (viewK m n).length = m.mem.length
  | 0 => rfl
  | n + 1 => by rw [viewK, viewS_len, viewK_len m n]
section
variable {P : List Int → Prop} {H T' : Way → Prop} {N : Nat} (hstep : ∀ mem x, mem.length = N → P mem → H x → P (vputM mem x)) (hhit : ∀ mem x, mem.length = N → T' x → P (vputM mem x))
include hstep
theorem keepW (l : List Way) (mem : List Int) (hN : mem.length = N) (h0 : P mem) : ∀ n, (∀ j, j < n → H (wayN l j)) → P (viewW l mem n)
  | 0, _ => h0
  | n + 1, h => hstep _ _ (by rw [viewW_len]; exact hN) (keepW l mem hN h0 n (fun j hj => h j (by omega))) (h n (by omega))
theorem keepS (c : Cache) (mem : List Int) (hN : mem.length = N) (h0 : P mem) : ∀ n, (∀ s, s < n → ∀ j, j < (row c s).length → H (wayN (row c s) j)) → P (viewS c mem n)
  | 0, _ => h0
  | n + 1, h => keepW hstep _ _ (by rw [viewS_len]; exact hN) (keepS c mem hN h0 n (fun s hs => h s (by omega))) _ (h n (by omega))
theorem keepK (m : Coh) (hN : m.mem.length = N) (h0 : P m.mem) : ∀ n, (∀ k, k < n → ∀ s, s < (cacheAt m k).sets.length → ∀ j, j < (row (cacheAt m k) s).length → H (wayN (row (cacheAt m k) s) j)) → P (viewK m n)
  | 0, _ => h0
  | n + 1, h => keepS hstep _ _ (by rw [viewK_len]; exact hN) (keepK m hN h0 n (fun k hk => h k (by omega))) _ (h n (by omega))
include hhit
theorem hitW (l : List Way) (mem : List Int) (hN : mem.length = N) : ∀ n, (∀ j, j < n → H (wayN l j)) → (∃ j, j < n ∧ T' (wayN l j)) → P (viewW l mem n)
  | 0, _, ⟨j, hj, _⟩ => absurd hj (by omega)
  | n + 1, h, ⟨j, hj, ht⟩ => by
    have hl : (viewW l mem n).length = N := by rw [viewW_len]; exact hN
    by_cases hjn : j = n
    · subst hjn; exact hhit _ _ hl ht
    · exact hstep _ _ hl (hitW l mem hN n (fun j hj => h j (by omega)) ⟨j, by omega, ht⟩) (h n (by omega))
theorem hitS (c : Cache) (mem : List Int) (hN : mem.length = N) : ∀ n, (∀ s, s < n → ∀ j, j < (row c s).length → H (wayN (row c s) j)) → (∃ s, s < n ∧ ∃ j, j < (row c s).length ∧ T' (wayN (row c s) j)) → P (viewS c mem n)
  | 0, _, ⟨j, hj, _⟩ => absurd hj (by omega)
  | n + 1, h, ⟨s, hs, ht⟩ => by
    have hl : (viewS c mem n).length = N := by rw [viewS_len]; exact hN
    by_cases hsn : s = n
    · subst hsn; exact hitW hstep hhit _ _ hl _ (h s (by omega)) ht
    · exact keepW hstep _ _ hl (hitS c mem hN n (fun j hj => h j (by omega)) ⟨s, by omega, ht⟩) _ (h n (by omega))
theorem hitK (m : Coh) (hN : m.mem.length = N) : ∀ n, (∀ k, k < n → ∀ s, s < (cacheAt m k).sets.length → ∀ j, j < (row (cacheAt m k) s).length → H (wayN (row (cacheAt m k) s) j)) → (∃ k, k < n ∧ ∃ s, s < (cacheAt m k).sets.length ∧ ∃ j, j < (row (cacheAt m k) s).length ∧ T' (wayN (row (cacheAt m k) s) j)) → P (viewK m n)
  | 0, _, ⟨j, hj, _⟩ => absurd hj (by omega)
  | n + 1, h, ⟨k, hk, ht⟩ => by
    have hl : (viewK m n).length = N := by rw [viewK_len]; exact hN
    by_cases hkn : k = n
    · subst hkn; exact hitS hstep hhit _ _ hl _ (h k (by omega)) ht
    · exact keepS hstep _ _ hl (hitK m hN n (fun j hj => h j (by omega)) ⟨k, by omega, ht⟩) _ (h n (by omega))
end
/-- A line of a piece of memory. -/
def lineL (mem : List Int) (x : Nat) : List Int := bytesM ⟨mem, []⟩ x
theorem lineL_put (mem : List Int) (w : Way) (hw : w.wf) (x : Nat) (hx : x * 16 + 16 ≤ mem.length) : lineL (vputM mem w) x = if w.state = 3 ∧ w.tag = (x : Int) then w.data else lineL mem x := by
  have htw := wf_u32 hw.2.1
  obtain ⟨ln, hln⟩ : ∃ ln : Nat, w.tag = (ln : Int) := ⟨w.tag.toNat, by omega⟩
  unfold vputM
  by_cases h3 : w.state = 3
  · rw [if_pos h3, hln, Int.toNat_natCast]
    show bytesM (Coh.mk (putM ⟨mem, []⟩ ln w.data).mem []) x = _
    have e : (Coh.mk (putM ⟨mem, []⟩ ln w.data).mem []) = putM ⟨mem, []⟩ ln w.data := by
      have := putM_caches ⟨mem, []⟩ ln w.data
      cases hp : putM ⟨mem, []⟩ ln w.data with
      | mk a b => rw [hp] at this; simp only at this ⊢; rw [this]
    rw [e]
    by_cases hl : ln * 16 + 16 ≤ mem.length
    · rw [bytes_put ⟨mem, []⟩ ln w.data hl hw.2.2.1.1]
      by_cases hxl : x = ln
      · rw [if_pos hxl, if_pos ⟨h3, by rw [hxl]⟩]
      · rw [if_neg hxl, if_neg (fun e => hxl (by have := e.2; omega))]; rfl
    · rw [show putM ⟨mem, []⟩ ln w.data = ⟨mem, []⟩ from if_neg hl]
      rw [if_neg (fun e => hl (by have := e.2; omega))]; rfl
  · rw [if_neg h3, if_neg (fun e => h3 e.1)]
/-- Index i lies behind the last whole line. -/
def Tail (n i : Nat) : Prop := ¬ (i / 16 * 16 + 16 ≤ n)
theorem tail_putM (m : Coh) (ln : Nat) (d : List Int) (hd : d.length = 16) (i : Nat) (ht : Tail m.mem.length i) : (putM m ln d).mem[i]? = m.mem[i]? := by
  unfold putM
  by_cases hl : ln * 16 + 16 ≤ m.mem.length
  · rw [if_pos hl]
    show (spl m.mem (ln * 16) d)[i]? = _
    rw [spl_get _ _ _ (by omega), if_neg (fun h => ht (by omega))]
  · rw [if_neg hl]
theorem tail_vput (mem : List Int) (w : Way) (hw : w.wf) (i : Nat) (ht : Tail mem.length i) : (vputM mem w)[i]? = mem[i]? := by
  unfold vputM
  split
  · exact tail_putM ⟨mem, []⟩ _ _ hw.2.2.1.1 i ht
  · rfl
theorem ways_wf {m : Coh} (hok : Ok m) : ∀ k, k < m.caches.length → ∀ s, s < (cacheAt m k).sets.length → ∀ j, j < (row (cacheAt m k) s).length → (wayN (row (cacheAt m k) s) j).wf := fun k hk s hs j hj => wayN_wf (row_wf (cacheAt_wf hok.1 k hk) s hs).2 hj
theorem view_tail {m : Coh} (hok : Ok m) (i : Nat) (ht : Tail m.mem.length i) : (viewM m)[i]? = m.mem[i]? :=
  keepK (P := fun mem => mem[i]? = m.mem[i]?) (H := Way.wf) (N := m.mem.length) (fun mem x hl hp hx => by show (vputM mem x)[i]? = _; rw [tail_vput mem x hx i (by rw [hl]; exact ht)]; exact hp) m rfl rfl _ (ways_wf hok)
/-- A way that owns changed bytes is the one of its line. -/
theorem own_way {m : Coh} (hok : Ok m) (h : SoundP m) {k s j : Nat} (hk : k < m.caches.length) (hs : s < (cacheAt m k).sets.length) (hj : j < (row (cacheAt m k) s).length) {x : Nat} (h3 : (wayN (row (cacheAt m k) s) j).state = 3) (ht : (wayN (row (cacheAt m k) s) j).tag = (x : Int)) : stA m k x = 3 ∧ daA m k x = (wayN (row (cacheAt m k) s) j).data := by
  obtain ⟨n, hrq⟩ := h.1 k hk
  have hro := hrq.2.2.2.2.2 s hs
  have hrow : (row (cacheAt m k) s).length = n := hro.1
  have hwo := hro.2 j (by rw [← hrow]; exact hj)
  have hmod := hwo.2.2.2.2.2.2.1 (by rw [show wayN ((cacheAt m k).sets[s]?.getD []) j = wayN (row (cacheAt m k) s) j from rfl, h3]; omega)
  have hmod : x % (cacheAt m k).sets.length = s := by
    have e : (wayN ((cacheAt m k).sets[s]?.getD []) j).tag.toNat = x := by rw [show wayN ((cacheAt m k).sets[s]?.getD []) j = wayN (row (cacheAt m k) s) j from rfl, ht]; rfl
    rw [e] at hmod; exact hmod
  obtain ⟨_, e⟩ := wayOf_of hrq (x := x) (k := j) (by rw [← hrow]; exact hj) (by rw [hmod]; exact ht) (by rw [hmod, h3]; omega)
  rw [hmod] at e
  exact ⟨by unfold stA; rw [e]; exact h3, by unfold daA; rw [e]⟩
theorem view_line {m : Coh} (hok : Ok m) (h : SoundP m) (x : Nat) (hx : x * 16 + 16 ≤ m.mem.length) (d : List Int) (hd : Says m x d) : lineL (viewM m) x = d := by
  have hstep : ∀ (mem : List Int) (w : Way), mem.length = m.mem.length → lineL mem x = d → (w.wf ∧ (w.state = 3 → w.tag = (x : Int) → w.data = d)) → lineL (vputM mem w) x = d := fun mem w hl hp hw => by
    rw [lineL_put mem w hw.1 x (by rw [hl]; exact hx)]
    by_cases hc : w.state = 3 ∧ w.tag = (x : Int)
    · rw [if_pos hc]; exact hw.2 hc.1 hc.2
    · rw [if_neg hc]; exact hp
  have hH : ∀ k, k < m.caches.length → ∀ s, s < (cacheAt m k).sets.length → ∀ j, j < (row (cacheAt m k) s).length → ((wayN (row (cacheAt m k) s) j).wf ∧ ((wayN (row (cacheAt m k) s) j).state = 3 → (wayN (row (cacheAt m k) s) j).tag = (x : Int) → (wayN (row (cacheAt m k) s) j).data = d)) := fun k hk s hs j hj => ⟨ways_wf hok k hk s hs j hj, fun h3 ht => by
    obtain ⟨a1, a2⟩ := own_way hok h hk hs hj h3 ht
    rw [← a2]
    exact says_one h (.inl ⟨k, hk, a1, rfl⟩) hd⟩
  rcases hd with ⟨k, hk, h3, rfl⟩ | ⟨hno, rfl⟩
  · obtain ⟨n, hrq⟩ := h.1 k hk
    rcases wayOf_cases hrq x with ⟨w, hw, hf, e, ht, hs⟩ | ⟨_, e, _⟩
    · have hlt := mod_lt' hrq x
      have hrow : (row (cacheAt m k) (x % (cacheAt m k).sets.length)).length = n := (hrq.2.2.2.2.2 _ hlt).1
      have hst : (wayN (row (cacheAt m k) (x % (cacheAt m k).sets.length)) w).state = 3 := by rw [← e]; exact h3
      have hdt : (wayN (row (cacheAt m k) (x % (cacheAt m k).sets.length)) w).data = daA m k x := by rw [← e]; rfl
      exact hitK (P := fun mem => lineL mem x = daA m k x) (T' := fun w => w.wf ∧ w.state = 3 ∧ w.tag = (x : Int) ∧ w.data = daA m k x) hstep (fun mem w hl hw => by
        show lineL (vputM mem w) x = _
        rw [lineL_put mem w hw.1 x (by rw [hl]; exact hx), if_pos ⟨hw.2.1, hw.2.2.1⟩]; exact hw.2.2.2) m rfl _ hH ⟨k, hk, _, hlt, w, by rw [hrow]; exact hw, ways_wf hok k hk _ hlt w (by rw [hrow]; exact hw), hst, ht, hdt⟩
    · exact absurd (show stA m k x = 0 by unfold stA; rw [e]; rfl) (by omega)
  · exact keepK (P := fun mem => lineL mem x = bytesM m x) hstep m rfl rfl _ hH
theorem view_same {m n : Coh} (hm : Ok m) (hn : Ok n) (sm : SoundP m) (sn : SoundP n) (hl : n.mem.length = m.mem.length) (hs : ∀ x d, Says m x d → Says n x d) (ht : ∀ i, Tail m.mem.length i → n.mem[i]? = m.mem[i]?) : viewM n = viewM m := by
  have l1 : (viewM m).length = m.mem.length := viewK_len m _
  have l2 : (viewM n).length = m.mem.length := by rw [← hl]; exact viewK_len n _
  apply List.ext_getElem?
  intro i
  by_cases hi : Tail m.mem.length i
  · rw [view_tail hm i hi, view_tail hn i (by rw [hl]; exact hi)]; exact ht i hi
  · have hx : i / 16 * 16 + 16 ≤ m.mem.length := Classical.byContradiction fun h => hi h
    obtain ⟨d, hd⟩ := says_some m (i / 16)
    have e1 := view_line hm sm (i / 16) hx d hd
    have e2 := view_line hn sn (i / 16) (by rw [hl]; exact hx) d (hs _ _ hd)
    have e : (lineL (viewM n) (i / 16))[i % 16]? = (lineL (viewM m) (i / 16))[i % 16]? := by rw [e1, e2]
    unfold lineL at e
    rw [bytes_get, bytes_get, if_pos (by omega), if_pos (by omega)] at e
    have hi2 : i / 16 * 16 + i % 16 = i := by omega
    rw [hi2] at e
    exact e
/-! ### Behind the last whole line nothing changes -/
theorem tail_snoop1 {m : Coh} (hok : Ok m) (who kind : Int) (ln k : Nat) (hk : k < m.caches.length) (i : Nat) (ht : Tail m.mem.length i) : (snoop1 who kind ln m k).mem[i]? = m.mem[i]? := by
  unfold snoop1
  split
  · rfl
  · show (if backv (wayOf (cacheAt m k) ln).state then putM m ln (wayOf (cacheAt m k) ln).data else m).mem[i]? = _
    split
    · exact tail_putM m ln _ (wayOf_wf (cacheAt_wf hok.1 k hk) ln).2.2.1.1 i ht
    · rfl
theorem tail_snoopN {m : Coh} (hok : Ok m) (who kind : Int) (ln i : Nat) (ht : Tail m.mem.length i) : ∀ n, n ≤ m.caches.length → (snoopN who kind ln m n).mem[i]? = m.mem[i]?
  | 0, _ => rfl
  | n + 1, hn => by
    have hsl := snoopN_len who kind ln m n
    show (snoop1 who kind ln (snoopN who kind ln m n) n).mem[i]? = _
    rw [tail_snoop1 (ok_snoopN hok who kind ln n (by omega)) who kind ln n (by rw [hsl.1]; omega) i (by rw [hsl.2]; exact ht)]
    exact tail_snoopN hok who kind ln i ht n (by omega)
theorem tail_do {m : Coh} (hok : Ok m) (w : Nat) (hw : w < m.caches.length) (kind : Int) (ln : Nat) (hln : ln ≤ 4294967295) (i : Nat) (ht : Tail m.mem.length i) : (doM m (w : Int) kind ln).mem[i]? = m.mem[i]? := by
  unfold doM
  split
  · rename_i hg
    have hlies := hg.2.2
    have hsl := snoopN_len (w : Int) kind ln m m.caches.length
    have hokn := ok_snoopN hok (w : Int) kind ln m.caches.length (Nat.le_refl _)
    have e := tail_snoopN hok (w : Int) kind ln i ht m.caches.length (Nat.le_refl _)
    generalize snoopN (w : Int) kind ln m m.caches.length = n at *
    rw [← e]
    unfold doGot
    rw [Int.toNat_natCast]
    split
    · rfl
    · have hgw := (fit_fillR (hokn.2.2.2 w (by rw [hsl.1]; exact hw)) ln hln (gotv kind (sharedN n (w : Int) ln 0 n.caches.length)) (bytesM n ln) ⟨bytesM_len n ln (by rw [hsl.2]; exact hlies), bytesM_wf' hokn.1 ln⟩).2
      unfold backM
      split
      · rw [tail_putM _ _ _ hgw.2.2.1.1 i (by show Tail n.mem.length i; rw [hsl.2]; exact ht)]; rfl
      · rfl
  · rfl
theorem do_len (m : Coh) (who kind : Int) (ln : Nat) : (doM m who kind ln).mem.length = m.mem.length ∧ (doM m who kind ln).caches.length = m.caches.length := by
  unfold doM
  split
  · have hsl := snoopN_len who kind ln m m.caches.length
    unfold doGot
    split
    · exact ⟨hsl.2, by rw [withC_len]; exact hsl.1⟩
    · exact ⟨by rw [bkM_len]; exact hsl.2, by rw [backM_caches, withC_len]; exact hsl.1⟩
  · exact ⟨rfl, rfl⟩
end Go.Proofs.Ytikeeegkndnnfaa.Abs
