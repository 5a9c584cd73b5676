/- Words of other seats' texts, as they are used here: Legal4 View States Fits Rgt One1 M10. -/
import Derived.Test.YtabfinhkoihhfaaG19
namespace Go.Proofs.Ytabfinhkoihhfaa.Abs
open Go Go.RowKit Fn
set_option linter.unusedVariables false
set_option linter.unusedSimpArgs false
set_option linter.unnecessarySimpa false
set_option maxRecDepth 100000
set_option maxHeartbeats 4000000

theorem at_stL (m : Coh) (ln j : Nat) (h : j < m.caches.length) : at0 (stL m ln) j = stA m j ln := by
  unfold at0 stL
  rw [List.getElem?_map, List.getElem?_range h, ← stateOf_is m j h ln]; rfl
theorem sound_iff {m : Coh} (hok : Ok m) : SoundK m m.caches.length ↔ SoundP m := by
  have hq := fun k hk => right_q (cacheAt m k) (cacheAt_wf hok.1 k hk)
  constructor
  · intro h
    have hr : ∀ k, k < m.caches.length → RQ (cacheAt m k) := fun k hk => (hq k hk).mp (h k hk).1
    refine ⟨hr, fun k hk x hx => ?_⟩
    obtain ⟨n, hrq⟩ := hr k hk
    rcases wayOf_cases hrq x with ⟨w, hw, hf, e, ht, hs⟩ | ⟨_, e, _⟩
    · have hlt := mod_lt' hrq x
      have hrow : (row (cacheAt m k) (x % (cacheAt m k).sets.length)).length = n := (hrq.2.2.2.2.2 _ hlt).1
      have hX := (h k hk).2 _ hlt w (by rw [hrow]; exact hw)
      unfold SoundX at hX
      rw [← e] at hX ht hs
      rw [ht, Int.toNat_natCast] at hX
      rcases hX with hX | ⟨h1, h2, h3⟩
      · exact absurd hX hs
      · obtain ⟨hrng, hleg⟩ := (legal_iff _).mp h3
        rw [stL_len] at hleg
        refine ⟨h1, fun h3 => h2.resolve_left h3, fun hgt j hj hjk => ?_⟩
        have := hleg k hk (by rw [at_stL m x k hk]; exact hgt) j hj hjk
        rw [at_stL m x j hj] at this
        exact this
    · exact absurd (show stA m k x = 0 by unfold stA; rw [e]; rfl) hx
  · rintro ⟨hr, h⟩ k hk
    refine ⟨(hq k hk).mpr (hr k hk), fun s hs w hw => ?_⟩
    obtain ⟨n, hrq⟩ := hr k hk
    have hro := hrq.2.2.2.2.2 s hs
    have hrow : (row (cacheAt m k) s).length = n := hro.1
    have hwo := hro.2 w (by rw [← hrow]; exact hw)
    unfold SoundX
    by_cases hz : (wayN (row (cacheAt m k) s) w).state = 0
    · exact .inl hz
    refine .inr ?_
    have hmod := hwo.2.2.2.2.2.2.1 hz
    have hwf := wayN_wf (row_wf (cacheAt_wf hok.1 k hk) s hs).2 hw
    have htw := wf_u32 hwf.2.1
    obtain ⟨x, hx⟩ : ∃ x, x = (wayN (row (cacheAt m k) s) w).tag.toNat := ⟨_, rfl⟩
    have hmod : x % (cacheAt m k).sets.length = s := by rw [hx]; exact hmod
    have hxt : (wayN (row (cacheAt m k) s) w).tag = (x : Int) := by omega
    rw [← hx]
    obtain ⟨_, e⟩ := wayOf_of hrq (x := x) (k := w) (by rw [← hrow]; exact hw) (by rw [hmod]; exact hxt) (by rw [hmod]; exact hz)
    rw [hmod] at e
    have hst : stA m k x = (wayN (row (cacheAt m k) s) w).state := by unfold stA; rw [e]
    have hda : daA m k x = (wayN (row (cacheAt m k) s) w).data := by unfold daA; rw [e]
    obtain ⟨c1, c2, _⟩ := h k hk x (by rw [hst]; exact hz)
    refine ⟨c1, ?_, (legal_iff _).mpr ⟨fun j hj => ?_, fun i hi hgt j hj hji => ?_⟩⟩
    · rw [← hst, ← hda]
      by_cases h3 : stA m k x = 3
      · exact .inl h3
      · exact .inr (c2 h3)
    · rw [stL_len] at hj
      rw [at_stL m x j hj]
      exact rq_range (hr j hj) x
    · rw [stL_len] at hi hj
      rw [at_stL m x i hi] at hgt
      rw [at_stL m x j hj]
      exact (h i hi x (by omega)).2.2 hgt j hj hji
/-! ### All memory -/
theorem vput_len (mem : List Int) (x : Way) : (vputM mem x).length = mem.length := by
  unfold vputM; split
  · exact putM_len _ _ _
  · rfl
theorem viewW_len (l : List Way) (mem : List Int) : ∀ n, (viewW l mem n).length = mem.length
  | 0 => rfl
  | n + 1 => by rw [viewW, vput_len, viewW_len l mem n]
theorem viewS_len (c : Cache) (mem : List Int) : ∀ n, (viewS c mem n).length = mem.length
  | 0 => rfl
  | n + 1 => by rw [viewS, viewW_len, viewS_len c mem n]
theorem viewK_len (m : Coh) : ∀ n, (viewK m n).length = m.mem.length
  | 0 => rfl
  | n + 1 => by rw [viewK, viewS_len, viewK_len m n]
section
variable {P : List Int → Prop} {H T' : Way → Prop} {N : Nat} (hstep : ∀ mem x, mem.length = N → P mem → H x → P (vputM mem x)) (hhit : ∀ mem x, mem.length = N → T' x → P (vputM mem x))
include hstep
theorem keepW (l : List Way) (mem : List Int) (hN : mem.length = N) (h0 : P mem) : ∀ n, (∀ j, j < n → H (wayN l j)) → P (viewW l mem n)
  | 0, _ => h0
  | n + 1, h => hstep _ _ (by rw [viewW_len]; exact hN) (keepW l mem hN h0 n (fun j hj => h j (by omega))) (h n (by omega))
theorem keepS (c : Cache) (mem : List Int) (hN : mem.length = N) (h0 : P mem) : ∀ n, (∀ s, s < n → ∀ j, j < (row c s).length → H (wayN (row c s) j)) → P (viewS c mem n)
  | 0, _ => h0
  | n + 1, h => keepW hstep _ _ (by rw [viewS_len]; exact hN) (keepS c mem hN h0 n (fun s hs => h s (by omega))) _ (h n (by omega))
theorem keepK (m : Coh) (hN : m.mem.length = N) (h0 : P m.mem) : ∀ n, (∀ k, k < n → ∀ s, s < (cacheAt m k).sets.length → ∀ j, j < (row (cacheAt m k) s).length → H (wayN (row (cacheAt m k) s) j)) → P (viewK m n)
  | 0, _ => h0
  | n + 1, h => keepS hstep _ _ (by rw [viewK_len]; exact hN) (keepK m hN h0 n (fun k hk => h k (by omega))) _ (h n (by omega))
include hhit
theorem hitW (l : List Way) (mem : List Int) (hN : mem.length = N) : ∀ n, (∀ j, j < n → H (wayN l j)) → (∃ j, j < n ∧ T' (wayN l j)) → P (viewW l mem n)
  | 0, _, ⟨j, hj, _⟩ => absurd hj (by omega)
  | n + 1, h, ⟨j, hj, ht⟩ => by
    have hl : (viewW l mem n).length = N := by rw [viewW_len]; exact hN
    by_cases hjn : j = n
    · subst hjn; exact hhit _ _ hl ht
    · exact hstep _ _ hl (hitW l mem hN n (fun j hj => h j (by omega)) ⟨j, by omega, ht⟩) (h n (by omega))
theorem hitS (c : Cache) (mem : List Int) (hN : mem.length = N) : ∀ n, (∀ s, s < n → ∀ j, j < (row c s).length → H (wayN (row c s) j)) → (∃ s, s < n ∧ ∃ j, j < (row c s).length ∧ T' (wayN (row c s) j)) → P (viewS c mem n)
  | 0, _, ⟨j, hj, _⟩ => absurd hj (by omega)
  | n + 1, h, ⟨s, hs, ht⟩ => by
    have hl : (viewS c mem n).length = N := by rw [viewS_len]; exact hN
    by_cases hsn : s = n
    · subst hsn; exact hitW hstep hhit _ _ hl _ (h s (by omega)) ht
    · exact keepW hstep _ _ hl (hitS c mem hN n (fun j hj => h j (by omega)) ⟨s, by omega, ht⟩) _ (h n (by omega))
theorem hitK (m : Coh) (hN : m.mem.length = N) : ∀ n, (∀ k, k < n → ∀ s, s < (cacheAt m k).sets.length → ∀ j, j < (row (cacheAt m k) s).length → H (wayN (row (cacheAt m k) s) j)) → (∃ k, k < n ∧ ∃ s, s < (cacheAt m k).sets.length ∧ ∃ j, j < (row (cacheAt m k) s).length ∧ T' (wayN (row (cacheAt m k) s) j)) → P (viewK m n)
  | 0, _, ⟨j, hj, _⟩ => absurd hj (by omega)
  | n + 1, h, ⟨k, hk, ht⟩ => by
    have hl : (viewK m n).length = N := by rw [viewK_len]; exact hN
    by_cases hkn : k = n
    · subst hkn; exact hitS hstep hhit _ _ hl _ (h k (by omega)) ht
    · exact keepS hstep _ _ hl (hitK m hN n (fun j hj => h j (by omega)) ⟨k, by omega, ht⟩) _ (h n (by omega))
end
def lineL (mem : List Int) (x : Nat) : List Int := bytesM ⟨mem, []⟩ x
theorem lineL_put (mem : List Int) (w : Way) (hw : w.wf) (x : Nat) (hx : x * 16 + 16 ≤ mem.length) : lineL (vputM mem w) x = if w.state = 3 ∧ w.tag = (x : Int) then w.data else lineL mem x := by
  have htw := wf_u32 hw.2.1
  obtain ⟨ln, hln⟩ : ∃ ln : Nat, w.tag = (ln : Int) := ⟨w.tag.toNat, by omega⟩
  unfold vputM
  by_cases h3 : w.state = 3
  · rw [if_pos h3, hln, Int.toNat_natCast]
    show bytesM (Coh.mk (putM ⟨mem, []⟩ ln w.data).mem []) x = _
    have e : (Coh.mk (putM ⟨mem, []⟩ ln w.data).mem []) = putM ⟨mem, []⟩ ln w.data := by
      have := putM_caches ⟨mem, []⟩ ln w.data
      cases hp : putM ⟨mem, []⟩ ln w.data with
      | mk a b => rw [hp] at this; simp only at this ⊢; rw [this]
    rw [e]
    by_cases hl : ln * 16 + 16 ≤ mem.length
    · rw [bytes_put ⟨mem, []⟩ ln w.data hl hw.2.2.1.1]
      by_cases hxl : x = ln
      · rw [if_pos hxl, if_pos ⟨h3, by rw [hxl]⟩]
      · rw [if_neg hxl, if_neg (fun e => hxl (by have := e.2; omega))]; rfl
    · rw [show putM ⟨mem, []⟩ ln w.data = ⟨mem, []⟩ from if_neg hl]
      rw [if_neg (fun e => hl (by have := e.2; omega))]; rfl
  · rw [if_neg h3, if_neg (fun e => h3 e.1)]
def Tail (n i : Nat) : Prop := ¬ (i / 16 * 16 + 16 ≤ n)
theorem tail_putM (m : Coh) (ln : Nat) (d : List Int) (hd : d.length = 16) (i : Nat) (ht : Tail m.mem.length i) : (putM m ln d).mem[i]? = m.mem[i]? := by
  unfold putM
  by_cases hl : ln * 16 + 16 ≤ m.mem.length
  · rw [if_pos hl]
    show (spl m.mem (ln * 16) d)[i]? = _
    rw [spl_get _ _ _ (by omega), if_neg (fun h => ht (by omega))]
  · rw [if_neg hl]
theorem tail_vput (mem : List Int) (w : Way) (hw : w.wf) (i : Nat) (ht : Tail mem.length i) : (vputM mem w)[i]? = mem[i]? := by
  unfold vputM
  split
  · exact tail_putM ⟨mem, []⟩ _ _ hw.2.2.1.1 i ht
  · rfl
theorem ways_wf {m : Coh} (hok : Ok m) : ∀ k, k < m.caches.length → ∀ s, s < (cacheAt m k).sets.length → ∀ j, j < (row (cacheAt m k) s).length → (wayN (row (cacheAt m k) s) j).wf := fun k hk s hs j hj => wayN_wf (row_wf (cacheAt_wf hok.1 k hk) s hs).2 hj
theorem view_tail {m : Coh} (hok : Ok m) (i : Nat) (ht : Tail m.mem.length i) : (viewM m)[i]? = m.mem[i]? :=
  keepK (P := fun mem => mem[i]? = m.mem[i]?) (H := Way.wf) (N := m.mem.length) (fun mem x hl hp hx => by show (vputM mem x)[i]? = _; rw [tail_vput mem x hx i (by rw [hl]; exact ht)]; exact hp) m rfl rfl _ (ways_wf hok)
theorem own_way {m : Coh} (hok : Ok m) (h : SoundP m) {k s j : Nat} (hk : k < m.caches.length) (hs : s < (cacheAt m k).sets.length) (hj : j < (row (cacheAt m k) s).length) {x : Nat} (h3 : (wayN (row (cacheAt m k) s) j).state = 3) (ht : (wayN (row (cacheAt m k) s) j).tag = (x : Int)) : stA m k x = 3 ∧ daA m k x = (wayN (row (cacheAt m k) s) j).data := by
  obtain ⟨n, hrq⟩ := h.1 k hk
  have hro := hrq.2.2.2.2.2 s hs
  have hrow : (row (cacheAt m k) s).length = n := hro.1
  have hwo := hro.2 j (by rw [← hrow]; exact hj)
  have hmod := hwo.2.2.2.2.2.2.1 (by rw [show wayN ((cacheAt m k).sets[s]?.getD []) j = wayN (row (cacheAt m k) s) j from rfl, h3]; omega)
  have hmod : x % (cacheAt m k).sets.length = s := by
    have e : (wayN ((cacheAt m k).sets[s]?.getD []) j).tag.toNat = x := by rw [show wayN ((cacheAt m k).sets[s]?.getD []) j = wayN (row (cacheAt m k) s) j from rfl, ht]; rfl
    rw [e] at hmod; exact hmod
  obtain ⟨_, e⟩ := wayOf_of hrq (x := x) (k := j) (by rw [← hrow]; exact hj) (by rw [hmod]; exact ht) (by rw [hmod, h3]; omega)
  rw [hmod] at e
  exact ⟨by unfold stA; rw [e]; exact h3, by unfold daA; rw [e]⟩
theorem view_line {m : Coh} (hok : Ok m) (h : SoundP m) (x : Nat) (hx : x * 16 + 16 ≤ m.mem.length) (d : List Int) (hd : Says m x d) : lineL (viewM m) x = d := by
  have hstep : ∀ (mem : List Int) (w : Way), mem.length = m.mem.length → lineL mem x = d → (w.wf ∧ (w.state = 3 → w.tag = (x : Int) → w.data = d)) → lineL (vputM mem w) x = d := fun mem w hl hp hw => by
    rw [lineL_put mem w hw.1 x (by rw [hl]; exact hx)]
    by_cases hc : w.state = 3 ∧ w.tag = (x : Int)
    · rw [if_pos hc]; exact hw.2 hc.1 hc.2
    · rw [if_neg hc]; exact hp
  have hH : ∀ k, k < m.caches.length → ∀ s, s < (cacheAt m k).sets.length → ∀ j, j < (row (cacheAt m k) s).length → ((wayN (row (cacheAt m k) s) j).wf ∧ ((wayN (row (cacheAt m k) s) j).state = 3 → (wayN (row (cacheAt m k) s) j).tag = (x : Int) → (wayN (row (cacheAt m k) s) j).data = d)) := fun k hk s hs j hj => ⟨ways_wf hok k hk s hs j hj, fun h3 ht => by
    obtain ⟨a1, a2⟩ := own_way hok h hk hs hj h3 ht
    rw [← a2]
    exact says_one h (.inl ⟨k, hk, a1, rfl⟩) hd⟩
  rcases hd with ⟨k, hk, h3, rfl⟩ | ⟨hno, rfl⟩
  · obtain ⟨n, hrq⟩ := h.1 k hk
    rcases wayOf_cases hrq x with ⟨w, hw, hf, e, ht, hs⟩ | ⟨_, e, _⟩
    · have hlt := mod_lt' hrq x
      have hrow : (row (cacheAt m k) (x % (cacheAt m k).sets.length)).length = n := (hrq.2.2.2.2.2 _ hlt).1
      have hst : (wayN (row (cacheAt m k) (x % (cacheAt m k).sets.length)) w).state = 3 := by rw [← e]; exact h3
      have hdt : (wayN (row (cacheAt m k) (x % (cacheAt m k).sets.length)) w).data = daA m k x := by rw [← e]; rfl
      exact hitK (P := fun mem => lineL mem x = daA m k x) (T' := fun w => w.wf ∧ w.state = 3 ∧ w.tag = (x : Int) ∧ w.data = daA m k x) hstep (fun mem w hl hw => by
        show lineL (vputM mem w) x = _
        rw [lineL_put mem w hw.1 x (by rw [hl]; exact hx), if_pos ⟨hw.2.1, hw.2.2.1⟩]; exact hw.2.2.2) m rfl _ hH ⟨k, hk, _, hlt, w, by rw [hrow]; exact hw, ways_wf hok k hk _ hlt w (by rw [hrow]; exact hw), hst, ht, hdt⟩
    · exact absurd (show stA m k x = 0 by unfold stA; rw [e]; rfl) (by omega)
  · exact keepK (P := fun mem => lineL mem x = bytesM m x) hstep m rfl rfl _ hH
theorem view_same {m n : Coh} (hm : Ok m) (hn : Ok n) (sm : SoundP m) (sn : SoundP n) (hl : n.mem.length = m.mem.length) (hs : ∀ x d, Says m x d → Says n x d) (ht : ∀ i, Tail m.mem.length i → n.mem[i]? = m.mem[i]?) : viewM n = viewM m := by
  have l1 : (viewM m).length = m.mem.length := viewK_len m _
  have l2 : (viewM n).length = m.mem.length := by rw [← hl]; exact viewK_len n _
  apply List.ext_getElem?
  intro i
  by_cases hi : Tail m.mem.length i
  · rw [view_tail hm i hi, view_tail hn i (by rw [hl]; exact hi)]; exact ht i hi
  · have hx : i / 16 * 16 + 16 ≤ m.mem.length := Classical.byContradiction fun h => hi h
    obtain ⟨d, hd⟩ := says_some m (i / 16)
    have e1 := view_line hm sm (i / 16) hx d hd
    have e2 := view_line hn sn (i / 16) (by rw [hl]; exact hx) d (hs _ _ hd)
    have e : (lineL (viewM n) (i / 16))[i % 16]? = (lineL (viewM m) (i / 16))[i % 16]? := by rw [e1, e2]
    unfold lineL at e
    rw [bytes_get, bytes_get, if_pos (by omega), if_pos (by omega)] at e
    have hi2 : i / 16 * 16 + i % 16 = i := by omega
    rw [hi2] at e
    exact e
/-! ### Behind the last whole line nothing changes -/
theorem tail_snoop1 {m : Coh} (hok : Ok m) (who kind : Int) (ln k : Nat) (hk : k < m.caches.length) (i : Nat) (ht : Tail m.mem.length i) : (snoop1 who kind ln m k).mem[i]? = m.mem[i]? := by
  unfold snoop1
  split
  · rfl
  · show (if backv (wayOf (cacheAt m k) ln).state then putM m ln (wayOf (cacheAt m k) ln).data else m).mem[i]? = _
    split
    · exact tail_putM m ln _ (wayOf_wf (cacheAt_wf hok.1 k hk) ln).2.2.1.1 i ht
    · rfl
theorem tail_snoopN {m : Coh} (hok : Ok m) (who kind : Int) (ln i : Nat) (ht : Tail m.mem.length i) : ∀ n, n ≤ m.caches.length → (snoopN who kind ln m n).mem[i]? = m.mem[i]?
  | 0, _ => rfl
  | n + 1, hn => by
    have hsl := snoopN_len who kind ln m n
    show (snoop1 who kind ln (snoopN who kind ln m n) n).mem[i]? = _
    rw [tail_snoop1 (ok_snoopN hok who kind ln n (by omega)) who kind ln n (by rw [hsl.1]; omega) i (by rw [hsl.2]; exact ht)]
    exact tail_snoopN hok who kind ln i ht n (by omega)
theorem tail_do {m : Coh} (hok : Ok m) (w : Nat) (hw : w < m.caches.length) (kind : Int) (ln : Nat) (hln : ln ≤ 4294967295) (i : Nat) (ht : Tail m.mem.length i) : (doM m (w : Int) kind ln).mem[i]? = m.mem[i]? := by
  unfold doM
  split
  · rename_i hg
    have hlies := hg.2.2
    have hsl := snoopN_len (w : Int) kind ln m m.caches.length
    have hokn := ok_snoopN hok (w : Int) kind ln m.caches.length (Nat.le_refl _)
    have e := tail_snoopN hok (w : Int) kind ln i ht m.caches.length (Nat.le_refl _)
    generalize snoopN (w : Int) kind ln m m.caches.length = n at *
    rw [← e]
    unfold doGot
    rw [Int.toNat_natCast]
    split
    · rfl
    · have hgw := (fit_fillR (hokn.2.2.2 w (by rw [hsl.1]; exact hw)) ln hln (gotv kind (sharedN n (w : Int) ln 0 n.caches.length)) (bytesM n ln) ⟨bytesM_len n ln (by rw [hsl.2]; exact hlies), bytesM_wf' hokn.1 ln⟩).2
      unfold backM
      split
      · rw [tail_putM _ _ _ hgw.2.2.1.1 i (by show Tail n.mem.length i; rw [hsl.2]; exact ht)]; rfl
      · rfl
  · rfl
theorem do_len (m : Coh) (who kind : Int) (ln : Nat) : (doM m who kind ln).mem.length = m.mem.length ∧ (doM m who kind ln).caches.length = m.caches.length := by
  unfold doM
  split
  · have hsl := snoopN_len who kind ln m m.caches.length
    unfold doGot
    split
    · exact ⟨hsl.2, by rw [withC_len]; exact hsl.1⟩
    · exact ⟨by rw [bkM_len]; exact hsl.2, by rw [backM_caches, withC_len]; exact hsl.1⟩
  · exact ⟨rfl, rfl⟩
theorem frzL_own {g : Mem} {A n : Nat} {c : List T} (hn : c.length = n) (hg : g A = some c) (hc : ∀ x ∈ c, ∃ k m, x = .int k m) (tl : List T) (htl : ∀ x ∈ tl, ∃ k m, x = .int k m) : ∃ f ids, frzL ⟨g, 0⟩ frzDepth (.own A 0 n 1 :: tl) = some (.imm f n c :: tl, ids) := by
  have hla : ListAt (fun _ => True) g (.own A 0 c.length 1) c := .inr ⟨A, trivial, rfl, hg⟩
  obtain ⟨f, ids, e1, _⟩ := hla.frz (d := 10) (nx := 0) (frzAll_int _ hc)
  rw [hn] at e1
  refine ⟨f, ids ++ [], ?_⟩
  unfold frzL
  have e2 := frzAll_int (h := ⟨g, 0⟩) (d := 11) tl htl
  rw [show frzDepth = 12 from rfl, frzAll]
  simp only [e1, e2]
def StA (L : List T) (j : Nat) (x : T) (g : Mem) (nx : Nat) : Prop := (j = 0 ∧ x = .imm true 0 []) ∨ ∃ t, t < nx ∧ x = .own t 0 j 1 ∧ g t = some (L.take j)
theorem StA.mono {L : List T} {j : Nat} {x : T} {g g' : Mem} {nx nx' : Nat} (h : StA L j x g nx) (hn : nx ≤ nx') (hg : ∀ t, t < nx → g' t = g t) : StA L j x g' nx' := by
  rcases h with h | ⟨t, h1, h2, h3⟩
  · exact .inl h
  · exact .inr ⟨t, by omega, h2, by rw [hg t h1]; exact h3⟩
def StI (m : Coh) (ln j : Nat) (st : St) : Prop := st.s.length = 42 ∧ rho st.s (.tmp 1) = .int .u32 (ln : Int) ∧ rho st.s (.tmp 13) = cachT m ∧ rho st.s (.tmp 14) = .int .i64 (m.caches.length : Int) ∧ rho st.s (.tmp 15) = .int .i64 (j : Int) ∧ StA (lgT (stL m ln)) j (rho st.s (.tmp 5)) st.g st.nx
theorem StI.step {m : Coh} {ln j : Nat} {st : St} (h : StI m ln j st) {s' : List T} {g' : Mem} {nx' : Nat} (hl : s'.length = 42) (h1 : rho s' (.tmp 1) = rho st.s (.tmp 1)) (h13 : rho s' (.tmp 13) = rho st.s (.tmp 13)) (h14 : rho s' (.tmp 14) = rho st.s (.tmp 14)) (h15 : rho s' (.tmp 15) = rho st.s (.tmp 15)) (h5 : rho s' (.tmp 5) = rho st.s (.tmp 5)) (hn : st.nx ≤ nx') (hg : ∀ t, t < st.nx → g' t = st.g t) : StI m ln j ⟨s', g', nx'⟩ := by
  obtain ⟨_, a1, a2, a3, a4, a5⟩ := h
  exact ⟨hl, h1.trans a1, h13.trans a2, h14.trans a3, h15.trans a4, by rw [h5]; exact a5.mono hn hg⟩
theorem u8_at (L : List Int) (i : Nat) (h : i < L.length) : (L.flatMap u8T)[i * 1]? = some (.int .u8 (at0 L i)) := by
  rw [u8_get L i h]; unfold at0; rw [List.getElem?_eq_getElem h]; rfl
def MemP (L : List Int) : Prop := 64 ≤ L.length ∧ L.length ≤ 16384 ∧ L.length % 64 = 0
instance (L : List Int) : Decidable (MemP L) := by unfold MemP; infer_instance
def RightM (m : Coh) : Prop := MemP m.mem ∧ 1 ≤ m.caches.length ∧ m.caches.length ≤ 2 ∧ SoundK m m.caches.length
theorem same_lines {n t : Coh} (h : SoundP n) (hc : t.caches.length = n.caches.length) (hm : t.mem = n.mem) (hr : ∀ k, k < t.caches.length → RQ (cacheAt t k)) (hs : ∀ j x, j < n.caches.length → stA t j x = stA n j x ∧ daA t j x = daA n j x) : SoundP t ∧ (∀ x d, Says n x d → Says t x d) := by
  have hb : ∀ x, bytesM t x = bytesM n x := fun x => by unfold bytesM; rw [hm]
  refine ⟨⟨hr, fun k hk x hx => ?_⟩, fun x d hd => ?_⟩
  · rw [hc] at hk
    obtain ⟨e1, e2⟩ := hs k x hk
    rw [e1] at hx
    obtain ⟨c1, c2, c3⟩ := h.2 k hk x hx
    refine ⟨by rw [hm]; exact c1, fun h3 => by rw [e2, hb]; exact c2 (by rw [← e1]; exact h3), fun hgt j hj hjk => ?_⟩
    rw [hc] at hj
    rw [(hs j x hj).1]
    exact c3 (by rw [← e1]; exact hgt) j hj hjk
  · rcases hd with ⟨k, hk, h3, rfl⟩ | ⟨hno, rfl⟩
    · exact .inl ⟨k, by rw [hc]; exact hk, by rw [(hs k x hk).1]; exact h3, (hs k x hk).2.symm⟩
    · exact .inr ⟨fun k hk => by rw [hc] at hk; rw [(hs k x hk).1]; exact hno k hk, (hb x).symm⟩
theorem same_view {n t : Coh} (hn : Ok n) (ht : Ok t) (h : SoundP n) (hc : t.caches.length = n.caches.length) (hm : t.mem = n.mem) (hr : ∀ k, k < t.caches.length → RQ (cacheAt t k)) (hs : ∀ j x, j < n.caches.length → stA t j x = stA n j x ∧ daA t j x = daA n j x) : SoundP t ∧ viewM t = viewM n := by
  obtain ⟨h1, h2⟩ := same_lines h hc hm hr hs
  exact ⟨h1, view_same hn ht h h1 (by rw [hm]) h2 (fun i _ => by rw [hm])⟩
theorem touchM_mem (m : Coh) (w ln : Nat) : (touchM m w ln).mem = m.mem := by unfold touchM; split <;> rfl
theorem touch_all {n : Coh} (hok : Ok n) (h : SoundP n) (w ln : Nat) (hw : w < n.caches.length) : Ok (touchM n w ln) ∧ SoundP (touchM n w ln) ∧ viewM (touchM n w ln) = viewM n ∧ ∀ j x, j < n.caches.length → stA (touchM n w ln) j x = stA n j x ∧ daA (touchM n w ln) j x = daA n j x := by
  have hok' := ok_touch hok w ln hw
  obtain ⟨q, hq⟩ := h.1 w hw
  have hst : ∀ j x, stA (touchM n w ln) j x = stA n j x ∧ daA (touchM n w ln) j x = daA n j x := fun j x => by
    cases hf : find (cacheAt n w) ln with
    | none => rw [show touchM n w ln = n by unfold touchM; rw [hf]]; exact ⟨rfl, rfl⟩
    | some k =>
      have e : touchM n w ln = withC n w (touchR (cacheAt n w).sets (seti (cacheAt n w) ln : Int) (k : Int)) := by unfold touchM; rw [hf]
      obtain ⟨f1, f2, f90003, _, _⟩ := find_in hq hf
      obtain ⟨b1, b2⟩ := withC_st n hw (touchR (cacheAt n w).sets (seti (cacheAt n w) ln : Int) (k : Int)) j x
      rw [e, b1, b2]
      by_cases hj : j = w
      · subst hj
        rw [if_pos rfl, if_pos rfl]
        have hr : touchR (cacheAt n j).sets (seti (cacheAt n j) ln : Int) (k : Int) = (cacheAt n j).sets.set (ln % (cacheAt n j).sets.length) (touchL (row (cacheAt n j) (ln % (cacheAt n j).sets.length)) k) := by
          have hl : k < (row (cacheAt n j) (ln % (cacheAt n j).sets.length)).length := by rw [rowlen hq _ f90003]; exact f1
          unfold touchR
          rw [f2, Int.toNat_natCast, Int.toNat_natCast]
          exact if_pos ⟨by omega, by omega, by omega, by have : k < (((cacheAt n j).sets[ln % (cacheAt n j).sets.length]?).getD []).length := hl; omega⟩
        rw [hr]
        obtain ⟨t1, t2, _⟩ := touch_still hq f90003 f1 x
        exact ⟨t1, t2⟩
      · rw [if_neg hj, if_neg hj]; exact ⟨rfl, rfl⟩
  obtain ⟨h1, h2⟩ := same_view hok hok' h (touchM_len n w ln) (touchM_mem n w ln) (fun k hk => by
    rw [touchM_len] at hk
    unfold touchM
    cases hf : find (cacheAt n w) ln with
    | none => exact h.1 k hk
    | some i =>
      show RQ (cacheAt (withC n w _) k)
      rw [cacheAt_set n w _ k hw]
      by_cases hkw : k = w
      · rw [if_pos hkw]
        have := rightq_touch hq (seti (cacheAt n w) ln : Int) (i : Int)
        exact ⟨q, by rw [show (Cache.mk (touchR (cacheAt n w).sets (seti (cacheAt n w) ln : Int) (i : Int))).sets.length = _ from this.1]; exact this⟩
      · rw [if_neg hkw]; exact h.1 k hk) (fun j x _ => hst j x)
  exact ⟨hok', h1, h2, fun j x _ => hst j x⟩
theorem ask_is (m : Coh) (w : Nat) (hw : w < m.caches.length) (ln : Nat) (a : Int) : (askM m (w : Int) ln a).1 = doM m (w : Int) (askv (stA m w ln) a) ln ∧ ((askM m (w : Int) ln a).2 = true ↔ askv (stA m w ln) a = 0) := by
  have hk : askK m (w : Int) ln a = askv (stA m w ln) a := by unfold askK; rw [stateOf_is m w hw ln]
  unfold askM
  rw [hk]
  by_cases h : askv (stA m w ln) a = 0
  · rw [if_pos h]
    refine ⟨?_, ⟨fun _ => h, fun _ => rfl⟩⟩
    exact (if_neg (fun hg => by have := hg.2.1.1; omega)).symm
  · rw [if_neg h]
    exact ⟨rfl, ⟨fun e => (by cases e), fun e => absurd e h⟩⟩
theorem ask_all {m : Coh} (hok : Ok m) (h : SoundP m) (w : Nat) (hw : w < m.caches.length) (ln : Nat) (hln : ln ≤ 4294967295) (hlies : ln * 16 + 16 ≤ m.mem.length) (a : Int) (ha : a = 1 ∨ a = 2) :
    Ok (askM m (w : Int) ln a).1 ∧ SoundP (askM m (w : Int) ln a).1 ∧ viewM (askM m (w : Int) ln a).1 = viewM m ∧ (askM m (w : Int) ln a).1.caches.length = m.caches.length ∧ (askM m (w : Int) ln a).1.mem.length = m.mem.length ∧ stA (askM m (w : Int) ln a).1 w ln ≠ 0 ∧ (a = 2 → stA (askM m (w : Int) ln a).1 w ln = 2 ∨ stA (askM m (w : Int) ln a).1 w ln = 3) := by
  have hok' := ok_ask hok (w : Int) ln hln a
  rw [(ask_is m w hw ln a).1] at hok' ⊢
  obtain ⟨l1, l2, l3, l4⟩ := legal_do hok h w hw ln hlies a ha
  obtain ⟨d1, d2⟩ := do_len m (w : Int) (askv (stA m w ln) a) ln
  exact ⟨hok', l1, view_same hok hok' h l1 d1 l2 (fun i hi => tail_do hok w hw _ ln hln i hi), d2, d1, l3, l4⟩
theorem says_has {n : Coh} (h : SoundP n) {w : Nat} (hw : w < n.caches.length) {ln : Nat} (h0 : stA n w ln ≠ 0) : Says n ln (daA n w ln) := by
  by_cases h3 : stA n w ln = 3
  · exact .inl ⟨w, hw, h3, rfl⟩
  · refine .inr ⟨fun k hk hk3 => ?_, (h.2 w hw ln h0).2.1 h3⟩
    by_cases hkw : k = w
    · rw [hkw] at hk3; exact h3 hk3
    · exact h0 ((h.2 k hk ln (by omega)).2.2 (by omega) w hw (fun e => hkw e.symm))
theorem line_is (mem : List Int) (x : Nat) : lineL mem x = (mem.drop (x * 16)).take 16 := rfl
theorem viewM_len (m : Coh) : (viewM m).length = m.mem.length := viewK_len m _
theorem has_view {n : Coh} (hok : Ok n) (h : SoundP n) {w : Nat} (hw : w < n.caches.length) {ln : Nat} (h0 : stA n w ln ≠ 0) : daA n w ln = ((viewM n).drop (ln * 16)).take 16 := by
  rw [← line_is]
  exact (view_line hok h ln (h.2 w hw ln h0).1 _ (says_has h hw h0)).symm
theorem piece (l : List Int) (b a z : Nat) (h : a + z ≤ 16) : (((l.drop b).take 16).drop a).take z = (l.drop (b + a)).take z := by
  rw [List.drop_take, List.drop_drop, List.take_take, Nat.min_eq_left (by omega)]
theorem updD_get (l : List Int) (a : Nat) (bs : List Int) (h : a + bs.length ≤ l.length) (i : Nat) : (updD l a bs)[i]? = if a ≤ i ∧ i < a + bs.length then bs[i - a]? else l[i]? := by
  unfold updD
  rw [List.getElem?_append, List.length_take, Nat.min_eq_left (by omega)]
  by_cases h1 : i < a
  · rw [if_pos h1, if_neg (by omega), List.getElem?_take, if_pos h1]
  · rw [if_neg h1, List.getElem?_append]
    by_cases h2 : i - a < bs.length
    · rw [if_pos h2, if_pos (by omega)]
    · rw [if_neg h2, if_neg (by omega), List.getElem?_drop]
      congr 1; omega
theorem wr_lines {n : Coh} (hok : Ok n) (h : SoundP n) {w : Nat} (hw : w < n.caches.length) (addr z : Nat) (hz : z = 1 ∨ z = 2 ∨ z = 4) (haz : addr % 16 + z ≤ 16) (v : Int) (h0 : stA n w (addr / 16) = 2 ∨ stA n w (addr / 16) = 3) :
    (wrM n w addr (z : Int) v).mem = n.mem ∧ (wrM n w addr (z : Int) v).caches.length = n.caches.length ∧ (∀ k, k < n.caches.length → RQ (cacheAt (wrM n w addr (z : Int) v) k)) ∧
    ∀ j x, (stA (wrM n w addr (z : Int) v) j x = if j = w ∧ x = addr / 16 then 3 else stA n j x) ∧ (daA (wrM n w addr (z : Int) v) j x = if j = w ∧ x = addr / 16 then updD (daA n w (addr / 16)) (addr % 16) (bytesOf v z) else daA n j x) := by
  obtain ⟨q, hq⟩ := h.1 w hw
  have hok2 : Okay addr (z : Int) := ⟨by omega, by omega⟩
  rcases wayOf_cases hq (addr / 16) with ⟨k, hk, hf, e, ht, hs⟩ | ⟨_, e, _⟩
  · obtain ⟨f1, f2, f90003, _, _⟩ := find_in hq hf
    have hst : stA n w (addr / 16) = (wayN (row (cacheAt n w) (addr / 16 % (cacheAt n w).sets.length)) k).state := by unfold stA; rw [e]
    have hda : daA n w (addr / 16) = (wayN (row (cacheAt n w) (addr / 16 % (cacheAt n w).sets.length)) k).data := by unfold daA; rw [e]
    have hrk : readK (cacheAt n w) addr (z : Int) = some k := by unfold readK; rw [if_pos hok2]; exact hf
    have hwk : writeK (cacheAt n w) addr (z : Int) = some k := by
      unfold writeK
      rw [hrk]
      show (if (wayN (row (cacheAt n w) (seti (cacheAt n w) (addr / 16))) k).state = 2 ∨ _ then some k else none) = _
      rw [f2, ← hst, if_pos h0]
    have hwt : (writeR (cacheAt n w) addr (z : Int) v).2 = true := by unfold writeR; rw [hwk]
    obtain ⟨g1, k', hk', _, hf', g2⟩ := rightq_write hq addr (z : Int) v hwt
    have hkk : k' = k := by rw [hf] at hf'; exact (Option.some.inj hf').symm
    subst hkk
    rw [Int.toNat_natCast] at g2
    have g3 : (writeR (cacheAt n w) addr (z : Int) v).1 = (cacheAt n w).sets.set (addr / 16 % (cacheAt n w).sets.length) ((row (cacheAt n w) (addr / 16 % (cacheAt n w).sets.length)).set k' (wrW (wayN (row (cacheAt n w) (addr / 16 % (cacheAt n w).sets.length)) k') (addr % 16) z v)) := by rw [g2]
    have he : wrM n w addr (z : Int) v = withC n w (writeR (cacheAt n w) addr (z : Int) v).1 := if_pos hwt
    rw [he]
    generalize hR : (writeR (cacheAt n w) addr (z : Int) v).1 = R at *
    generalize hold : wayN (row (cacheAt n w) (addr / 16 % (cacheAt n w).sets.length)) k' = old at *
    have hws : (wrW old (addr % 16) z v).state = 3 := rfl
    have hwt2 : (wrW old (addr % 16) z v).tag = ((addr / 16 : Nat) : Int) := ht
    have hwd : (wrW old (addr % 16) z v).data = updD old.data (addr % 16) (bytesOf v z) := rfl
    have hRl : R.length = (cacheAt n w).sets.length := g1.1
    have hrl := rowlen hq _ f90003
    have hrowR : row ⟨R⟩ (addr / 16 % (cacheAt n w).sets.length) = (row (cacheAt n w) (addr / 16 % (cacheAt n w).sets.length)).set k' (wrW old (addr % 16) z v) := by
      rw [g3, row_setq _ _ _ f90003, if_pos rfl]
    have hwR : wayN (row ⟨R⟩ (addr / 16 % (cacheAt n w).sets.length)) k' = wrW old (addr % 16) z v := by
      rw [hrowR, wayN_setq _ _ (by rw [hrl]; exact hk), if_pos rfl]
    have hsame : (wayOf ⟨R⟩ (addr / 16)) = wrW old (addr % 16) z v := by
      have := (wayOf_of (n := (cacheAt n w).sets.length) (m := q) (c := ⟨R⟩) g1 (x := addr / 16) (k := k') hk (by rw [hwR]; exact hwt2) (by rw [hwR, hws]; omega)).2
      rw [this]; exact hwR
    have hoth : ∀ x, x ≠ addr / 16 → wayOf ⟨R⟩ x = wayOf (cacheAt n w) x := fun x hx => by
      rw [g3] at g1 ⊢
      exact wayOf_upd hq f90003 hk _ g1 x (fun _ => by rw [hwt2]; omega) (fun _ => by rw [hold, ht]; omega)
    refine ⟨rfl, withC_len _ _ _, fun j hj => ?_, fun j x => ?_⟩
    · rw [cacheAt_set n w R j hw]
      by_cases hjw : j = w
      · rw [if_pos hjw]; exact ⟨q, by rw [show (Cache.mk R).sets.length = _ from hRl]; exact g1⟩
      · rw [if_neg hjw]; exact h.1 j hj
    · obtain ⟨b1, b2⟩ := withC_st n hw R j x
      rw [b1, b2]
      by_cases hjw : j = w
      · subst hjw
        rw [if_pos rfl, if_pos rfl]
        by_cases hx : x = addr / 16
        · subst hx
          rw [if_pos ⟨rfl, rfl⟩, if_pos ⟨rfl, rfl⟩, hsame, hda]
          exact ⟨rfl, rfl⟩
        · rw [if_neg (fun e => hx e.2), if_neg (fun e => hx e.2), hoth x hx]
          exact ⟨rfl, rfl⟩
      · rw [if_neg hjw, if_neg hjw, if_neg (fun e => hjw e.1), if_neg (fun e => hjw e.1)]
        exact ⟨rfl, rfl⟩
  · exact absurd (show stA n w (addr / 16) = 0 by unfold stA; rw [e]; rfl) (by omega)
theorem wr_all {n : Coh} (hok : Ok n) (h : SoundP n) {w : Nat} (hw : w < n.caches.length) (addr z : Nat) (hz : z = 1 ∨ z = 2 ∨ z = 4) (haz : addr % 16 + z ≤ 16) (v : Int) (h0 : stA n w (addr / 16) = 2 ∨ stA n w (addr / 16) = 3) :
    Ok (wrM n w addr (z : Int) v) ∧ SoundP (wrM n w addr (z : Int) v) ∧ (wrM n w addr (z : Int) v).caches.length = n.caches.length ∧ (wrM n w addr (z : Int) v).mem.length = n.mem.length ∧ viewM (wrM n w addr (z : Int) v) = spl (viewM n) addr (bytesOf v z) ∧ stA (wrM n w addr (z : Int) v) w (addr / 16) = 3 ∧ (∀ j, j < n.caches.length → j ≠ w → stA (wrM n w addr (z : Int) v) j (addr / 16) = 0) ∧ daA (wrM n w addr (z : Int) v) w (addr / 16) = updD (daA n w (addr / 16)) (addr % 16) (bytesOf v z) := by
  have hok' := ok_wrM hok w addr hw (z : Int) v
  obtain ⟨e1, e2, e3, e4⟩ := wr_lines hok h hw addr z hz haz v h0
  obtain ⟨l1, l2, l3⟩ := h.2 w hw (addr / 16) (by omega)
  have hone := l3 (by omega)
  have hv := has_view hok h hw (show stA n w (addr / 16) ≠ 0 by omega)
  generalize wrM n w addr (z : Int) v = t at *
  have hb : ∀ x, bytesM t x = bytesM n x := fun x => by unfold bytesM; rw [e1]
  have hS : SoundP t := by
    refine ⟨fun k hk => e3 k (by rw [← e2]; exact hk), fun k hk x hx => ?_⟩
    rw [e2] at hk
    obtain ⟨s1, d1⟩ := e4 k x
    by_cases hkx : k = w ∧ x = addr / 16
    · obtain ⟨rfl, rfl⟩ := hkx
      rw [if_pos ⟨rfl, rfl⟩] at s1
      refine ⟨by rw [e1]; exact l1, fun h3 => absurd s1 h3, fun _ j hj hjk => ?_⟩
      rw [e2] at hj
      rw [(e4 j _).1, if_neg (fun e => hjk e.1)]
      exact hone j hj hjk
    · rw [if_neg hkx] at s1 d1
      rw [s1] at hx ⊢
      rw [d1]
      obtain ⟨c1, c2, c3⟩ := h.2 k hk x hx
      refine ⟨by rw [e1]; exact c1, fun h3 => by rw [hb]; exact c2 h3, fun hgt j hj hjk => ?_⟩
      rw [e2] at hj
      have := c3 hgt j hj hjk
      rw [(e4 j x).1]
      by_cases hjx : j = w ∧ x = addr / 16
      · rw [hjx.1, hjx.2] at this; omega
      · rw [if_neg hjx]; exact this
  have hz16 : (bytesOf v z).length = z := bytesOf_len z v
  have hvl := viewM_len n
  have htl : (viewM t).length = n.mem.length := by rw [viewM_len, e1]
  have hst3 : stA t w (addr / 16) = 3 := by rw [(e4 w _).1, if_pos ⟨rfl, rfl⟩]
  have hda : daA t w (addr / 16) = updD (daA n w (addr / 16)) (addr % 16) (bytesOf v z) := by rw [(e4 w _).2, if_pos ⟨rfl, rfl⟩]
  have hd16 : (daA n w (addr / 16)).length = 16 := (wayOf_wf (cacheAt_wf hok.1 w hw) _).2.2.1.1
  refine ⟨hok', hS, e2, by rw [e1], ?_, hst3, fun j hj hjw => by rw [(e4 j _).1, if_neg (fun e => hjw e.1)]; exact hone j hj hjw, hda⟩
  apply List.ext_getElem?
  intro i
  rw [spl_get _ _ _ (by rw [hz16, hvl]; omega), hz16]
  by_cases hi : Tail n.mem.length i
  · rw [view_tail hok' i (by rw [e1]; exact hi), e1, if_neg (fun hh => hi (by
      have : i / 16 = addr / 16 := by omega
      rw [this]; exact l1))]
    exact (view_tail hok i hi).symm
  · have hx : i / 16 * 16 + 16 ≤ n.mem.length := Classical.byContradiction fun h => hi h
    have hline : ∀ (mem : List Int), mem[i]? = (lineL mem (i / 16))[i % 16]? := fun mem => by
      rw [line_is, List.getElem?_take, if_pos (by omega), List.getElem?_drop]
      congr 1; omega
    rw [hline (viewM t)]
    by_cases hxl : i / 16 = addr / 16
    · have e5 := view_line hok' hS (addr / 16) (by rw [e1]; exact l1) _ (.inl ⟨w, by rw [e2]; exact hw, hst3, rfl⟩)
      rw [hxl, e5, hda, updD_get _ _ _ (by rw [hz16, hd16]; exact haz), hz16, hv]
      by_cases hin : addr ≤ i ∧ i < addr + z
      · rw [if_pos hin, if_pos (by omega)]
        congr 1; omega
      · rw [if_neg hin, if_neg (by omega), ← line_is, ← hxl, ← hline]
    · rw [if_neg (by omega), hline (viewM n)]
      obtain ⟨d, hd⟩ := says_some n (i / 16)
      have hd' : Says t (i / 16) d := by
        rcases hd with ⟨k, hk, h3, rfl⟩ | ⟨hno, rfl⟩
        · exact .inl ⟨k, by rw [e2]; exact hk, by rw [(e4 k _).1, if_neg (fun e => hxl e.2)]; exact h3, by rw [(e4 k _).2, if_neg (fun e => hxl e.2)]⟩
        · exact .inr ⟨fun k hk => by rw [e2] at hk; rw [(e4 k _).1, if_neg (fun e => hxl e.2)]; exact hno k hk, (hb _).symm⟩
      rw [view_line hok' hS (i / 16) (by rw [e1]; exact hx) d hd', view_line hok h (i / 16) hx d hd]
theorem qCHK0 : ap 17 = some f17 := rfl
theorem rCHK0 : f17.pure = true := rfl
theorem sCHK0 : f17.nat = none := rfl
theorem chk_ok (f : Bool) (L : List Int) (hL : L.length ≤ 4096) (addr z : Nat) (ha : addr ≤ 4294967295) (hz : z = 1 ∨ z = 2 ∨ z = 4) (hin : addr + z ≤ L.length) : E ap 17 [.imm f L.length (L.flatMap u8T), .int .u32 (addr : Int), .int .i64 (z : Int)] (.int .i64 0) := by
  have h := ref_check ⟨L, []⟩ hL addr ha (z : Int) (by omega)
  rw [if_pos (show (addr : Int) + (z : Int) ≤ ((Coh.mk L []).mem.length : Int) by show (addr : Int) + (z : Int) ≤ (L.length : Int); omega)] at h
  obtain ⟨v', h', hu⟩ := h.up (args' := [.imm f L.length (L.flatMap u8T), .int .u32 (addr : Int), .int .i64 (z : Int)]) (UpL.cons (upT_imm (fun e => by cases e) (UpL.refl _)) (UpL.refl _))
  rw [UpT.int hu] at h'
  exact h'
def w10Loop : ACode := match f20.body with | .seq _ (.seq _ (.seq _ (.seq _ (.seq (.seq _ (.block _ (.loop c))) _)))) => c | _ => .skip
theorem pow_div (v : Int) (k : Nat) : v / 256 ^ k / 256 = v / 256 ^ (k + 1) := by
  rw [Int.pow_succ, Int.ediv_ediv_of_nonneg (Int.pow_nonneg (by omega))]
theorem w10_loop (L : List Int) (hL : L.length ≤ 4096) (addr z : Nat) (ha : addr ≤ 4294967295) (hz : z ≤ 4) (hin : addr + z ≤ L.length) (v : Int) (hv : 0 ≤ v ∧ v ≤ 4294967295) (A : Nat) (Q : AExit → St → Prop)
    (hQe : ∀ st : St, st.s.length = 40 → rho st.s (.tmp 11) = .own A 0 L.length 1 → st.g A = some ((spl L addr (bytesOf v z)).flatMap u8T) → Q (.exit 0) st) :
    ∀ (n : Nat) (st : St), (∃ k : Nat, st.s.length = 40 ∧ rho st.s (.tmp 1) = .int .u32 (addr : Int) ∧ rho st.s (.tmp 2) = .int .i64 (z : Int) ∧ rho st.s (.tmp 3) = .int .u32 (v / 256 ^ k) ∧ rho st.s (.tmp 11) = .own A 0 L.length 1 ∧ rho st.s (.tmp 12) = .int .i64 (k : Int) ∧ st.g A = some ((spl L addr ((bytesOf v z).take k)).flatMap u8T) ∧ k ≤ z ∧ n = z - k) → W ap (.loop w10Loop) st Q := by
  refine W_loop _ ?_
  rintro n st ⟨k, hl, h1, h2, h3, h11, h12, gA, hk, hn⟩
  have hbl := bytesOf_len z v
  by_cases hend : k = z
  · have hlt : decide ((k : Int) < (z : Int)) = false := decide_eq_false (by omega)
    rw [List.take_of_length_le (by omega)] at gA
    refine W_seq (W_seqn (W_region (fun k => by simp +decide (disch := first | omega | simp +decide only [List.length_set, hl]) only [sa, simprocAttr, hps, h2, h12, hlt]; rfl) ⟨rfl, W_fls (W_exit (.inr ⟨by simp, .inr ⟨by simp, hQe _ ?_ ?_ ?_⟩⟩))⟩))
    case refine_3 => exact gA
    all_goals simp +decide (disch := first | omega | simp +decide only [List.length_set, hl]) only [sa, simprocAttr, hps, hl, h11]
  have hlt : decide ((k : Int) < (z : Int)) = true := decide_eq_true (by omega)
  have hkz : k < z := by omega
  have hget : (bytesOf v z)[k]'(by omega) = v / 256 ^ k % 256 := by
    have := bytesOf_get z v k hkz
    rw [List.getElem?_eq_getElem (by omega)] at this
    exact Option.some.inj this
  have hnew : ((spl L addr ((bytesOf v z).take k)).flatMap u8T).set (addr + k) (.int .u8 (v / 256 ^ k % 256)) = (spl L addr ((bytesOf v z).take (k + 1))).flatMap u8T := by
    rw [spl_take_succ _ _ _ _ (by omega) (by omega), hget, set_u8]
  have hcl : ((spl L addr ((bytesOf v z).take k)).flatMap u8T).length = L.length := by rw [u8_len, spl_len]
  have hpd := pow_div v k
  have hp0 : (0 : Int) < 256 ^ k := Int.pow_pos (by omega)
  have hq0 : 0 ≤ v / 256 ^ k := Int.ediv_nonneg hv.1 (by omega)
  have hq1 : v / 256 ^ k ≤ v := Int.ediv_le_self _ hv.1
  have ht1 : (v / 256 ^ k).tmod 256 = v / 256 ^ k % 256 := Int.tmod_eq_emod_of_nonneg hq0
  have ht2 : (v / 256 ^ k).tdiv 256 = v / 256 ^ (k + 1) := by rw [Int.tdiv_eq_ediv_of_nonneg hq0]; exact hpd
  have hr0 : 0 ≤ v / 256 ^ (k + 1) := by rw [← hpd]; omega
  have hr1 : v / 256 ^ (k + 1) ≤ 4294967295 := by rw [← hpd]; omega
  generalize (spl L addr ((bytesOf v z).take k)).flatMap u8T = C at *
  generalize hCe : (spl L addr ((bytesOf v z).take (k + 1))).flatMap u8T = C' at *
  generalize v / 256 ^ k = x at *
  generalize hy : v / 256 ^ (k + 1) = y at *
  have w1 : IntKind.i64.wrap (addr : Int) = (addr : Int) := wrap_id (by omega)
  have w2 : IntKind.i64.wrap ((addr : Int) + (k : Int)) = ((addr + k : Nat) : Int) := by rw [wrap_id (by omega)]; omega
  have w3 : IntKind.u8.wrap (x % 256) = x % 256 := by rw [wrap_u8]; omega
  have w4 : IntKind.i64.wrap ((k : Int) + 1) = ((k + 1 : Nat) : Int) := by rw [wrap_id (by omega)]; omega
  have w5 : IntKind.u32.wrap (x % 256) = x % 256 := by rw [wrap_u32]; omega
  have w6 : IntKind.u32.wrap y = y := by rw [wrap_u32]; omega
  have hb2 : addr + k < L.length := by omega
  have hb3 : addr + k + 1 ≤ C.length := by omega
  refine W_seqn (W_seqn (W_region (fun k => by simp +decide (disch := first | omega | simp +decide only [List.length_set, hl]) only [sa, simprocAttr, hps, h2, h12, hlt]; rfl) ⟨rfl, W_tru (W_skip ⟨rfl, ?_⟩)⟩))
  refine W_seqn (W_block (W_seqn (W_region (fun k => by simp +decide (disch := first | omega | simp +decide only [List.length_set, hl]) only [sa, simprocAttr, hps, h1, h3, h11, h12, gA, w1, w2, ht1, w5, w3, hb2, hb3, hnew, Nat.mul_one]; rfl) ⟨rfl, ?_⟩)))
  refine W_region (fun k => by simp +decide (disch := first | omega | simp +decide only [List.length_set, hl]) only [sa, simprocAttr, hps, h3, ht2, w6]; rfl) (.inr (.inl ⟨by simp, rfl, ?_⟩))
  refine W_region (fun k => by simp +decide (disch := first | omega | simp +decide only [List.length_set, hl]) only [sa, simprocAttr, hps, h12, w4]; rfl) (.inl ⟨rfl, z - (k + 1), by omega, k + 1, ?_, ?_, ?_, ?_, ?_, ?_, ?_, by omega, rfl⟩)
  case refine_7 => rw [hCe]; simp +decide (disch := first | omega | simp +decide only [List.length_set, hl]) only [sa, simprocAttr, hps]
  case refine_4 => rw [hy]; simp +decide (disch := first | omega | simp +decide only [List.length_set, hl]) only [sa, simprocAttr, hps]
  all_goals simp +decide (disch := first | omega | simp +decide only [List.length_set, hl]) only [sa, simprocAttr, hps, hl, h1, h2, h11]
theorem fin_tupown {F : AFun} {t1 t2 A n : Nat} {c : List T} (hF : F.res = [.tmp t1, .tmp t2]) {s : List T} {g : Mem} {nx : Nat} (hn : c.length = n) (hg : g A = some c) (hc : ∀ x ∈ c, ∃ k m, x = .int k m) {k : IntKind} {i : Int} (h1 : rho s (.tmp t1) = .own A 0 n 1) (h2 : rho s (.tmp t2) = .int k i) : AExit.ret.leaves = true ∧ ∃ v, (∃ f, v = .tup [.imm f n c, .int k i]) ∧ ∃ u ids, resT s g F.res = some u ∧ frz ⟨g, nx⟩ frzDepth u = some (v, ids) := by
  have hla : ListAt (fun _ => True) g (.own A 0 c.length 1) c := .inr ⟨A, trivial, rfl, hg⟩
  obtain ⟨f, ids, e1, _⟩ := hla.frz (d := 9) (nx := nx) (frzAll_int _ hc)
  rw [hn] at e1
  refine ⟨rfl, _, ⟨f, rfl⟩, .tup [.own A 0 n 1, .int k i], ids ++ [], ?_, ?_⟩
  · rw [hF]; simp only [resT, resL, resOne, h1, h2]
  · have e2 : frz ⟨g, nx⟩ 11 (.int k i) = some (.int k i, []) := rfl
    rw [show frzDepth = 11 + 1 from rfl, frz]
    simp only [frzAll, e1, e2, List.append_nil]
theorem ref10_write (f : Bool) (L : List Int) (hL : L.length ≤ 4096) (addr z : Nat) (ha : addr ≤ 4294967295) (hz : z = 1 ∨ z = 2 ∨ z = 4) (hin : addr + z ≤ L.length) (v : Int) (hv : 0 ≤ v ∧ v ≤ 4294967295) : ∃ u, E ap 20 [.imm f L.length (L.flatMap u8T), .int .u32 (addr : Int), .int .i64 (z : Int), .int .u32 v] u ∧ ∃ f', u = .tup [.imm f' L.length ((spl L addr (bytesOf v z)).flatMap u8T), .int .i64 0] := by
  refine E_bodyV (F := f20) rfl rfl rfl (P := fun u => ∃ f', u = .tup [.imm f' L.length ((spl L addr (bytesOf v z)).flatMap u8T), .int .i64 0]) ?_
  generalize hs0 : (_ : List T) ++ List.replicate _ T.undef = s0
  have e0 : s0.length = 40 ∧ rho s0 (.tmp 0) = .imm f L.length (L.flatMap u8T) ∧ rho s0 (.tmp 1) = .int .u32 (addr : Int) ∧ rho s0 (.tmp 2) = .int .i64 (z : Int) ∧ rho s0 (.tmp 3) = .int .u32 v := by subst hs0; exact ⟨rfl, rfl, rfl, rfl, rfl⟩
  clear hs0
  obtain ⟨hl, h0, h1, h2, h3⟩ := e0
  obtain ⟨N, q⟩ := (chk_ok f L hL addr z ha hz hin).call qCHK0 (fun g => rfl)
  have q := q N (Nat.le_refl _)
  have hBl := u8_len L
  have hBf := u8_leaf L
  have hsp0 : spl L addr ((bytesOf v z).take 0) = L := rfl
  have hv0 : v / 256 ^ 0 = v := by rw [Int.pow_zero, Int.ediv_one]
  have hn0 : (L.length = 0) = False := eq_false (by omega)
  have hr1 : L.length * 1 ≤ 549755813888 := by omega
  have hr2 : L.length ≤ 549755813888 := by omega
  have hb1 : (L.length = L.length * 1) = True := by simp
  have hll : allLeaf ([] : List T) = true := rfl
  refine W_seqn (W_region (fun k => by simp +decide (disch := first | omega | simp +decide only [List.length_set, hl]) only [sa, simprocAttr, hps]; rfl) ⟨rfl, ?_⟩)
  refine W_seqn (W_regionN ⟨N, by simp +decide (disch := first | omega | simp +decide only [List.length_set, hl]) only [sa, simprocAttr, hps, h0, h1, h2, qCHK0, rCHK0, sCHK0, q]; rfl⟩ ⟨rfl, ?_⟩)
  refine W_seqn (W_seqn (W_region (fun k => by simp +decide (disch := first | omega | simp +decide only [List.length_set, hl]) only [sa, simprocAttr, hps]; rfl) ⟨rfl, W_fls (W_skip ⟨rfl, ?_⟩)⟩))
  generalize hB : L.flatMap u8T = B at *
  refine W_cut (fun t => t.s.length = 40 ∧ rho t.s (.tmp 1) = .int .u32 (addr : Int) ∧ rho t.s (.tmp 2) = .int .i64 (z : Int) ∧ rho t.s (.tmp 3) = .int .u32 v ∧ ∃ A, rho t.s (.tmp 11) = .own A 0 L.length 1 ∧ t.g A = some B) (W_region (fun k => by simp +decide (disch := first | omega | simp +decide only [List.length_set, hl]) only [sa, simprocAttr, hps, h0, cellsOf, hBl, hBf, hn0, hr1, hr2, hb1, hll, Nat.zero_add, List.nil_append]; rfl) ⟨rfl, ?_, ?_, ?_, ?_, 11, ?_, ?_⟩) ?_
  case refine_7 =>
    clear hl h0 h1 h2 h3 q
    rintro st ⟨hl, h1, h2, h3, A, h11, gA⟩
    refine W_seq (W_seqn (W_region (fun k => by simp +decide (disch := first | omega | simp +decide only [List.length_set, hl]) only [sa, simprocAttr, hps]; rfl) ⟨rfl, W_block ?_⟩))
    refine w10_loop L hL addr z ha (by omega) hin v hv A _ (fun st hl h11 gA => ?_) (z - 0) _ ⟨0, ?_, ?_, ?_, ?_, ?_, ?_, ?_, by omega, rfl⟩
    · refine .inl ⟨rfl, .inl ⟨rfl, ?_⟩⟩
      refine W_seqn (W_region (fun k => by simp +decide (disch := first | omega | simp +decide only [List.length_set, hl]) only [sa, simprocAttr, hps, h11]; rfl) ⟨rfl, W_ret ?_⟩)
      refine fin_tupown (F := f20) (A := A) rfl (by rw [u8_len, spl_len]) gA (u8_ints _) ?_ ?_ <;> simp +decide (disch := first | omega | simp +decide only [List.length_set, hl]) only [sa, simprocAttr]
    case refine_5 => rw [hv0]; simp +decide (disch := first | omega | simp +decide only [List.length_set, hl]) only [sa, simprocAttr, hps, h3]
    case refine_8 => rw [hsp0, hB]; simp +decide (disch := first | omega | simp +decide only [List.length_set, hl]) only [sa, simprocAttr, hps, gA]
    all_goals first | (simp +decide (disch := first | omega | simp +decide only [List.length_set, hl]) only [sa, simprocAttr, hps, hl, h1, h2, h11]; done) | (simp +decide (disch := first | omega | simp +decide only [List.length_set, hl]) only [sa, simprocAttr, hps, hl, h1, h2, h11]; rfl)
  all_goals first | (simp +decide (disch := first | omega | simp +decide only [List.length_set, hl]) only [sa, simprocAttr, hps, hl, h1, h2, h3]; done) | (simp +decide (disch := first | omega | simp +decide only [List.length_set, hl]) only [sa, simprocAttr, hps, hl, h1, h2, h3]; rfl)
end Go.Proofs.Ytabfinhkoihhfaa.Abs
