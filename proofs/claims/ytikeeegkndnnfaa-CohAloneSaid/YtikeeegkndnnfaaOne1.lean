/- One memory behind caches: what a read reads, and what a write makes of it. Plain lists, no program. -/
import Derived.Test.YtikeeegkndnnfaaRgt
namespace Go.Proofs.Ytikeeegkndnnfaa.Abs
open Go Go.RowKit Fn
set_option linter.unusedVariables false
set_option linter.unusedSimpArgs false
set_option linter.unnecessarySimpa false
set_option maxRecDepth 100000
set_option maxHeartbeats 4000000

/-- The same lines, in the same memory. -/
theorem same_lines {n t : Coh} (h : SoundP n) (hc : t.caches.length = n.caches.length) (hm : t.mem = n.mem) (hr : ∀ k, k < t.caches.length → RQ (cacheAt t k)) (hs : ∀ j x, j < n.caches.length → stA t j x = stA n j x ∧ daA t j x = daA n j x) : SoundP t ∧ (∀ x d, Says n x d → Says t x d) := by
  have hb : ∀ x, bytesM t x = bytesM n x := fun x => by unfold bytesM; rw [hm]
  refine ⟨⟨hr, fun k hk x hx => ?_⟩, fun x d hd => ?_⟩
  · rw [hc] at hk
    obtain ⟨e1, e2⟩ := hs k x hk
    rw [e1] at hx
    obtain ⟨c1, c2, c3⟩ := h.2 k hk x hx
    refine ⟨by rw [hm]; exact c1, fun h3 => by rw [e2, hb]; exact c2 (by rw [← e1]; exact h3), fun hgt j hj hjk => ?_⟩
    rw [hc] at hj
    rw [(hs j x hj).1]
    exact c3 (by rw [← e1]; exact hgt) j hj hjk
  · rcases hd with ⟨k, hk, h3, rfl⟩ | ⟨hno, rfl⟩
    · exact .inl ⟨k, by rw [hc]; exact hk, by rw [(hs k x hk).1]; exact h3, (hs k x hk).2.symm⟩
    · exact .inr ⟨fun k hk => by rw [hc] at hk; rw [(hs k x hk).1]; exact hno k hk, (hb x).symm⟩
theorem same_view {n t : Coh} (hn : Ok n) (ht : Ok t) (h : SoundP n) (hc : t.caches.length = n.caches.length) (hm : t.mem = n.mem) (hr : ∀ k, k < t.caches.length → RQ (cacheAt t k)) (hs : ∀ j x, j < n.caches.length → stA t j x = stA n j x ∧ daA t j x = daA n j x) : SoundP t ∧ viewM t = viewM n := by
  obtain ⟨h1, h2⟩ := same_lines h hc hm hr hs
  exact ⟨h1, view_same hn ht h h1 (by rw [hm]) h2 (fun i _ => by rw [hm])⟩
theorem touchM_mem (m : Coh) (w ln : Nat) : (touchM m w ln).mem = m.mem := by unfold touchM; split <;> rfl
theorem touchM_len (m : Coh) (w ln : Nat) : (touchM m w ln).caches.length = m.caches.length := by
  unfold touchM; split
  · exact withC_len _ _ _
  · rfl
theorem touch_all {n : Coh} (hok : Ok n) (h : SoundP n) (w ln : Nat) (hw : w < n.caches.length) : Ok (touchM n w ln) ∧ SoundP (touchM n w ln) ∧ viewM (touchM n w ln) = viewM n ∧ ∀ j x, j < n.caches.length → stA (touchM n w ln) j x = stA n j x ∧ daA (touchM n w ln) j x = daA n j x := by
  have hok' := ok_touch hok w ln hw
  obtain ⟨q, hq⟩ := h.1 w hw
  have hst : ∀ j x, stA (touchM n w ln) j x = stA n j x ∧ daA (touchM n w ln) j x = daA n j x := fun j x => by
    cases hf : find (cacheAt n w) ln with
    | none => rw [show touchM n w ln = n by unfold touchM; rw [hf]]; exact ⟨rfl, rfl⟩
    | some k =>
      have e : touchM n w ln = withC n w (touchR (cacheAt n w).sets (seti (cacheAt n w) ln : Int) (k : Int)) := by unfold touchM; rw [hf]
      obtain ⟨f1, f2, f3, _, _⟩ := find_in hq hf
      obtain ⟨b1, b2⟩ := withC_st n hw (touchR (cacheAt n w).sets (seti (cacheAt n w) ln : Int) (k : Int)) j x
      rw [e, b1, b2]
      by_cases hj : j = w
      · subst hj
        rw [if_pos rfl, if_pos rfl]
        have hr : touchR (cacheAt n j).sets (seti (cacheAt n j) ln : Int) (k : Int) = (cacheAt n j).sets.set (ln % (cacheAt n j).sets.length) (touchL (row (cacheAt n j) (ln % (cacheAt n j).sets.length)) k) := by
          have hl : k < (row (cacheAt n j) (ln % (cacheAt n j).sets.length)).length := by rw [rowlen hq _ f3]; exact f1
          unfold touchR
          rw [f2, Int.toNat_natCast, Int.toNat_natCast]
          exact if_pos ⟨by omega, by omega, by omega, by have : k < (((cacheAt n j).sets[ln % (cacheAt n j).sets.length]?).getD []).length := hl; omega⟩
        rw [hr]
        obtain ⟨t1, t2, _⟩ := touch_still hq f3 f1 x
        exact ⟨t1, t2⟩
      · rw [if_neg hj, if_neg hj]; exact ⟨rfl, rfl⟩
  obtain ⟨h1, h2⟩ := same_view hok hok' h (touchM_len n w ln) (touchM_mem n w ln) (fun k hk => by
    rw [touchM_len] at hk
    unfold touchM
    cases hf : find (cacheAt n w) ln with
    | none => exact h.1 k hk
    | some i =>
      show RQ (cacheAt (withC n w _) k)
      rw [cacheAt_set n w _ k hw]
      by_cases hkw : k = w
      · rw [if_pos hkw]
        have := rightq_touch hq (seti (cacheAt n w) ln : Int) (i : Int)
        exact ⟨q, by rw [show (Cache.mk (touchR (cacheAt n w).sets (seti (cacheAt n w) ln : Int) (i : Int))).sets.length = _ from this.1]; exact this⟩
      · rw [if_neg hkw]; exact h.1 k hk) (fun j x _ => hst j x)
  exact ⟨hok', h1, h2, fun j x _ => hst j x⟩
theorem ask_is (m : Coh) (w : Nat) (hw : w < m.caches.length) (ln : Nat) (a : Int) : (askM m (w : Int) ln a).1 = doM m (w : Int) (askv (stA m w ln) a) ln ∧ ((askM m (w : Int) ln a).2 = true ↔ askv (stA m w ln) a = 0) := by
  have hk : askK m (w : Int) ln a = askv (stA m w ln) a := by unfold askK; rw [stateOf_is m w hw ln]
  unfold askM
  rw [hk]
  by_cases h : askv (stA m w ln) a = 0
  · rw [if_pos h]
    refine ⟨?_, ⟨fun _ => h, fun _ => rfl⟩⟩
    exact (if_neg (fun hg => by have := hg.2.1.1; omega)).symm
  · rw [if_neg h]
    exact ⟨rfl, ⟨fun e => (by cases e), fun e => absurd e h⟩⟩
theorem ask_all {m : Coh} (hok : Ok m) (h : SoundP m) (w : Nat) (hw : w < m.caches.length) (ln : Nat) (hln : ln ≤ 4294967295) (hlies : ln * 16 + 16 ≤ m.mem.length) (a : Int) (ha : a = 1 ∨ a = 2) :
    Ok (askM m (w : Int) ln a).1 ∧ SoundP (askM m (w : Int) ln a).1 ∧ viewM (askM m (w : Int) ln a).1 = viewM m ∧ (askM m (w : Int) ln a).1.caches.length = m.caches.length ∧ (askM m (w : Int) ln a).1.mem.length = m.mem.length ∧ stA (askM m (w : Int) ln a).1 w ln ≠ 0 ∧ (a = 2 → stA (askM m (w : Int) ln a).1 w ln = 2 ∨ stA (askM m (w : Int) ln a).1 w ln = 3) := by
  have hok' := ok_ask hok (w : Int) ln hln a
  rw [(ask_is m w hw ln a).1] at hok' ⊢
  obtain ⟨l1, l2, l3, l4⟩ := legal_do hok h w hw ln hlies a ha
  obtain ⟨d1, d2⟩ := do_len m (w : Int) (askv (stA m w ln) a) ln
  exact ⟨hok', l1, view_same hok hok' h l1 d1 l2 (fun i hi => tail_do hok w hw _ ln hln i hi), d2, d1, l3, l4⟩
/-- Who has a line has what all memory says of it. -/
theorem says_has {n : Coh} (h : SoundP n) {w : Nat} (hw : w < n.caches.length) {ln : Nat} (h0 : stA n w ln ≠ 0) : Says n ln (daA n w ln) := by
  by_cases h3 : stA n w ln = 3
  · exact .inl ⟨w, hw, h3, rfl⟩
  · refine .inr ⟨fun k hk hk3 => ?_, (h.2 w hw ln h0).2.1 h3⟩
    by_cases hkw : k = w
    · rw [hkw] at hk3; exact h3 hk3
    · exact h0 ((h.2 k hk ln (by omega)).2.2 (by omega) w hw (fun e => hkw e.symm))
theorem line_is (mem : List Int) (x : Nat) : lineL mem x = (mem.drop (x * 16)).take 16 := rfl
theorem viewM_len (m : Coh) : (viewM m).length = m.mem.length := viewK_len m _
theorem has_view {n : Coh} (hok : Ok n) (h : SoundP n) {w : Nat} (hw : w < n.caches.length) {ln : Nat} (h0 : stA n w ln ≠ 0) : daA n w ln = ((viewM n).drop (ln * 16)).take 16 := by
  rw [← line_is]
  exact (view_line hok h ln (h.2 w hw ln h0).1 _ (says_has h hw h0)).symm
theorem piece (l : List Int) (b a z : Nat) (h : a + z ≤ 16) : (((l.drop b).take 16).drop a).take z = (l.drop (b + a)).take z := by
  rw [List.drop_take, List.drop_drop, List.take_take, Nat.min_eq_left (by omega)]
/-- What a read reads. -/
theorem rd_view {n : Coh} (hok : Ok n) (h : SoundP n) {w : Nat} (hw : w < n.caches.length) (addr z : Nat) (hz : z = 1 ∨ z = 2 ∨ z = 4) (haz : addr % 16 + z ≤ 16) (h0 : stA n w (addr / 16) ≠ 0) : rdV (cacheAt n w) addr (z : Int) = val (((viewM n).drop addr).take z) ∧ rdB (cacheAt n w) addr (z : Int) = true := by
  obtain ⟨q, hq⟩ := h.1 w hw
  have hv := has_view hok h hw h0
  have hok2 : Okay addr (z : Int) := ⟨by omega, by omega⟩
  rcases wayOf_cases hq (addr / 16) with ⟨k, hk, hf, e, _, _⟩ | ⟨_, e, _⟩
  · have hrk : readK (cacheAt n w) addr (z : Int) = some k := by unfold readK; rw [if_pos hok2]; exact hf
    unfold rdV rdB
    rw [hrk]
    refine ⟨?_, rfl⟩
    show val (bytesAt (wayN (row (cacheAt n w) (seti (cacheAt n w) (addr / 16))) k) (addr % 16) (z : Int).toNat) = _
    rw [Int.toNat_natCast, show wayN (row (cacheAt n w) (seti (cacheAt n w) (addr / 16))) k = wayOf (cacheAt n w) (addr / 16) from e.symm]
    unfold bytesAt
    rw [show (wayOf (cacheAt n w) (addr / 16)).data = daA n w (addr / 16) from rfl, hv, piece _ _ _ _ haz]
    rw [show addr / 16 * 16 + addr % 16 = addr by omega]
  · exact absurd (show stA n w (addr / 16) = 0 by unfold stA; rw [e]; rfl) h0
theorem updD_get (l : List Int) (a : Nat) (bs : List Int) (h : a + bs.length ≤ l.length) (i : Nat) : (updD l a bs)[i]? = if a ≤ i ∧ i < a + bs.length then bs[i - a]? else l[i]? := by
  unfold updD
  rw [List.getElem?_append, List.length_take, Nat.min_eq_left (by omega)]
  by_cases h1 : i < a
  · rw [if_pos h1, if_neg (by omega), List.getElem?_take, if_pos h1]
  · rw [if_neg h1, List.getElem?_append]
    by_cases h2 : i - a < bs.length
    · rw [if_pos h2, if_pos (by omega)]
    · rw [if_neg h2, if_neg (by omega), List.getElem?_drop]
      congr 1; omega
/-- What a write makes of the lines. -/
theorem wr_lines {n : Coh} (hok : Ok n) (h : SoundP n) {w : Nat} (hw : w < n.caches.length) (addr z : Nat) (hz : z = 1 ∨ z = 2 ∨ z = 4) (haz : addr % 16 + z ≤ 16) (v : Int) (h0 : stA n w (addr / 16) = 2 ∨ stA n w (addr / 16) = 3) :
    (wrM n w addr (z : Int) v).mem = n.mem ∧ (wrM n w addr (z : Int) v).caches.length = n.caches.length ∧ (∀ k, k < n.caches.length → RQ (cacheAt (wrM n w addr (z : Int) v) k)) ∧
    ∀ j x, (stA (wrM n w addr (z : Int) v) j x = if j = w ∧ x = addr / 16 then 3 else stA n j x) ∧ (daA (wrM n w addr (z : Int) v) j x = if j = w ∧ x = addr / 16 then updD (daA n w (addr / 16)) (addr % 16) (bytesOf v z) else daA n j x) := by
  obtain ⟨q, hq⟩ := h.1 w hw
  have hok2 : Okay addr (z : Int) := ⟨by omega, by omega⟩
  rcases wayOf_cases hq (addr / 16) with ⟨k, hk, hf, e, ht, hs⟩ | ⟨_, e, _⟩
  · obtain ⟨f1, f2, f3, _, _⟩ := find_in hq hf
    have hst : stA n w (addr / 16) = (wayN (row (cacheAt n w) (addr / 16 % (cacheAt n w).sets.length)) k).state := by unfold stA; rw [e]
    have hda : daA n w (addr / 16) = (wayN (row (cacheAt n w) (addr / 16 % (cacheAt n w).sets.length)) k).data := by unfold daA; rw [e]
    have hrk : readK (cacheAt n w) addr (z : Int) = some k := by unfold readK; rw [if_pos hok2]; exact hf
    have hwk : writeK (cacheAt n w) addr (z : Int) = some k := by
      unfold writeK
      rw [hrk]
      show (if (wayN (row (cacheAt n w) (seti (cacheAt n w) (addr / 16))) k).state = 2 ∨ _ then some k else none) = _
      rw [f2, ← hst, if_pos h0]
    have hwt : (writeR (cacheAt n w) addr (z : Int) v).2 = true := by unfold writeR; rw [hwk]
    obtain ⟨g1, k', hk', _, hf', g2⟩ := rightq_write hq addr (z : Int) v hwt
    have hkk : k' = k := by rw [hf] at hf'; exact (Option.some.inj hf').symm
    subst hkk
    rw [Int.toNat_natCast] at g2
    have g3 : (writeR (cacheAt n w) addr (z : Int) v).1 = (cacheAt n w).sets.set (addr / 16 % (cacheAt n w).sets.length) ((row (cacheAt n w) (addr / 16 % (cacheAt n w).sets.length)).set k' (wrW (wayN (row (cacheAt n w) (addr / 16 % (cacheAt n w).sets.length)) k') (addr % 16) z v)) := by rw [g2]
    have he : wrM n w addr (z : Int) v = withC n w (writeR (cacheAt n w) addr (z : Int) v).1 := if_pos hwt
    rw [he]
    generalize hR : (writeR (cacheAt n w) addr (z : Int) v).1 = R at *
    generalize hold : wayN (row (cacheAt n w) (addr / 16 % (cacheAt n w).sets.length)) k' = old at *
    have hws : (wrW old (addr % 16) z v).state = 3 := rfl
    have hwt2 : (wrW old (addr % 16) z v).tag = ((addr / 16 : Nat) : Int) := ht
    have hwd : (wrW old (addr % 16) z v).data = updD old.data (addr % 16) (bytesOf v z) := rfl
    have hRl : R.length = (cacheAt n w).sets.length := g1.1
    have hrl := rowlen hq _ f3
    have hrowR : row ⟨R⟩ (addr / 16 % (cacheAt n w).sets.length) = (row (cacheAt n w) (addr / 16 % (cacheAt n w).sets.length)).set k' (wrW old (addr % 16) z v) := by
      rw [g3, row_setq _ _ _ f3, if_pos rfl]
    have hwR : wayN (row ⟨R⟩ (addr / 16 % (cacheAt n w).sets.length)) k' = wrW old (addr % 16) z v := by
      rw [hrowR, wayN_setq _ _ (by rw [hrl]; exact hk), if_pos rfl]
    have hsame : (wayOf ⟨R⟩ (addr / 16)) = wrW old (addr % 16) z v := by
      have := (wayOf_of (n := (cacheAt n w).sets.length) (m := q) (c := ⟨R⟩) g1 (x := addr / 16) (k := k') hk (by rw [hwR]; exact hwt2) (by rw [hwR, hws]; omega)).2
      rw [this]; exact hwR
    have hoth : ∀ x, x ≠ addr / 16 → wayOf ⟨R⟩ x = wayOf (cacheAt n w) x := fun x hx => by
      rw [g3] at g1 ⊢
      exact wayOf_upd hq f3 hk _ g1 x (fun _ => by rw [hwt2]; omega) (fun _ => by rw [hold, ht]; omega)
    refine ⟨rfl, withC_len _ _ _, fun j hj => ?_, fun j x => ?_⟩
    · rw [cacheAt_set n w R j hw]
      by_cases hjw : j = w
      · rw [if_pos hjw]; exact ⟨q, by rw [show (Cache.mk R).sets.length = _ from hRl]; exact g1⟩
      · rw [if_neg hjw]; exact h.1 j hj
    · obtain ⟨b1, b2⟩ := withC_st n hw R j x
      rw [b1, b2]
      by_cases hjw : j = w
      · subst hjw
        rw [if_pos rfl, if_pos rfl]
        by_cases hx : x = addr / 16
        · subst hx
          rw [if_pos ⟨rfl, rfl⟩, if_pos ⟨rfl, rfl⟩, hsame, hda]
          exact ⟨rfl, rfl⟩
        · rw [if_neg (fun e => hx e.2), if_neg (fun e => hx e.2), hoth x hx]
          exact ⟨rfl, rfl⟩
      · rw [if_neg hjw, if_neg hjw, if_neg (fun e => hjw e.1), if_neg (fun e => hjw e.1)]
        exact ⟨rfl, rfl⟩
  · exact absurd (show stA n w (addr / 16) = 0 by unfold stA; rw [e]; rfl) (by omega)
theorem wr_all {n : Coh} (hok : Ok n) (h : SoundP n) {w : Nat} (hw : w < n.caches.length) (addr z : Nat) (hz : z = 1 ∨ z = 2 ∨ z = 4) (haz : addr % 16 + z ≤ 16) (v : Int) (h0 : stA n w (addr / 16) = 2 ∨ stA n w (addr / 16) = 3) :
    Ok (wrM n w addr (z : Int) v) ∧ SoundP (wrM n w addr (z : Int) v) ∧ (wrM n w addr (z : Int) v).caches.length = n.caches.length ∧ (wrM n w addr (z : Int) v).mem.length = n.mem.length ∧ viewM (wrM n w addr (z : Int) v) = spl (viewM n) addr (bytesOf v z) ∧ stA (wrM n w addr (z : Int) v) w (addr / 16) = 3 ∧ (∀ j, j < n.caches.length → j ≠ w → stA (wrM n w addr (z : Int) v) j (addr / 16) = 0) ∧ daA (wrM n w addr (z : Int) v) w (addr / 16) = updD (daA n w (addr / 16)) (addr % 16) (bytesOf v z) := by
  have hok' := ok_wrM hok w addr hw (z : Int) v
  obtain ⟨e1, e2, e3, e4⟩ := wr_lines hok h hw addr z hz haz v h0
  obtain ⟨l1, l2, l3⟩ := h.2 w hw (addr / 16) (by omega)
  have hone := l3 (by omega)
  have hv := has_view hok h hw (show stA n w (addr / 16) ≠ 0 by omega)
  generalize wrM n w addr (z : Int) v = t at *
  have hb : ∀ x, bytesM t x = bytesM n x := fun x => by unfold bytesM; rw [e1]
  have hS : SoundP t := by
    refine ⟨fun k hk => e3 k (by rw [← e2]; exact hk), fun k hk x hx => ?_⟩
    rw [e2] at hk
    obtain ⟨s1, d1⟩ := e4 k x
    by_cases hkx : k = w ∧ x = addr / 16
    · obtain ⟨rfl, rfl⟩ := hkx
      rw [if_pos ⟨rfl, rfl⟩] at s1
      refine ⟨by rw [e1]; exact l1, fun h3 => absurd s1 h3, fun _ j hj hjk => ?_⟩
      rw [e2] at hj
      rw [(e4 j _).1, if_neg (fun e => hjk e.1)]
      exact hone j hj hjk
    · rw [if_neg hkx] at s1 d1
      rw [s1] at hx ⊢
      rw [d1]
      obtain ⟨c1, c2, c3⟩ := h.2 k hk x hx
      refine ⟨by rw [e1]; exact c1, fun h3 => by rw [hb]; exact c2 h3, fun hgt j hj hjk => ?_⟩
      rw [e2] at hj
      have := c3 hgt j hj hjk
      rw [(e4 j x).1]
      by_cases hjx : j = w ∧ x = addr / 16
      · rw [hjx.1, hjx.2] at this; omega
      · rw [if_neg hjx]; exact this
  have hz16 : (bytesOf v z).length = z := bytesOf_len z v
  have hvl := viewM_len n
  have htl : (viewM t).length = n.mem.length := by rw [viewM_len, e1]
  have hst3 : stA t w (addr / 16) = 3 := by rw [(e4 w _).1, if_pos ⟨rfl, rfl⟩]
  have hda : daA t w (addr / 16) = updD (daA n w (addr / 16)) (addr % 16) (bytesOf v z) := by rw [(e4 w _).2, if_pos ⟨rfl, rfl⟩]
  have hd16 : (daA n w (addr / 16)).length = 16 := (wayOf_wf (cacheAt_wf hok.1 w hw) _).2.2.1.1
  refine ⟨hok', hS, e2, by rw [e1], ?_, hst3, fun j hj hjw => by rw [(e4 j _).1, if_neg (fun e => hjw e.1)]; exact hone j hj hjw, hda⟩
  apply List.ext_getElem?
  intro i
  rw [spl_get _ _ _ (by rw [hz16, hvl]; omega), hz16]
  by_cases hi : Tail n.mem.length i
  · rw [view_tail hok' i (by rw [e1]; exact hi), e1, if_neg (fun hh => hi (by
      have : i / 16 = addr / 16 := by omega
      rw [this]; exact l1))]
    exact (view_tail hok i hi).symm
  · have hx : i / 16 * 16 + 16 ≤ n.mem.length := Classical.byContradiction fun h => hi h
    have hline : ∀ (mem : List Int), mem[i]? = (lineL mem (i / 16))[i % 16]? := fun mem => by
      rw [line_is, List.getElem?_take, if_pos (by omega), List.getElem?_drop]
      congr 1; omega
    rw [hline (viewM t)]
    by_cases hxl : i / 16 = addr / 16
    · have e5 := view_line hok' hS (addr / 16) (by rw [e1]; exact l1) _ (.inl ⟨w, by rw [e2]; exact hw, hst3, rfl⟩)
      rw [hxl, e5, hda, updD_get _ _ _ (by rw [hz16, hd16]; exact haz), hz16, hv]
      by_cases hin : addr ≤ i ∧ i < addr + z
      · rw [if_pos hin, if_pos (by omega)]
        congr 1; omega
      · rw [if_neg hin, if_neg (by omega), ← line_is, ← hxl, ← hline]
    · rw [if_neg (by omega), hline (viewM n)]
      obtain ⟨d, hd⟩ := says_some n (i / 16)
      have hd' : Says t (i / 16) d := by
        rcases hd with ⟨k, hk, h3, rfl⟩ | ⟨hno, rfl⟩
        · exact .inl ⟨k, by rw [e2]; exact hk, by rw [(e4 k _).1, if_neg (fun e => hxl e.2)]; exact h3, by rw [(e4 k _).2, if_neg (fun e => hxl e.2)]⟩
        · exact .inr ⟨fun k hk => by rw [e2] at hk; rw [(e4 k _).1, if_neg (fun e => hxl e.2)]; exact hno k hk, (hb _).symm⟩
      rw [view_line hok' hS (i / 16) (by rw [e1]; exact hx) d hd', view_line hok h (i / 16) hx d hd]
end Go.Proofs.Ytikeeegkndnnfaa.Abs
