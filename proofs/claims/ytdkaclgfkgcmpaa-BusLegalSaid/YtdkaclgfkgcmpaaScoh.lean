/- A system is one with itself, and with what tells no less: the comparison's walk. -/
import Derived.Test.YtdkaclgfkgcmpaaBdo2
namespace Go.Proofs.Ytdkaclgfkgcmpaa.Abs
open Go Go.RowKit Fn
set_option linter.unusedVariables false
set_option linter.unusedSimpArgs false
set_option linter.unnecessarySimpa false
set_option maxRecDepth 100000
set_option maxHeartbeats 2000000

def sbLoop : ACode := match f25.body with | .seq _ (.seq _ (.seq (.seq _ (.block _ (.loop c))) _)) => c | _ => .skip
theorem sb_loop (l : List Int) (hl1 : l.length ≤ 1024) (Q : AExit → St → Prop)
    (hQ : ∀ st : St, st.s.length = 32 → Q (.exit 0) st) :
    ∀ (n : Nat) (st : St), (∃ i : Nat, st.s.length = 32 ∧ rho st.s (.tmp 0) = .imm false l.length (l.flatMap u8T) ∧ rho st.s (.tmp 1) = .imm false l.length (l.flatMap u8T) ∧ rho st.s (.tmp 5) = .int .i64 (i : Int) ∧ i ≤ l.length ∧ n = l.length - i) → W ap (.loop sbLoop) st Q := by
  refine W_loop _ ?_
  rintro n st ⟨i, hl, h0, h1, h5, hi, hn⟩
  by_cases hend : i = l.length
  · have hlt : decide ((i : Int) < (l.length : Int)) = false := decide_eq_false (by omega)
    refine W_seq (W_seqn (W_region (fun k => by simp (decide := true) (disch := first | omega | simp (decide := true) only [List.length_set, hl]) only [sims, autos, simprocAttr, hps, h0, h1, h5, hlt]; rfl) ⟨rfl, W_fls (W_exit (.inr ⟨by simp, .inr ⟨by simp, hQ _ ?_⟩⟩))⟩))
    simp (decide := true) (disch := first | omega | simp (decide := true) only [List.length_set, hl]) only [sims, autos, simprocAttr, hl]
  · have hlt : decide ((i : Int) < (l.length : Int)) = true := decide_eq_true (by omega)
    have hil : i < l.length := by omega
    have hw : IntKind.i64.wrap ((i : Int) + 1) = ((i + 1 : Nat) : Int) := by rw [wrap_id (by omega)]; omega
    have hbl := u8_len l
    have hg := u8_get l i hil
    rw [Nat.mul_one] at hg
    have hb1 : i + 1 ≤ (l.flatMap u8T).length := by omega
    have hne : (l[i] != l[i]) = false := by simp
    generalize l.flatMap u8T = C at *
    refine W_seqn (W_seqn (W_region (fun k => by simp (decide := true) (disch := first | omega | simp (decide := true) only [List.length_set, hl]) only [sims, autos, simprocAttr, hps, h0, h1, h5, hlt]; rfl) ⟨rfl, W_tru (W_skip ⟨rfl, ?_⟩)⟩))
    refine W_seqn (W_block (W_seqn (W_region (fun k => by simp (decide := true) (disch := first | omega | simp (decide := true) only [List.length_set, hl]) only [sims, autos, simprocAttr, hps, h0, h1, h5, hil, hb1, hg, hne, Nat.mul_one]; rfl) ⟨rfl, W_fls (W_skip (.inr (.inl ⟨by simp, rfl, ?_⟩)))⟩)))
    refine W_region (fun k => by simp (decide := true) (disch := first | omega | simp (decide := true) only [List.length_set, hl]) only [sims, autos, simprocAttr, hps, h5, hw]; rfl) (.inl ⟨rfl, l.length - (i + 1), by omega, i + 1, ?_, ?_, ?_, ?_, by omega, rfl⟩) <;> simp (decide := true) (disch := first | omega | simp (decide := true) only [List.length_set, hl]) only [sims, autos, simprocAttr, hl, h0, h1]
theorem same_bytes (l : List Int) (hl1 : l.length ≤ 1024) : E ap 25 [.imm false l.length (l.flatMap u8T), .imm false l.length (l.flatMap u8T)] (.bool true) := by
  refine E_body (F := f25) rfl rfl rfl ?_
  generalize hs0 : (_ : List T) ++ List.replicate _ T.undef = s0
  have e0 : s0.length = 32 ∧ rho s0 (.tmp 0) = .imm false l.length (l.flatMap u8T) ∧ rho s0 (.tmp 1) = .imm false l.length (l.flatMap u8T) := by subst hs0; exact ⟨rfl, rfl, rfl⟩
  clear hs0
  obtain ⟨hl, h0, h1⟩ := e0
  have hne : ((l.length : Int) != (l.length : Int)) = false := by simp
  refine W_seqn (W_region (fun k => by simp (decide := true) (disch := first | omega | simp (decide := true) only [List.length_set, hl]) only [sims, autos, simprocAttr, hps]; rfl) ⟨rfl, ?_⟩)
  refine W_seqn (W_seqn (W_region (fun k => by simp (decide := true) (disch := first | omega | simp (decide := true) only [List.length_set, hl]) only [sims, autos, simprocAttr, hps, h0, h1, hne]; rfl) ⟨rfl, W_fls (W_skip ⟨rfl, ?_⟩)⟩))
  refine W_seq (W_seqn (W_region (fun k => by simp (decide := true) (disch := first | omega | simp (decide := true) only [List.length_set, hl]) only [sims, autos, simprocAttr, hps]; rfl) ⟨rfl, W_block ?_⟩))
  refine sb_loop l hl1 _ (fun st hl => ?_) (l.length - 0) _ ⟨0, ?_, ?_, ?_, ?_, by omega, rfl⟩
  · refine .inl ⟨rfl, .inl ⟨rfl, ?_⟩⟩
    refine W_seqn (W_region (fun k => by simp (decide := true) (disch := first | omega | simp (decide := true) only [List.length_set, hl]) only [sims, autos, simprocAttr, hps]; rfl) ⟨rfl, W_ret ?_⟩)
    refine fin_of (F := f25) rfl (fun _ => rfl) ?_
    simp (decide := true) (disch := first | omega | simp (decide := true) only [List.length_set, hl]) only [sims, autos, simprocAttr]
  · simp (decide := true) (disch := first | omega | simp (decide := true) only [List.length_set, hl]) only [sims, autos, simprocAttr, hl]
  · simp (decide := true) (disch := first | omega | simp (decide := true) only [List.length_set, hl]) only [sims, autos, simprocAttr, h0]
  · simp (decide := true) (disch := first | omega | simp (decide := true) only [List.length_set, hl]) only [sims, autos, simprocAttr, h1]
  · simp (decide := true) (disch := first | omega | simp (decide := true) only [List.length_set, hl]) only [sims, autos, simprocAttr]
    try rfl
end Go.Proofs.Ytdkaclgfkgcmpaa.Abs
