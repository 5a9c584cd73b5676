/- The kinds of each struct's cells; lists of them held against one another. Printed by mkcmp2.py. -/
import Derived.Test.YtabfinhkoihhfaaGreatCmp
namespace Go.Proofs.YtabfinhkoihhfaaGreat.Abs
open Go Go.RowKit Fn
set_option linter.unusedVariables false
set_option maxRecDepth 100000
set_option maxHeartbeats 4000000

def Conf.ks : List (Option IntKind) := [some .i64] ++ ([some .i64] ++ ([some .i64] ++ ([some .i64] ++ ([some .i64] ++ ([some .i64] ++ ([some .i64] ++ ([some .i64] ++ ([some .i64] ++ ([some .i64] ++ ([some .i64] ++ ([some .i64] ++ ([some .i64] ++ ([some .i64] ++ ([some .i64] ++ ([some .i64] ++ ([some .i64] ++ ([some .i64] ++ ([some .i64] ++ ([some .i64] ++ ([some .i64] ++ ([none])))))))))))))))))))))
theorem Conf_conf (s : Conf) (h : s.wf) : conf Conf.ks s.enc = true := conf_app (conf_i h.1) (conf_app (conf_i h.2.1) (conf_app (conf_i h.2.2.1) (conf_app (conf_i h.2.2.2.1) (conf_app (conf_i h.2.2.2.2.1) (conf_app (conf_i h.2.2.2.2.2.1) (conf_app (conf_i h.2.2.2.2.2.2.1) (conf_app (conf_i h.2.2.2.2.2.2.2.1) (conf_app (conf_i h.2.2.2.2.2.2.2.2.1) (conf_app (conf_i h.2.2.2.2.2.2.2.2.2.1) (conf_app (conf_i h.2.2.2.2.2.2.2.2.2.2.1) (conf_app (conf_i h.2.2.2.2.2.2.2.2.2.2.2.1) (conf_app (conf_i h.2.2.2.2.2.2.2.2.2.2.2.2.1) (conf_app (conf_i h.2.2.2.2.2.2.2.2.2.2.2.2.2.1) (conf_app (conf_i h.2.2.2.2.2.2.2.2.2.2.2.2.2.2.1) (conf_app (conf_i h.2.2.2.2.2.2.2.2.2.2.2.2.2.2.2.1) (conf_app (conf_i h.2.2.2.2.2.2.2.2.2.2.2.2.2.2.2.2.1) (conf_app (conf_i h.2.2.2.2.2.2.2.2.2.2.2.2.2.2.2.2.2.1) (conf_app (conf_i h.2.2.2.2.2.2.2.2.2.2.2.2.2.2.2.2.2.2.1) (conf_app (conf_i h.2.2.2.2.2.2.2.2.2.2.2.2.2.2.2.2.2.2.2.1) (conf_app (conf_i h.2.2.2.2.2.2.2.2.2.2.2.2.2.2.2.2.2.2.2.2.1) (conf_b)))))))))))))))))))))
def Arch.ks : List (Option IntKind) := [some .u32] ++ (List.replicate 16 (some .u32) ++ (List.replicate 12 (some .u32) ++ ([none])))
theorem Arch_conf (s : Arch) (h : s.wf) : conf Arch.ks s.enc = true := conf_app (conf_i h.1) (conf_app (conf_is h.2.1) (conf_app (conf_is h.2.2.1) (conf_b)))
def Btb.ks : List (Option IntKind) := [some .u32] ++ ([some .u32] ++ ([some .i64]))
theorem Btb_conf (s : Btb) (h : s.wf) : conf Btb.ks s.enc = true := conf_app (conf_i h.1) (conf_app (conf_i h.2.1) ((conf_i h.2.2)))
def Pte.ks : List (Option IntKind) := [some .u32] ++ ([some .i64])
theorem Pte_conf (s : Pte) (h : s.wf) : conf Pte.ks s.enc = true := conf_app (conf_i h.1) ((conf_i h.2))
def Tlb.ks : List (Option IntKind) := [none] ++ ([some .u32] ++ (Pte.ks))
theorem Tlb_conf (s : Tlb) (h : s.wf) : conf Tlb.ks s.enc = true := conf_app conf_b (conf_app (conf_i h.2.1) ((Pte_conf _ h.2.2)))
def Save.ks : List (Option IntKind) := [some .u32] ++ ([some .i64] ++ ([some .u32]))
theorem Save_conf (s : Save) (h : s.wf) : conf Save.ks s.enc = true := conf_app (conf_i h.1) (conf_app (conf_i h.2.1) ((conf_i h.2.2)))
def Guess.ks : List (Option IntKind) := [none] ++ ([some .u32] ++ (Save.ks))
theorem Guess_conf (s : Guess) (h : s.wf) : conf Guess.ks s.enc = true := conf_app conf_b (conf_app (conf_i h.2.1) ((Save_conf _ h.2.2)))
def Slot.ks : List (Option IntKind) := [some .u32] ++ ([some .u32] ++ ([some .i64] ++ ([some .u32] ++ (Guess.ks))))
theorem Slot_conf (s : Slot) (h : s.wf) : conf Slot.ks s.enc = true := conf_app (conf_i h.1) (conf_app (conf_i h.2.1) (conf_app (conf_i h.2.2.1) (conf_app (conf_i h.2.2.2.1) ((Guess_conf _ h.2.2.2.2)))))
def Inst.ks : List (Option IntKind) := [some .i64] ++ ([some .i64] ++ ([some .i64] ++ ([some .i64] ++ ([some .i64]))))
theorem Inst_conf (s : Inst) (h : s.wf) : conf Inst.ks s.enc = true := conf_app (conf_i h.1) (conf_app (conf_i h.2.1) (conf_app (conf_i h.2.2.1) (conf_app (conf_i h.2.2.2.1) ((conf_i h.2.2.2.2)))))
def Uop.ks : List (Option IntKind) := Inst.ks ++ (Slot.ks ++ ([some .i64] ++ ([some .i64] ++ ([none] ++ (List.replicate 3 (some .i64) ++ ([some .i64] ++ ([some .i64] ++ ([some .u32]))))))))
theorem Uop_conf (s : Uop) (h : s.wf) : conf Uop.ks s.enc = true := conf_app (Inst_conf _ h.1) (conf_app (Slot_conf _ h.2.1) (conf_app (conf_i h.2.2.1) (conf_app (conf_i h.2.2.2.1) (conf_app conf_b (conf_app (conf_is h.2.2.2.2.2.1) (conf_app (conf_i h.2.2.2.2.2.2.1) (conf_app (conf_i h.2.2.2.2.2.2.2.1) ((conf_i h.2.2.2.2.2.2.2.2)))))))))
def Ren.ks : List (Option IntKind) := Uop.ks ++ ([some .u64] ++ (List.replicate 3 (some .i64) ++ ([some .i64] ++ ([some .i64]))))
theorem Ren_conf (s : Ren) (h : s.wf) : conf Ren.ks s.enc = true := conf_app (Uop_conf _ h.1) (conf_app (conf_i h.2.1) (conf_app (conf_is h.2.2.1) (conf_app (conf_i h.2.2.2.1) ((conf_i h.2.2.2.2)))))
def Rob.ks : List (Option IntKind) := Ren.ks ++ ([none] ++ ([some .u32] ++ ([some .u32] ++ ([some .i64] ++ ([some .u32] ++ ([none]))))))
theorem Rob_conf (s : Rob) (h : s.wf) : conf Rob.ks s.enc = true := conf_app (Ren_conf _ h.1) (conf_app conf_b (conf_app (conf_i h.2.2.1) (conf_app (conf_i h.2.2.2.1) (conf_app (conf_i h.2.2.2.2.1) (conf_app (conf_i h.2.2.2.2.2.1) (conf_b))))))
def Iq.ks : List (Option IntKind) := Ren.ks ++ (List.replicate 3 none)
theorem Iq_conf (s : Iq) (h : s.wf) : conf Iq.ks s.enc = true := conf_app (Ren_conf _ h.1) ((conf_bs h.2.1))
def Lq.ks : List (Option IntKind) := [some .u64] ++ ([some .u32] ++ ([some .u32] ++ ([some .i64] ++ ([none] ++ ([none] ++ ([some .u64] ++ ([none])))))))
theorem Lq_conf (s : Lq) (h : s.wf) : conf Lq.ks s.enc = true := conf_app (conf_i h.1) (conf_app (conf_i h.2.1) (conf_app (conf_i h.2.2.1) (conf_app (conf_i h.2.2.2.1) (conf_app conf_b (conf_app conf_b (conf_app (conf_i h.2.2.2.2.2.2.1) (conf_b)))))))
def Sq.ks : List (Option IntKind) := [some .u64] ++ ([some .u32] ++ ([some .u32] ++ ([some .i64] ++ ([none]))))
theorem Sq_conf (s : Sq) (h : s.wf) : conf Sq.ks s.enc = true := conf_app (conf_i h.1) (conf_app (conf_i h.2.1) (conf_app (conf_i h.2.2.1) (conf_app (conf_i h.2.2.2.1) (conf_b))))
def Sb.ks : List (Option IntKind) := [some .u32] ++ ([some .u32] ++ ([some .i64]))
theorem Sb_conf (s : Sb) (h : s.wf) : conf Sb.ks s.enc = true := conf_app (conf_i h.1) (conf_app (conf_i h.2.1) ((conf_i h.2.2)))
def Flight.ks : List (Option IntKind) := Ren.ks ++ ([some .i64] ++ ([some .i64] ++ ([some .u32] ++ ([some .u32] ++ ([some .i64] ++ ([some .u32]))))))
theorem Flight_conf (s : Flight) (h : s.wf) : conf Flight.ks s.enc = true := conf_app (Ren_conf _ h.1) (conf_app (conf_i h.2.1) (conf_app (conf_i h.2.2.1) (conf_app (conf_i h.2.2.2.1) (conf_app (conf_i h.2.2.2.2.1) (conf_app (conf_i h.2.2.2.2.2.1) ((conf_i h.2.2.2.2.2.2)))))))
theorem cmp_btbs {l : List Btb} (h : l.length ≤ maxLen ∧ ∀ a ∈ l, a.wf) (fa fb : Bool) : E ap 46 [.imm fa l.length (l.flatMap Btb.enc), .imm fb l.length (l.flatMap Btb.enc)] (.bool true) := cmp_aeq (F := f46) (K := 3) (ks := Btb.ks) rfl rfl rfl rfl rfl rfl rfl h.1 (fun a ha => Btb_conf a (h.2 a ha)) fa fb
theorem cmp_tlbs {l : List Tlb} (h : l.length ≤ maxLen ∧ ∀ a ∈ l, a.wf) (fa fb : Bool) : E ap 22 [.imm fa l.length (l.flatMap Tlb.enc), .imm fb l.length (l.flatMap Tlb.enc)] (.bool true) := cmp_aeq (F := f22) (K := 4) (ks := Tlb.ks) rfl rfl rfl rfl rfl rfl rfl h.1 (fun a ha => Tlb_conf a (h.2 a ha)) fa fb
theorem cmp_slots {l : List Slot} (h : l.length ≤ maxLen ∧ ∀ a ∈ l, a.wf) (fa fb : Bool) : E ap 23 [.imm fa l.length (l.flatMap Slot.enc), .imm fb l.length (l.flatMap Slot.enc)] (.bool true) := cmp_aeq (F := f23) (K := 9) (ks := Slot.ks) rfl rfl rfl rfl rfl rfl rfl h.1 (fun a ha => Slot_conf a (h.2 a ha)) fa fb
theorem cmp_robs {l : List Rob} (h : l.length ≤ maxLen ∧ ∀ a ∈ l, a.wf) (fa fb : Bool) : E ap 26 [.imm fa l.length (l.flatMap Rob.enc), .imm fb l.length (l.flatMap Rob.enc)] (.bool true) := cmp_aeq (F := f26) (K := 35) (ks := Rob.ks) rfl rfl rfl rfl rfl rfl rfl h.1 (fun a ha => Rob_conf a (h.2 a ha)) fa fb
theorem cmp_iqs {l : List Iq} (h : l.length ≤ maxLen ∧ ∀ a ∈ l, a.wf) (fa fb : Bool) : E ap 27 [.imm fa l.length (l.flatMap Iq.enc), .imm fb l.length (l.flatMap Iq.enc)] (.bool true) := cmp_aeq (F := f27) (K := 32) (ks := Iq.ks) rfl rfl rfl rfl rfl rfl rfl h.1 (fun a ha => Iq_conf a (h.2 a ha)) fa fb
theorem cmp_lqs {l : List Lq} (h : l.length ≤ maxLen ∧ ∀ a ∈ l, a.wf) (fa fb : Bool) : E ap 28 [.imm fa l.length (l.flatMap Lq.enc), .imm fb l.length (l.flatMap Lq.enc)] (.bool true) := cmp_aeq (F := f28) (K := 8) (ks := Lq.ks) rfl rfl rfl rfl rfl rfl rfl h.1 (fun a ha => Lq_conf a (h.2 a ha)) fa fb
theorem cmp_sqs {l : List Sq} (h : l.length ≤ maxLen ∧ ∀ a ∈ l, a.wf) (fa fb : Bool) : E ap 29 [.imm fa l.length (l.flatMap Sq.enc), .imm fb l.length (l.flatMap Sq.enc)] (.bool true) := cmp_aeq (F := f29) (K := 5) (ks := Sq.ks) rfl rfl rfl rfl rfl rfl rfl h.1 (fun a ha => Sq_conf a (h.2 a ha)) fa fb
theorem cmp_sbs {l : List Sb} (h : l.length ≤ maxLen ∧ ∀ a ∈ l, a.wf) (fa fb : Bool) : E ap 30 [.imm fa l.length (l.flatMap Sb.enc), .imm fb l.length (l.flatMap Sb.enc)] (.bool true) := cmp_aeq (F := f30) (K := 3) (ks := Sb.ks) rfl rfl rfl rfl rfl rfl rfl h.1 (fun a ha => Sb_conf a (h.2 a ha)) fa fb
theorem cmp_flights {l : List Flight} (h : l.length ≤ maxLen ∧ ∀ a ∈ l, a.wf) (fa fb : Bool) : E ap 31 [.imm fa l.length (l.flatMap Flight.enc), .imm fb l.length (l.flatMap Flight.enc)] (.bool true) := cmp_aeq (F := f31) (K := 35) (ks := Flight.ks) rfl rfl rfl rfl rfl rfl rfl h.1 (fun a ha => Flight_conf a (h.2 a ha)) fa fb
theorem cmp_bytes {l : List Int} (h : l.length ≤ maxLen) (fa fb : Bool) : E ap 19 [.imm fa l.length (l.flatMap (fun n => [T.int .u8 n])), .imm fb l.length (l.flatMap (fun n => [T.int .u8 n]))] (.bool true) := cmp_ints (F := f19) rfl rfl rfl rfl rfl rfl h fa fb
theorem cmp_words {l : List Int} (h : l.length ≤ maxLen) (fa fb : Bool) : E ap 20 [.imm fa l.length (l.flatMap (fun n => [T.int .u32 n])), .imm fb l.length (l.flatMap (fun n => [T.int .u32 n]))] (.bool true) := cmp_ints (F := f20) rfl rfl rfl rfl rfl rfl h fa fb
theorem cmp_i64s {l : List Int} (h : l.length ≤ maxLen) (fa fb : Bool) : E ap 61 [.imm fa l.length (l.flatMap (fun n => [T.int .i64 n])), .imm fb l.length (l.flatMap (fun n => [T.int .i64 n]))] (.bool true) := cmp_ints (F := f61) rfl rfl rfl rfl rfl rfl h fa fb
theorem cmp_bits {l : List Bool} (h : l.length ≤ maxLen) (fa fb : Bool) : E ap 48 [.imm fa l.length (l.flatMap (fun n => [T.bool n])), .imm fb l.length (l.flatMap (fun n => [T.bool n]))] (.bool true) := cmp_bools (F := f48) rfl rfl rfl rfl rfl rfl h fa fb
end Go.Proofs.YtabfinhkoihhfaaGreat.Abs
