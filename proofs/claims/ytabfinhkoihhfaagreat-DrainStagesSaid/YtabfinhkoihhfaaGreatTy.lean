/- The laws' parameters: their types, how they are told as trees, and that what reads as data is so told. Written by this session's program rowt.py. -/
import Derived.Test.YtabfinhkoihhfaaGreatC4
import Derived.Test.YtabfinhkoihhfaaGreatProg
import Derived.KernelRfl
namespace Go.Proofs.YtabfinhkoihhfaaGreat.Abs
open Go Go.RowKit
set_option linter.unusedVariables false
set_option maxRecDepth 100000
set_option maxHeartbeats 4000000
structure Conf where
  fetch : Int
  wide : Int
  issue : Int
  retire : Int
  queue : Int
  rob : Int
  iq : Int
  lq : Int
  sq : Int
  sb : Int
  phys : Int
  hist : Int
  btb : Int
  ras : Int
  dep : Int
  tlb : Int
  mulLat : Int
  divLat : Int
  memLat : Int
  sets : Int
  ways : Int
  eager : Bool
  deriving DecidableEq, Inhabited
def Conf.enc (s : Conf) : List T := [T.int .i64 s.fetch] ++ ([T.int .i64 s.wide] ++ ([T.int .i64 s.issue] ++ ([T.int .i64 s.retire] ++ ([T.int .i64 s.queue] ++ ([T.int .i64 s.rob] ++ ([T.int .i64 s.iq] ++ ([T.int .i64 s.lq] ++ ([T.int .i64 s.sq] ++ ([T.int .i64 s.sb] ++ ([T.int .i64 s.phys] ++ ([T.int .i64 s.hist] ++ ([T.int .i64 s.btb] ++ ([T.int .i64 s.ras] ++ ([T.int .i64 s.dep] ++ ([T.int .i64 s.tlb] ++ ([T.int .i64 s.mulLat] ++ ([T.int .i64 s.divLat] ++ ([T.int .i64 s.memLat] ++ ([T.int .i64 s.sets] ++ ([T.int .i64 s.ways] ++ ([T.bool s.eager])))))))))))))))))))))
def Conf.wf (s : Conf) : Prop := (Lit.int .i64 s.fetch).wf = true ∧ (Lit.int .i64 s.wide).wf = true ∧ (Lit.int .i64 s.issue).wf = true ∧ (Lit.int .i64 s.retire).wf = true ∧ (Lit.int .i64 s.queue).wf = true ∧ (Lit.int .i64 s.rob).wf = true ∧ (Lit.int .i64 s.iq).wf = true ∧ (Lit.int .i64 s.lq).wf = true ∧ (Lit.int .i64 s.sq).wf = true ∧ (Lit.int .i64 s.sb).wf = true ∧ (Lit.int .i64 s.phys).wf = true ∧ (Lit.int .i64 s.hist).wf = true ∧ (Lit.int .i64 s.btb).wf = true ∧ (Lit.int .i64 s.ras).wf = true ∧ (Lit.int .i64 s.dep).wf = true ∧ (Lit.int .i64 s.tlb).wf = true ∧ (Lit.int .i64 s.mulLat).wf = true ∧ (Lit.int .i64 s.divLat).wf = true ∧ (Lit.int .i64 s.memLat).wf = true ∧ (Lit.int .i64 s.sets).wf = true ∧ (Lit.int .i64 s.ways).wf = true ∧ True
theorem o23 : OpensT Tryz.prog 23 22 Conf.enc Conf.wf :=
  have hF := (opensF_cons (opens_int Tryz.underlying3) (by kernel_rfl) (by kernel_rfl) (opensF_cons (opens_int Tryz.underlying3) (by kernel_rfl) (by kernel_rfl) (opensF_cons (opens_int Tryz.underlying3) (by kernel_rfl) (by kernel_rfl) (opensF_cons (opens_int Tryz.underlying3) (by kernel_rfl) (by kernel_rfl) (opensF_cons (opens_int Tryz.underlying3) (by kernel_rfl) (by kernel_rfl) (opensF_cons (opens_int Tryz.underlying3) (by kernel_rfl) (by kernel_rfl) (opensF_cons (opens_int Tryz.underlying3) (by kernel_rfl) (by kernel_rfl) (opensF_cons (opens_int Tryz.underlying3) (by kernel_rfl) (by kernel_rfl) (opensF_cons (opens_int Tryz.underlying3) (by kernel_rfl) (by kernel_rfl) (opensF_cons (opens_int Tryz.underlying3) (by kernel_rfl) (by kernel_rfl) (opensF_cons (opens_int Tryz.underlying3) (by kernel_rfl) (by kernel_rfl) (opensF_cons (opens_int Tryz.underlying3) (by kernel_rfl) (by kernel_rfl) (opensF_cons (opens_int Tryz.underlying3) (by kernel_rfl) (by kernel_rfl) (opensF_cons (opens_int Tryz.underlying3) (by kernel_rfl) (by kernel_rfl) (opensF_cons (opens_int Tryz.underlying3) (by kernel_rfl) (by kernel_rfl) (opensF_cons (opens_int Tryz.underlying3) (by kernel_rfl) (by kernel_rfl) (opensF_cons (opens_int Tryz.underlying3) (by kernel_rfl) (by kernel_rfl) (opensF_cons (opens_int Tryz.underlying3) (by kernel_rfl) (by kernel_rfl) (opensF_cons (opens_int Tryz.underlying3) (by kernel_rfl) (by kernel_rfl) (opensF_cons (opens_int Tryz.underlying3) (by kernel_rfl) (by kernel_rfl) (opensF_cons (opens_int Tryz.underlying3) (by kernel_rfl) (by kernel_rfl) (opensF_one (opens_bool Tryz.underlying4) (by kernel_rfl) (by kernel_rfl)))))))))))))))))))))))
  opens_struct (fun p : Int × Int × Int × Int × Int × Int × Int × Int × Int × Int × Int × Int × Int × Int × Int × Int × Int × Int × Int × Int × Int × Bool => ⟨p.1, p.2.1, p.2.2.1, p.2.2.2.1, p.2.2.2.2.1, p.2.2.2.2.2.1, p.2.2.2.2.2.2.1, p.2.2.2.2.2.2.2.1, p.2.2.2.2.2.2.2.2.1, p.2.2.2.2.2.2.2.2.2.1, p.2.2.2.2.2.2.2.2.2.2.1, p.2.2.2.2.2.2.2.2.2.2.2.1, p.2.2.2.2.2.2.2.2.2.2.2.2.1, p.2.2.2.2.2.2.2.2.2.2.2.2.2.1, p.2.2.2.2.2.2.2.2.2.2.2.2.2.2.1, p.2.2.2.2.2.2.2.2.2.2.2.2.2.2.2.1, p.2.2.2.2.2.2.2.2.2.2.2.2.2.2.2.2.1, p.2.2.2.2.2.2.2.2.2.2.2.2.2.2.2.2.2.1, p.2.2.2.2.2.2.2.2.2.2.2.2.2.2.2.2.2.2.1, p.2.2.2.2.2.2.2.2.2.2.2.2.2.2.2.2.2.2.2.1, p.2.2.2.2.2.2.2.2.2.2.2.2.2.2.2.2.2.2.2.2.1, p.2.2.2.2.2.2.2.2.2.2.2.2.2.2.2.2.2.2.2.2.2⟩) Conf.enc Conf.wf (fun _ => rfl) (fun _ h => h) (fun b h => hF.1 (b.fetch, b.wide, b.issue, b.retire, b.queue, b.rob, b.iq, b.lq, b.sq, b.sb, b.phys, b.hist, b.btb, b.ras, b.dep, b.tlb, b.mulLat, b.divLat, b.memLat, b.sets, b.ways, b.eager) h) Tryz.underlying23 hF (by kernel_rfl)
structure Arch where
  pC : Int
  r : List Int
  c : List Int
  halt : Bool
  deriving DecidableEq, Inhabited
def Arch.enc (s : Arch) : List T := [T.int .u32 s.pC] ++ (s.r.flatMap (fun n => [T.int .u32 n]) ++ (s.c.flatMap (fun n => [T.int .u32 n]) ++ ([T.bool s.halt])))
def Arch.wf (s : Arch) : Prop := (Lit.int .u32 s.pC).wf = true ∧ (s.r.length = 16 ∧ ∀ y0 ∈ s.r, (Lit.int .u32 y0).wf = true) ∧ (s.c.length = 12 ∧ ∀ y0 ∈ s.c, (Lit.int .u32 y0).wf = true) ∧ True
theorem o28 : OpensT Tryz.prog 28 30 Arch.enc Arch.wf :=
  have hF := (opensF_cons (opens_int Tryz.underlying24) (by kernel_rfl) (by kernel_rfl) (opensF_cons (opens_array Tryz.underlying25 (opens_int Tryz.underlying24) (by kernel_rfl) (by kernel_rfl)) (by kernel_rfl) (by kernel_rfl) (opensF_cons (opens_array Tryz.underlying26 (opens_int Tryz.underlying24) (by kernel_rfl) (by kernel_rfl)) (by kernel_rfl) (by kernel_rfl) (opensF_one (opens_bool Tryz.underlying4) (by kernel_rfl) (by kernel_rfl)))))
  opens_struct (fun p : Int × (List Int) × (List Int) × Bool => ⟨p.1, p.2.1, p.2.2.1, p.2.2.2⟩) Arch.enc Arch.wf (fun _ => rfl) (fun _ h => h) (fun b h => hF.1 (b.pC, b.r, b.c, b.halt) h) Tryz.underlying28 hF (by kernel_rfl)
structure Btb where
  pC : Int
  target : Int
  kind : Int
  deriving DecidableEq, Inhabited
def Btb.enc (s : Btb) : List T := [T.int .u32 s.pC] ++ ([T.int .u32 s.target] ++ ([T.int .i64 s.kind]))
def Btb.wf (s : Btb) : Prop := (Lit.int .u32 s.pC).wf = true ∧ (Lit.int .u32 s.target).wf = true ∧ (Lit.int .i64 s.kind).wf = true
theorem o155 : OpensT Tryz.prog 155 3 Btb.enc Btb.wf :=
  have hF := (opensF_cons (opens_int Tryz.underlying24) (by kernel_rfl) (by kernel_rfl) (opensF_cons (opens_int Tryz.underlying24) (by kernel_rfl) (by kernel_rfl) (opensF_one (opens_int Tryz.underlying3) (by kernel_rfl) (by kernel_rfl))))
  opens_struct (fun p : Int × Int × Int => ⟨p.1, p.2.1, p.2.2⟩) Btb.enc Btb.wf (fun _ => rfl) (fun _ h => h) (fun b h => hF.1 (b.pC, b.target, b.kind) h) Tryz.underlying155 hF (by kernel_rfl)
structure Pred where
  hist : Int
  table : List Int
  btb : List Btb
  next : Int
  ras : List Int
  top : Int
  deriving DecidableEq, Inhabited
def Pred.enc (s : Pred) : List T := [T.int .u32 s.hist] ++ ([T.imm false s.table.length (s.table.flatMap (fun n => [T.int .u8 n]))] ++ ([T.imm false s.btb.length (s.btb.flatMap Btb.enc)] ++ ([T.int .i64 s.next] ++ ([T.imm false s.ras.length (s.ras.flatMap (fun n => [T.int .u32 n]))] ++ ([T.int .i64 s.top])))))
def Pred.wf (s : Pred) : Prop := (Lit.int .u32 s.hist).wf = true ∧ (s.table.length ≤ maxLen ∧ ∀ y0 ∈ s.table, (Lit.int .u8 y0).wf = true) ∧ (s.btb.length ≤ maxLen ∧ ∀ y0 ∈ s.btb, Btb.wf y0) ∧ (Lit.int .i64 s.next).wf = true ∧ (s.ras.length ≤ maxLen ∧ ∀ y0 ∈ s.ras, (Lit.int .u32 y0).wf = true) ∧ (Lit.int .i64 s.top).wf = true
theorem o33 : OpensT Tryz.prog 33 6 Pred.enc Pred.wf :=
  have hF := (opensF_cons (opens_int Tryz.underlying24) (by kernel_rfl) (by kernel_rfl) (opensF_cons (opens_slice Tryz.underlying29 (opens_int Tryz.underlying5) (by kernel_rfl) (by decide)) (by kernel_rfl) (by kernel_rfl) (opensF_cons (opens_slice Tryz.underlying31 o155 (by kernel_rfl) (by decide)) (by kernel_rfl) (by kernel_rfl) (opensF_cons (opens_int Tryz.underlying3) (by kernel_rfl) (by kernel_rfl) (opensF_cons (opens_slice Tryz.underlying30 (opens_int Tryz.underlying24) (by kernel_rfl) (by decide)) (by kernel_rfl) (by kernel_rfl) (opensF_one (opens_int Tryz.underlying3) (by kernel_rfl) (by kernel_rfl)))))))
  opens_struct (fun p : Int × (List Int) × (List Btb) × Int × (List Int) × Int => ⟨p.1, p.2.1, p.2.2.1, p.2.2.2.1, p.2.2.2.2.1, p.2.2.2.2.2⟩) Pred.enc Pred.wf (fun _ => rfl) (fun _ h => h) (fun b h => hF.1 (b.hist, b.table, b.btb, b.next, b.ras, b.top) h) Tryz.underlying33 hF (by kernel_rfl)
structure Pte where
  bits : Int
  page : Int
  deriving DecidableEq, Inhabited
def Pte.enc (s : Pte) : List T := [T.int .u32 s.bits] ++ ([T.int .i64 s.page])
def Pte.wf (s : Pte) : Prop := (Lit.int .u32 s.bits).wf = true ∧ (Lit.int .i64 s.page).wf = true
theorem o115 : OpensT Tryz.prog 115 2 Pte.enc Pte.wf :=
  have hF := (opensF_cons (opens_int Tryz.underlying24) (by kernel_rfl) (by kernel_rfl) (opensF_one (opens_int Tryz.underlying3) (by kernel_rfl) (by kernel_rfl)))
  opens_struct (fun p : Int × Int => ⟨p.1, p.2⟩) Pte.enc Pte.wf (fun _ => rfl) (fun _ h => h) (fun b h => hF.1 (b.bits, b.page) h) Tryz.underlying115 hF (by kernel_rfl)
structure Tlb where
  valid : Bool
  virt : Int
  pte : Pte
  deriving DecidableEq, Inhabited
def Tlb.enc (s : Tlb) : List T := [T.bool s.valid] ++ ([T.int .u32 s.virt] ++ (s.pte.enc))
def Tlb.wf (s : Tlb) : Prop := True ∧ (Lit.int .u32 s.virt).wf = true ∧ Pte.wf s.pte
theorem o117 : OpensT Tryz.prog 117 4 Tlb.enc Tlb.wf :=
  have hF := (opensF_cons (opens_bool Tryz.underlying4) (by kernel_rfl) (by kernel_rfl) (opensF_cons (opens_int Tryz.underlying24) (by kernel_rfl) (by kernel_rfl) (opensF_one (f := ⟨_, 115, _, _, _, _, _⟩) o115 (by kernel_rfl) (by kernel_rfl))))
  opens_struct (fun p : Bool × Int × Pte => ⟨p.1, p.2.1, p.2.2⟩) Tlb.enc Tlb.wf (fun _ => rfl) (fun _ h => h) (fun b h => hF.1 (b.valid, b.virt, b.pte) h) Tryz.underlying117 hF (by kernel_rfl)
structure Save where
  hist : Int
  top : Int
  val : Int
  deriving DecidableEq, Inhabited
def Save.enc (s : Save) : List T := [T.int .u32 s.hist] ++ ([T.int .i64 s.top] ++ ([T.int .u32 s.val]))
def Save.wf (s : Save) : Prop := (Lit.int .u32 s.hist).wf = true ∧ (Lit.int .i64 s.top).wf = true ∧ (Lit.int .u32 s.val).wf = true
theorem o119 : OpensT Tryz.prog 119 3 Save.enc Save.wf :=
  have hF := (opensF_cons (opens_int Tryz.underlying24) (by kernel_rfl) (by kernel_rfl) (opensF_cons (opens_int Tryz.underlying3) (by kernel_rfl) (by kernel_rfl) (opensF_one (opens_int Tryz.underlying24) (by kernel_rfl) (by kernel_rfl))))
  opens_struct (fun p : Int × Int × Int => ⟨p.1, p.2.1, p.2.2⟩) Save.enc Save.wf (fun _ => rfl) (fun _ h => h) (fun b h => hF.1 (b.hist, b.top, b.val) h) Tryz.underlying119 hF (by kernel_rfl)
structure Guess where
  taken : Bool
  target : Int
  save : Save
  deriving DecidableEq, Inhabited
def Guess.enc (s : Guess) : List T := [T.bool s.taken] ++ ([T.int .u32 s.target] ++ (s.save.enc))
def Guess.wf (s : Guess) : Prop := True ∧ (Lit.int .u32 s.target).wf = true ∧ Save.wf s.save
theorem o121 : OpensT Tryz.prog 121 5 Guess.enc Guess.wf :=
  have hF := (opensF_cons (opens_bool Tryz.underlying4) (by kernel_rfl) (by kernel_rfl) (opensF_cons (opens_int Tryz.underlying24) (by kernel_rfl) (by kernel_rfl) (opensF_one (f := ⟨_, 119, _, _, _, _, _⟩) o119 (by kernel_rfl) (by kernel_rfl))))
  opens_struct (fun p : Bool × Int × Save => ⟨p.1, p.2.1, p.2.2⟩) Guess.enc Guess.wf (fun _ => rfl) (fun _ h => h) (fun b h => hF.1 (b.taken, b.target, b.save) h) Tryz.underlying121 hF (by kernel_rfl)
structure Slot where
  pC : Int
  word : Int
  cause : Int
  tval : Int
  guess : Guess
  deriving DecidableEq, Inhabited
def Slot.enc (s : Slot) : List T := [T.int .u32 s.pC] ++ ([T.int .u32 s.word] ++ ([T.int .i64 s.cause] ++ ([T.int .u32 s.tval] ++ (s.guess.enc))))
def Slot.wf (s : Slot) : Prop := (Lit.int .u32 s.pC).wf = true ∧ (Lit.int .u32 s.word).wf = true ∧ (Lit.int .i64 s.cause).wf = true ∧ (Lit.int .u32 s.tval).wf = true ∧ Guess.wf s.guess
theorem o123 : OpensT Tryz.prog 123 9 Slot.enc Slot.wf :=
  have hF := (opensF_cons (opens_int Tryz.underlying24) (by kernel_rfl) (by kernel_rfl) (opensF_cons (opens_int Tryz.underlying24) (by kernel_rfl) (by kernel_rfl) (opensF_cons (opens_int Tryz.underlying3) (by kernel_rfl) (by kernel_rfl) (opensF_cons (opens_int Tryz.underlying24) (by kernel_rfl) (by kernel_rfl) (opensF_one (f := ⟨_, 121, _, _, _, _, _⟩) o121 (by kernel_rfl) (by kernel_rfl))))))
  opens_struct (fun p : Int × Int × Int × Int × Guess => ⟨p.1, p.2.1, p.2.2.1, p.2.2.2.1, p.2.2.2.2⟩) Slot.enc Slot.wf (fun _ => rfl) (fun _ h => h) (fun b h => hF.1 (b.pC, b.word, b.cause, b.tval, b.guess) h) Tryz.underlying123 hF (by kernel_rfl)
structure Free where
  ring : List Int
  head : Int
  n : Int
  deriving DecidableEq, Inhabited
def Free.enc (s : Free) : List T := [T.imm false s.ring.length (s.ring.flatMap (fun n => [T.int .i64 n]))] ++ ([T.int .i64 s.head] ++ ([T.int .i64 s.n]))
def Free.wf (s : Free) : Prop := (s.ring.length ≤ maxLen ∧ ∀ y0 ∈ s.ring, (Lit.int .i64 y0).wf = true) ∧ (Lit.int .i64 s.head).wf = true ∧ (Lit.int .i64 s.n).wf = true
theorem o40 : OpensT Tryz.prog 40 3 Free.enc Free.wf :=
  have hF := (opensF_cons (opens_slice Tryz.underlying38 (opens_int Tryz.underlying3) (by kernel_rfl) (by decide)) (by kernel_rfl) (by kernel_rfl) (opensF_cons (opens_int Tryz.underlying3) (by kernel_rfl) (by kernel_rfl) (opensF_one (opens_int Tryz.underlying3) (by kernel_rfl) (by kernel_rfl))))
  opens_struct (fun p : (List Int) × Int × Int => ⟨p.1, p.2.1, p.2.2⟩) Free.enc Free.wf (fun _ => rfl) (fun _ h => h) (fun b h => hF.1 (b.ring, b.head, b.n) h) Tryz.underlying40 hF (by kernel_rfl)
structure Names where
  map : List Int
  done : List Int
  free : Free
  seq : Int
  deriving DecidableEq, Inhabited
def Names.enc (s : Names) : List T := s.map.flatMap (fun n => [T.int .i64 n]) ++ (s.done.flatMap (fun n => [T.int .i64 n]) ++ (s.free.enc ++ ([T.int .u64 s.seq])))
def Names.wf (s : Names) : Prop := (s.map.length = 16 ∧ ∀ y0 ∈ s.map, (Lit.int .i64 y0).wf = true) ∧ (s.done.length = 16 ∧ ∀ y0 ∈ s.done, (Lit.int .i64 y0).wf = true) ∧ Free.wf s.free ∧ (Lit.int .u64 s.seq).wf = true
theorem o43 : OpensT Tryz.prog 43 36 Names.enc Names.wf :=
  have hF := (opensF_cons (opens_array Tryz.underlying37 (opens_int Tryz.underlying3) (by kernel_rfl) (by kernel_rfl)) (by kernel_rfl) (by kernel_rfl) (opensF_cons (opens_array Tryz.underlying37 (opens_int Tryz.underlying3) (by kernel_rfl) (by kernel_rfl)) (by kernel_rfl) (by kernel_rfl) (opensF_cons (f := ⟨_, 40, _, _, _, _, _⟩) o40 (by kernel_rfl) (by kernel_rfl) (opensF_one (opens_int Tryz.underlying41) (by kernel_rfl) (by kernel_rfl)))))
  opens_struct (fun p : (List Int) × (List Int) × Free × Int => ⟨p.1, p.2.1, p.2.2.1, p.2.2.2⟩) Names.enc Names.wf (fun _ => rfl) (fun _ h => h) (fun b h => hF.1 (b.map, b.done, b.free, b.seq) h) Tryz.underlying43 hF (by kernel_rfl)
structure Phys where
  val : List Int
  ready : List Bool
  deriving DecidableEq, Inhabited
def Phys.enc (s : Phys) : List T := [T.imm false s.val.length (s.val.flatMap (fun n => [T.int .u32 n]))] ++ ([T.imm false s.ready.length (s.ready.flatMap (fun b => [T.bool b]))])
def Phys.wf (s : Phys) : Prop := (s.val.length ≤ maxLen ∧ ∀ y0 ∈ s.val, (Lit.int .u32 y0).wf = true) ∧ (s.ready.length ≤ maxLen ∧ ∀ y0 ∈ s.ready, True)
theorem o46 : OpensT Tryz.prog 46 2 Phys.enc Phys.wf :=
  have hF := (opensF_cons (opens_slice Tryz.underlying30 (opens_int Tryz.underlying24) (by kernel_rfl) (by decide)) (by kernel_rfl) (by kernel_rfl) (opensF_one (opens_slice Tryz.underlying44 (opens_bool Tryz.underlying4) (by kernel_rfl) (by decide)) (by kernel_rfl) (by kernel_rfl)))
  opens_struct (fun p : (List Int) × (List Bool) => ⟨p.1, p.2⟩) Phys.enc Phys.wf (fun _ => rfl) (fun _ h => h) (fun b h => hF.1 (b.val, b.ready) h) Tryz.underlying46 hF (by kernel_rfl)
structure Inst where
  op : Int
  rd : Int
  ra : Int
  rb : Int
  imm : Int
  deriving DecidableEq, Inhabited
def Inst.enc (s : Inst) : List T := [T.int .i64 s.op] ++ ([T.int .i64 s.rd] ++ ([T.int .i64 s.ra] ++ ([T.int .i64 s.rb] ++ ([T.int .i64 s.imm]))))
def Inst.wf (s : Inst) : Prop := (Lit.int .i64 s.op).wf = true ∧ (Lit.int .i64 s.rd).wf = true ∧ (Lit.int .i64 s.ra).wf = true ∧ (Lit.int .i64 s.rb).wf = true ∧ (Lit.int .i64 s.imm).wf = true
theorem o127 : OpensT Tryz.prog 127 5 Inst.enc Inst.wf :=
  have hF := (opensF_cons (opens_int Tryz.underlying3) (by kernel_rfl) (by kernel_rfl) (opensF_cons (opens_int Tryz.underlying3) (by kernel_rfl) (by kernel_rfl) (opensF_cons (opens_int Tryz.underlying3) (by kernel_rfl) (by kernel_rfl) (opensF_cons (opens_int Tryz.underlying3) (by kernel_rfl) (by kernel_rfl) (opensF_one (opens_int Tryz.underlying3) (by kernel_rfl) (by kernel_rfl))))))
  opens_struct (fun p : Int × Int × Int × Int × Int => ⟨p.1, p.2.1, p.2.2.1, p.2.2.2.1, p.2.2.2.2⟩) Inst.enc Inst.wf (fun _ => rfl) (fun _ h => h) (fun b h => hF.1 (b.op, b.rd, b.ra, b.rb, b.imm) h) Tryz.underlying127 hF (by kernel_rfl)
structure Uop where
  inst : Inst
  slot : Slot
  unit : Int
  part : Int
  last : Bool
  src : List Int
  dst : Int
  cause : Int
  tval : Int
  deriving DecidableEq, Inhabited
def Uop.enc (s : Uop) : List T := s.inst.enc ++ (s.slot.enc ++ ([T.int .i64 s.unit] ++ ([T.int .i64 s.part] ++ ([T.bool s.last] ++ (s.src.flatMap (fun n => [T.int .i64 n]) ++ ([T.int .i64 s.dst] ++ ([T.int .i64 s.cause] ++ ([T.int .u32 s.tval]))))))))
def Uop.wf (s : Uop) : Prop := Inst.wf s.inst ∧ Slot.wf s.slot ∧ (Lit.int .i64 s.unit).wf = true ∧ (Lit.int .i64 s.part).wf = true ∧ True ∧ (s.src.length = 3 ∧ ∀ y0 ∈ s.src, (Lit.int .i64 y0).wf = true) ∧ (Lit.int .i64 s.dst).wf = true ∧ (Lit.int .i64 s.cause).wf = true ∧ (Lit.int .u32 s.tval).wf = true
theorem o130 : OpensT Tryz.prog 130 23 Uop.enc Uop.wf :=
  have hF := (opensF_cons (f := ⟨_, 127, _, _, _, _, _⟩) o127 (by kernel_rfl) (by kernel_rfl) (opensF_cons (f := ⟨_, 123, _, _, _, _, _⟩) o123 (by kernel_rfl) (by kernel_rfl) (opensF_cons (opens_int Tryz.underlying3) (by kernel_rfl) (by kernel_rfl) (opensF_cons (opens_int Tryz.underlying3) (by kernel_rfl) (by kernel_rfl) (opensF_cons (opens_bool Tryz.underlying4) (by kernel_rfl) (by kernel_rfl) (opensF_cons (opens_array Tryz.underlying128 (opens_int Tryz.underlying3) (by kernel_rfl) (by kernel_rfl)) (by kernel_rfl) (by kernel_rfl) (opensF_cons (opens_int Tryz.underlying3) (by kernel_rfl) (by kernel_rfl) (opensF_cons (opens_int Tryz.underlying3) (by kernel_rfl) (by kernel_rfl) (opensF_one (opens_int Tryz.underlying24) (by kernel_rfl) (by kernel_rfl))))))))))
  opens_struct (fun p : Inst × Slot × Int × Int × Bool × (List Int) × Int × Int × Int => ⟨p.1, p.2.1, p.2.2.1, p.2.2.2.1, p.2.2.2.2.1, p.2.2.2.2.2.1, p.2.2.2.2.2.2.1, p.2.2.2.2.2.2.2.1, p.2.2.2.2.2.2.2.2⟩) Uop.enc Uop.wf (fun _ => rfl) (fun _ h => h) (fun b h => hF.1 (b.inst, b.slot, b.unit, b.part, b.last, b.src, b.dst, b.cause, b.tval) h) Tryz.underlying130 hF (by kernel_rfl)
structure Ren where
  uop : Uop
  seq : Int
  in_ : List Int
  out : Int
  old : Int
  deriving DecidableEq, Inhabited
def Ren.enc (s : Ren) : List T := s.uop.enc ++ ([T.int .u64 s.seq] ++ (s.in_.flatMap (fun n => [T.int .i64 n]) ++ ([T.int .i64 s.out] ++ ([T.int .i64 s.old]))))
def Ren.wf (s : Ren) : Prop := Uop.wf s.uop ∧ (Lit.int .u64 s.seq).wf = true ∧ (s.in_.length = 3 ∧ ∀ y0 ∈ s.in_, (Lit.int .i64 y0).wf = true) ∧ (Lit.int .i64 s.out).wf = true ∧ (Lit.int .i64 s.old).wf = true
theorem o132 : OpensT Tryz.prog 132 29 Ren.enc Ren.wf :=
  have hF := (opensF_cons (f := ⟨_, 130, _, _, _, _, _⟩) o130 (by kernel_rfl) (by kernel_rfl) (opensF_cons (opens_int Tryz.underlying41) (by kernel_rfl) (by kernel_rfl) (opensF_cons (opens_array Tryz.underlying128 (opens_int Tryz.underlying3) (by kernel_rfl) (by kernel_rfl)) (by kernel_rfl) (by kernel_rfl) (opensF_cons (opens_int Tryz.underlying3) (by kernel_rfl) (by kernel_rfl) (opensF_one (opens_int Tryz.underlying3) (by kernel_rfl) (by kernel_rfl))))))
  opens_struct (fun p : Uop × Int × (List Int) × Int × Int => ⟨p.1, p.2.1, p.2.2.1, p.2.2.2.1, p.2.2.2.2⟩) Ren.enc Ren.wf (fun _ => rfl) (fun _ h => h) (fun b h => hF.1 (b.uop, b.seq, b.in_, b.out, b.old) h) Tryz.underlying132 hF (by kernel_rfl)
structure Rob where
  ren : Ren
  done : Bool
  val : Int
  next : Int
  cause : Int
  tval : Int
  stale : Bool
  deriving DecidableEq, Inhabited
def Rob.enc (s : Rob) : List T := s.ren.enc ++ ([T.bool s.done] ++ ([T.int .u32 s.val] ++ ([T.int .u32 s.next] ++ ([T.int .i64 s.cause] ++ ([T.int .u32 s.tval] ++ ([T.bool s.stale]))))))
def Rob.wf (s : Rob) : Prop := Ren.wf s.ren ∧ True ∧ (Lit.int .u32 s.val).wf = true ∧ (Lit.int .u32 s.next).wf = true ∧ (Lit.int .i64 s.cause).wf = true ∧ (Lit.int .u32 s.tval).wf = true ∧ True
theorem o134 : OpensT Tryz.prog 134 35 Rob.enc Rob.wf :=
  have hF := (opensF_cons (f := ⟨_, 132, _, _, _, _, _⟩) o132 (by kernel_rfl) (by kernel_rfl) (opensF_cons (opens_bool Tryz.underlying4) (by kernel_rfl) (by kernel_rfl) (opensF_cons (opens_int Tryz.underlying24) (by kernel_rfl) (by kernel_rfl) (opensF_cons (opens_int Tryz.underlying24) (by kernel_rfl) (by kernel_rfl) (opensF_cons (opens_int Tryz.underlying3) (by kernel_rfl) (by kernel_rfl) (opensF_cons (opens_int Tryz.underlying24) (by kernel_rfl) (by kernel_rfl) (opensF_one (opens_bool Tryz.underlying4) (by kernel_rfl) (by kernel_rfl))))))))
  opens_struct (fun p : Ren × Bool × Int × Int × Int × Int × Bool => ⟨p.1, p.2.1, p.2.2.1, p.2.2.2.1, p.2.2.2.2.1, p.2.2.2.2.2.1, p.2.2.2.2.2.2⟩) Rob.enc Rob.wf (fun _ => rfl) (fun _ h => h) (fun b h => hF.1 (b.ren, b.done, b.val, b.next, b.cause, b.tval, b.stale) h) Tryz.underlying134 hF (by kernel_rfl)
structure Iq where
  ren : Ren
  ready : List Bool
  deriving DecidableEq, Inhabited
def Iq.enc (s : Iq) : List T := s.ren.enc ++ (s.ready.flatMap (fun b => [T.bool b]))
def Iq.wf (s : Iq) : Prop := Ren.wf s.ren ∧ (s.ready.length = 3 ∧ ∀ y0 ∈ s.ready, True)
theorem o137 : OpensT Tryz.prog 137 32 Iq.enc Iq.wf :=
  have hF := (opensF_cons (f := ⟨_, 132, _, _, _, _, _⟩) o132 (by kernel_rfl) (by kernel_rfl) (opensF_one (opens_array Tryz.underlying135 (opens_bool Tryz.underlying4) (by kernel_rfl) (by kernel_rfl)) (by kernel_rfl) (by kernel_rfl)))
  opens_struct (fun p : Ren × (List Bool) => ⟨p.1, p.2⟩) Iq.enc Iq.wf (fun _ => rfl) (fun _ h => h) (fun b h => hF.1 (b.ren, b.ready) h) Tryz.underlying137 hF (by kernel_rfl)
structure Lq where
  seq : Int
  pC : Int
  addr : Int
  size : Int
  known : Bool
  done : Bool
  from_ : Int
  stale : Bool
  deriving DecidableEq, Inhabited
def Lq.enc (s : Lq) : List T := [T.int .u64 s.seq] ++ ([T.int .u32 s.pC] ++ ([T.int .u32 s.addr] ++ ([T.int .i64 s.size] ++ ([T.bool s.known] ++ ([T.bool s.done] ++ ([T.int .u64 s.from_] ++ ([T.bool s.stale])))))))
def Lq.wf (s : Lq) : Prop := (Lit.int .u64 s.seq).wf = true ∧ (Lit.int .u32 s.pC).wf = true ∧ (Lit.int .u32 s.addr).wf = true ∧ (Lit.int .i64 s.size).wf = true ∧ True ∧ True ∧ (Lit.int .u64 s.from_).wf = true ∧ True
theorem o139 : OpensT Tryz.prog 139 8 Lq.enc Lq.wf :=
  have hF := (opensF_cons (opens_int Tryz.underlying41) (by kernel_rfl) (by kernel_rfl) (opensF_cons (opens_int Tryz.underlying24) (by kernel_rfl) (by kernel_rfl) (opensF_cons (opens_int Tryz.underlying24) (by kernel_rfl) (by kernel_rfl) (opensF_cons (opens_int Tryz.underlying3) (by kernel_rfl) (by kernel_rfl) (opensF_cons (opens_bool Tryz.underlying4) (by kernel_rfl) (by kernel_rfl) (opensF_cons (opens_bool Tryz.underlying4) (by kernel_rfl) (by kernel_rfl) (opensF_cons (opens_int Tryz.underlying41) (by kernel_rfl) (by kernel_rfl) (opensF_one (opens_bool Tryz.underlying4) (by kernel_rfl) (by kernel_rfl)))))))))
  opens_struct (fun p : Int × Int × Int × Int × Bool × Bool × Int × Bool => ⟨p.1, p.2.1, p.2.2.1, p.2.2.2.1, p.2.2.2.2.1, p.2.2.2.2.2.1, p.2.2.2.2.2.2.1, p.2.2.2.2.2.2.2⟩) Lq.enc Lq.wf (fun _ => rfl) (fun _ h => h) (fun b h => hF.1 (b.seq, b.pC, b.addr, b.size, b.known, b.done, b.from_, b.stale) h) Tryz.underlying139 hF (by kernel_rfl)
structure Sq where
  seq : Int
  addr : Int
  data : Int
  size : Int
  known : Bool
  deriving DecidableEq, Inhabited
def Sq.enc (s : Sq) : List T := [T.int .u64 s.seq] ++ ([T.int .u32 s.addr] ++ ([T.int .u32 s.data] ++ ([T.int .i64 s.size] ++ ([T.bool s.known]))))
def Sq.wf (s : Sq) : Prop := (Lit.int .u64 s.seq).wf = true ∧ (Lit.int .u32 s.addr).wf = true ∧ (Lit.int .u32 s.data).wf = true ∧ (Lit.int .i64 s.size).wf = true ∧ True
theorem o141 : OpensT Tryz.prog 141 5 Sq.enc Sq.wf :=
  have hF := (opensF_cons (opens_int Tryz.underlying41) (by kernel_rfl) (by kernel_rfl) (opensF_cons (opens_int Tryz.underlying24) (by kernel_rfl) (by kernel_rfl) (opensF_cons (opens_int Tryz.underlying24) (by kernel_rfl) (by kernel_rfl) (opensF_cons (opens_int Tryz.underlying3) (by kernel_rfl) (by kernel_rfl) (opensF_one (opens_bool Tryz.underlying4) (by kernel_rfl) (by kernel_rfl))))))
  opens_struct (fun p : Int × Int × Int × Int × Bool => ⟨p.1, p.2.1, p.2.2.1, p.2.2.2.1, p.2.2.2.2⟩) Sq.enc Sq.wf (fun _ => rfl) (fun _ h => h) (fun b h => hF.1 (b.seq, b.addr, b.data, b.size, b.known) h) Tryz.underlying141 hF (by kernel_rfl)
structure Sb where
  addr : Int
  data : Int
  size : Int
  deriving DecidableEq, Inhabited
def Sb.enc (s : Sb) : List T := [T.int .u32 s.addr] ++ ([T.int .u32 s.data] ++ ([T.int .i64 s.size]))
def Sb.wf (s : Sb) : Prop := (Lit.int .u32 s.addr).wf = true ∧ (Lit.int .u32 s.data).wf = true ∧ (Lit.int .i64 s.size).wf = true
theorem o76 : OpensT Tryz.prog 76 3 Sb.enc Sb.wf :=
  have hF := (opensF_cons (opens_int Tryz.underlying24) (by kernel_rfl) (by kernel_rfl) (opensF_cons (opens_int Tryz.underlying24) (by kernel_rfl) (by kernel_rfl) (opensF_one (opens_int Tryz.underlying3) (by kernel_rfl) (by kernel_rfl))))
  opens_struct (fun p : Int × Int × Int => ⟨p.1, p.2.1, p.2.2⟩) Sb.enc Sb.wf (fun _ => rfl) (fun _ h => h) (fun b h => hF.1 (b.addr, b.data, b.size) h) Tryz.underlying76 hF (by kernel_rfl)
structure Flight where
  ren : Ren
  unit : Int
  left : Int
  val : Int
  next : Int
  cause : Int
  tval : Int
  deriving DecidableEq, Inhabited
def Flight.enc (s : Flight) : List T := s.ren.enc ++ ([T.int .i64 s.unit] ++ ([T.int .i64 s.left] ++ ([T.int .u32 s.val] ++ ([T.int .u32 s.next] ++ ([T.int .i64 s.cause] ++ ([T.int .u32 s.tval]))))))
def Flight.wf (s : Flight) : Prop := Ren.wf s.ren ∧ (Lit.int .i64 s.unit).wf = true ∧ (Lit.int .i64 s.left).wf = true ∧ (Lit.int .u32 s.val).wf = true ∧ (Lit.int .u32 s.next).wf = true ∧ (Lit.int .i64 s.cause).wf = true ∧ (Lit.int .u32 s.tval).wf = true
theorem o143 : OpensT Tryz.prog 143 35 Flight.enc Flight.wf :=
  have hF := (opensF_cons (f := ⟨_, 132, _, _, _, _, _⟩) o132 (by kernel_rfl) (by kernel_rfl) (opensF_cons (opens_int Tryz.underlying3) (by kernel_rfl) (by kernel_rfl) (opensF_cons (opens_int Tryz.underlying3) (by kernel_rfl) (by kernel_rfl) (opensF_cons (opens_int Tryz.underlying24) (by kernel_rfl) (by kernel_rfl) (opensF_cons (opens_int Tryz.underlying24) (by kernel_rfl) (by kernel_rfl) (opensF_cons (opens_int Tryz.underlying3) (by kernel_rfl) (by kernel_rfl) (opensF_one (opens_int Tryz.underlying24) (by kernel_rfl) (by kernel_rfl))))))))
  opens_struct (fun p : Ren × Int × Int × Int × Int × Int × Int => ⟨p.1, p.2.1, p.2.2.1, p.2.2.2.1, p.2.2.2.2.1, p.2.2.2.2.2.1, p.2.2.2.2.2.2⟩) Flight.enc Flight.wf (fun _ => rfl) (fun _ h => h) (fun b h => hF.1 (b.ren, b.unit, b.left, b.val, b.next, b.cause, b.tval) h) Tryz.underlying143 hF (by kernel_rfl)
structure Core where
  conf : Conf
  a : Arch
  shadow : List Int
  out : List Int
  pC : Int
  hold : Bool
  pred : Pred
  tlb : List Tlb
  tlbNext : Int
  queue : List Slot
  names : Names
  phys : Phys
  rob : List Rob
  iq : List Iq
  lq : List Lq
  sq : List Sq
  sb : List Sb
  units : List Flight
  dep : List Int
  wait : Int
  cycle : Int
  deriving DecidableEq, Inhabited
def Core.enc (s : Core) : List T := s.conf.enc ++ (s.a.enc ++ ([T.imm false s.shadow.length (s.shadow.flatMap (fun n => [T.int .u8 n]))] ++ ([T.imm false s.out.length (s.out.flatMap (fun n => [T.int .u32 n]))] ++ ([T.int .u32 s.pC] ++ ([T.bool s.hold] ++ (s.pred.enc ++ ([T.imm false s.tlb.length (s.tlb.flatMap Tlb.enc)] ++ ([T.int .i64 s.tlbNext] ++ ([T.imm false s.queue.length (s.queue.flatMap Slot.enc)] ++ (s.names.enc ++ (s.phys.enc ++ ([T.imm false s.rob.length (s.rob.flatMap Rob.enc)] ++ ([T.imm false s.iq.length (s.iq.flatMap Iq.enc)] ++ ([T.imm false s.lq.length (s.lq.flatMap Lq.enc)] ++ ([T.imm false s.sq.length (s.sq.flatMap Sq.enc)] ++ ([T.imm false s.sb.length (s.sb.flatMap Sb.enc)] ++ ([T.imm false s.units.length (s.units.flatMap Flight.enc)] ++ ([T.imm false s.dep.length (s.dep.flatMap (fun n => [T.int .u8 n]))] ++ ([T.int .i64 s.wait] ++ ([T.int .i64 s.cycle]))))))))))))))))))))
def Core.wf (s : Core) : Prop := Conf.wf s.conf ∧ Arch.wf s.a ∧ (s.shadow.length ≤ maxLen ∧ ∀ y0 ∈ s.shadow, (Lit.int .u8 y0).wf = true) ∧ (s.out.length ≤ maxLen ∧ ∀ y0 ∈ s.out, (Lit.int .u32 y0).wf = true) ∧ (Lit.int .u32 s.pC).wf = true ∧ True ∧ Pred.wf s.pred ∧ (s.tlb.length ≤ maxLen ∧ ∀ y0 ∈ s.tlb, Tlb.wf y0) ∧ (Lit.int .i64 s.tlbNext).wf = true ∧ (s.queue.length ≤ maxLen ∧ ∀ y0 ∈ s.queue, Slot.wf y0) ∧ Names.wf s.names ∧ Phys.wf s.phys ∧ (s.rob.length ≤ maxLen ∧ ∀ y0 ∈ s.rob, Rob.wf y0) ∧ (s.iq.length ≤ maxLen ∧ ∀ y0 ∈ s.iq, Iq.wf y0) ∧ (s.lq.length ≤ maxLen ∧ ∀ y0 ∈ s.lq, Lq.wf y0) ∧ (s.sq.length ≤ maxLen ∧ ∀ y0 ∈ s.sq, Sq.wf y0) ∧ (s.sb.length ≤ maxLen ∧ ∀ y0 ∈ s.sb, Sb.wf y0) ∧ (s.units.length ≤ maxLen ∧ ∀ y0 ∈ s.units, Flight.wf y0) ∧ (s.dep.length ≤ maxLen ∧ ∀ y0 ∈ s.dep, (Lit.int .u8 y0).wf = true) ∧ (Lit.int .i64 s.wait).wf = true ∧ (Lit.int .i64 s.cycle).wf = true
theorem o54 : OpensT Tryz.prog 54 112 Core.enc Core.wf :=
  have hF := (opensF_cons (f := ⟨_, 23, _, _, _, _, _⟩) o23 (by kernel_rfl) (by kernel_rfl) (opensF_cons (f := ⟨_, 28, _, _, _, _, _⟩) o28 (by kernel_rfl) (by kernel_rfl) (opensF_cons (opens_slice Tryz.underlying29 (opens_int Tryz.underlying5) (by kernel_rfl) (by decide)) (by kernel_rfl) (by kernel_rfl) (opensF_cons (opens_slice Tryz.underlying30 (opens_int Tryz.underlying24) (by kernel_rfl) (by decide)) (by kernel_rfl) (by kernel_rfl) (opensF_cons (opens_int Tryz.underlying24) (by kernel_rfl) (by kernel_rfl) (opensF_cons (opens_bool Tryz.underlying4) (by kernel_rfl) (by kernel_rfl) (opensF_cons (f := ⟨_, 33, _, _, _, _, _⟩) o33 (by kernel_rfl) (by kernel_rfl) (opensF_cons (opens_slice Tryz.underlying34 o117 (by kernel_rfl) (by decide)) (by kernel_rfl) (by kernel_rfl) (opensF_cons (opens_int Tryz.underlying3) (by kernel_rfl) (by kernel_rfl) (opensF_cons (opens_slice Tryz.underlying35 o123 (by kernel_rfl) (by decide)) (by kernel_rfl) (by kernel_rfl) (opensF_cons (f := ⟨_, 43, _, _, _, _, _⟩) o43 (by kernel_rfl) (by kernel_rfl) (opensF_cons (f := ⟨_, 46, _, _, _, _, _⟩) o46 (by kernel_rfl) (by kernel_rfl) (opensF_cons (opens_slice Tryz.underlying47 o134 (by kernel_rfl) (by decide)) (by kernel_rfl) (by kernel_rfl) (opensF_cons (opens_slice Tryz.underlying48 o137 (by kernel_rfl) (by decide)) (by kernel_rfl) (by kernel_rfl) (opensF_cons (opens_slice Tryz.underlying49 o139 (by kernel_rfl) (by decide)) (by kernel_rfl) (by kernel_rfl) (opensF_cons (opens_slice Tryz.underlying50 o141 (by kernel_rfl) (by decide)) (by kernel_rfl) (by kernel_rfl) (opensF_cons (opens_slice Tryz.underlying51 o76 (by kernel_rfl) (by decide)) (by kernel_rfl) (by kernel_rfl) (opensF_cons (opens_slice Tryz.underlying52 o143 (by kernel_rfl) (by decide)) (by kernel_rfl) (by kernel_rfl) (opensF_cons (opens_slice Tryz.underlying29 (opens_int Tryz.underlying5) (by kernel_rfl) (by decide)) (by kernel_rfl) (by kernel_rfl) (opensF_cons (opens_int Tryz.underlying3) (by kernel_rfl) (by kernel_rfl) (opensF_one (opens_int Tryz.underlying3) (by kernel_rfl) (by kernel_rfl))))))))))))))))))))))
  opens_struct (fun p : Conf × Arch × (List Int) × (List Int) × Int × Bool × Pred × (List Tlb) × Int × (List Slot) × Names × Phys × (List Rob) × (List Iq) × (List Lq) × (List Sq) × (List Sb) × (List Flight) × (List Int) × Int × Int => ⟨p.1, p.2.1, p.2.2.1, p.2.2.2.1, p.2.2.2.2.1, p.2.2.2.2.2.1, p.2.2.2.2.2.2.1, p.2.2.2.2.2.2.2.1, p.2.2.2.2.2.2.2.2.1, p.2.2.2.2.2.2.2.2.2.1, p.2.2.2.2.2.2.2.2.2.2.1, p.2.2.2.2.2.2.2.2.2.2.2.1, p.2.2.2.2.2.2.2.2.2.2.2.2.1, p.2.2.2.2.2.2.2.2.2.2.2.2.2.1, p.2.2.2.2.2.2.2.2.2.2.2.2.2.2.1, p.2.2.2.2.2.2.2.2.2.2.2.2.2.2.2.1, p.2.2.2.2.2.2.2.2.2.2.2.2.2.2.2.2.1, p.2.2.2.2.2.2.2.2.2.2.2.2.2.2.2.2.2.1, p.2.2.2.2.2.2.2.2.2.2.2.2.2.2.2.2.2.2.1, p.2.2.2.2.2.2.2.2.2.2.2.2.2.2.2.2.2.2.2.1, p.2.2.2.2.2.2.2.2.2.2.2.2.2.2.2.2.2.2.2.2⟩) Core.enc Core.wf (fun _ => rfl) (fun _ h => h) (fun b h => hF.1 (b.conf, b.a, b.shadow, b.out, b.pC, b.hold, b.pred, b.tlb, b.tlbNext, b.queue, b.names, b.phys, b.rob, b.iq, b.lq, b.sq, b.sb, b.units, b.dep, b.wait, b.cycle) h) Tryz.underlying54 hF (by kernel_rfl)
structure Way where
  state : Int
  tag : Int
  data : List Int
  age : Int
  deriving DecidableEq, Inhabited
def Way.enc (s : Way) : List T := [T.int .i64 s.state] ++ ([T.int .u32 s.tag] ++ (s.data.flatMap (fun n => [T.int .u8 n]) ++ ([T.int .i64 s.age])))
def Way.wf (s : Way) : Prop := (Lit.int .i64 s.state).wf = true ∧ (Lit.int .u32 s.tag).wf = true ∧ (s.data.length = 16 ∧ ∀ y0 ∈ s.data, (Lit.int .u8 y0).wf = true) ∧ (Lit.int .i64 s.age).wf = true
theorem o102 : OpensT Tryz.prog 102 19 Way.enc Way.wf :=
  have hF := (opensF_cons (opens_int Tryz.underlying3) (by kernel_rfl) (by kernel_rfl) (opensF_cons (opens_int Tryz.underlying24) (by kernel_rfl) (by kernel_rfl) (opensF_cons (opens_array Tryz.underlying100 (opens_int Tryz.underlying5) (by kernel_rfl) (by kernel_rfl)) (by kernel_rfl) (by kernel_rfl) (opensF_one (opens_int Tryz.underlying3) (by kernel_rfl) (by kernel_rfl)))))
  opens_struct (fun p : Int × Int × (List Int) × Int => ⟨p.1, p.2.1, p.2.2.1, p.2.2.2⟩) Way.enc Way.wf (fun _ => rfl) (fun _ h => h) (fun b h => hF.1 (b.state, b.tag, b.data, b.age) h) Tryz.underlying102 hF (by kernel_rfl)
structure Cache where
  sets : List (List Way)
  deriving DecidableEq, Inhabited
def Cache.enc (s : Cache) : List T := [T.imm false s.sets.length (s.sets.flatMap (fun l => [T.imm false l.length (l.flatMap Way.enc)]))]
def Cache.wf (s : Cache) : Prop := (s.sets.length ≤ maxLen ∧ ∀ y0 ∈ s.sets, (y0.length ≤ maxLen ∧ ∀ y1 ∈ y0, Way.wf y1))
theorem o73 : OpensT Tryz.prog 73 1 Cache.enc Cache.wf :=
  have hF := (opensF_one (opens_slice Tryz.underlying71 (opens_slice Tryz.underlying74 o102 (by kernel_rfl) (by decide)) (by kernel_rfl) (by decide)) (by kernel_rfl) (by kernel_rfl))
  opens_struct (fun p : (List (List Way)) => ⟨p⟩) Cache.enc Cache.wf (fun _ => rfl) (fun _ h => h) (fun b h => hF.1 b.sets h) Tryz.underlying73 hF (by kernel_rfl)
structure Coh where
  mem : List Int
  caches : List Cache
  deriving DecidableEq, Inhabited
def Coh.enc (s : Coh) : List T := [T.imm false s.mem.length (s.mem.flatMap (fun n => [T.int .u8 n]))] ++ ([T.imm false s.caches.length (s.caches.flatMap Cache.enc)])
def Coh.wf (s : Coh) : Prop := (s.mem.length ≤ maxLen ∧ ∀ y0 ∈ s.mem, (Lit.int .u8 y0).wf = true) ∧ (s.caches.length ≤ maxLen ∧ ∀ y0 ∈ s.caches, Cache.wf y0)
theorem o57 : OpensT Tryz.prog 57 2 Coh.enc Coh.wf :=
  have hF := (opensF_cons (opens_slice Tryz.underlying29 (opens_int Tryz.underlying5) (by kernel_rfl) (by decide)) (by kernel_rfl) (by kernel_rfl) (opensF_one (opens_slice Tryz.underlying55 o73 (by kernel_rfl) (by decide)) (by kernel_rfl) (by kernel_rfl)))
  opens_struct (fun p : (List Int) × (List Cache) => ⟨p.1, p.2⟩) Coh.enc Coh.wf (fun _ => rfl) (fun _ h => h) (fun b h => hF.1 (b.mem, b.caches) h) Tryz.underlying57 hF (by kernel_rfl)
structure Tick where
  lines : Int
  stall : Int
  pick : Int
  drain : Bool
  grant : Int
  deriving DecidableEq, Inhabited
def Tick.enc (s : Tick) : List T := [T.int .u32 s.lines] ++ ([T.int .u32 s.stall] ++ ([T.int .i64 s.pick] ++ ([T.bool s.drain] ++ ([T.int .i64 s.grant]))))
def Tick.wf (s : Tick) : Prop := (Lit.int .u32 s.lines).wf = true ∧ (Lit.int .u32 s.stall).wf = true ∧ (Lit.int .i64 s.pick).wf = true ∧ True ∧ (Lit.int .i64 s.grant).wf = true
theorem o59 : OpensT Tryz.prog 59 5 Tick.enc Tick.wf :=
  have hF := (opensF_cons (opens_int Tryz.underlying24) (by kernel_rfl) (by kernel_rfl) (opensF_cons (opens_int Tryz.underlying24) (by kernel_rfl) (by kernel_rfl) (opensF_cons (opens_int Tryz.underlying3) (by kernel_rfl) (by kernel_rfl) (opensF_cons (opens_bool Tryz.underlying4) (by kernel_rfl) (by kernel_rfl) (opensF_one (opens_int Tryz.underlying3) (by kernel_rfl) (by kernel_rfl))))))
  opens_struct (fun p : Int × Int × Int × Bool × Int => ⟨p.1, p.2.1, p.2.2.1, p.2.2.2.1, p.2.2.2.2⟩) Tick.enc Tick.wf (fun _ => rfl) (fun _ h => h) (fun b h => hF.1 (b.lines, b.stall, b.pick, b.drain, b.grant) h) Tryz.underlying59 hF (by kernel_rfl)
end Go.Proofs.YtabfinhkoihhfaaGreat.Abs
