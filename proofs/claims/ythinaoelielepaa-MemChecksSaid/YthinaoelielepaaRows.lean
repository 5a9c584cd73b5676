/-
  No cell of these rows narrows 'for every input' (looked for: loops, veiled, ifaces, maps, wideKeys, modest, calm, conditions, laid).
  DERIVED. THE GIVEN ROWS OF THIS SEAT. 5 by the template 'for every input the law returns true; each argument reads behind the call as it read before'; 0 by the template 'total and deterministic' (their statements: YthinaoelielepaaTotals.lean).
  GIVEN WITH THE SEED: the statements are not yours to turn. If you find one false, say at which input.
  Laid BY PROGRAM, IN A SANDBOX (cutbox-rows.mjs): the forced cells as the released guide's own fill.sh prints them over the translation 39efd2e24fd89648… (all of the seat's roots in one cut). By AI agents, Wed Nov 11 2026. No macro, syntax, notation, axiom, sorry.
-/
import Derived.Test.YthinaoelielepaaChecked
import GoSem.Claim
import GoSem.ClaimJoined
import GoSem.ClaimMapViews
import Derived.JoinedTies
import Derived.KernelRfl
namespace Go.Proofs.Ythinaoelielepaa
/- THE CELL 'sum', in the pinned program and in every row, IS THE sha256 OF THE DUMP (.gsa) THAT YthinaoelielepaaProg.lean LOADS. Nothing in Lean hashes anything: it is a label: what it is worth is what the hold of that sum in a sandbox is worth. -/
noncomputable def Try.pinned : Pinned := { name := "ythinaoelielepaa", sum := "39efd2e24fd8964886574ec0fc503c11202ed01c9960d3d65e4a14ef4373158b", checked := Try.checked }
namespace Rows
def none {H : Type} : Left H := { results := [], args := [] }

/-- 'cotterellaw10.MemReads': WHATEVER THE INPUT: true; the input reads as it did. -/
def memReadsSpec : ChangeSpec := { name := "memReads", fn := fun _ => fun
  | [d1, d2] => { results := [.lit (.bool true)], args := [d1, d2] }
  | _ => none }
def memReadsRow : OpenClaim := { program := "ythinaoelielepaa", sum := "39efd2e24fd8964886574ec0fc503c11202ed01c9960d3d65e4a14ef4373158b", func := "cotterel/cotterellaw10.MemReads", spec := "memReads", apart := false }
def MemReadsSaid : Prop := memReadsRow.holds Try.pinned (OpenSpec.ofChange memReadsSpec)

/-- ITS FALSE NEIGHBOUR: 'it returns false'. Refute it at one input. -/
def memReadsWrong : ChangeSpec := { name := "memReads", fn := fun _ => fun
  | [d1, d2] => { results := [.lit (.bool false)], args := [d1, d2] }
  | _ => none }
def MemReadsWrongFalsely : Prop := memReadsRow.holds Try.pinned (OpenSpec.ofChange memReadsWrong)

/-- 'cotterellaw10.MemWrites': WHATEVER THE INPUT: true; the input reads as it did. -/
def memWritesSpec : ChangeSpec := { name := "memWrites", fn := fun _ => fun
  | [d1, d2, d3] => { results := [.lit (.bool true)], args := [d1, d2, d3] }
  | _ => none }
def memWritesRow : OpenClaim := { program := "ythinaoelielepaa", sum := "39efd2e24fd8964886574ec0fc503c11202ed01c9960d3d65e4a14ef4373158b", func := "cotterel/cotterellaw10.MemWrites", spec := "memWrites", apart := false }
def MemWritesSaid : Prop := memWritesRow.holds Try.pinned (OpenSpec.ofChange memWritesSpec)

/-- ITS FALSE NEIGHBOUR: 'it returns false'. Refute it at one input. -/
def memWritesWrong : ChangeSpec := { name := "memWrites", fn := fun _ => fun
  | [d1, d2, d3] => { results := [.lit (.bool false)], args := [d1, d2, d3] }
  | _ => none }
def MemWritesWrongFalsely : Prop := memWritesRow.holds Try.pinned (OpenSpec.ofChange memWritesWrong)

/-- 'cotterellaw10.MemChecks': WHATEVER THE INPUT: true; the input reads as it did. -/
def memChecksSpec : ChangeSpec := { name := "memChecks", fn := fun _ => fun
  | [d1, d2] => { results := [.lit (.bool true)], args := [d1, d2] }
  | _ => none }
def memChecksRow : OpenClaim := { program := "ythinaoelielepaa", sum := "39efd2e24fd8964886574ec0fc503c11202ed01c9960d3d65e4a14ef4373158b", func := "cotterel/cotterellaw10.MemChecks", spec := "memChecks", apart := false }
def MemChecksSaid : Prop := memChecksRow.holds Try.pinned (OpenSpec.ofChange memChecksSpec)

/-- ITS FALSE NEIGHBOUR: 'it returns false'. Refute it at one input. -/
def memChecksWrong : ChangeSpec := { name := "memChecks", fn := fun _ => fun
  | [d1, d2] => { results := [.lit (.bool false)], args := [d1, d2] }
  | _ => none }
def MemChecksWrongFalsely : Prop := memChecksRow.holds Try.pinned (OpenSpec.ofChange memChecksWrong)

/-- 'cotterellaw10.MemDiffs': WHATEVER THE INPUT: true; the input reads as it did. -/
def memDiffsSpec : ChangeSpec := { name := "memDiffs", fn := fun _ => fun
  | [d1, d2] => { results := [.lit (.bool true)], args := [d1, d2] }
  | _ => none }
def memDiffsRow : OpenClaim := { program := "ythinaoelielepaa", sum := "39efd2e24fd8964886574ec0fc503c11202ed01c9960d3d65e4a14ef4373158b", func := "cotterel/cotterellaw10.MemDiffs", spec := "memDiffs", apart := false }
def MemDiffsSaid : Prop := memDiffsRow.holds Try.pinned (OpenSpec.ofChange memDiffsSpec)

/-- ITS FALSE NEIGHBOUR: 'it returns false'. Refute it at one input. -/
def memDiffsWrong : ChangeSpec := { name := "memDiffs", fn := fun _ => fun
  | [d1, d2] => { results := [.lit (.bool false)], args := [d1, d2] }
  | _ => none }
def MemDiffsWrongFalsely : Prop := memDiffsRow.holds Try.pinned (OpenSpec.ofChange memDiffsWrong)

/-- 'cotterellaw10.MemKeeps': WHATEVER THE INPUT: true; the input reads as it did. -/
def memKeepsSpec : ChangeSpec := { name := "memKeeps", fn := fun _ => fun
  | [d1, d2, d3] => { results := [.lit (.bool true)], args := [d1, d2, d3] }
  | _ => none }
def memKeepsRow : OpenClaim := { program := "ythinaoelielepaa", sum := "39efd2e24fd8964886574ec0fc503c11202ed01c9960d3d65e4a14ef4373158b", func := "cotterel/cotterellaw10.MemKeeps", spec := "memKeeps", apart := false }
def MemKeepsSaid : Prop := memKeepsRow.holds Try.pinned (OpenSpec.ofChange memKeepsSpec)

/-- ITS FALSE NEIGHBOUR: 'it returns false'. Refute it at one input. -/
def memKeepsWrong : ChangeSpec := { name := "memKeeps", fn := fun _ => fun
  | [d1, d2, d3] => { results := [.lit (.bool false)], args := [d1, d2, d3] }
  | _ => none }
def MemKeepsWrongFalsely : Prop := memKeepsRow.holds Try.pinned (OpenSpec.ofChange memKeepsWrong)

/- THE SECOND FORM. 'bulk': how many values and letters a reading holds, each counted each time it is reached (what is shared counts as often as it is met; a slice's spare places count too). A statement '..UptoSaid' is the law's where the arguments, and the package variables that the reading takes, are together of bulk at most 1048576: NARROWER than '..Said'. Prove '..Said' where nothing that the law and all that it calls make is longer than what came in: it says more and counts as full. Else prove '..UptoSaid'. A law counts once. -/
mutual
def uptoBulk {H : Type} : DataW H → Nat
  | .lit (.string bytes) => bytes.length + 1
  | .lit _ => 1
  | .nil => 1
  | .ptr d => uptoBulk d + 1
  | .slice elems spare => uptoBulkAll elems + uptoBulkAll spare + 1
  | .agg parts => uptoBulkAll parts + 1
  | .iface _ d => uptoBulk d + 1
  | .map entries => uptoBulkEntries entries + 1
  | .held _ => 1
def uptoBulkAll {H : Type} : List (DataW H) → Nat
  | [] => 0
  | d :: r => uptoBulk d + uptoBulkAll r
def uptoBulkEntries {H : Type} : List (Lit × DataW H) → Nat
  | [] => 0
  | x :: r => uptoBulkEntry x + uptoBulkEntries r
def uptoBulkEntry {H : Type} : Lit × DataW H → Nat
  | (.string bytes, d) => bytes.length + uptoBulk d + 1
  | (_, d) => uptoBulk d + 1
 end
def uptoSmall : (H : Type) → List (DataW H) → Bool := fun _ ds => decide (uptoBulkAll ds ≤ 1048576)
def OpenSpec.upto (s : _root_.Go.ChangeSpec) : _root_.Go.OpenSpec := { _root_.Go.OpenSpec.ofChange s with cond := some uptoSmall }

/-- 'cotterellaw10.MemReads', WHERE WHAT IT READS IS OF BULK AT MOST 1048576: true; the input reads as it did. -/
def memReadsUptoRow : OpenClaim := { program := "ythinaoelielepaa", sum := "39efd2e24fd8964886574ec0fc503c11202ed01c9960d3d65e4a14ef4373158b", func := "cotterel/cotterellaw10.MemReads", spec := "memReads", apart := false, narrowed := true }
def MemReadsUptoSaid : Prop := memReadsUptoRow.holds Try.pinned (OpenSpec.upto memReadsSpec)

/-- 'cotterellaw10.MemWrites', WHERE WHAT IT READS IS OF BULK AT MOST 1048576: true; the input reads as it did. -/
def memWritesUptoRow : OpenClaim := { program := "ythinaoelielepaa", sum := "39efd2e24fd8964886574ec0fc503c11202ed01c9960d3d65e4a14ef4373158b", func := "cotterel/cotterellaw10.MemWrites", spec := "memWrites", apart := false, narrowed := true }
def MemWritesUptoSaid : Prop := memWritesUptoRow.holds Try.pinned (OpenSpec.upto memWritesSpec)

/-- 'cotterellaw10.MemChecks', WHERE WHAT IT READS IS OF BULK AT MOST 1048576: true; the input reads as it did. -/
def memChecksUptoRow : OpenClaim := { program := "ythinaoelielepaa", sum := "39efd2e24fd8964886574ec0fc503c11202ed01c9960d3d65e4a14ef4373158b", func := "cotterel/cotterellaw10.MemChecks", spec := "memChecks", apart := false, narrowed := true }
def MemChecksUptoSaid : Prop := memChecksUptoRow.holds Try.pinned (OpenSpec.upto memChecksSpec)

/-- 'cotterellaw10.MemDiffs', WHERE WHAT IT READS IS OF BULK AT MOST 1048576: true; the input reads as it did. -/
def memDiffsUptoRow : OpenClaim := { program := "ythinaoelielepaa", sum := "39efd2e24fd8964886574ec0fc503c11202ed01c9960d3d65e4a14ef4373158b", func := "cotterel/cotterellaw10.MemDiffs", spec := "memDiffs", apart := false, narrowed := true }
def MemDiffsUptoSaid : Prop := memDiffsUptoRow.holds Try.pinned (OpenSpec.upto memDiffsSpec)

/-- 'cotterellaw10.MemKeeps', WHERE WHAT IT READS IS OF BULK AT MOST 1048576: true; the input reads as it did. -/
def memKeepsUptoRow : OpenClaim := { program := "ythinaoelielepaa", sum := "39efd2e24fd8964886574ec0fc503c11202ed01c9960d3d65e4a14ef4373158b", func := "cotterel/cotterellaw10.MemKeeps", spec := "memKeeps", apart := false, narrowed := true }
def MemKeepsUptoSaid : Prop := memKeepsUptoRow.holds Try.pinned (OpenSpec.upto memKeepsSpec)

end Rows
end Go.Proofs.Ythinaoelielepaa
