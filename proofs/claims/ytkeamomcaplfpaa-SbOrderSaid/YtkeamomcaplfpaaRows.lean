/-
  No cell of these rows narrows 'for every input' (looked for: loops, veiled, ifaces, maps, wideKeys, modest, calm, conditions, laid).
  DERIVED. THE GIVEN ROWS OF THIS SEAT. 4 by the template 'for every input the law returns true; each argument reads behind the call as it read before'; 0 by the template 'total and deterministic' (their statements: YtkeamomcaplfpaaTotals.lean).
  GIVEN WITH THE SEED: the statements are not yours to turn. If you find one false, say at which input.
  Laid BY PROGRAM, IN A SANDBOX (cutbox-rows.mjs): the forced cells as the released guide's own fill.sh prints them over the translation d126af2b21fcee8f… (all of the seat's roots in one cut). By AI agents, Wed Nov 11 2026. No macro, syntax, notation, axiom, sorry.
-/
import Derived.Test.YtkeamomcaplfpaaChecked
import GoSem.Claim
import GoSem.ClaimJoined
import GoSem.ClaimMapViews
import Derived.JoinedTies
import Derived.KernelRfl
namespace Go.Proofs.Ytkeamomcaplfpaa
/- THE CELL 'sum', in the pinned program and in every row, IS THE sha256 OF THE DUMP (.gsa) THAT YtkeamomcaplfpaaProg.lean LOADS. Nothing in Lean hashes anything: it is a label: what it is worth is what the hold of that sum in a sandbox is worth. -/
noncomputable def Try.pinned : Pinned := { name := "ytkeamomcaplfpaa", sum := "d126af2b21fcee8ff1c56c8f9bf13f63ba01a6aee9b9c423d11512c0bba042f1", checked := Try.checked }
namespace Rows
def none {H : Type} : Left H := { results := [], args := [] }

/-- 'cotterellaw37.SbHas': WHATEVER THE INPUT: true; the input reads as it did. -/
def sbHasSpec : ChangeSpec := { name := "sbHas", fn := fun _ => fun
  | [d1, d2, d3] => { results := [.lit (.bool true)], args := [d1, d2, d3] }
  | _ => none }
def sbHasRow : OpenClaim := { program := "ytkeamomcaplfpaa", sum := "d126af2b21fcee8ff1c56c8f9bf13f63ba01a6aee9b9c423d11512c0bba042f1", func := "cotterel/cotterellaw37.SbHas", spec := "sbHas", apart := false }
def SbHasSaid : Prop := sbHasRow.holds Try.pinned (OpenSpec.ofChange sbHasSpec)

/-- ITS FALSE NEIGHBOUR: 'it returns false'. Refute it at one input. -/
def sbHasWrong : ChangeSpec := { name := "sbHas", fn := fun _ => fun
  | [d1, d2, d3] => { results := [.lit (.bool false)], args := [d1, d2, d3] }
  | _ => none }
def SbHasWrongFalsely : Prop := sbHasRow.holds Try.pinned (OpenSpec.ofChange sbHasWrong)

/-- 'cotterellaw37.SbPuts': WHATEVER THE INPUT: true; the input reads as it did. -/
def sbPutsSpec : ChangeSpec := { name := "sbPuts", fn := fun _ => fun
  | [d1, d2, d3] => { results := [.lit (.bool true)], args := [d1, d2, d3] }
  | _ => none }
def sbPutsRow : OpenClaim := { program := "ytkeamomcaplfpaa", sum := "d126af2b21fcee8ff1c56c8f9bf13f63ba01a6aee9b9c423d11512c0bba042f1", func := "cotterel/cotterellaw37.SbPuts", spec := "sbPuts", apart := false }
def SbPutsSaid : Prop := sbPutsRow.holds Try.pinned (OpenSpec.ofChange sbPutsSpec)

/-- ITS FALSE NEIGHBOUR: 'it returns false'. Refute it at one input. -/
def sbPutsWrong : ChangeSpec := { name := "sbPuts", fn := fun _ => fun
  | [d1, d2, d3] => { results := [.lit (.bool false)], args := [d1, d2, d3] }
  | _ => none }
def SbPutsWrongFalsely : Prop := sbPutsRow.holds Try.pinned (OpenSpec.ofChange sbPutsWrong)

/-- 'cotterellaw37.SbOrder': WHATEVER THE INPUT: true; the input reads as it did. -/
def sbOrderSpec : ChangeSpec := { name := "sbOrder", fn := fun _ => fun
  | [d1, d2] => { results := [.lit (.bool true)], args := [d1, d2] }
  | _ => none }
def sbOrderRow : OpenClaim := { program := "ytkeamomcaplfpaa", sum := "d126af2b21fcee8ff1c56c8f9bf13f63ba01a6aee9b9c423d11512c0bba042f1", func := "cotterel/cotterellaw37.SbOrder", spec := "sbOrder", apart := false }
def SbOrderSaid : Prop := sbOrderRow.holds Try.pinned (OpenSpec.ofChange sbOrderSpec)

/-- ITS FALSE NEIGHBOUR: 'it returns false'. Refute it at one input. -/
def sbOrderWrong : ChangeSpec := { name := "sbOrder", fn := fun _ => fun
  | [d1, d2] => { results := [.lit (.bool false)], args := [d1, d2] }
  | _ => none }
def SbOrderWrongFalsely : Prop := sbOrderRow.holds Try.pinned (OpenSpec.ofChange sbOrderWrong)

/-- 'cotterellaw37.SbDrains': WHATEVER THE INPUT: true; the input reads as it did. -/
def sbDrainsSpec : ChangeSpec := { name := "sbDrains", fn := fun _ => fun
  | [d1, d2] => { results := [.lit (.bool true)], args := [d1, d2] }
  | _ => none }
def sbDrainsRow : OpenClaim := { program := "ytkeamomcaplfpaa", sum := "d126af2b21fcee8ff1c56c8f9bf13f63ba01a6aee9b9c423d11512c0bba042f1", func := "cotterel/cotterellaw37.SbDrains", spec := "sbDrains", apart := false }
def SbDrainsSaid : Prop := sbDrainsRow.holds Try.pinned (OpenSpec.ofChange sbDrainsSpec)

/-- ITS FALSE NEIGHBOUR: 'it returns false'. Refute it at one input. -/
def sbDrainsWrong : ChangeSpec := { name := "sbDrains", fn := fun _ => fun
  | [d1, d2] => { results := [.lit (.bool false)], args := [d1, d2] }
  | _ => none }
def SbDrainsWrongFalsely : Prop := sbDrainsRow.holds Try.pinned (OpenSpec.ofChange sbDrainsWrong)

/- THE SECOND FORM. 'bulk': how many values and letters a reading holds, each counted each time it is reached (what is shared counts as often as it is met; a slice's spare places count too). A statement '..UptoSaid' is the law's where the arguments, and the package variables that the reading takes, are together of bulk at most 1048576: NARROWER than '..Said'. Prove '..Said' where nothing that the law and all that it calls make is longer than what came in: it says more and counts as full. Else prove '..UptoSaid'. A law counts once. -/
mutual
def uptoBulk {H : Type} : DataW H → Nat
  | .lit (.string bytes) => bytes.length + 1
  | .lit _ => 1
  | .nil => 1
  | .ptr d => uptoBulk d + 1
  | .slice elems spare => uptoBulkAll elems + uptoBulkAll spare + 1
  | .agg parts => uptoBulkAll parts + 1
  | .iface _ d => uptoBulk d + 1
  | .map entries => uptoBulkEntries entries + 1
  | .held _ => 1
def uptoBulkAll {H : Type} : List (DataW H) → Nat
  | [] => 0
  | d :: r => uptoBulk d + uptoBulkAll r
def uptoBulkEntries {H : Type} : List (Lit × DataW H) → Nat
  | [] => 0
  | x :: r => uptoBulkEntry x + uptoBulkEntries r
def uptoBulkEntry {H : Type} : Lit × DataW H → Nat
  | (.string bytes, d) => bytes.length + uptoBulk d + 1
  | (_, d) => uptoBulk d + 1
 end
def uptoSmall : (H : Type) → List (DataW H) → Bool := fun _ ds => decide (uptoBulkAll ds ≤ 1048576)
def OpenSpec.upto (s : _root_.Go.ChangeSpec) : _root_.Go.OpenSpec := { _root_.Go.OpenSpec.ofChange s with cond := some uptoSmall }

/-- 'cotterellaw37.SbHas', WHERE WHAT IT READS IS OF BULK AT MOST 1048576: true; the input reads as it did. -/
def sbHasUptoRow : OpenClaim := { program := "ytkeamomcaplfpaa", sum := "d126af2b21fcee8ff1c56c8f9bf13f63ba01a6aee9b9c423d11512c0bba042f1", func := "cotterel/cotterellaw37.SbHas", spec := "sbHas", apart := false, narrowed := true }
def SbHasUptoSaid : Prop := sbHasUptoRow.holds Try.pinned (OpenSpec.upto sbHasSpec)

/-- 'cotterellaw37.SbPuts', WHERE WHAT IT READS IS OF BULK AT MOST 1048576: true; the input reads as it did. -/
def sbPutsUptoRow : OpenClaim := { program := "ytkeamomcaplfpaa", sum := "d126af2b21fcee8ff1c56c8f9bf13f63ba01a6aee9b9c423d11512c0bba042f1", func := "cotterel/cotterellaw37.SbPuts", spec := "sbPuts", apart := false, narrowed := true }
def SbPutsUptoSaid : Prop := sbPutsUptoRow.holds Try.pinned (OpenSpec.upto sbPutsSpec)

/-- 'cotterellaw37.SbOrder', WHERE WHAT IT READS IS OF BULK AT MOST 1048576: true; the input reads as it did. -/
def sbOrderUptoRow : OpenClaim := { program := "ytkeamomcaplfpaa", sum := "d126af2b21fcee8ff1c56c8f9bf13f63ba01a6aee9b9c423d11512c0bba042f1", func := "cotterel/cotterellaw37.SbOrder", spec := "sbOrder", apart := false, narrowed := true }
def SbOrderUptoSaid : Prop := sbOrderUptoRow.holds Try.pinned (OpenSpec.upto sbOrderSpec)

/-- 'cotterellaw37.SbDrains', WHERE WHAT IT READS IS OF BULK AT MOST 1048576: true; the input reads as it did. -/
def sbDrainsUptoRow : OpenClaim := { program := "ytkeamomcaplfpaa", sum := "d126af2b21fcee8ff1c56c8f9bf13f63ba01a6aee9b9c423d11512c0bba042f1", func := "cotterel/cotterellaw37.SbDrains", spec := "sbDrains", apart := false, narrowed := true }
def SbDrainsUptoSaid : Prop := sbDrainsUptoRow.holds Try.pinned (OpenSpec.upto sbDrainsSpec)

end Rows
end Go.Proofs.Ytkeamomcaplfpaa
