/-
  No cell of these rows narrows 'for every input' (looked for: loops, veiled, ifaces, maps, wideKeys, modest, calm, conditions, laid).
  DERIVED. THE GIVEN ROWS OF THIS SEAT. 4 by the template 'for every input the law returns true; each argument reads behind the call as it read before'; 0 by the template 'total and deterministic' (their statements: YtkcncghdpjoodaaTotals.lean).
  GIVEN WITH THE SEED: the statements are not yours to turn. If you find one false, say at which input.
  Laid BY PROGRAM, IN A SANDBOX (cutbox-rows.mjs): the forced cells as the released guide's own fill.sh prints them over the translation 60de70562fd0100d… (all of the seat's roots in one cut). By AI agents, Wed Nov 11 2026. No macro, syntax, notation, axiom, sorry.
-/
import Derived.Test.YtkcncghdpjoodaaChecked
import GoSem.Claim
import GoSem.ClaimJoined
import GoSem.ClaimMapViews
import Derived.JoinedTies
import Derived.KernelRfl
namespace Go.Proofs.Ytkcncghdpjoodaa
/- THE CELL 'sum', in the pinned program and in every row, IS THE sha256 OF THE DUMP (.gsa) THAT YtkcncghdpjoodaaProg.lean LOADS. Nothing in Lean hashes anything: it is a label: what it is worth is what the hold of that sum in a sandbox is worth. -/
noncomputable def Try.pinned : Pinned := { name := "ytkcncghdpjoodaa", sum := "60de70562fd0100dcb9971bba1a160100dbc6e1fa3e7ddcb5d2c9aa146bc79cc", checked := Try.checked }
namespace Rows
def none {H : Type} : Left H := { results := [], args := [] }

/-- 'cotterellaw22.TlbPuts': WHATEVER THE INPUT: true; the input reads as it did. -/
def tlbPutsSpec : ChangeSpec := { name := "tlbPuts", fn := fun _ => fun
  | [d1, d2] => { results := [.lit (.bool true)], args := [d1, d2] }
  | _ => none }
def tlbPutsRow : OpenClaim := { program := "ytkcncghdpjoodaa", sum := "60de70562fd0100dcb9971bba1a160100dbc6e1fa3e7ddcb5d2c9aa146bc79cc", func := "cotterel/cotterellaw22.TlbPuts", spec := "tlbPuts", unfollowed := true, recurses := true, apart := false }
def TlbPutsSaid : Prop := tlbPutsRow.holds Try.pinned (OpenSpec.ofChange tlbPutsSpec)

/-- ITS FALSE NEIGHBOUR: 'it returns false'. Refute it at one input. -/
def tlbPutsWrong : ChangeSpec := { name := "tlbPuts", fn := fun _ => fun
  | [d1, d2] => { results := [.lit (.bool false)], args := [d1, d2] }
  | _ => none }
def TlbPutsWrongFalsely : Prop := tlbPutsRow.holds Try.pinned (OpenSpec.ofChange tlbPutsWrong)

/-- 'cotterellaw22.TlbTrans': WHATEVER THE INPUT: true; the input reads as it did. -/
def tlbTransSpec : ChangeSpec := { name := "tlbTrans", fn := fun _ => fun
  | [d1, d2, d3] => { results := [.lit (.bool true)], args := [d1, d2, d3] }
  | _ => none }
def tlbTransRow : OpenClaim := { program := "ytkcncghdpjoodaa", sum := "60de70562fd0100dcb9971bba1a160100dbc6e1fa3e7ddcb5d2c9aa146bc79cc", func := "cotterel/cotterellaw22.TlbTrans", spec := "tlbTrans", unfollowed := true, recurses := true, apart := false }
def TlbTransSaid : Prop := tlbTransRow.holds Try.pinned (OpenSpec.ofChange tlbTransSpec)

/-- ITS FALSE NEIGHBOUR: 'it returns false'. Refute it at one input. -/
def tlbTransWrong : ChangeSpec := { name := "tlbTrans", fn := fun _ => fun
  | [d1, d2, d3] => { results := [.lit (.bool false)], args := [d1, d2, d3] }
  | _ => none }
def TlbTransWrongFalsely : Prop := tlbTransRow.holds Try.pinned (OpenSpec.ofChange tlbTransWrong)

/-- 'cotterellaw22.TlbFinds': WHATEVER THE INPUT: true; the input reads as it did. -/
def tlbFindsSpec : ChangeSpec := { name := "tlbFinds", fn := fun _ => fun
  | [d1, d2] => { results := [.lit (.bool true)], args := [d1, d2] }
  | _ => none }
def tlbFindsRow : OpenClaim := { program := "ytkcncghdpjoodaa", sum := "60de70562fd0100dcb9971bba1a160100dbc6e1fa3e7ddcb5d2c9aa146bc79cc", func := "cotterel/cotterellaw22.TlbFinds", spec := "tlbFinds", unfollowed := true, recurses := true, apart := false }
def TlbFindsSaid : Prop := tlbFindsRow.holds Try.pinned (OpenSpec.ofChange tlbFindsSpec)

/-- ITS FALSE NEIGHBOUR: 'it returns false'. Refute it at one input. -/
def tlbFindsWrong : ChangeSpec := { name := "tlbFinds", fn := fun _ => fun
  | [d1, d2] => { results := [.lit (.bool false)], args := [d1, d2] }
  | _ => none }
def TlbFindsWrongFalsely : Prop := tlbFindsRow.holds Try.pinned (OpenSpec.ofChange tlbFindsWrong)

/-- 'cotterellaw22.TlbSame': WHATEVER THE INPUT: true; the input reads as it did. -/
def tlbSameSpec : ChangeSpec := { name := "tlbSame", fn := fun _ => fun
  | [d1, d2, d3] => { results := [.lit (.bool true)], args := [d1, d2, d3] }
  | _ => none }
def tlbSameRow : OpenClaim := { program := "ytkcncghdpjoodaa", sum := "60de70562fd0100dcb9971bba1a160100dbc6e1fa3e7ddcb5d2c9aa146bc79cc", func := "cotterel/cotterellaw22.TlbSame", spec := "tlbSame", unfollowed := true, recurses := true, apart := false }
def TlbSameSaid : Prop := tlbSameRow.holds Try.pinned (OpenSpec.ofChange tlbSameSpec)

/-- ITS FALSE NEIGHBOUR: 'it returns false'. Refute it at one input. -/
def tlbSameWrong : ChangeSpec := { name := "tlbSame", fn := fun _ => fun
  | [d1, d2, d3] => { results := [.lit (.bool false)], args := [d1, d2, d3] }
  | _ => none }
def TlbSameWrongFalsely : Prop := tlbSameRow.holds Try.pinned (OpenSpec.ofChange tlbSameWrong)

/- THE SECOND FORM. 'bulk': how many values and letters a reading holds, each counted each time it is reached (what is shared counts as often as it is met; a slice's spare places count too). A statement '..UptoSaid' is the law's where the arguments, and the package variables that the reading takes, are together of bulk at most 1048576: NARROWER than '..Said'. Prove '..Said' where nothing that the law and all that it calls make is longer than what came in: it says more and counts as full. Else prove '..UptoSaid'. A law counts once. -/
mutual
def uptoBulk {H : Type} : DataW H → Nat
  | .lit (.string bytes) => bytes.length + 1
  | .lit _ => 1
  | .nil => 1
  | .ptr d => uptoBulk d + 1
  | .slice elems spare => uptoBulkAll elems + uptoBulkAll spare + 1
  | .agg parts => uptoBulkAll parts + 1
  | .iface _ d => uptoBulk d + 1
  | .map entries => uptoBulkEntries entries + 1
  | .held _ => 1
def uptoBulkAll {H : Type} : List (DataW H) → Nat
  | [] => 0
  | d :: r => uptoBulk d + uptoBulkAll r
def uptoBulkEntries {H : Type} : List (Lit × DataW H) → Nat
  | [] => 0
  | x :: r => uptoBulkEntry x + uptoBulkEntries r
def uptoBulkEntry {H : Type} : Lit × DataW H → Nat
  | (.string bytes, d) => bytes.length + uptoBulk d + 1
  | (_, d) => uptoBulk d + 1
 end
def uptoSmall : (H : Type) → List (DataW H) → Bool := fun _ ds => decide (uptoBulkAll ds ≤ 1048576)
def OpenSpec.upto (s : _root_.Go.ChangeSpec) : _root_.Go.OpenSpec := { _root_.Go.OpenSpec.ofChange s with cond := some uptoSmall }

/-- 'cotterellaw22.TlbPuts', WHERE WHAT IT READS IS OF BULK AT MOST 1048576: true; the input reads as it did. -/
def tlbPutsUptoRow : OpenClaim := { program := "ytkcncghdpjoodaa", sum := "60de70562fd0100dcb9971bba1a160100dbc6e1fa3e7ddcb5d2c9aa146bc79cc", func := "cotterel/cotterellaw22.TlbPuts", spec := "tlbPuts", unfollowed := true, recurses := true, apart := false, narrowed := true }
def TlbPutsUptoSaid : Prop := tlbPutsUptoRow.holds Try.pinned (OpenSpec.upto tlbPutsSpec)

/-- 'cotterellaw22.TlbTrans', WHERE WHAT IT READS IS OF BULK AT MOST 1048576: true; the input reads as it did. -/
def tlbTransUptoRow : OpenClaim := { program := "ytkcncghdpjoodaa", sum := "60de70562fd0100dcb9971bba1a160100dbc6e1fa3e7ddcb5d2c9aa146bc79cc", func := "cotterel/cotterellaw22.TlbTrans", spec := "tlbTrans", unfollowed := true, recurses := true, apart := false, narrowed := true }
def TlbTransUptoSaid : Prop := tlbTransUptoRow.holds Try.pinned (OpenSpec.upto tlbTransSpec)

/-- 'cotterellaw22.TlbFinds', WHERE WHAT IT READS IS OF BULK AT MOST 1048576: true; the input reads as it did. -/
def tlbFindsUptoRow : OpenClaim := { program := "ytkcncghdpjoodaa", sum := "60de70562fd0100dcb9971bba1a160100dbc6e1fa3e7ddcb5d2c9aa146bc79cc", func := "cotterel/cotterellaw22.TlbFinds", spec := "tlbFinds", unfollowed := true, recurses := true, apart := false, narrowed := true }
def TlbFindsUptoSaid : Prop := tlbFindsUptoRow.holds Try.pinned (OpenSpec.upto tlbFindsSpec)

/-- 'cotterellaw22.TlbSame', WHERE WHAT IT READS IS OF BULK AT MOST 1048576: true; the input reads as it did. -/
def tlbSameUptoRow : OpenClaim := { program := "ytkcncghdpjoodaa", sum := "60de70562fd0100dcb9971bba1a160100dbc6e1fa3e7ddcb5d2c9aa146bc79cc", func := "cotterel/cotterellaw22.TlbSame", spec := "tlbSame", unfollowed := true, recurses := true, apart := false, narrowed := true }
def TlbSameUptoSaid : Prop := tlbSameUptoRow.holds Try.pinned (OpenSpec.upto tlbSameSpec)

end Rows
end Go.Proofs.Ytkcncghdpjoodaa
