/-
  No cell of these rows narrows 'for every input' (looked for: loops, veiled, ifaces, maps, wideKeys, modest, calm, conditions, laid).
  DERIVED. THE GIVEN ROWS OF THIS SEAT. 3 by the template 'for every input the law returns true; each argument reads behind the call as it read before'; 0 by the template 'total and deterministic' (their statements: YtgmapojiangcgaaTotals.lean).
  GIVEN WITH THE SEED: the statements are not yours to turn. If you find one false, say at which input.
  Laid BY PROGRAM, IN A SANDBOX (cutbox-rows.mjs): the forced cells as the released guide's own fill.sh prints them over the translation 88d3dbb027e4f669… (all of the seat's roots in one cut). By AI agents, Wed Nov 11 2026. No macro, syntax, notation, axiom, sorry.
-/
import Derived.Test.YtgmapojiangcgaaChecked
import GoSem.Claim
import GoSem.ClaimJoined
import GoSem.ClaimMapViews
import Derived.JoinedTies
import Derived.KernelRfl
namespace Go.Proofs.Ytgmapojiangcgaa
/- THE CELL 'sum', in the pinned program and in every row, IS THE sha256 OF THE DUMP (.gsa) THAT YtgmapojiangcgaaProg.lean LOADS. Nothing in Lean hashes anything: it is a label: what it is worth is what the hold of that sum in a sandbox is worth. -/
noncomputable def Try.pinned : Pinned := { name := "ytgmapojiangcgaa", sum := "88d3dbb027e4f6696ecc91da5c71d9d4f08a9a8bc57dd54796329d0f69eeb131", checked := Try.checked }
namespace Rows
def none {H : Type} : Left H := { results := [], args := [] }

/-- 'cotterellaw38.MesiLegal': WHATEVER THE INPUT: true; the input reads as it did. -/
def mesiLegalSpec : ChangeSpec := { name := "mesiLegal", fn := fun _ => fun
  | [d] => { results := [.lit (.bool true)], args := [d] }
  | _ => none }
def mesiLegalRow : OpenClaim := { program := "ytgmapojiangcgaa", sum := "88d3dbb027e4f6696ecc91da5c71d9d4f08a9a8bc57dd54796329d0f69eeb131", func := "cotterel/cotterellaw38.MesiLegal", spec := "mesiLegal", unfollowed := true, recurses := true, apart := false }
def MesiLegalSaid : Prop := mesiLegalRow.holds Try.pinned (OpenSpec.ofChange mesiLegalSpec)

/-- ITS FALSE NEIGHBOUR: 'it returns false'. Refute it at one input. -/
def mesiLegalWrong : ChangeSpec := { name := "mesiLegal", fn := fun _ => fun
  | [d] => { results := [.lit (.bool false)], args := [d] }
  | _ => none }
def MesiLegalWrongFalsely : Prop := mesiLegalRow.holds Try.pinned (OpenSpec.ofChange mesiLegalWrong)

/-- 'cotterellaw38.MesiTells': WHATEVER THE INPUT: true; the input reads as it did. -/
def mesiTellsSpec : ChangeSpec := { name := "mesiTells", fn := fun _ => fun
  | [d1, d2, d3] => { results := [.lit (.bool true)], args := [d1, d2, d3] }
  | _ => none }
def mesiTellsRow : OpenClaim := { program := "ytgmapojiangcgaa", sum := "88d3dbb027e4f6696ecc91da5c71d9d4f08a9a8bc57dd54796329d0f69eeb131", func := "cotterel/cotterellaw38.MesiTells", spec := "mesiTells", unfollowed := true, recurses := true, apart := false }
def MesiTellsSaid : Prop := mesiTellsRow.holds Try.pinned (OpenSpec.ofChange mesiTellsSpec)

/-- ITS FALSE NEIGHBOUR: 'it returns false'. Refute it at one input. -/
def mesiTellsWrong : ChangeSpec := { name := "mesiTells", fn := fun _ => fun
  | [d1, d2, d3] => { results := [.lit (.bool false)], args := [d1, d2, d3] }
  | _ => none }
def MesiTellsWrongFalsely : Prop := mesiTellsRow.holds Try.pinned (OpenSpec.ofChange mesiTellsWrong)

/-- 'cotterellaw38.MesiStays': WHATEVER THE INPUT: true; the input reads as it did. -/
def mesiStaysSpec : ChangeSpec := { name := "mesiStays", fn := fun _ => fun
  | [d1, d2, d3] => { results := [.lit (.bool true)], args := [d1, d2, d3] }
  | _ => none }
def mesiStaysRow : OpenClaim := { program := "ytgmapojiangcgaa", sum := "88d3dbb027e4f6696ecc91da5c71d9d4f08a9a8bc57dd54796329d0f69eeb131", func := "cotterel/cotterellaw38.MesiStays", spec := "mesiStays", unfollowed := true, recurses := true, apart := false }
def MesiStaysSaid : Prop := mesiStaysRow.holds Try.pinned (OpenSpec.ofChange mesiStaysSpec)

/-- ITS FALSE NEIGHBOUR: 'it returns false'. Refute it at one input. -/
def mesiStaysWrong : ChangeSpec := { name := "mesiStays", fn := fun _ => fun
  | [d1, d2, d3] => { results := [.lit (.bool false)], args := [d1, d2, d3] }
  | _ => none }
def MesiStaysWrongFalsely : Prop := mesiStaysRow.holds Try.pinned (OpenSpec.ofChange mesiStaysWrong)

/- THE SECOND FORM. 'bulk': how many values and letters a reading holds, each counted each time it is reached (what is shared counts as often as it is met; a slice's spare places count too). A statement '..UptoSaid' is the law's where the arguments, and the package variables that the reading takes, are together of bulk at most 1048576: NARROWER than '..Said'. Prove '..Said' where nothing that the law and all that it calls make is longer than what came in: it says more and counts as full. Else prove '..UptoSaid'. A law counts once. -/
mutual
def uptoBulk {H : Type} : DataW H → Nat
  | .lit (.string bytes) => bytes.length + 1
  | .lit _ => 1
  | .nil => 1
  | .ptr d => uptoBulk d + 1
  | .slice elems spare => uptoBulkAll elems + uptoBulkAll spare + 1
  | .agg parts => uptoBulkAll parts + 1
  | .iface _ d => uptoBulk d + 1
  | .map entries => uptoBulkEntries entries + 1
  | .held _ => 1
def uptoBulkAll {H : Type} : List (DataW H) → Nat
  | [] => 0
  | d :: r => uptoBulk d + uptoBulkAll r
def uptoBulkEntries {H : Type} : List (Lit × DataW H) → Nat
  | [] => 0
  | x :: r => uptoBulkEntry x + uptoBulkEntries r
def uptoBulkEntry {H : Type} : Lit × DataW H → Nat
  | (.string bytes, d) => bytes.length + uptoBulk d + 1
  | (_, d) => uptoBulk d + 1
 end
def uptoSmall : (H : Type) → List (DataW H) → Bool := fun _ ds => decide (uptoBulkAll ds ≤ 1048576)
def OpenSpec.upto (s : _root_.Go.ChangeSpec) : _root_.Go.OpenSpec := { _root_.Go.OpenSpec.ofChange s with cond := some uptoSmall }

/-- 'cotterellaw38.MesiLegal', WHERE WHAT IT READS IS OF BULK AT MOST 1048576: true; the input reads as it did. -/
def mesiLegalUptoRow : OpenClaim := { program := "ytgmapojiangcgaa", sum := "88d3dbb027e4f6696ecc91da5c71d9d4f08a9a8bc57dd54796329d0f69eeb131", func := "cotterel/cotterellaw38.MesiLegal", spec := "mesiLegal", unfollowed := true, recurses := true, apart := false, narrowed := true }
def MesiLegalUptoSaid : Prop := mesiLegalUptoRow.holds Try.pinned (OpenSpec.upto mesiLegalSpec)

/-- 'cotterellaw38.MesiTells', WHERE WHAT IT READS IS OF BULK AT MOST 1048576: true; the input reads as it did. -/
def mesiTellsUptoRow : OpenClaim := { program := "ytgmapojiangcgaa", sum := "88d3dbb027e4f6696ecc91da5c71d9d4f08a9a8bc57dd54796329d0f69eeb131", func := "cotterel/cotterellaw38.MesiTells", spec := "mesiTells", unfollowed := true, recurses := true, apart := false, narrowed := true }
def MesiTellsUptoSaid : Prop := mesiTellsUptoRow.holds Try.pinned (OpenSpec.upto mesiTellsSpec)

/-- 'cotterellaw38.MesiStays', WHERE WHAT IT READS IS OF BULK AT MOST 1048576: true; the input reads as it did. -/
def mesiStaysUptoRow : OpenClaim := { program := "ytgmapojiangcgaa", sum := "88d3dbb027e4f6696ecc91da5c71d9d4f08a9a8bc57dd54796329d0f69eeb131", func := "cotterel/cotterellaw38.MesiStays", spec := "mesiStays", unfollowed := true, recurses := true, apart := false, narrowed := true }
def MesiStaysUptoSaid : Prop := mesiStaysUptoRow.holds Try.pinned (OpenSpec.upto mesiStaysSpec)

end Rows
end Go.Proofs.Ytgmapojiangcgaa
