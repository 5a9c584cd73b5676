/-
  No cell of these rows narrows 'for every input' (looked for: loops, veiled, ifaces, maps, wideKeys, modest, calm, conditions, laid).
  DERIVED. THE GIVEN ROWS OF THIS SEAT. 3 by the template 'for every input the law returns true; each argument reads behind the call as it read before'; 0 by the template 'total and deterministic' (their statements: YtikeeegkndnnfaaTotals.lean).
  GIVEN WITH THE SEED: the statements are not yours to turn. If you find one false, say at which input.
  Laid BY PROGRAM, IN A SANDBOX (cutbox-rows.mjs): the forced cells as the released guide's own fill.sh prints them over the translation bfdbaee6ee790a05… (all of the seat's roots in one cut). By AI agents, Wed Nov 11 2026. No macro, syntax, notation, axiom, sorry.
-/
import Derived.Test.YtikeeegkndnnfaaChecked
import GoSem.Claim
import GoSem.ClaimJoined
import GoSem.ClaimMapViews
import Derived.JoinedTies
import Derived.KernelRfl
namespace Go.Proofs.Ytikeeegkndnnfaa
/- THE CELL 'sum', in the pinned program and in every row, IS THE sha256 OF THE DUMP (.gsa) THAT YtikeeegkndnnfaaProg.lean LOADS. Nothing in Lean hashes anything: it is a label: what it is worth is what the hold of that sum in a sandbox is worth. -/
noncomputable def Try.pinned : Pinned := { name := "ytikeeegkndnnfaa", sum := "bfdbaee6ee790a05419f2ce95673f389e97bd0922b5d9bf992116895b67648cf", checked := Try.checked }
namespace Rows
def none {H : Type} : Left H := { results := [], args := [] }

/-- 'cotterellaw41.CohNew': WHATEVER THE INPUT: true; the input reads as it did. -/
def cohNewSpec : ChangeSpec := { name := "cohNew", fn := fun _ => fun
  | [d1, d2] => { results := [.lit (.bool true)], args := [d1, d2] }
  | _ => none }
def cohNewRow : OpenClaim := { program := "ytikeeegkndnnfaa", sum := "bfdbaee6ee790a05419f2ce95673f389e97bd0922b5d9bf992116895b67648cf", func := "cotterel/cotterellaw41.CohNew", spec := "cohNew", unfollowed := true, recurses := true, apart := false }
def CohNewSaid : Prop := cohNewRow.holds Try.pinned (OpenSpec.ofChange cohNewSpec)

/-- ITS FALSE NEIGHBOUR: 'it returns false'. Refute it at one input. -/
def cohNewWrong : ChangeSpec := { name := "cohNew", fn := fun _ => fun
  | [d1, d2] => { results := [.lit (.bool false)], args := [d1, d2] }
  | _ => none }
def CohNewWrongFalsely : Prop := cohNewRow.holds Try.pinned (OpenSpec.ofChange cohNewWrong)

/-- 'cotterellaw41.CohOne': WHATEVER THE INPUT: true; the input reads as it did. -/
def cohOneSpec : ChangeSpec := { name := "cohOne", fn := fun _ => fun
  | [d1, d2] => { results := [.lit (.bool true)], args := [d1, d2] }
  | _ => none }
def cohOneRow : OpenClaim := { program := "ytikeeegkndnnfaa", sum := "bfdbaee6ee790a05419f2ce95673f389e97bd0922b5d9bf992116895b67648cf", func := "cotterel/cotterellaw41.CohOne", spec := "cohOne", unfollowed := true, recurses := true, apart := false }
def CohOneSaid : Prop := cohOneRow.holds Try.pinned (OpenSpec.ofChange cohOneSpec)

/-- ITS FALSE NEIGHBOUR: 'it returns false'. Refute it at one input. -/
def cohOneWrong : ChangeSpec := { name := "cohOne", fn := fun _ => fun
  | [d1, d2] => { results := [.lit (.bool false)], args := [d1, d2] }
  | _ => none }
def CohOneWrongFalsely : Prop := cohOneRow.holds Try.pinned (OpenSpec.ofChange cohOneWrong)

/-- 'cotterellaw41.CohAlone': WHATEVER THE INPUT: true; the input reads as it did. -/
def cohAloneSpec : ChangeSpec := { name := "cohAlone", fn := fun _ => fun
  | [d1, d2] => { results := [.lit (.bool true)], args := [d1, d2] }
  | _ => none }
def cohAloneRow : OpenClaim := { program := "ytikeeegkndnnfaa", sum := "bfdbaee6ee790a05419f2ce95673f389e97bd0922b5d9bf992116895b67648cf", func := "cotterel/cotterellaw41.CohAlone", spec := "cohAlone", unfollowed := true, recurses := true, apart := false }
def CohAloneSaid : Prop := cohAloneRow.holds Try.pinned (OpenSpec.ofChange cohAloneSpec)

/-- ITS FALSE NEIGHBOUR: 'it returns false'. Refute it at one input. -/
def cohAloneWrong : ChangeSpec := { name := "cohAlone", fn := fun _ => fun
  | [d1, d2] => { results := [.lit (.bool false)], args := [d1, d2] }
  | _ => none }
def CohAloneWrongFalsely : Prop := cohAloneRow.holds Try.pinned (OpenSpec.ofChange cohAloneWrong)

/- THE SECOND FORM. 'bulk': how many values and letters a reading holds, each counted each time it is reached (what is shared counts as often as it is met; a slice's spare places count too). A statement '..UptoSaid' is the law's where the arguments, and the package variables that the reading takes, are together of bulk at most 1048576: NARROWER than '..Said'. Prove '..Said' where nothing that the law and all that it calls make is longer than what came in: it says more and counts as full. Else prove '..UptoSaid'. A law counts once. -/
mutual
def uptoBulk {H : Type} : DataW H → Nat
  | .lit (.string bytes) => bytes.length + 1
  | .lit _ => 1
  | .nil => 1
  | .ptr d => uptoBulk d + 1
  | .slice elems spare => uptoBulkAll elems + uptoBulkAll spare + 1
  | .agg parts => uptoBulkAll parts + 1
  | .iface _ d => uptoBulk d + 1
  | .map entries => uptoBulkEntries entries + 1
  | .held _ => 1
def uptoBulkAll {H : Type} : List (DataW H) → Nat
  | [] => 0
  | d :: r => uptoBulk d + uptoBulkAll r
def uptoBulkEntries {H : Type} : List (Lit × DataW H) → Nat
  | [] => 0
  | x :: r => uptoBulkEntry x + uptoBulkEntries r
def uptoBulkEntry {H : Type} : Lit × DataW H → Nat
  | (.string bytes, d) => bytes.length + uptoBulk d + 1
  | (_, d) => uptoBulk d + 1
 end
def uptoSmall : (H : Type) → List (DataW H) → Bool := fun _ ds => decide (uptoBulkAll ds ≤ 1048576)
def OpenSpec.upto (s : _root_.Go.ChangeSpec) : _root_.Go.OpenSpec := { _root_.Go.OpenSpec.ofChange s with cond := some uptoSmall }

/-- 'cotterellaw41.CohNew', WHERE WHAT IT READS IS OF BULK AT MOST 1048576: true; the input reads as it did. -/
def cohNewUptoRow : OpenClaim := { program := "ytikeeegkndnnfaa", sum := "bfdbaee6ee790a05419f2ce95673f389e97bd0922b5d9bf992116895b67648cf", func := "cotterel/cotterellaw41.CohNew", spec := "cohNew", unfollowed := true, recurses := true, apart := false, narrowed := true }
def CohNewUptoSaid : Prop := cohNewUptoRow.holds Try.pinned (OpenSpec.upto cohNewSpec)

/-- 'cotterellaw41.CohOne', WHERE WHAT IT READS IS OF BULK AT MOST 1048576: true; the input reads as it did. -/
def cohOneUptoRow : OpenClaim := { program := "ytikeeegkndnnfaa", sum := "bfdbaee6ee790a05419f2ce95673f389e97bd0922b5d9bf992116895b67648cf", func := "cotterel/cotterellaw41.CohOne", spec := "cohOne", unfollowed := true, recurses := true, apart := false, narrowed := true }
def CohOneUptoSaid : Prop := cohOneUptoRow.holds Try.pinned (OpenSpec.upto cohOneSpec)

/-- 'cotterellaw41.CohAlone', WHERE WHAT IT READS IS OF BULK AT MOST 1048576: true; the input reads as it did. -/
def cohAloneUptoRow : OpenClaim := { program := "ytikeeegkndnnfaa", sum := "bfdbaee6ee790a05419f2ce95673f389e97bd0922b5d9bf992116895b67648cf", func := "cotterel/cotterellaw41.CohAlone", spec := "cohAlone", unfollowed := true, recurses := true, apart := false, narrowed := true }
def CohAloneUptoSaid : Prop := cohAloneUptoRow.holds Try.pinned (OpenSpec.upto cohAloneSpec)

end Rows
end Go.Proofs.Ytikeeegkndnnfaa
