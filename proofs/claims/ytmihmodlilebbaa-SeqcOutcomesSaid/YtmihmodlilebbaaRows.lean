/-
  No cell of these rows narrows 'for every input' (looked for: loops, veiled, ifaces, maps, wideKeys, modest, calm, conditions, laid).
  DERIVED. THE GIVEN ROWS OF THIS SEAT. 3 by the template 'for every input the law returns true; each argument reads behind the call as it read before'; 0 by the template 'total and deterministic' (their statements: YtmihmodlilebbaaTotals.lean).
  GIVEN WITH THE SEED: the statements are not yours to turn. If you find one false, say at which input.
  Laid BY PROGRAM, IN A SANDBOX (cutbox-rows.mjs): the forced cells as the released guide's own fill.sh prints them over the translation 33168c1fd1b1409b… (all of the seat's roots in one cut). By AI agents, Wed Nov 11 2026. No macro, syntax, notation, axiom, sorry.
-/
import Derived.Test.YtmihmodlilebbaaChecked
import GoSem.Claim
import GoSem.ClaimJoined
import GoSem.ClaimMapViews
import Derived.JoinedTies
import Derived.KernelRfl
namespace Go.Proofs.Ytmihmodlilebbaa
/- THE CELL 'sum', in the pinned program and in every row, IS THE sha256 OF THE DUMP (.gsa) THAT YtmihmodlilebbaaProg.lean LOADS. Nothing in Lean hashes anything: it is a label: what it is worth is what the hold of that sum in a sandbox is worth. -/
noncomputable def Try.pinned : Pinned := { name := "ytmihmodlilebbaa", sum := "33168c1fd1b1409bd6b116093790a183739e499aa2550b21d203cae7ec36932d", checked := Try.checked }
namespace Rows
def none {H : Type} : Left H := { results := [], args := [] }

/-- 'cotterellaw55.SeqcOutcomes': WHATEVER THE INPUT: true; the input reads as it did. -/
def seqcOutcomesSpec : ChangeSpec := { name := "seqcOutcomes", fn := fun _ => fun
  | [d1, d2] => { results := [.lit (.bool true)], args := [d1, d2] }
  | _ => none }
def seqcOutcomesRow : OpenClaim := { program := "ytmihmodlilebbaa", sum := "33168c1fd1b1409bd6b116093790a183739e499aa2550b21d203cae7ec36932d", func := "cotterel/cotterellaw55.SeqcOutcomes", spec := "seqcOutcomes", recurses := true, apart := false }
def SeqcOutcomesSaid : Prop := seqcOutcomesRow.holds Try.pinned (OpenSpec.ofChange seqcOutcomesSpec)

/-- ITS FALSE NEIGHBOUR: 'it returns false'. Refute it at one input. -/
def seqcOutcomesWrong : ChangeSpec := { name := "seqcOutcomes", fn := fun _ => fun
  | [d1, d2] => { results := [.lit (.bool false)], args := [d1, d2] }
  | _ => none }
def SeqcOutcomesWrongFalsely : Prop := seqcOutcomesRow.holds Try.pinned (OpenSpec.ofChange seqcOutcomesWrong)

/-- 'cotterellaw55.SeqcRuns': WHATEVER THE INPUT: true; the input reads as it did. -/
def seqcRunsSpec : ChangeSpec := { name := "seqcRuns", fn := fun _ => fun
  | [d1, d2, d3] => { results := [.lit (.bool true)], args := [d1, d2, d3] }
  | _ => none }
def seqcRunsRow : OpenClaim := { program := "ytmihmodlilebbaa", sum := "33168c1fd1b1409bd6b116093790a183739e499aa2550b21d203cae7ec36932d", func := "cotterel/cotterellaw55.SeqcRuns", spec := "seqcRuns", recurses := true, apart := false }
def SeqcRunsSaid : Prop := seqcRunsRow.holds Try.pinned (OpenSpec.ofChange seqcRunsSpec)

/-- ITS FALSE NEIGHBOUR: 'it returns false'. Refute it at one input. -/
def seqcRunsWrong : ChangeSpec := { name := "seqcRuns", fn := fun _ => fun
  | [d1, d2, d3] => { results := [.lit (.bool false)], args := [d1, d2, d3] }
  | _ => none }
def SeqcRunsWrongFalsely : Prop := seqcRunsRow.holds Try.pinned (OpenSpec.ofChange seqcRunsWrong)

/-- 'cotterellaw55.SeqcFences': WHATEVER THE INPUT: true; the input reads as it did. -/
def seqcFencesSpec : ChangeSpec := { name := "seqcFences", fn := fun _ => fun
  | [d] => { results := [.lit (.bool true)], args := [d] }
  | _ => none }
def seqcFencesRow : OpenClaim := { program := "ytmihmodlilebbaa", sum := "33168c1fd1b1409bd6b116093790a183739e499aa2550b21d203cae7ec36932d", func := "cotterel/cotterellaw55.SeqcFences", spec := "seqcFences", recurses := true, apart := false }
def SeqcFencesSaid : Prop := seqcFencesRow.holds Try.pinned (OpenSpec.ofChange seqcFencesSpec)

/-- ITS FALSE NEIGHBOUR: 'it returns false'. Refute it at one input. -/
def seqcFencesWrong : ChangeSpec := { name := "seqcFences", fn := fun _ => fun
  | [d] => { results := [.lit (.bool false)], args := [d] }
  | _ => none }
def SeqcFencesWrongFalsely : Prop := seqcFencesRow.holds Try.pinned (OpenSpec.ofChange seqcFencesWrong)

/- THE SECOND FORM. 'bulk': how many values and letters a reading holds, each counted each time it is reached (what is shared counts as often as it is met; a slice's spare places count too). A statement '..UptoSaid' is the law's where the arguments, and the package variables that the reading takes, are together of bulk at most 1048576: NARROWER than '..Said'. Prove '..Said' where nothing that the law and all that it calls make is longer than what came in: it says more and counts as full. Else prove '..UptoSaid'. A law counts once. -/
mutual
def uptoBulk {H : Type} : DataW H → Nat
  | .lit (.string bytes) => bytes.length + 1
  | .lit _ => 1
  | .nil => 1
  | .ptr d => uptoBulk d + 1
  | .slice elems spare => uptoBulkAll elems + uptoBulkAll spare + 1
  | .agg parts => uptoBulkAll parts + 1
  | .iface _ d => uptoBulk d + 1
  | .map entries => uptoBulkEntries entries + 1
  | .held _ => 1
def uptoBulkAll {H : Type} : List (DataW H) → Nat
  | [] => 0
  | d :: r => uptoBulk d + uptoBulkAll r
def uptoBulkEntries {H : Type} : List (Lit × DataW H) → Nat
  | [] => 0
  | x :: r => uptoBulkEntry x + uptoBulkEntries r
def uptoBulkEntry {H : Type} : Lit × DataW H → Nat
  | (.string bytes, d) => bytes.length + uptoBulk d + 1
  | (_, d) => uptoBulk d + 1
 end
def uptoSmall : (H : Type) → List (DataW H) → Bool := fun _ ds => decide (uptoBulkAll ds ≤ 1048576)
def OpenSpec.upto (s : _root_.Go.ChangeSpec) : _root_.Go.OpenSpec := { _root_.Go.OpenSpec.ofChange s with cond := some uptoSmall }

/-- 'cotterellaw55.SeqcOutcomes', WHERE WHAT IT READS IS OF BULK AT MOST 1048576: true; the input reads as it did. -/
def seqcOutcomesUptoRow : OpenClaim := { program := "ytmihmodlilebbaa", sum := "33168c1fd1b1409bd6b116093790a183739e499aa2550b21d203cae7ec36932d", func := "cotterel/cotterellaw55.SeqcOutcomes", spec := "seqcOutcomes", recurses := true, apart := false, narrowed := true }
def SeqcOutcomesUptoSaid : Prop := seqcOutcomesUptoRow.holds Try.pinned (OpenSpec.upto seqcOutcomesSpec)

/-- 'cotterellaw55.SeqcRuns', WHERE WHAT IT READS IS OF BULK AT MOST 1048576: true; the input reads as it did. -/
def seqcRunsUptoRow : OpenClaim := { program := "ytmihmodlilebbaa", sum := "33168c1fd1b1409bd6b116093790a183739e499aa2550b21d203cae7ec36932d", func := "cotterel/cotterellaw55.SeqcRuns", spec := "seqcRuns", recurses := true, apart := false, narrowed := true }
def SeqcRunsUptoSaid : Prop := seqcRunsUptoRow.holds Try.pinned (OpenSpec.upto seqcRunsSpec)

/-- 'cotterellaw55.SeqcFences', WHERE WHAT IT READS IS OF BULK AT MOST 1048576: true; the input reads as it did. -/
def seqcFencesUptoRow : OpenClaim := { program := "ytmihmodlilebbaa", sum := "33168c1fd1b1409bd6b116093790a183739e499aa2550b21d203cae7ec36932d", func := "cotterel/cotterellaw55.SeqcFences", spec := "seqcFences", recurses := true, apart := false, narrowed := true }
def SeqcFencesUptoSaid : Prop := seqcFencesUptoRow.holds Try.pinned (OpenSpec.upto seqcFencesSpec)

end Rows
end Go.Proofs.Ytmihmodlilebbaa
