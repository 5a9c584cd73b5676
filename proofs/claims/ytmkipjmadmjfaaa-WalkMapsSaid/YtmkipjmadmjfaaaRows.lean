/-
  No cell of these rows narrows 'for every input' (looked for: loops, veiled, ifaces, maps, wideKeys, modest, calm, conditions, laid).
  DERIVED. THE GIVEN ROWS OF THIS SEAT. 5 by the template 'for every input the law returns true; each argument reads behind the call as it read before'; 0 by the template 'total and deterministic' (their statements: YtmkipjmadmjfaaaTotals.lean).
  GIVEN WITH THE SEED: the statements are not yours to turn. If you find one false, say at which input.
  Laid BY PROGRAM, IN A SANDBOX (cutbox-rows.mjs): the forced cells as the released guide's own fill.sh prints them over the translation 3cd1a67e750a0547… (all of the seat's roots in one cut). By AI agents, Wed Nov 11 2026. No macro, syntax, notation, axiom, sorry.
-/
import Derived.Test.YtmkipjmadmjfaaaChecked
import GoSem.Claim
import GoSem.ClaimJoined
import GoSem.ClaimMapViews
import Derived.JoinedTies
import Derived.KernelRfl
namespace Go.Proofs.Ytmkipjmadmjfaaa
/- THE CELL 'sum', in the pinned program and in every row, IS THE sha256 OF THE DUMP (.gsa) THAT YtmkipjmadmjfaaaProg.lean LOADS. Nothing in Lean hashes anything: it is a label: what it is worth is what the hold of that sum in a sandbox is worth. -/
noncomputable def Try.pinned : Pinned := { name := "ytmkipjmadmjfaaa", sum := "3cd1a67e750a054775d7262a849360686237d2e61eaacf150051a0b8dc20c0c6", checked := Try.checked }
namespace Rows
def none {H : Type} : Left H := { results := [], args := [] }

/-- 'cotterellaw13.WalkGoes': WHATEVER THE INPUT: true; the input reads as it did. -/
def walkGoesSpec : ChangeSpec := { name := "walkGoes", fn := fun _ => fun
  | [d1, d2, d3] => { results := [.lit (.bool true)], args := [d1, d2, d3] }
  | _ => none }
def walkGoesRow : OpenClaim := { program := "ytmkipjmadmjfaaa", sum := "3cd1a67e750a054775d7262a849360686237d2e61eaacf150051a0b8dc20c0c6", func := "cotterel/cotterellaw13.WalkGoes", spec := "walkGoes", apart := false }
def WalkGoesSaid : Prop := walkGoesRow.holds Try.pinned (OpenSpec.ofChange walkGoesSpec)

/-- ITS FALSE NEIGHBOUR: 'it returns false'. Refute it at one input. -/
def walkGoesWrong : ChangeSpec := { name := "walkGoes", fn := fun _ => fun
  | [d1, d2, d3] => { results := [.lit (.bool false)], args := [d1, d2, d3] }
  | _ => none }
def WalkGoesWrongFalsely : Prop := walkGoesRow.holds Try.pinned (OpenSpec.ofChange walkGoesWrong)

/-- 'cotterellaw13.WalkTrans': WHATEVER THE INPUT: true; the input reads as it did. -/
def walkTransSpec : ChangeSpec := { name := "walkTrans", fn := fun _ => fun
  | [d1, d2, d3] => { results := [.lit (.bool true)], args := [d1, d2, d3] }
  | _ => none }
def walkTransRow : OpenClaim := { program := "ytmkipjmadmjfaaa", sum := "3cd1a67e750a054775d7262a849360686237d2e61eaacf150051a0b8dc20c0c6", func := "cotterel/cotterellaw13.WalkTrans", spec := "walkTrans", apart := false }
def WalkTransSaid : Prop := walkTransRow.holds Try.pinned (OpenSpec.ofChange walkTransSpec)

/-- ITS FALSE NEIGHBOUR: 'it returns false'. Refute it at one input. -/
def walkTransWrong : ChangeSpec := { name := "walkTrans", fn := fun _ => fun
  | [d1, d2, d3] => { results := [.lit (.bool false)], args := [d1, d2, d3] }
  | _ => none }
def WalkTransWrongFalsely : Prop := walkTransRow.holds Try.pinned (OpenSpec.ofChange walkTransWrong)

/-- 'cotterellaw13.WalkPage': WHATEVER THE INPUT: true; the input reads as it did. -/
def walkPageSpec : ChangeSpec := { name := "walkPage", fn := fun _ => fun
  | [d1, d2, d3] => { results := [.lit (.bool true)], args := [d1, d2, d3] }
  | _ => none }
def walkPageRow : OpenClaim := { program := "ytmkipjmadmjfaaa", sum := "3cd1a67e750a054775d7262a849360686237d2e61eaacf150051a0b8dc20c0c6", func := "cotterel/cotterellaw13.WalkPage", spec := "walkPage", apart := false }
def WalkPageSaid : Prop := walkPageRow.holds Try.pinned (OpenSpec.ofChange walkPageSpec)

/-- ITS FALSE NEIGHBOUR: 'it returns false'. Refute it at one input. -/
def walkPageWrong : ChangeSpec := { name := "walkPage", fn := fun _ => fun
  | [d1, d2, d3] => { results := [.lit (.bool false)], args := [d1, d2, d3] }
  | _ => none }
def WalkPageWrongFalsely : Prop := walkPageRow.holds Try.pinned (OpenSpec.ofChange walkPageWrong)

/-- 'cotterellaw13.WalkTwo': WHATEVER THE INPUT: true; the input reads as it did. -/
def walkTwoSpec : ChangeSpec := { name := "walkTwo", fn := fun _ => fun
  | [d1, d2, d3] => { results := [.lit (.bool true)], args := [d1, d2, d3] }
  | _ => none }
def walkTwoRow : OpenClaim := { program := "ytmkipjmadmjfaaa", sum := "3cd1a67e750a054775d7262a849360686237d2e61eaacf150051a0b8dc20c0c6", func := "cotterel/cotterellaw13.WalkTwo", spec := "walkTwo", apart := false }
def WalkTwoSaid : Prop := walkTwoRow.holds Try.pinned (OpenSpec.ofChange walkTwoSpec)

/-- ITS FALSE NEIGHBOUR: 'it returns false'. Refute it at one input. -/
def walkTwoWrong : ChangeSpec := { name := "walkTwo", fn := fun _ => fun
  | [d1, d2, d3] => { results := [.lit (.bool false)], args := [d1, d2, d3] }
  | _ => none }
def WalkTwoWrongFalsely : Prop := walkTwoRow.holds Try.pinned (OpenSpec.ofChange walkTwoWrong)

/-- 'cotterellaw13.WalkMaps': WHATEVER THE INPUT: true; the input reads as it did. -/
def walkMapsSpec : ChangeSpec := { name := "walkMaps", fn := fun _ => fun
  | [d1, d2] => { results := [.lit (.bool true)], args := [d1, d2] }
  | _ => none }
def walkMapsRow : OpenClaim := { program := "ytmkipjmadmjfaaa", sum := "3cd1a67e750a054775d7262a849360686237d2e61eaacf150051a0b8dc20c0c6", func := "cotterel/cotterellaw13.WalkMaps", spec := "walkMaps", apart := false }
def WalkMapsSaid : Prop := walkMapsRow.holds Try.pinned (OpenSpec.ofChange walkMapsSpec)

/-- ITS FALSE NEIGHBOUR: 'it returns false'. Refute it at one input. -/
def walkMapsWrong : ChangeSpec := { name := "walkMaps", fn := fun _ => fun
  | [d1, d2] => { results := [.lit (.bool false)], args := [d1, d2] }
  | _ => none }
def WalkMapsWrongFalsely : Prop := walkMapsRow.holds Try.pinned (OpenSpec.ofChange walkMapsWrong)

/- THE SECOND FORM. 'bulk': how many values and letters a reading holds, each counted each time it is reached (what is shared counts as often as it is met; a slice's spare places count too). A statement '..UptoSaid' is the law's where the arguments, and the package variables that the reading takes, are together of bulk at most 1048576: NARROWER than '..Said'. Prove '..Said' where nothing that the law and all that it calls make is longer than what came in: it says more and counts as full. Else prove '..UptoSaid'. A law counts once. -/
mutual
def uptoBulk {H : Type} : DataW H → Nat
  | .lit (.string bytes) => bytes.length + 1
  | .lit _ => 1
  | .nil => 1
  | .ptr d => uptoBulk d + 1
  | .slice elems spare => uptoBulkAll elems + uptoBulkAll spare + 1
  | .agg parts => uptoBulkAll parts + 1
  | .iface _ d => uptoBulk d + 1
  | .map entries => uptoBulkEntries entries + 1
  | .held _ => 1
def uptoBulkAll {H : Type} : List (DataW H) → Nat
  | [] => 0
  | d :: r => uptoBulk d + uptoBulkAll r
def uptoBulkEntries {H : Type} : List (Lit × DataW H) → Nat
  | [] => 0
  | x :: r => uptoBulkEntry x + uptoBulkEntries r
def uptoBulkEntry {H : Type} : Lit × DataW H → Nat
  | (.string bytes, d) => bytes.length + uptoBulk d + 1
  | (_, d) => uptoBulk d + 1
 end
def uptoSmall : (H : Type) → List (DataW H) → Bool := fun _ ds => decide (uptoBulkAll ds ≤ 1048576)
def OpenSpec.upto (s : _root_.Go.ChangeSpec) : _root_.Go.OpenSpec := { _root_.Go.OpenSpec.ofChange s with cond := some uptoSmall }

/-- 'cotterellaw13.WalkGoes', WHERE WHAT IT READS IS OF BULK AT MOST 1048576: true; the input reads as it did. -/
def walkGoesUptoRow : OpenClaim := { program := "ytmkipjmadmjfaaa", sum := "3cd1a67e750a054775d7262a849360686237d2e61eaacf150051a0b8dc20c0c6", func := "cotterel/cotterellaw13.WalkGoes", spec := "walkGoes", apart := false, narrowed := true }
def WalkGoesUptoSaid : Prop := walkGoesUptoRow.holds Try.pinned (OpenSpec.upto walkGoesSpec)

/-- 'cotterellaw13.WalkTrans', WHERE WHAT IT READS IS OF BULK AT MOST 1048576: true; the input reads as it did. -/
def walkTransUptoRow : OpenClaim := { program := "ytmkipjmadmjfaaa", sum := "3cd1a67e750a054775d7262a849360686237d2e61eaacf150051a0b8dc20c0c6", func := "cotterel/cotterellaw13.WalkTrans", spec := "walkTrans", apart := false, narrowed := true }
def WalkTransUptoSaid : Prop := walkTransUptoRow.holds Try.pinned (OpenSpec.upto walkTransSpec)

/-- 'cotterellaw13.WalkPage', WHERE WHAT IT READS IS OF BULK AT MOST 1048576: true; the input reads as it did. -/
def walkPageUptoRow : OpenClaim := { program := "ytmkipjmadmjfaaa", sum := "3cd1a67e750a054775d7262a849360686237d2e61eaacf150051a0b8dc20c0c6", func := "cotterel/cotterellaw13.WalkPage", spec := "walkPage", apart := false, narrowed := true }
def WalkPageUptoSaid : Prop := walkPageUptoRow.holds Try.pinned (OpenSpec.upto walkPageSpec)

/-- 'cotterellaw13.WalkTwo', WHERE WHAT IT READS IS OF BULK AT MOST 1048576: true; the input reads as it did. -/
def walkTwoUptoRow : OpenClaim := { program := "ytmkipjmadmjfaaa", sum := "3cd1a67e750a054775d7262a849360686237d2e61eaacf150051a0b8dc20c0c6", func := "cotterel/cotterellaw13.WalkTwo", spec := "walkTwo", apart := false, narrowed := true }
def WalkTwoUptoSaid : Prop := walkTwoUptoRow.holds Try.pinned (OpenSpec.upto walkTwoSpec)

/-- 'cotterellaw13.WalkMaps', WHERE WHAT IT READS IS OF BULK AT MOST 1048576: true; the input reads as it did. -/
def walkMapsUptoRow : OpenClaim := { program := "ytmkipjmadmjfaaa", sum := "3cd1a67e750a054775d7262a849360686237d2e61eaacf150051a0b8dc20c0c6", func := "cotterel/cotterellaw13.WalkMaps", spec := "walkMaps", apart := false, narrowed := true }
def WalkMapsUptoSaid : Prop := walkMapsUptoRow.holds Try.pinned (OpenSpec.upto walkMapsSpec)

end Rows
end Go.Proofs.Ytmkipjmadmjfaaa
