/-
  No cell of these rows narrows 'for every input' (looked for: loops, veiled, ifaces, maps, wideKeys, modest, calm, conditions, laid).
  DERIVED. THE GIVEN ROWS OF THIS SEAT. 5 by the template 'for every input the law returns true; each argument reads behind the call as it read before'; 0 by the template 'total and deterministic' (their statements: YtdkaclgfkgcmpaaTotals.lean).
  GIVEN WITH THE SEED: the statements are not yours to turn. If you find one false, say at which input.
  Laid BY PROGRAM, IN A SANDBOX (cutbox-rows.mjs): the forced cells as the released guide's own fill.sh prints them over the translation f3caf7e7c74ec20e… (all of the seat's roots in one cut). By AI agents, Wed Nov 11 2026. No macro, syntax, notation, axiom, sorry.
-/
import Derived.Test.YtdkaclgfkgcmpaaChecked
import GoSem.Claim
import GoSem.ClaimJoined
import GoSem.ClaimMapViews
import Derived.JoinedTies
import Derived.KernelRfl
namespace Go.Proofs.Ytdkaclgfkgcmpaa
/- THE CELL 'sum', in the pinned program and in every row, IS THE sha256 OF THE DUMP (.gsa) THAT YtdkaclgfkgcmpaaProg.lean LOADS. Nothing in Lean hashes anything: it is a label: what it is worth is what the hold of that sum in a sandbox is worth. -/
noncomputable def Try.pinned : Pinned := { name := "ytdkaclgfkgcmpaa", sum := "f3caf7e7c74ec20eb0512620998011df5d39ca6fc5c810e157037027d918b330", checked := Try.checked }
namespace Rows
def none {H : Type} : Left H := { results := [], args := [] }

/-- 'cotterellaw40.BusWants': WHATEVER THE INPUT: true; the input reads as it did. -/
def busWantsSpec : ChangeSpec := { name := "busWants", fn := fun _ => fun
  | [d1, d2] => { results := [.lit (.bool true)], args := [d1, d2] }
  | _ => none }
def busWantsRow : OpenClaim := { program := "ytdkaclgfkgcmpaa", sum := "f3caf7e7c74ec20eb0512620998011df5d39ca6fc5c810e157037027d918b330", func := "cotterel/cotterellaw40.BusWants", spec := "busWants", unfollowed := true, recurses := true, apart := false }
def BusWantsSaid : Prop := busWantsRow.holds Try.pinned (OpenSpec.ofChange busWantsSpec)

/-- ITS FALSE NEIGHBOUR: 'it returns false'. Refute it at one input. -/
def busWantsWrong : ChangeSpec := { name := "busWants", fn := fun _ => fun
  | [d1, d2] => { results := [.lit (.bool false)], args := [d1, d2] }
  | _ => none }
def BusWantsWrongFalsely : Prop := busWantsRow.holds Try.pinned (OpenSpec.ofChange busWantsWrong)

/-- 'cotterellaw40.BusPicks': WHATEVER THE INPUT: true; the input reads as it did. -/
def busPicksSpec : ChangeSpec := { name := "busPicks", fn := fun _ => fun
  | [d1, d2] => { results := [.lit (.bool true)], args := [d1, d2] }
  | _ => none }
def busPicksRow : OpenClaim := { program := "ytdkaclgfkgcmpaa", sum := "f3caf7e7c74ec20eb0512620998011df5d39ca6fc5c810e157037027d918b330", func := "cotterel/cotterellaw40.BusPicks", spec := "busPicks", unfollowed := true, recurses := true, apart := false }
def BusPicksSaid : Prop := busPicksRow.holds Try.pinned (OpenSpec.ofChange busPicksSpec)

/-- ITS FALSE NEIGHBOUR: 'it returns false'. Refute it at one input. -/
def busPicksWrong : ChangeSpec := { name := "busPicks", fn := fun _ => fun
  | [d1, d2] => { results := [.lit (.bool false)], args := [d1, d2] }
  | _ => none }
def BusPicksWrongFalsely : Prop := busPicksRow.holds Try.pinned (OpenSpec.ofChange busPicksWrong)

/-- 'cotterellaw40.BusDoes': WHATEVER THE INPUT: true; the input reads as it did. -/
def busDoesSpec : ChangeSpec := { name := "busDoes", fn := fun _ => fun
  | [d1, d2, d3] => { results := [.lit (.bool true)], args := [d1, d2, d3] }
  | _ => none }
def busDoesRow : OpenClaim := { program := "ytdkaclgfkgcmpaa", sum := "f3caf7e7c74ec20eb0512620998011df5d39ca6fc5c810e157037027d918b330", func := "cotterel/cotterellaw40.BusDoes", spec := "busDoes", unfollowed := true, recurses := true, apart := false }
def BusDoesSaid : Prop := busDoesRow.holds Try.pinned (OpenSpec.ofChange busDoesSpec)

/-- ITS FALSE NEIGHBOUR: 'it returns false'. Refute it at one input. -/
def busDoesWrong : ChangeSpec := { name := "busDoes", fn := fun _ => fun
  | [d1, d2, d3] => { results := [.lit (.bool false)], args := [d1, d2, d3] }
  | _ => none }
def BusDoesWrongFalsely : Prop := busDoesRow.holds Try.pinned (OpenSpec.ofChange busDoesWrong)

/-- 'cotterellaw40.BusLegal': WHATEVER THE INPUT: true; the input reads as it did. -/
def busLegalSpec : ChangeSpec := { name := "busLegal", fn := fun _ => fun
  | [d1, d2] => { results := [.lit (.bool true)], args := [d1, d2] }
  | _ => none }
def busLegalRow : OpenClaim := { program := "ytdkaclgfkgcmpaa", sum := "f3caf7e7c74ec20eb0512620998011df5d39ca6fc5c810e157037027d918b330", func := "cotterel/cotterellaw40.BusLegal", spec := "busLegal", unfollowed := true, recurses := true, apart := false }
def BusLegalSaid : Prop := busLegalRow.holds Try.pinned (OpenSpec.ofChange busLegalSpec)

/-- ITS FALSE NEIGHBOUR: 'it returns false'. Refute it at one input. -/
def busLegalWrong : ChangeSpec := { name := "busLegal", fn := fun _ => fun
  | [d1, d2] => { results := [.lit (.bool false)], args := [d1, d2] }
  | _ => none }
def BusLegalWrongFalsely : Prop := busLegalRow.holds Try.pinned (OpenSpec.ofChange busLegalWrong)

/-- 'cotterellaw40.BusTurns': WHATEVER THE INPUT: true; the input reads as it did. -/
def busTurnsSpec : ChangeSpec := { name := "busTurns", fn := fun _ => fun
  | [d1, d2] => { results := [.lit (.bool true)], args := [d1, d2] }
  | _ => none }
def busTurnsRow : OpenClaim := { program := "ytdkaclgfkgcmpaa", sum := "f3caf7e7c74ec20eb0512620998011df5d39ca6fc5c810e157037027d918b330", func := "cotterel/cotterellaw40.BusTurns", spec := "busTurns", unfollowed := true, recurses := true, apart := false }
def BusTurnsSaid : Prop := busTurnsRow.holds Try.pinned (OpenSpec.ofChange busTurnsSpec)

/-- ITS FALSE NEIGHBOUR: 'it returns false'. Refute it at one input. -/
def busTurnsWrong : ChangeSpec := { name := "busTurns", fn := fun _ => fun
  | [d1, d2] => { results := [.lit (.bool false)], args := [d1, d2] }
  | _ => none }
def BusTurnsWrongFalsely : Prop := busTurnsRow.holds Try.pinned (OpenSpec.ofChange busTurnsWrong)

/- THE SECOND FORM. 'bulk': how many values and letters a reading holds, each counted each time it is reached (what is shared counts as often as it is met; a slice's spare places count too). A statement '..UptoSaid' is the law's where the arguments, and the package variables that the reading takes, are together of bulk at most 1048576: NARROWER than '..Said'. Prove '..Said' where nothing that the law and all that it calls make is longer than what came in: it says more and counts as full. Else prove '..UptoSaid'. A law counts once. -/
mutual
def uptoBulk {H : Type} : DataW H → Nat
  | .lit (.string bytes) => bytes.length + 1
  | .lit _ => 1
  | .nil => 1
  | .ptr d => uptoBulk d + 1
  | .slice elems spare => uptoBulkAll elems + uptoBulkAll spare + 1
  | .agg parts => uptoBulkAll parts + 1
  | .iface _ d => uptoBulk d + 1
  | .map entries => uptoBulkEntries entries + 1
  | .held _ => 1
def uptoBulkAll {H : Type} : List (DataW H) → Nat
  | [] => 0
  | d :: r => uptoBulk d + uptoBulkAll r
def uptoBulkEntries {H : Type} : List (Lit × DataW H) → Nat
  | [] => 0
  | x :: r => uptoBulkEntry x + uptoBulkEntries r
def uptoBulkEntry {H : Type} : Lit × DataW H → Nat
  | (.string bytes, d) => bytes.length + uptoBulk d + 1
  | (_, d) => uptoBulk d + 1
 end
def uptoSmall : (H : Type) → List (DataW H) → Bool := fun _ ds => decide (uptoBulkAll ds ≤ 1048576)
def OpenSpec.upto (s : _root_.Go.ChangeSpec) : _root_.Go.OpenSpec := { _root_.Go.OpenSpec.ofChange s with cond := some uptoSmall }

/-- 'cotterellaw40.BusWants', WHERE WHAT IT READS IS OF BULK AT MOST 1048576: true; the input reads as it did. -/
def busWantsUptoRow : OpenClaim := { program := "ytdkaclgfkgcmpaa", sum := "f3caf7e7c74ec20eb0512620998011df5d39ca6fc5c810e157037027d918b330", func := "cotterel/cotterellaw40.BusWants", spec := "busWants", unfollowed := true, recurses := true, apart := false, narrowed := true }
def BusWantsUptoSaid : Prop := busWantsUptoRow.holds Try.pinned (OpenSpec.upto busWantsSpec)

/-- 'cotterellaw40.BusPicks', WHERE WHAT IT READS IS OF BULK AT MOST 1048576: true; the input reads as it did. -/
def busPicksUptoRow : OpenClaim := { program := "ytdkaclgfkgcmpaa", sum := "f3caf7e7c74ec20eb0512620998011df5d39ca6fc5c810e157037027d918b330", func := "cotterel/cotterellaw40.BusPicks", spec := "busPicks", unfollowed := true, recurses := true, apart := false, narrowed := true }
def BusPicksUptoSaid : Prop := busPicksUptoRow.holds Try.pinned (OpenSpec.upto busPicksSpec)

/-- 'cotterellaw40.BusDoes', WHERE WHAT IT READS IS OF BULK AT MOST 1048576: true; the input reads as it did. -/
def busDoesUptoRow : OpenClaim := { program := "ytdkaclgfkgcmpaa", sum := "f3caf7e7c74ec20eb0512620998011df5d39ca6fc5c810e157037027d918b330", func := "cotterel/cotterellaw40.BusDoes", spec := "busDoes", unfollowed := true, recurses := true, apart := false, narrowed := true }
def BusDoesUptoSaid : Prop := busDoesUptoRow.holds Try.pinned (OpenSpec.upto busDoesSpec)

/-- 'cotterellaw40.BusLegal', WHERE WHAT IT READS IS OF BULK AT MOST 1048576: true; the input reads as it did. -/
def busLegalUptoRow : OpenClaim := { program := "ytdkaclgfkgcmpaa", sum := "f3caf7e7c74ec20eb0512620998011df5d39ca6fc5c810e157037027d918b330", func := "cotterel/cotterellaw40.BusLegal", spec := "busLegal", unfollowed := true, recurses := true, apart := false, narrowed := true }
def BusLegalUptoSaid : Prop := busLegalUptoRow.holds Try.pinned (OpenSpec.upto busLegalSpec)

/-- 'cotterellaw40.BusTurns', WHERE WHAT IT READS IS OF BULK AT MOST 1048576: true; the input reads as it did. -/
def busTurnsUptoRow : OpenClaim := { program := "ytdkaclgfkgcmpaa", sum := "f3caf7e7c74ec20eb0512620998011df5d39ca6fc5c810e157037027d918b330", func := "cotterel/cotterellaw40.BusTurns", spec := "busTurns", unfollowed := true, recurses := true, apart := false, narrowed := true }
def BusTurnsUptoSaid : Prop := busTurnsUptoRow.holds Try.pinned (OpenSpec.upto busTurnsSpec)

end Rows
end Go.Proofs.Ytdkaclgfkgcmpaa
