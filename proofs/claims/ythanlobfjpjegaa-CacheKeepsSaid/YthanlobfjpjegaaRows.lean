/-
  No cell of these rows narrows 'for every input' (looked for: loops, veiled, ifaces, maps, wideKeys, modest, calm, conditions, laid).
  DERIVED. THE GIVEN ROWS OF THIS SEAT. 5 by the template 'for every input the law returns true; each argument reads behind the call as it read before'; 0 by the template 'total and deterministic' (their statements: YthanlobfjpjegaaTotals.lean).
  GIVEN WITH THE SEED: the statements are not yours to turn. If you find one false, say at which input.
  Laid BY PROGRAM, IN A SANDBOX (cutbox-rows.mjs): the forced cells as the released guide's own fill.sh prints them over the translation 828911494c34ab5e… (all of the seat's roots in one cut). By AI agents, Wed Nov 11 2026. No macro, syntax, notation, axiom, sorry.
-/
import Derived.Test.YthanlobfjpjegaaChecked
import GoSem.Claim
import GoSem.ClaimJoined
import GoSem.ClaimMapViews
import Derived.JoinedTies
import Derived.KernelRfl
namespace Go.Proofs.Ythanlobfjpjegaa
/- THE CELL 'sum', in the pinned program and in every row, IS THE sha256 OF THE DUMP (.gsa) THAT YthanlobfjpjegaaProg.lean LOADS. Nothing in Lean hashes anything: it is a label: what it is worth is what the hold of that sum in a sandbox is worth. -/
noncomputable def Try.pinned : Pinned := { name := "ythanlobfjpjegaa", sum := "828911494c34ab5eb3d1a32b4c010e17c3e98fc1e31abff7fe431b8c73cae0c0", checked := Try.checked }
namespace Rows
def none {H : Type} : Left H := { results := [], args := [] }

/-- 'cotterellaw39.CacheNews': WHATEVER THE INPUT: true; the input reads as it did. -/
def cacheNewsSpec : ChangeSpec := { name := "cacheNews", fn := fun _ => fun
  | [d1, d2, d3] => { results := [.lit (.bool true)], args := [d1, d2, d3] }
  | _ => none }
def cacheNewsRow : OpenClaim := { program := "ythanlobfjpjegaa", sum := "828911494c34ab5eb3d1a32b4c010e17c3e98fc1e31abff7fe431b8c73cae0c0", func := "cotterel/cotterellaw39.CacheNews", spec := "cacheNews", unfollowed := true, recurses := true, apart := false }
def CacheNewsSaid : Prop := cacheNewsRow.holds Try.pinned (OpenSpec.ofChange cacheNewsSpec)

/-- ITS FALSE NEIGHBOUR: 'it returns false'. Refute it at one input. -/
def cacheNewsWrong : ChangeSpec := { name := "cacheNews", fn := fun _ => fun
  | [d1, d2, d3] => { results := [.lit (.bool false)], args := [d1, d2, d3] }
  | _ => none }
def CacheNewsWrongFalsely : Prop := cacheNewsRow.holds Try.pinned (OpenSpec.ofChange cacheNewsWrong)

/-- 'cotterellaw39.CacheFinds': WHATEVER THE INPUT: true; the input reads as it did. -/
def cacheFindsSpec : ChangeSpec := { name := "cacheFinds", fn := fun _ => fun
  | [d1, d2, d3] => { results := [.lit (.bool true)], args := [d1, d2, d3] }
  | _ => none }
def cacheFindsRow : OpenClaim := { program := "ythanlobfjpjegaa", sum := "828911494c34ab5eb3d1a32b4c010e17c3e98fc1e31abff7fe431b8c73cae0c0", func := "cotterel/cotterellaw39.CacheFinds", spec := "cacheFinds", unfollowed := true, recurses := true, apart := false }
def CacheFindsSaid : Prop := cacheFindsRow.holds Try.pinned (OpenSpec.ofChange cacheFindsSpec)

/-- ITS FALSE NEIGHBOUR: 'it returns false'. Refute it at one input. -/
def cacheFindsWrong : ChangeSpec := { name := "cacheFinds", fn := fun _ => fun
  | [d1, d2, d3] => { results := [.lit (.bool false)], args := [d1, d2, d3] }
  | _ => none }
def CacheFindsWrongFalsely : Prop := cacheFindsRow.holds Try.pinned (OpenSpec.ofChange cacheFindsWrong)

/-- 'cotterellaw39.CacheReads': WHATEVER THE INPUT: true; the input reads as it did. -/
def cacheReadsSpec : ChangeSpec := { name := "cacheReads", fn := fun _ => fun
  | [d1, d2, d3] => { results := [.lit (.bool true)], args := [d1, d2, d3] }
  | _ => none }
def cacheReadsRow : OpenClaim := { program := "ythanlobfjpjegaa", sum := "828911494c34ab5eb3d1a32b4c010e17c3e98fc1e31abff7fe431b8c73cae0c0", func := "cotterel/cotterellaw39.CacheReads", spec := "cacheReads", unfollowed := true, recurses := true, apart := false }
def CacheReadsSaid : Prop := cacheReadsRow.holds Try.pinned (OpenSpec.ofChange cacheReadsSpec)

/-- ITS FALSE NEIGHBOUR: 'it returns false'. Refute it at one input. -/
def cacheReadsWrong : ChangeSpec := { name := "cacheReads", fn := fun _ => fun
  | [d1, d2, d3] => { results := [.lit (.bool false)], args := [d1, d2, d3] }
  | _ => none }
def CacheReadsWrongFalsely : Prop := cacheReadsRow.holds Try.pinned (OpenSpec.ofChange cacheReadsWrong)

/-- 'cotterellaw39.CacheFills': WHATEVER THE INPUT: true; the input reads as it did. -/
def cacheFillsSpec : ChangeSpec := { name := "cacheFills", fn := fun _ => fun
  | [d1, d2] => { results := [.lit (.bool true)], args := [d1, d2] }
  | _ => none }
def cacheFillsRow : OpenClaim := { program := "ythanlobfjpjegaa", sum := "828911494c34ab5eb3d1a32b4c010e17c3e98fc1e31abff7fe431b8c73cae0c0", func := "cotterel/cotterellaw39.CacheFills", spec := "cacheFills", unfollowed := true, recurses := true, apart := false }
def CacheFillsSaid : Prop := cacheFillsRow.holds Try.pinned (OpenSpec.ofChange cacheFillsSpec)

/-- ITS FALSE NEIGHBOUR: 'it returns false'. Refute it at one input. -/
def cacheFillsWrong : ChangeSpec := { name := "cacheFills", fn := fun _ => fun
  | [d1, d2] => { results := [.lit (.bool false)], args := [d1, d2] }
  | _ => none }
def CacheFillsWrongFalsely : Prop := cacheFillsRow.holds Try.pinned (OpenSpec.ofChange cacheFillsWrong)

/-- 'cotterellaw39.CacheKeeps': WHATEVER THE INPUT: true; the input reads as it did. -/
def cacheKeepsSpec : ChangeSpec := { name := "cacheKeeps", fn := fun _ => fun
  | [d1, d2, d3] => { results := [.lit (.bool true)], args := [d1, d2, d3] }
  | _ => none }
def cacheKeepsRow : OpenClaim := { program := "ythanlobfjpjegaa", sum := "828911494c34ab5eb3d1a32b4c010e17c3e98fc1e31abff7fe431b8c73cae0c0", func := "cotterel/cotterellaw39.CacheKeeps", spec := "cacheKeeps", unfollowed := true, recurses := true, apart := false }
def CacheKeepsSaid : Prop := cacheKeepsRow.holds Try.pinned (OpenSpec.ofChange cacheKeepsSpec)

/-- ITS FALSE NEIGHBOUR: 'it returns false'. Refute it at one input. -/
def cacheKeepsWrong : ChangeSpec := { name := "cacheKeeps", fn := fun _ => fun
  | [d1, d2, d3] => { results := [.lit (.bool false)], args := [d1, d2, d3] }
  | _ => none }
def CacheKeepsWrongFalsely : Prop := cacheKeepsRow.holds Try.pinned (OpenSpec.ofChange cacheKeepsWrong)

/- THE SECOND FORM. 'bulk': how many values and letters a reading holds, each counted each time it is reached (what is shared counts as often as it is met; a slice's spare places count too). A statement '..UptoSaid' is the law's where the arguments, and the package variables that the reading takes, are together of bulk at most 1048576: NARROWER than '..Said'. Prove '..Said' where nothing that the law and all that it calls make is longer than what came in: it says more and counts as full. Else prove '..UptoSaid'. A law counts once. -/
mutual
def uptoBulk {H : Type} : DataW H → Nat
  | .lit (.string bytes) => bytes.length + 1
  | .lit _ => 1
  | .nil => 1
  | .ptr d => uptoBulk d + 1
  | .slice elems spare => uptoBulkAll elems + uptoBulkAll spare + 1
  | .agg parts => uptoBulkAll parts + 1
  | .iface _ d => uptoBulk d + 1
  | .map entries => uptoBulkEntries entries + 1
  | .held _ => 1
def uptoBulkAll {H : Type} : List (DataW H) → Nat
  | [] => 0
  | d :: r => uptoBulk d + uptoBulkAll r
def uptoBulkEntries {H : Type} : List (Lit × DataW H) → Nat
  | [] => 0
  | x :: r => uptoBulkEntry x + uptoBulkEntries r
def uptoBulkEntry {H : Type} : Lit × DataW H → Nat
  | (.string bytes, d) => bytes.length + uptoBulk d + 1
  | (_, d) => uptoBulk d + 1
 end
def uptoSmall : (H : Type) → List (DataW H) → Bool := fun _ ds => decide (uptoBulkAll ds ≤ 1048576)
def OpenSpec.upto (s : _root_.Go.ChangeSpec) : _root_.Go.OpenSpec := { _root_.Go.OpenSpec.ofChange s with cond := some uptoSmall }

/-- 'cotterellaw39.CacheNews', WHERE WHAT IT READS IS OF BULK AT MOST 1048576: true; the input reads as it did. -/
def cacheNewsUptoRow : OpenClaim := { program := "ythanlobfjpjegaa", sum := "828911494c34ab5eb3d1a32b4c010e17c3e98fc1e31abff7fe431b8c73cae0c0", func := "cotterel/cotterellaw39.CacheNews", spec := "cacheNews", unfollowed := true, recurses := true, apart := false, narrowed := true }
def CacheNewsUptoSaid : Prop := cacheNewsUptoRow.holds Try.pinned (OpenSpec.upto cacheNewsSpec)

/-- 'cotterellaw39.CacheFinds', WHERE WHAT IT READS IS OF BULK AT MOST 1048576: true; the input reads as it did. -/
def cacheFindsUptoRow : OpenClaim := { program := "ythanlobfjpjegaa", sum := "828911494c34ab5eb3d1a32b4c010e17c3e98fc1e31abff7fe431b8c73cae0c0", func := "cotterel/cotterellaw39.CacheFinds", spec := "cacheFinds", unfollowed := true, recurses := true, apart := false, narrowed := true }
def CacheFindsUptoSaid : Prop := cacheFindsUptoRow.holds Try.pinned (OpenSpec.upto cacheFindsSpec)

/-- 'cotterellaw39.CacheReads', WHERE WHAT IT READS IS OF BULK AT MOST 1048576: true; the input reads as it did. -/
def cacheReadsUptoRow : OpenClaim := { program := "ythanlobfjpjegaa", sum := "828911494c34ab5eb3d1a32b4c010e17c3e98fc1e31abff7fe431b8c73cae0c0", func := "cotterel/cotterellaw39.CacheReads", spec := "cacheReads", unfollowed := true, recurses := true, apart := false, narrowed := true }
def CacheReadsUptoSaid : Prop := cacheReadsUptoRow.holds Try.pinned (OpenSpec.upto cacheReadsSpec)

/-- 'cotterellaw39.CacheFills', WHERE WHAT IT READS IS OF BULK AT MOST 1048576: true; the input reads as it did. -/
def cacheFillsUptoRow : OpenClaim := { program := "ythanlobfjpjegaa", sum := "828911494c34ab5eb3d1a32b4c010e17c3e98fc1e31abff7fe431b8c73cae0c0", func := "cotterel/cotterellaw39.CacheFills", spec := "cacheFills", unfollowed := true, recurses := true, apart := false, narrowed := true }
def CacheFillsUptoSaid : Prop := cacheFillsUptoRow.holds Try.pinned (OpenSpec.upto cacheFillsSpec)

/-- 'cotterellaw39.CacheKeeps', WHERE WHAT IT READS IS OF BULK AT MOST 1048576: true; the input reads as it did. -/
def cacheKeepsUptoRow : OpenClaim := { program := "ythanlobfjpjegaa", sum := "828911494c34ab5eb3d1a32b4c010e17c3e98fc1e31abff7fe431b8c73cae0c0", func := "cotterel/cotterellaw39.CacheKeeps", spec := "cacheKeeps", unfollowed := true, recurses := true, apart := false, narrowed := true }
def CacheKeepsUptoSaid : Prop := cacheKeepsUptoRow.holds Try.pinned (OpenSpec.upto cacheKeepsSpec)

end Rows
end Go.Proofs.Ythanlobfjpjegaa
