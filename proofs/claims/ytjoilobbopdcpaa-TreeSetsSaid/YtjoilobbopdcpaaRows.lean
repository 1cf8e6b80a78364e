/-
  No cell of these rows narrows 'for every input' (looked for: loops, veiled, ifaces, maps, wideKeys, modest, calm, conditions, laid).
  DERIVED. THE GIVEN ROWS OF THIS SEAT. 9 by the template 'for every input the law returns true; each argument reads behind the call as it read before'; 0 by the template 'total and deterministic' (their statements: YtjoilobbopdcpaaTotals.lean).
  GIVEN WITH THE SEED: the statements are not yours to turn. If you find one false, say at which input.
  Laid BY PROGRAM, IN A SANDBOX (cutbox-rows.mjs): the forced cells as the released guide's own fill.sh prints them over the translation f785c6758487942b… (all of the seat's roots in one cut). By AI agents, Wed Nov 11 2026. No macro, syntax, notation, axiom, sorry.
-/
import Derived.Test.YtjoilobbopdcpaaChecked
import GoSem.Claim
import GoSem.ClaimJoined
import GoSem.ClaimMapViews
import Derived.JoinedTies
import Derived.KernelRfl
namespace Go.Proofs.Ytjoilobbopdcpaa
/- THE CELL 'sum', in the pinned program and in every row, IS THE sha256 OF THE DUMP (.gsa) THAT YtjoilobbopdcpaaProg.lean LOADS. Nothing in Lean hashes anything: it is a label: what it is worth is what the hold of that sum in a sandbox is worth. -/
noncomputable def Try.pinned : Pinned := { name := "ytjoilobbopdcpaa", sum := "f785c6758487942b2d242ff78e373a5868166d924ebbd10112f29c388ef87a0a", checked := Try.checked }
namespace Rows
def none {H : Type} : Left H := { results := [], args := [] }

/-- 'grapnellaw07.TreeUnlike': WHATEVER THE INPUT: true; the input reads as it did. -/
def treeUnlikeSpec : ChangeSpec := { name := "treeUnlike", fn := fun _ => fun
  | [d1, d2] => { results := [.lit (.bool true)], args := [d1, d2] }
  | _ => none }
def treeUnlikeRow : OpenClaim := { program := "ytjoilobbopdcpaa", sum := "f785c6758487942b2d242ff78e373a5868166d924ebbd10112f29c388ef87a0a", func := "grapnel/grapnellaw07.TreeUnlike", spec := "treeUnlike", plainKeys := false, apart := false }
def TreeUnlikeSaid : Prop := treeUnlikeRow.holds Try.pinned (OpenSpec.ofChange treeUnlikeSpec)

/-- ITS FALSE NEIGHBOUR: 'it returns false'. Refute it at one input. -/
def treeUnlikeWrong : ChangeSpec := { name := "treeUnlike", fn := fun _ => fun
  | [d1, d2] => { results := [.lit (.bool false)], args := [d1, d2] }
  | _ => none }
def TreeUnlikeWrongFalsely : Prop := treeUnlikeRow.holds Try.pinned (OpenSpec.ofChange treeUnlikeWrong)

/-- 'grapnellaw07.TreeShown': WHATEVER THE INPUT: true; the input reads as it did. -/
def treeShownSpec : ChangeSpec := { name := "treeShown", fn := fun _ => fun
  | [d1, d2] => { results := [.lit (.bool true)], args := [d1, d2] }
  | _ => none }
def treeShownRow : OpenClaim := { program := "ytjoilobbopdcpaa", sum := "f785c6758487942b2d242ff78e373a5868166d924ebbd10112f29c388ef87a0a", func := "grapnel/grapnellaw07.TreeShown", spec := "treeShown", plainKeys := false, apart := false }
def TreeShownSaid : Prop := treeShownRow.holds Try.pinned (OpenSpec.ofChange treeShownSpec)

/-- ITS FALSE NEIGHBOUR: 'it returns false'. Refute it at one input. -/
def treeShownWrong : ChangeSpec := { name := "treeShown", fn := fun _ => fun
  | [d1, d2] => { results := [.lit (.bool false)], args := [d1, d2] }
  | _ => none }
def TreeShownWrongFalsely : Prop := treeShownRow.holds Try.pinned (OpenSpec.ofChange treeShownWrong)

/-- 'grapnellaw07.TreeBent': WHATEVER THE INPUT: true; the input reads as it did. -/
def treeBentSpec : ChangeSpec := { name := "treeBent", fn := fun _ => fun
  | [d] => { results := [.lit (.bool true)], args := [d] }
  | _ => none }
def treeBentRow : OpenClaim := { program := "ytjoilobbopdcpaa", sum := "f785c6758487942b2d242ff78e373a5868166d924ebbd10112f29c388ef87a0a", func := "grapnel/grapnellaw07.TreeBent", spec := "treeBent", plainKeys := false, apart := false }
def TreeBentSaid : Prop := treeBentRow.holds Try.pinned (OpenSpec.ofChange treeBentSpec)

/-- ITS FALSE NEIGHBOUR: 'it returns false'. Refute it at one input. -/
def treeBentWrong : ChangeSpec := { name := "treeBent", fn := fun _ => fun
  | [d] => { results := [.lit (.bool false)], args := [d] }
  | _ => none }
def TreeBentWrongFalsely : Prop := treeBentRow.holds Try.pinned (OpenSpec.ofChange treeBentWrong)

/-- 'grapnellaw07.TreeKept': WHATEVER THE INPUT: true; the input reads as it did. -/
def treeKeptSpec : ChangeSpec := { name := "treeKept", fn := fun _ => fun
  | [d1, d2] => { results := [.lit (.bool true)], args := [d1, d2] }
  | _ => none }
def treeKeptRow : OpenClaim := { program := "ytjoilobbopdcpaa", sum := "f785c6758487942b2d242ff78e373a5868166d924ebbd10112f29c388ef87a0a", func := "grapnel/grapnellaw07.TreeKept", spec := "treeKept", plainKeys := false, apart := false }
def TreeKeptSaid : Prop := treeKeptRow.holds Try.pinned (OpenSpec.ofChange treeKeptSpec)

/-- ITS FALSE NEIGHBOUR: 'it returns false'. Refute it at one input. -/
def treeKeptWrong : ChangeSpec := { name := "treeKept", fn := fun _ => fun
  | [d1, d2] => { results := [.lit (.bool false)], args := [d1, d2] }
  | _ => none }
def TreeKeptWrongFalsely : Prop := treeKeptRow.holds Try.pinned (OpenSpec.ofChange treeKeptWrong)

/-- 'grapnellaw07.TreeNobody': WHATEVER THE INPUT: true; the input reads as it did. -/
def treeNobodySpec : ChangeSpec := { name := "treeNobody", fn := fun _ => fun
  | [d1, d2] => { results := [.lit (.bool true)], args := [d1, d2] }
  | _ => none }
def treeNobodyRow : OpenClaim := { program := "ytjoilobbopdcpaa", sum := "f785c6758487942b2d242ff78e373a5868166d924ebbd10112f29c388ef87a0a", func := "grapnel/grapnellaw07.TreeNobody", spec := "treeNobody", plainKeys := false, apart := false }
def TreeNobodySaid : Prop := treeNobodyRow.holds Try.pinned (OpenSpec.ofChange treeNobodySpec)

/-- ITS FALSE NEIGHBOUR: 'it returns false'. Refute it at one input. -/
def treeNobodyWrong : ChangeSpec := { name := "treeNobody", fn := fun _ => fun
  | [d1, d2] => { results := [.lit (.bool false)], args := [d1, d2] }
  | _ => none }
def TreeNobodyWrongFalsely : Prop := treeNobodyRow.holds Try.pinned (OpenSpec.ofChange treeNobodyWrong)

/-- 'grapnellaw07.TreeRoots': WHATEVER THE INPUT: true; the input reads as it did. -/
def treeRootsSpec : ChangeSpec := { name := "treeRoots", fn := fun _ => fun
  | [d] => { results := [.lit (.bool true)], args := [d] }
  | _ => none }
def treeRootsRow : OpenClaim := { program := "ytjoilobbopdcpaa", sum := "f785c6758487942b2d242ff78e373a5868166d924ebbd10112f29c388ef87a0a", func := "grapnel/grapnellaw07.TreeRoots", spec := "treeRoots", plainKeys := false, apart := false }
def TreeRootsSaid : Prop := treeRootsRow.holds Try.pinned (OpenSpec.ofChange treeRootsSpec)

/-- ITS FALSE NEIGHBOUR: 'it returns false'. Refute it at one input. -/
def treeRootsWrong : ChangeSpec := { name := "treeRoots", fn := fun _ => fun
  | [d] => { results := [.lit (.bool false)], args := [d] }
  | _ => none }
def TreeRootsWrongFalsely : Prop := treeRootsRow.holds Try.pinned (OpenSpec.ofChange treeRootsWrong)

/-- 'grapnellaw07.TreeChecks': WHATEVER THE INPUT: true; the input reads as it did. -/
def treeChecksSpec : ChangeSpec := { name := "treeChecks", fn := fun _ => fun
  | [d1, d2, d3, d4, d5] => { results := [.lit (.bool true)], args := [d1, d2, d3, d4, d5] }
  | _ => none }
def treeChecksRow : OpenClaim := { program := "ytjoilobbopdcpaa", sum := "f785c6758487942b2d242ff78e373a5868166d924ebbd10112f29c388ef87a0a", func := "grapnel/grapnellaw07.TreeChecks", spec := "treeChecks", plainKeys := false, apart := false }
def TreeChecksSaid : Prop := treeChecksRow.holds Try.pinned (OpenSpec.ofChange treeChecksSpec)

/-- ITS FALSE NEIGHBOUR: 'it returns false'. Refute it at one input. -/
def treeChecksWrong : ChangeSpec := { name := "treeChecks", fn := fun _ => fun
  | [d1, d2, d3, d4, d5] => { results := [.lit (.bool false)], args := [d1, d2, d3, d4, d5] }
  | _ => none }
def TreeChecksWrongFalsely : Prop := treeChecksRow.holds Try.pinned (OpenSpec.ofChange treeChecksWrong)

/-- 'grapnellaw07.TreeSets': WHATEVER THE INPUT: true; the input reads as it did. -/
def treeSetsSpec : ChangeSpec := { name := "treeSets", fn := fun _ => fun
  | [d1, d2] => { results := [.lit (.bool true)], args := [d1, d2] }
  | _ => none }
def treeSetsRow : OpenClaim := { program := "ytjoilobbopdcpaa", sum := "f785c6758487942b2d242ff78e373a5868166d924ebbd10112f29c388ef87a0a", func := "grapnel/grapnellaw07.TreeSets", spec := "treeSets", plainKeys := false, apart := false }
def TreeSetsSaid : Prop := treeSetsRow.holds Try.pinned (OpenSpec.ofChange treeSetsSpec)

/-- ITS FALSE NEIGHBOUR: 'it returns false'. Refute it at one input. -/
def treeSetsWrong : ChangeSpec := { name := "treeSets", fn := fun _ => fun
  | [d1, d2] => { results := [.lit (.bool false)], args := [d1, d2] }
  | _ => none }
def TreeSetsWrongFalsely : Prop := treeSetsRow.holds Try.pinned (OpenSpec.ofChange treeSetsWrong)

/-- 'grapnellaw07.TreePaths': WHATEVER THE INPUT: true; the input reads as it did. -/
def treePathsSpec : ChangeSpec := { name := "treePaths", fn := fun _ => fun
  | [d1, d2] => { results := [.lit (.bool true)], args := [d1, d2] }
  | _ => none }
def treePathsRow : OpenClaim := { program := "ytjoilobbopdcpaa", sum := "f785c6758487942b2d242ff78e373a5868166d924ebbd10112f29c388ef87a0a", func := "grapnel/grapnellaw07.TreePaths", spec := "treePaths", plainKeys := false, apart := false }
def TreePathsSaid : Prop := treePathsRow.holds Try.pinned (OpenSpec.ofChange treePathsSpec)

/-- ITS FALSE NEIGHBOUR: 'it returns false'. Refute it at one input. -/
def treePathsWrong : ChangeSpec := { name := "treePaths", fn := fun _ => fun
  | [d1, d2] => { results := [.lit (.bool false)], args := [d1, d2] }
  | _ => none }
def TreePathsWrongFalsely : Prop := treePathsRow.holds Try.pinned (OpenSpec.ofChange treePathsWrong)

/- THE SECOND FORM. 'bulk': how many values and letters a reading holds, each counted each time it is reached (what is shared counts as often as it is met; a slice's spare places count too). A statement '..UptoSaid' is the law's where the arguments, and the package variables that the reading takes, are together of bulk at most 1048576: NARROWER than '..Said'. Prove '..Said' where nothing that the law and all that it calls make is longer than what came in: it says more and counts as full. Else prove '..UptoSaid'. A law counts once. -/
mutual
def uptoBulk {H : Type} : DataW H → Nat
  | .lit (.string bytes) => bytes.length + 1
  | .lit _ => 1
  | .nil => 1
  | .ptr d => uptoBulk d + 1
  | .slice elems spare => uptoBulkAll elems + uptoBulkAll spare + 1
  | .agg parts => uptoBulkAll parts + 1
  | .iface _ d => uptoBulk d + 1
  | .map entries => uptoBulkEntries entries + 1
  | .held _ => 1
def uptoBulkAll {H : Type} : List (DataW H) → Nat
  | [] => 0
  | d :: r => uptoBulk d + uptoBulkAll r
def uptoBulkEntries {H : Type} : List (Lit × DataW H) → Nat
  | [] => 0
  | x :: r => uptoBulkEntry x + uptoBulkEntries r
def uptoBulkEntry {H : Type} : Lit × DataW H → Nat
  | (.string bytes, d) => bytes.length + uptoBulk d + 1
  | (_, d) => uptoBulk d + 1
 end
def uptoSmall : (H : Type) → List (DataW H) → Bool := fun _ ds => decide (uptoBulkAll ds ≤ 1048576)
def OpenSpec.upto (s : _root_.Go.ChangeSpec) : _root_.Go.OpenSpec := { _root_.Go.OpenSpec.ofChange s with cond := some uptoSmall }

/-- 'grapnellaw07.TreeUnlike', WHERE WHAT IT READS IS OF BULK AT MOST 1048576: true; the input reads as it did. -/
def treeUnlikeUptoRow : OpenClaim := { program := "ytjoilobbopdcpaa", sum := "f785c6758487942b2d242ff78e373a5868166d924ebbd10112f29c388ef87a0a", func := "grapnel/grapnellaw07.TreeUnlike", spec := "treeUnlike", plainKeys := false, apart := false, narrowed := true }
def TreeUnlikeUptoSaid : Prop := treeUnlikeUptoRow.holds Try.pinned (OpenSpec.upto treeUnlikeSpec)

/-- 'grapnellaw07.TreeShown', WHERE WHAT IT READS IS OF BULK AT MOST 1048576: true; the input reads as it did. -/
def treeShownUptoRow : OpenClaim := { program := "ytjoilobbopdcpaa", sum := "f785c6758487942b2d242ff78e373a5868166d924ebbd10112f29c388ef87a0a", func := "grapnel/grapnellaw07.TreeShown", spec := "treeShown", plainKeys := false, apart := false, narrowed := true }
def TreeShownUptoSaid : Prop := treeShownUptoRow.holds Try.pinned (OpenSpec.upto treeShownSpec)

/-- 'grapnellaw07.TreeBent', WHERE WHAT IT READS IS OF BULK AT MOST 1048576: true; the input reads as it did. -/
def treeBentUptoRow : OpenClaim := { program := "ytjoilobbopdcpaa", sum := "f785c6758487942b2d242ff78e373a5868166d924ebbd10112f29c388ef87a0a", func := "grapnel/grapnellaw07.TreeBent", spec := "treeBent", plainKeys := false, apart := false, narrowed := true }
def TreeBentUptoSaid : Prop := treeBentUptoRow.holds Try.pinned (OpenSpec.upto treeBentSpec)

/-- 'grapnellaw07.TreeKept', WHERE WHAT IT READS IS OF BULK AT MOST 1048576: true; the input reads as it did. -/
def treeKeptUptoRow : OpenClaim := { program := "ytjoilobbopdcpaa", sum := "f785c6758487942b2d242ff78e373a5868166d924ebbd10112f29c388ef87a0a", func := "grapnel/grapnellaw07.TreeKept", spec := "treeKept", plainKeys := false, apart := false, narrowed := true }
def TreeKeptUptoSaid : Prop := treeKeptUptoRow.holds Try.pinned (OpenSpec.upto treeKeptSpec)

/-- 'grapnellaw07.TreeNobody', WHERE WHAT IT READS IS OF BULK AT MOST 1048576: true; the input reads as it did. -/
def treeNobodyUptoRow : OpenClaim := { program := "ytjoilobbopdcpaa", sum := "f785c6758487942b2d242ff78e373a5868166d924ebbd10112f29c388ef87a0a", func := "grapnel/grapnellaw07.TreeNobody", spec := "treeNobody", plainKeys := false, apart := false, narrowed := true }
def TreeNobodyUptoSaid : Prop := treeNobodyUptoRow.holds Try.pinned (OpenSpec.upto treeNobodySpec)

/-- 'grapnellaw07.TreeRoots', WHERE WHAT IT READS IS OF BULK AT MOST 1048576: true; the input reads as it did. -/
def treeRootsUptoRow : OpenClaim := { program := "ytjoilobbopdcpaa", sum := "f785c6758487942b2d242ff78e373a5868166d924ebbd10112f29c388ef87a0a", func := "grapnel/grapnellaw07.TreeRoots", spec := "treeRoots", plainKeys := false, apart := false, narrowed := true }
def TreeRootsUptoSaid : Prop := treeRootsUptoRow.holds Try.pinned (OpenSpec.upto treeRootsSpec)

/-- 'grapnellaw07.TreeChecks', WHERE WHAT IT READS IS OF BULK AT MOST 1048576: true; the input reads as it did. -/
def treeChecksUptoRow : OpenClaim := { program := "ytjoilobbopdcpaa", sum := "f785c6758487942b2d242ff78e373a5868166d924ebbd10112f29c388ef87a0a", func := "grapnel/grapnellaw07.TreeChecks", spec := "treeChecks", plainKeys := false, apart := false, narrowed := true }
def TreeChecksUptoSaid : Prop := treeChecksUptoRow.holds Try.pinned (OpenSpec.upto treeChecksSpec)

/-- 'grapnellaw07.TreeSets', WHERE WHAT IT READS IS OF BULK AT MOST 1048576: true; the input reads as it did. -/
def treeSetsUptoRow : OpenClaim := { program := "ytjoilobbopdcpaa", sum := "f785c6758487942b2d242ff78e373a5868166d924ebbd10112f29c388ef87a0a", func := "grapnel/grapnellaw07.TreeSets", spec := "treeSets", plainKeys := false, apart := false, narrowed := true }
def TreeSetsUptoSaid : Prop := treeSetsUptoRow.holds Try.pinned (OpenSpec.upto treeSetsSpec)

/-- 'grapnellaw07.TreePaths', WHERE WHAT IT READS IS OF BULK AT MOST 1048576: true; the input reads as it did. -/
def treePathsUptoRow : OpenClaim := { program := "ytjoilobbopdcpaa", sum := "f785c6758487942b2d242ff78e373a5868166d924ebbd10112f29c388ef87a0a", func := "grapnel/grapnellaw07.TreePaths", spec := "treePaths", plainKeys := false, apart := false, narrowed := true }
def TreePathsUptoSaid : Prop := treePathsUptoRow.holds Try.pinned (OpenSpec.upto treePathsSpec)

end Rows
end Go.Proofs.Ytjoilobbopdcpaa
