/-
  No cell of these rows narrows 'for every input' (looked for: loops, veiled, ifaces, maps, wideKeys, modest, calm, conditions, laid).
  DERIVED. THE GIVEN ROWS OF THIS SEAT. 8 by the template 'for every input the law returns true; each argument reads behind the call as it read before'; 0 by the template 'total and deterministic' (their statements: YtdamlbkibhmepaaTotals.lean).
  GIVEN WITH THE SEED: the statements are not yours to turn. If you find one false, say at which input.
  Laid BY PROGRAM, IN A SANDBOX (cutbox-rows.mjs): the forced cells as the released guide's own fill.sh prints them over the translation a0a111965dcdc927… (all of the seat's roots in one cut). By AI agents, Wed Nov 11 2026. No macro, syntax, notation, axiom, sorry.
-/
import Derived.Test.YtdamlbkibhmepaaChecked
import GoSem.Claim
import GoSem.ClaimJoined
import GoSem.ClaimMapViews
import Derived.JoinedTies
import Derived.KernelRfl
namespace Go.Proofs.Ytdamlbkibhmepaa
/- THE CELL 'sum', in the pinned program and in every row, IS THE sha256 OF THE DUMP (.gsa) THAT YtdamlbkibhmepaaProg.lean LOADS. Nothing in Lean hashes anything: it is a label: what it is worth is what the hold of that sum in a sandbox is worth. -/
noncomputable def Try.pinned : Pinned := { name := "ytdamlbkibhmepaa", sum := "a0a111965dcdc92738db3349e4e8acdee86790772c1ede46bae7e29f58e5d56a", checked := Try.checked }
namespace Rows
def none {H : Type} : Left H := { results := [], args := [] }

/-- 'grapnellaw11.ShelfPages': WHATEVER THE INPUT: true; the input reads as it did. -/
def shelfPagesSpec : ChangeSpec := { name := "shelfPages", fn := fun _ => fun
  | [d] => { results := [.lit (.bool true)], args := [d] }
  | _ => none }
def shelfPagesRow : OpenClaim := { program := "ytdamlbkibhmepaa", sum := "a0a111965dcdc92738db3349e4e8acdee86790772c1ede46bae7e29f58e5d56a", func := "grapnel/grapnellaw11.ShelfPages", spec := "shelfPages", inPlace := ["internal/abi.NoEscape"], unfollowed := true, recurses := true, apart := false }
def ShelfPagesSaid : Prop := shelfPagesRow.holds Try.pinned (OpenSpec.ofChange shelfPagesSpec)

/-- ITS FALSE NEIGHBOUR: 'it returns false'. Refute it at one input. -/
def shelfPagesWrong : ChangeSpec := { name := "shelfPages", fn := fun _ => fun
  | [d] => { results := [.lit (.bool false)], args := [d] }
  | _ => none }
def ShelfPagesWrongFalsely : Prop := shelfPagesRow.holds Try.pinned (OpenSpec.ofChange shelfPagesWrong)

/-- 'grapnellaw11.ShelfBodies': WHATEVER THE INPUT: true; the input reads as it did. -/
def shelfBodiesSpec : ChangeSpec := { name := "shelfBodies", fn := fun _ => fun
  | [d] => { results := [.lit (.bool true)], args := [d] }
  | _ => none }
def shelfBodiesRow : OpenClaim := { program := "ytdamlbkibhmepaa", sum := "a0a111965dcdc92738db3349e4e8acdee86790772c1ede46bae7e29f58e5d56a", func := "grapnel/grapnellaw11.ShelfBodies", spec := "shelfBodies", inPlace := ["internal/abi.NoEscape"], unfollowed := true, recurses := true, apart := false }
def ShelfBodiesSaid : Prop := shelfBodiesRow.holds Try.pinned (OpenSpec.ofChange shelfBodiesSpec)

/-- ITS FALSE NEIGHBOUR: 'it returns false'. Refute it at one input. -/
def shelfBodiesWrong : ChangeSpec := { name := "shelfBodies", fn := fun _ => fun
  | [d] => { results := [.lit (.bool false)], args := [d] }
  | _ => none }
def ShelfBodiesWrongFalsely : Prop := shelfBodiesRow.holds Try.pinned (OpenSpec.ofChange shelfBodiesWrong)

/-- 'grapnellaw11.ShelfBack': WHATEVER THE INPUT: true; the input reads as it did. -/
def shelfBackSpec : ChangeSpec := { name := "shelfBack", fn := fun _ => fun
  | [d1, d2] => { results := [.lit (.bool true)], args := [d1, d2] }
  | _ => none }
def shelfBackRow : OpenClaim := { program := "ytdamlbkibhmepaa", sum := "a0a111965dcdc92738db3349e4e8acdee86790772c1ede46bae7e29f58e5d56a", func := "grapnel/grapnellaw11.ShelfBack", spec := "shelfBack", inPlace := ["internal/abi.NoEscape"], unfollowed := true, recurses := true, apart := false }
def ShelfBackSaid : Prop := shelfBackRow.holds Try.pinned (OpenSpec.ofChange shelfBackSpec)

/-- ITS FALSE NEIGHBOUR: 'it returns false'. Refute it at one input. -/
def shelfBackWrong : ChangeSpec := { name := "shelfBack", fn := fun _ => fun
  | [d1, d2] => { results := [.lit (.bool false)], args := [d1, d2] }
  | _ => none }
def ShelfBackWrongFalsely : Prop := shelfBackRow.holds Try.pinned (OpenSpec.ofChange shelfBackWrong)

/-- 'grapnellaw11.ShelfFinds': WHATEVER THE INPUT: true; the input reads as it did. -/
def shelfFindsSpec : ChangeSpec := { name := "shelfFinds", fn := fun _ => fun
  | [d1, d2] => { results := [.lit (.bool true)], args := [d1, d2] }
  | _ => none }
def shelfFindsRow : OpenClaim := { program := "ytdamlbkibhmepaa", sum := "a0a111965dcdc92738db3349e4e8acdee86790772c1ede46bae7e29f58e5d56a", func := "grapnel/grapnellaw11.ShelfFinds", spec := "shelfFinds", inPlace := ["internal/abi.NoEscape"], unfollowed := true, recurses := true, apart := false }
def ShelfFindsSaid : Prop := shelfFindsRow.holds Try.pinned (OpenSpec.ofChange shelfFindsSpec)

/-- ITS FALSE NEIGHBOUR: 'it returns false'. Refute it at one input. -/
def shelfFindsWrong : ChangeSpec := { name := "shelfFinds", fn := fun _ => fun
  | [d1, d2] => { results := [.lit (.bool false)], args := [d1, d2] }
  | _ => none }
def ShelfFindsWrongFalsely : Prop := shelfFindsRow.holds Try.pinned (OpenSpec.ofChange shelfFindsWrong)

/-- 'grapnellaw11.ShelfNames': WHATEVER THE INPUT: true; the input reads as it did. -/
def shelfNamesSpec : ChangeSpec := { name := "shelfNames", fn := fun _ => fun
  | [d] => { results := [.lit (.bool true)], args := [d] }
  | _ => none }
def shelfNamesRow : OpenClaim := { program := "ytdamlbkibhmepaa", sum := "a0a111965dcdc92738db3349e4e8acdee86790772c1ede46bae7e29f58e5d56a", func := "grapnel/grapnellaw11.ShelfNames", spec := "shelfNames", inPlace := ["internal/abi.NoEscape"], unfollowed := true, recurses := true, apart := false }
def ShelfNamesSaid : Prop := shelfNamesRow.holds Try.pinned (OpenSpec.ofChange shelfNamesSpec)

/-- ITS FALSE NEIGHBOUR: 'it returns false'. Refute it at one input. -/
def shelfNamesWrong : ChangeSpec := { name := "shelfNames", fn := fun _ => fun
  | [d] => { results := [.lit (.bool false)], args := [d] }
  | _ => none }
def ShelfNamesWrongFalsely : Prop := shelfNamesRow.holds Try.pinned (OpenSpec.ofChange shelfNamesWrong)

/-- 'grapnellaw11.ShelfEnters': WHATEVER THE INPUT: true; the input reads as it did. -/
def shelfEntersSpec : ChangeSpec := { name := "shelfEnters", fn := fun _ => fun
  | [d1, d2] => { results := [.lit (.bool true)], args := [d1, d2] }
  | _ => none }
def shelfEntersRow : OpenClaim := { program := "ytdamlbkibhmepaa", sum := "a0a111965dcdc92738db3349e4e8acdee86790772c1ede46bae7e29f58e5d56a", func := "grapnel/grapnellaw11.ShelfEnters", spec := "shelfEnters", inPlace := ["internal/abi.NoEscape"], unfollowed := true, recurses := true, apart := false }
def ShelfEntersSaid : Prop := shelfEntersRow.holds Try.pinned (OpenSpec.ofChange shelfEntersSpec)

/-- ITS FALSE NEIGHBOUR: 'it returns false'. Refute it at one input. -/
def shelfEntersWrong : ChangeSpec := { name := "shelfEnters", fn := fun _ => fun
  | [d1, d2] => { results := [.lit (.bool false)], args := [d1, d2] }
  | _ => none }
def ShelfEntersWrongFalsely : Prop := shelfEntersRow.holds Try.pinned (OpenSpec.ofChange shelfEntersWrong)

/-- 'grapnellaw11.ShelfRights': WHATEVER THE INPUT: true; the input reads as it did. -/
def shelfRightsSpec : ChangeSpec := { name := "shelfRights", fn := fun _ => fun
  | [d] => { results := [.lit (.bool true)], args := [d] }
  | _ => none }
def shelfRightsRow : OpenClaim := { program := "ytdamlbkibhmepaa", sum := "a0a111965dcdc92738db3349e4e8acdee86790772c1ede46bae7e29f58e5d56a", func := "grapnel/grapnellaw11.ShelfRights", spec := "shelfRights", inPlace := ["internal/abi.NoEscape"], unfollowed := true, recurses := true, apart := false }
def ShelfRightsSaid : Prop := shelfRightsRow.holds Try.pinned (OpenSpec.ofChange shelfRightsSpec)

/-- ITS FALSE NEIGHBOUR: 'it returns false'. Refute it at one input. -/
def shelfRightsWrong : ChangeSpec := { name := "shelfRights", fn := fun _ => fun
  | [d] => { results := [.lit (.bool false)], args := [d] }
  | _ => none }
def ShelfRightsWrongFalsely : Prop := shelfRightsRow.holds Try.pinned (OpenSpec.ofChange shelfRightsWrong)

/-- 'grapnellaw11.ShelfKept': WHATEVER THE INPUT: true; the input reads as it did. -/
def shelfKeptSpec : ChangeSpec := { name := "shelfKept", fn := fun _ => fun
  | [d1, d2] => { results := [.lit (.bool true)], args := [d1, d2] }
  | _ => none }
def shelfKeptRow : OpenClaim := { program := "ytdamlbkibhmepaa", sum := "a0a111965dcdc92738db3349e4e8acdee86790772c1ede46bae7e29f58e5d56a", func := "grapnel/grapnellaw11.ShelfKept", spec := "shelfKept", inPlace := ["internal/abi.NoEscape"], unfollowed := true, recurses := true, apart := false }
def ShelfKeptSaid : Prop := shelfKeptRow.holds Try.pinned (OpenSpec.ofChange shelfKeptSpec)

/-- ITS FALSE NEIGHBOUR: 'it returns false'. Refute it at one input. -/
def shelfKeptWrong : ChangeSpec := { name := "shelfKept", fn := fun _ => fun
  | [d1, d2] => { results := [.lit (.bool false)], args := [d1, d2] }
  | _ => none }
def ShelfKeptWrongFalsely : Prop := shelfKeptRow.holds Try.pinned (OpenSpec.ofChange shelfKeptWrong)

/- THE SECOND FORM. 'bulk': how many values and letters a reading holds, each counted each time it is reached (what is shared counts as often as it is met; a slice's spare places count too). A statement '..UptoSaid' is the law's where the arguments, and the package variables that the reading takes, are together of bulk at most 1048576: NARROWER than '..Said'. Prove '..Said' where nothing that the law and all that it calls make is longer than what came in: it says more and counts as full. Else prove '..UptoSaid'. A law counts once. -/
mutual
def uptoBulk {H : Type} : DataW H → Nat
  | .lit (.string bytes) => bytes.length + 1
  | .lit _ => 1
  | .nil => 1
  | .ptr d => uptoBulk d + 1
  | .slice elems spare => uptoBulkAll elems + uptoBulkAll spare + 1
  | .agg parts => uptoBulkAll parts + 1
  | .iface _ d => uptoBulk d + 1
  | .map entries => uptoBulkEntries entries + 1
  | .held _ => 1
def uptoBulkAll {H : Type} : List (DataW H) → Nat
  | [] => 0
  | d :: r => uptoBulk d + uptoBulkAll r
def uptoBulkEntries {H : Type} : List (Lit × DataW H) → Nat
  | [] => 0
  | x :: r => uptoBulkEntry x + uptoBulkEntries r
def uptoBulkEntry {H : Type} : Lit × DataW H → Nat
  | (.string bytes, d) => bytes.length + uptoBulk d + 1
  | (_, d) => uptoBulk d + 1
 end
def uptoSmall : (H : Type) → List (DataW H) → Bool := fun _ ds => decide (uptoBulkAll ds ≤ 1048576)
def OpenSpec.upto (s : _root_.Go.ChangeSpec) : _root_.Go.OpenSpec := { _root_.Go.OpenSpec.ofChange s with cond := some uptoSmall }

/-- 'grapnellaw11.ShelfPages', WHERE WHAT IT READS IS OF BULK AT MOST 1048576: true; the input reads as it did. -/
def shelfPagesUptoRow : OpenClaim := { program := "ytdamlbkibhmepaa", sum := "a0a111965dcdc92738db3349e4e8acdee86790772c1ede46bae7e29f58e5d56a", func := "grapnel/grapnellaw11.ShelfPages", spec := "shelfPages", inPlace := ["internal/abi.NoEscape"], unfollowed := true, recurses := true, apart := false, narrowed := true }
def ShelfPagesUptoSaid : Prop := shelfPagesUptoRow.holds Try.pinned (OpenSpec.upto shelfPagesSpec)

/-- 'grapnellaw11.ShelfBodies', WHERE WHAT IT READS IS OF BULK AT MOST 1048576: true; the input reads as it did. -/
def shelfBodiesUptoRow : OpenClaim := { program := "ytdamlbkibhmepaa", sum := "a0a111965dcdc92738db3349e4e8acdee86790772c1ede46bae7e29f58e5d56a", func := "grapnel/grapnellaw11.ShelfBodies", spec := "shelfBodies", inPlace := ["internal/abi.NoEscape"], unfollowed := true, recurses := true, apart := false, narrowed := true }
def ShelfBodiesUptoSaid : Prop := shelfBodiesUptoRow.holds Try.pinned (OpenSpec.upto shelfBodiesSpec)

/-- 'grapnellaw11.ShelfBack', WHERE WHAT IT READS IS OF BULK AT MOST 1048576: true; the input reads as it did. -/
def shelfBackUptoRow : OpenClaim := { program := "ytdamlbkibhmepaa", sum := "a0a111965dcdc92738db3349e4e8acdee86790772c1ede46bae7e29f58e5d56a", func := "grapnel/grapnellaw11.ShelfBack", spec := "shelfBack", inPlace := ["internal/abi.NoEscape"], unfollowed := true, recurses := true, apart := false, narrowed := true }
def ShelfBackUptoSaid : Prop := shelfBackUptoRow.holds Try.pinned (OpenSpec.upto shelfBackSpec)

/-- 'grapnellaw11.ShelfFinds', WHERE WHAT IT READS IS OF BULK AT MOST 1048576: true; the input reads as it did. -/
def shelfFindsUptoRow : OpenClaim := { program := "ytdamlbkibhmepaa", sum := "a0a111965dcdc92738db3349e4e8acdee86790772c1ede46bae7e29f58e5d56a", func := "grapnel/grapnellaw11.ShelfFinds", spec := "shelfFinds", inPlace := ["internal/abi.NoEscape"], unfollowed := true, recurses := true, apart := false, narrowed := true }
def ShelfFindsUptoSaid : Prop := shelfFindsUptoRow.holds Try.pinned (OpenSpec.upto shelfFindsSpec)

/-- 'grapnellaw11.ShelfNames', WHERE WHAT IT READS IS OF BULK AT MOST 1048576: true; the input reads as it did. -/
def shelfNamesUptoRow : OpenClaim := { program := "ytdamlbkibhmepaa", sum := "a0a111965dcdc92738db3349e4e8acdee86790772c1ede46bae7e29f58e5d56a", func := "grapnel/grapnellaw11.ShelfNames", spec := "shelfNames", inPlace := ["internal/abi.NoEscape"], unfollowed := true, recurses := true, apart := false, narrowed := true }
def ShelfNamesUptoSaid : Prop := shelfNamesUptoRow.holds Try.pinned (OpenSpec.upto shelfNamesSpec)

/-- 'grapnellaw11.ShelfEnters', WHERE WHAT IT READS IS OF BULK AT MOST 1048576: true; the input reads as it did. -/
def shelfEntersUptoRow : OpenClaim := { program := "ytdamlbkibhmepaa", sum := "a0a111965dcdc92738db3349e4e8acdee86790772c1ede46bae7e29f58e5d56a", func := "grapnel/grapnellaw11.ShelfEnters", spec := "shelfEnters", inPlace := ["internal/abi.NoEscape"], unfollowed := true, recurses := true, apart := false, narrowed := true }
def ShelfEntersUptoSaid : Prop := shelfEntersUptoRow.holds Try.pinned (OpenSpec.upto shelfEntersSpec)

/-- 'grapnellaw11.ShelfRights', WHERE WHAT IT READS IS OF BULK AT MOST 1048576: true; the input reads as it did. -/
def shelfRightsUptoRow : OpenClaim := { program := "ytdamlbkibhmepaa", sum := "a0a111965dcdc92738db3349e4e8acdee86790772c1ede46bae7e29f58e5d56a", func := "grapnel/grapnellaw11.ShelfRights", spec := "shelfRights", inPlace := ["internal/abi.NoEscape"], unfollowed := true, recurses := true, apart := false, narrowed := true }
def ShelfRightsUptoSaid : Prop := shelfRightsUptoRow.holds Try.pinned (OpenSpec.upto shelfRightsSpec)

/-- 'grapnellaw11.ShelfKept', WHERE WHAT IT READS IS OF BULK AT MOST 1048576: true; the input reads as it did. -/
def shelfKeptUptoRow : OpenClaim := { program := "ytdamlbkibhmepaa", sum := "a0a111965dcdc92738db3349e4e8acdee86790772c1ede46bae7e29f58e5d56a", func := "grapnel/grapnellaw11.ShelfKept", spec := "shelfKept", inPlace := ["internal/abi.NoEscape"], unfollowed := true, recurses := true, apart := false, narrowed := true }
def ShelfKeptUptoSaid : Prop := shelfKeptUptoRow.holds Try.pinned (OpenSpec.upto shelfKeptSpec)

end Rows
end Go.Proofs.Ytdamlbkibhmepaa
