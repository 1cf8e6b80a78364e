/-
  No cell of these rows narrows 'for every input' (looked for: loops, veiled, ifaces, maps, wideKeys, modest, calm, conditions, laid).
  DERIVED. THE GIVEN ROWS OF THIS SEAT. 14 by the template 'for every input the law returns true; each argument reads behind the call as it read before'; 0 by the template 'total and deterministic' (their statements: YtpbmgollolbgoaaTotals.lean).
  GIVEN WITH THE SEED: the statements are not yours to turn. If you find one false, say at which input.
  Laid BY PROGRAM, IN A SANDBOX (cutbox-rows.mjs): the forced cells as the released guide's own fill.sh prints them over the translation 2c0d5c88b921b3d1… (all of the seat's roots in one cut). By AI agents, Wed Nov 11 2026. No macro, syntax, notation, axiom, sorry.
-/
import Derived.Test.YtpbmgollolbgoaaChecked
import GoSem.Claim
import GoSem.ClaimJoined
import GoSem.ClaimMapViews
import Derived.JoinedTies
import Derived.KernelRfl
namespace Go.Proofs.Ytpbmgollolbgoaa
/- THE CELL 'sum', in the pinned program and in every row, IS THE sha256 OF THE DUMP (.gsa) THAT YtpbmgollolbgoaaProg.lean LOADS. Nothing in Lean hashes anything: it is a label: what it is worth is what the hold of that sum in a sandbox is worth. -/
noncomputable def Try.pinned : Pinned := { name := "ytpbmgollolbgoaa", sum := "2c0d5c88b921b3d145b4162ef57dd6882dc42df11aed1eab32c22906ecd2769b", checked := Try.checked }
namespace Rows
def none {H : Type} : Left H := { results := [], args := [] }

/-- 'grapnellaw01.PackPuts': WHATEVER THE INPUT: true; the input reads as it did. -/
def packPutsSpec : ChangeSpec := { name := "packPuts", fn := fun _ => fun
  | [d1, d2] => { results := [.lit (.bool true)], args := [d1, d2] }
  | _ => none }
def packPutsRow : OpenClaim := { program := "ytpbmgollolbgoaa", sum := "2c0d5c88b921b3d145b4162ef57dd6882dc42df11aed1eab32c22906ecd2769b", func := "grapnel/grapnellaw01.PackPuts", spec := "packPuts", unfollowed := true, recurses := true, apart := false }
def PackPutsSaid : Prop := packPutsRow.holds Try.pinned (OpenSpec.ofChange packPutsSpec)

/-- ITS FALSE NEIGHBOUR: 'it returns false'. Refute it at one input. -/
def packPutsWrong : ChangeSpec := { name := "packPuts", fn := fun _ => fun
  | [d1, d2] => { results := [.lit (.bool false)], args := [d1, d2] }
  | _ => none }
def PackPutsWrongFalsely : Prop := packPutsRow.holds Try.pinned (OpenSpec.ofChange packPutsWrong)

/-- 'grapnellaw01.PackGets': WHATEVER THE INPUT: true; the input reads as it did. -/
def packGetsSpec : ChangeSpec := { name := "packGets", fn := fun _ => fun
  | [d1, d2, d3] => { results := [.lit (.bool true)], args := [d1, d2, d3] }
  | _ => none }
def packGetsRow : OpenClaim := { program := "ytpbmgollolbgoaa", sum := "2c0d5c88b921b3d145b4162ef57dd6882dc42df11aed1eab32c22906ecd2769b", func := "grapnel/grapnellaw01.PackGets", spec := "packGets", unfollowed := true, recurses := true, apart := false }
def PackGetsSaid : Prop := packGetsRow.holds Try.pinned (OpenSpec.ofChange packGetsSpec)

/-- ITS FALSE NEIGHBOUR: 'it returns false'. Refute it at one input. -/
def packGetsWrong : ChangeSpec := { name := "packGets", fn := fun _ => fun
  | [d1, d2, d3] => { results := [.lit (.bool false)], args := [d1, d2, d3] }
  | _ => none }
def PackGetsWrongFalsely : Prop := packGetsRow.holds Try.pinned (OpenSpec.ofChange packGetsWrong)

/-- 'grapnellaw01.PackBack': WHATEVER THE INPUT: true; the input reads as it did. -/
def packBackSpec : ChangeSpec := { name := "packBack", fn := fun _ => fun
  | [d1, d2, d3, d4] => { results := [.lit (.bool true)], args := [d1, d2, d3, d4] }
  | _ => none }
def packBackRow : OpenClaim := { program := "ytpbmgollolbgoaa", sum := "2c0d5c88b921b3d145b4162ef57dd6882dc42df11aed1eab32c22906ecd2769b", func := "grapnel/grapnellaw01.PackBack", spec := "packBack", unfollowed := true, recurses := true, apart := false }
def PackBackSaid : Prop := packBackRow.holds Try.pinned (OpenSpec.ofChange packBackSpec)

/-- ITS FALSE NEIGHBOUR: 'it returns false'. Refute it at one input. -/
def packBackWrong : ChangeSpec := { name := "packBack", fn := fun _ => fun
  | [d1, d2, d3, d4] => { results := [.lit (.bool false)], args := [d1, d2, d3, d4] }
  | _ => none }
def PackBackWrongFalsely : Prop := packBackRow.holds Try.pinned (OpenSpec.ofChange packBackWrong)

/-- 'grapnellaw01.PackPads': WHATEVER THE INPUT: true; the input reads as it did. -/
def packPadsSpec : ChangeSpec := { name := "packPads", fn := fun _ => fun
  | [d1, d2] => { results := [.lit (.bool true)], args := [d1, d2] }
  | _ => none }
def packPadsRow : OpenClaim := { program := "ytpbmgollolbgoaa", sum := "2c0d5c88b921b3d145b4162ef57dd6882dc42df11aed1eab32c22906ecd2769b", func := "grapnel/grapnellaw01.PackPads", spec := "packPads", unfollowed := true, recurses := true, apart := false }
def PackPadsSaid : Prop := packPadsRow.holds Try.pinned (OpenSpec.ofChange packPadsSpec)

/-- ITS FALSE NEIGHBOUR: 'it returns false'. Refute it at one input. -/
def packPadsWrong : ChangeSpec := { name := "packPads", fn := fun _ => fun
  | [d1, d2] => { results := [.lit (.bool false)], args := [d1, d2] }
  | _ => none }
def PackPadsWrongFalsely : Prop := packPadsRow.holds Try.pinned (OpenSpec.ofChange packPadsWrong)

/-- 'grapnellaw01.PackEntries': WHATEVER THE INPUT: true; the input reads as it did. -/
def packEntriesSpec : ChangeSpec := { name := "packEntries", fn := fun _ => fun
  | [d] => { results := [.lit (.bool true)], args := [d] }
  | _ => none }
def packEntriesRow : OpenClaim := { program := "ytpbmgollolbgoaa", sum := "2c0d5c88b921b3d145b4162ef57dd6882dc42df11aed1eab32c22906ecd2769b", func := "grapnel/grapnellaw01.PackEntries", spec := "packEntries", unfollowed := true, recurses := true, apart := false }
def PackEntriesSaid : Prop := packEntriesRow.holds Try.pinned (OpenSpec.ofChange packEntriesSpec)

/-- ITS FALSE NEIGHBOUR: 'it returns false'. Refute it at one input. -/
def packEntriesWrong : ChangeSpec := { name := "packEntries", fn := fun _ => fun
  | [d] => { results := [.lit (.bool false)], args := [d] }
  | _ => none }
def PackEntriesWrongFalsely : Prop := packEntriesRow.holds Try.pinned (OpenSpec.ofChange packEntriesWrong)

/-- 'grapnellaw01.PackHeads': WHATEVER THE INPUT: true; the input reads as it did. -/
def packHeadsSpec : ChangeSpec := { name := "packHeads", fn := fun _ => fun
  | [d] => { results := [.lit (.bool true)], args := [d] }
  | _ => none }
def packHeadsRow : OpenClaim := { program := "ytpbmgollolbgoaa", sum := "2c0d5c88b921b3d145b4162ef57dd6882dc42df11aed1eab32c22906ecd2769b", func := "grapnel/grapnellaw01.PackHeads", spec := "packHeads", unfollowed := true, recurses := true, apart := false }
def PackHeadsSaid : Prop := packHeadsRow.holds Try.pinned (OpenSpec.ofChange packHeadsSpec)

/-- ITS FALSE NEIGHBOUR: 'it returns false'. Refute it at one input. -/
def packHeadsWrong : ChangeSpec := { name := "packHeads", fn := fun _ => fun
  | [d] => { results := [.lit (.bool false)], args := [d] }
  | _ => none }
def PackHeadsWrongFalsely : Prop := packHeadsRow.holds Try.pinned (OpenSpec.ofChange packHeadsWrong)

/-- 'grapnellaw01.PackSupers': WHATEVER THE INPUT: true; the input reads as it did. -/
def packSupersSpec : ChangeSpec := { name := "packSupers", fn := fun _ => fun
  | [d] => { results := [.lit (.bool true)], args := [d] }
  | _ => none }
def packSupersRow : OpenClaim := { program := "ytpbmgollolbgoaa", sum := "2c0d5c88b921b3d145b4162ef57dd6882dc42df11aed1eab32c22906ecd2769b", func := "grapnel/grapnellaw01.PackSupers", spec := "packSupers", unfollowed := true, recurses := true, apart := false }
def PackSupersSaid : Prop := packSupersRow.holds Try.pinned (OpenSpec.ofChange packSupersSpec)

/-- ITS FALSE NEIGHBOUR: 'it returns false'. Refute it at one input. -/
def packSupersWrong : ChangeSpec := { name := "packSupers", fn := fun _ => fun
  | [d] => { results := [.lit (.bool false)], args := [d] }
  | _ => none }
def PackSupersWrongFalsely : Prop := packSupersRow.holds Try.pinned (OpenSpec.ofChange packSupersWrong)

/-- 'grapnellaw01.PackHeadReads': WHATEVER THE INPUT: true; the input reads as it did. -/
def packHeadReadsSpec : ChangeSpec := { name := "packHeadReads", fn := fun _ => fun
  | [d] => { results := [.lit (.bool true)], args := [d] }
  | _ => none }
def packHeadReadsRow : OpenClaim := { program := "ytpbmgollolbgoaa", sum := "2c0d5c88b921b3d145b4162ef57dd6882dc42df11aed1eab32c22906ecd2769b", func := "grapnel/grapnellaw01.PackHeadReads", spec := "packHeadReads", unfollowed := true, recurses := true, apart := false }
def PackHeadReadsSaid : Prop := packHeadReadsRow.holds Try.pinned (OpenSpec.ofChange packHeadReadsSpec)

/-- ITS FALSE NEIGHBOUR: 'it returns false'. Refute it at one input. -/
def packHeadReadsWrong : ChangeSpec := { name := "packHeadReads", fn := fun _ => fun
  | [d] => { results := [.lit (.bool false)], args := [d] }
  | _ => none }
def PackHeadReadsWrongFalsely : Prop := packHeadReadsRow.holds Try.pinned (OpenSpec.ofChange packHeadReadsWrong)

/-- 'grapnellaw01.PackInodes': WHATEVER THE INPUT: true; the input reads as it did. -/
def packInodesSpec : ChangeSpec := { name := "packInodes", fn := fun _ => fun
  | [d] => { results := [.lit (.bool true)], args := [d] }
  | _ => none }
def packInodesRow : OpenClaim := { program := "ytpbmgollolbgoaa", sum := "2c0d5c88b921b3d145b4162ef57dd6882dc42df11aed1eab32c22906ecd2769b", func := "grapnel/grapnellaw01.PackInodes", spec := "packInodes", unfollowed := true, recurses := true, apart := false }
def PackInodesSaid : Prop := packInodesRow.holds Try.pinned (OpenSpec.ofChange packInodesSpec)

/-- ITS FALSE NEIGHBOUR: 'it returns false'. Refute it at one input. -/
def packInodesWrong : ChangeSpec := { name := "packInodes", fn := fun _ => fun
  | [d] => { results := [.lit (.bool false)], args := [d] }
  | _ => none }
def PackInodesWrongFalsely : Prop := packInodesRow.holds Try.pinned (OpenSpec.ofChange packInodesWrong)

/-- 'grapnellaw01.PackInodeReads': WHATEVER THE INPUT: true; the input reads as it did. -/
def packInodeReadsSpec : ChangeSpec := { name := "packInodeReads", fn := fun _ => fun
  | [d] => { results := [.lit (.bool true)], args := [d] }
  | _ => none }
def packInodeReadsRow : OpenClaim := { program := "ytpbmgollolbgoaa", sum := "2c0d5c88b921b3d145b4162ef57dd6882dc42df11aed1eab32c22906ecd2769b", func := "grapnel/grapnellaw01.PackInodeReads", spec := "packInodeReads", unfollowed := true, recurses := true, apart := false }
def PackInodeReadsSaid : Prop := packInodeReadsRow.holds Try.pinned (OpenSpec.ofChange packInodeReadsSpec)

/-- ITS FALSE NEIGHBOUR: 'it returns false'. Refute it at one input. -/
def packInodeReadsWrong : ChangeSpec := { name := "packInodeReads", fn := fun _ => fun
  | [d] => { results := [.lit (.bool false)], args := [d] }
  | _ => none }
def PackInodeReadsWrongFalsely : Prop := packInodeReadsRow.holds Try.pinned (OpenSpec.ofChange packInodeReadsWrong)

/-- 'grapnellaw01.PackSuperReads': WHATEVER THE INPUT: true; the input reads as it did. -/
def packSuperReadsSpec : ChangeSpec := { name := "packSuperReads", fn := fun _ => fun
  | [d] => { results := [.lit (.bool true)], args := [d] }
  | _ => none }
def packSuperReadsRow : OpenClaim := { program := "ytpbmgollolbgoaa", sum := "2c0d5c88b921b3d145b4162ef57dd6882dc42df11aed1eab32c22906ecd2769b", func := "grapnel/grapnellaw01.PackSuperReads", spec := "packSuperReads", unfollowed := true, recurses := true, apart := false }
def PackSuperReadsSaid : Prop := packSuperReadsRow.holds Try.pinned (OpenSpec.ofChange packSuperReadsSpec)

/-- ITS FALSE NEIGHBOUR: 'it returns false'. Refute it at one input. -/
def packSuperReadsWrong : ChangeSpec := { name := "packSuperReads", fn := fun _ => fun
  | [d] => { results := [.lit (.bool false)], args := [d] }
  | _ => none }
def PackSuperReadsWrongFalsely : Prop := packSuperReadsRow.holds Try.pinned (OpenSpec.ofChange packSuperReadsWrong)

/-- 'grapnellaw01.PackEntryReads': WHATEVER THE INPUT: true; the input reads as it did. -/
def packEntryReadsSpec : ChangeSpec := { name := "packEntryReads", fn := fun _ => fun
  | [d] => { results := [.lit (.bool true)], args := [d] }
  | _ => none }
def packEntryReadsRow : OpenClaim := { program := "ytpbmgollolbgoaa", sum := "2c0d5c88b921b3d145b4162ef57dd6882dc42df11aed1eab32c22906ecd2769b", func := "grapnel/grapnellaw01.PackEntryReads", spec := "packEntryReads", unfollowed := true, recurses := true, apart := false }
def PackEntryReadsSaid : Prop := packEntryReadsRow.holds Try.pinned (OpenSpec.ofChange packEntryReadsSpec)

/-- ITS FALSE NEIGHBOUR: 'it returns false'. Refute it at one input. -/
def packEntryReadsWrong : ChangeSpec := { name := "packEntryReads", fn := fun _ => fun
  | [d] => { results := [.lit (.bool false)], args := [d] }
  | _ => none }
def PackEntryReadsWrongFalsely : Prop := packEntryReadsRow.holds Try.pinned (OpenSpec.ofChange packEntryReadsWrong)

/-- 'grapnellaw01.PackUnlike': WHATEVER THE INPUT: true; the input reads as it did. -/
def packUnlikeSpec : ChangeSpec := { name := "packUnlike", fn := fun _ => fun
  | [d1, d2, d3, d4] => { results := [.lit (.bool true)], args := [d1, d2, d3, d4] }
  | _ => none }
def packUnlikeRow : OpenClaim := { program := "ytpbmgollolbgoaa", sum := "2c0d5c88b921b3d145b4162ef57dd6882dc42df11aed1eab32c22906ecd2769b", func := "grapnel/grapnellaw01.PackUnlike", spec := "packUnlike", unfollowed := true, recurses := true, apart := false }
def PackUnlikeSaid : Prop := packUnlikeRow.holds Try.pinned (OpenSpec.ofChange packUnlikeSpec)

/-- ITS FALSE NEIGHBOUR: 'it returns false'. Refute it at one input. -/
def packUnlikeWrong : ChangeSpec := { name := "packUnlike", fn := fun _ => fun
  | [d1, d2, d3, d4] => { results := [.lit (.bool false)], args := [d1, d2, d3, d4] }
  | _ => none }
def PackUnlikeWrongFalsely : Prop := packUnlikeRow.holds Try.pinned (OpenSpec.ofChange packUnlikeWrong)

/-- 'grapnellaw01.PackCanon': WHATEVER THE INPUT: true; the input reads as it did. -/
def packCanonSpec : ChangeSpec := { name := "packCanon", fn := fun _ => fun
  | [d] => { results := [.lit (.bool true)], args := [d] }
  | _ => none }
def packCanonRow : OpenClaim := { program := "ytpbmgollolbgoaa", sum := "2c0d5c88b921b3d145b4162ef57dd6882dc42df11aed1eab32c22906ecd2769b", func := "grapnel/grapnellaw01.PackCanon", spec := "packCanon", unfollowed := true, recurses := true, apart := false }
def PackCanonSaid : Prop := packCanonRow.holds Try.pinned (OpenSpec.ofChange packCanonSpec)

/-- ITS FALSE NEIGHBOUR: 'it returns false'. Refute it at one input. -/
def packCanonWrong : ChangeSpec := { name := "packCanon", fn := fun _ => fun
  | [d] => { results := [.lit (.bool false)], args := [d] }
  | _ => none }
def PackCanonWrongFalsely : Prop := packCanonRow.holds Try.pinned (OpenSpec.ofChange packCanonWrong)

/- THE SECOND FORM. 'bulk': how many values and letters a reading holds, each counted each time it is reached (what is shared counts as often as it is met; a slice's spare places count too). A statement '..UptoSaid' is the law's where the arguments, and the package variables that the reading takes, are together of bulk at most 1048576: NARROWER than '..Said'. Prove '..Said' where nothing that the law and all that it calls make is longer than what came in: it says more and counts as full. Else prove '..UptoSaid'. A law counts once. -/
mutual
def uptoBulk {H : Type} : DataW H → Nat
  | .lit (.string bytes) => bytes.length + 1
  | .lit _ => 1
  | .nil => 1
  | .ptr d => uptoBulk d + 1
  | .slice elems spare => uptoBulkAll elems + uptoBulkAll spare + 1
  | .agg parts => uptoBulkAll parts + 1
  | .iface _ d => uptoBulk d + 1
  | .map entries => uptoBulkEntries entries + 1
  | .held _ => 1
def uptoBulkAll {H : Type} : List (DataW H) → Nat
  | [] => 0
  | d :: r => uptoBulk d + uptoBulkAll r
def uptoBulkEntries {H : Type} : List (Lit × DataW H) → Nat
  | [] => 0
  | x :: r => uptoBulkEntry x + uptoBulkEntries r
def uptoBulkEntry {H : Type} : Lit × DataW H → Nat
  | (.string bytes, d) => bytes.length + uptoBulk d + 1
  | (_, d) => uptoBulk d + 1
 end
def uptoSmall : (H : Type) → List (DataW H) → Bool := fun _ ds => decide (uptoBulkAll ds ≤ 1048576)
def OpenSpec.upto (s : _root_.Go.ChangeSpec) : _root_.Go.OpenSpec := { _root_.Go.OpenSpec.ofChange s with cond := some uptoSmall }

/-- 'grapnellaw01.PackPuts', WHERE WHAT IT READS IS OF BULK AT MOST 1048576: true; the input reads as it did. -/
def packPutsUptoRow : OpenClaim := { program := "ytpbmgollolbgoaa", sum := "2c0d5c88b921b3d145b4162ef57dd6882dc42df11aed1eab32c22906ecd2769b", func := "grapnel/grapnellaw01.PackPuts", spec := "packPuts", unfollowed := true, recurses := true, apart := false, narrowed := true }
def PackPutsUptoSaid : Prop := packPutsUptoRow.holds Try.pinned (OpenSpec.upto packPutsSpec)

/-- 'grapnellaw01.PackGets', WHERE WHAT IT READS IS OF BULK AT MOST 1048576: true; the input reads as it did. -/
def packGetsUptoRow : OpenClaim := { program := "ytpbmgollolbgoaa", sum := "2c0d5c88b921b3d145b4162ef57dd6882dc42df11aed1eab32c22906ecd2769b", func := "grapnel/grapnellaw01.PackGets", spec := "packGets", unfollowed := true, recurses := true, apart := false, narrowed := true }
def PackGetsUptoSaid : Prop := packGetsUptoRow.holds Try.pinned (OpenSpec.upto packGetsSpec)

/-- 'grapnellaw01.PackBack', WHERE WHAT IT READS IS OF BULK AT MOST 1048576: true; the input reads as it did. -/
def packBackUptoRow : OpenClaim := { program := "ytpbmgollolbgoaa", sum := "2c0d5c88b921b3d145b4162ef57dd6882dc42df11aed1eab32c22906ecd2769b", func := "grapnel/grapnellaw01.PackBack", spec := "packBack", unfollowed := true, recurses := true, apart := false, narrowed := true }
def PackBackUptoSaid : Prop := packBackUptoRow.holds Try.pinned (OpenSpec.upto packBackSpec)

/-- 'grapnellaw01.PackPads', WHERE WHAT IT READS IS OF BULK AT MOST 1048576: true; the input reads as it did. -/
def packPadsUptoRow : OpenClaim := { program := "ytpbmgollolbgoaa", sum := "2c0d5c88b921b3d145b4162ef57dd6882dc42df11aed1eab32c22906ecd2769b", func := "grapnel/grapnellaw01.PackPads", spec := "packPads", unfollowed := true, recurses := true, apart := false, narrowed := true }
def PackPadsUptoSaid : Prop := packPadsUptoRow.holds Try.pinned (OpenSpec.upto packPadsSpec)

/-- 'grapnellaw01.PackEntries', WHERE WHAT IT READS IS OF BULK AT MOST 1048576: true; the input reads as it did. -/
def packEntriesUptoRow : OpenClaim := { program := "ytpbmgollolbgoaa", sum := "2c0d5c88b921b3d145b4162ef57dd6882dc42df11aed1eab32c22906ecd2769b", func := "grapnel/grapnellaw01.PackEntries", spec := "packEntries", unfollowed := true, recurses := true, apart := false, narrowed := true }
def PackEntriesUptoSaid : Prop := packEntriesUptoRow.holds Try.pinned (OpenSpec.upto packEntriesSpec)

/-- 'grapnellaw01.PackHeads', WHERE WHAT IT READS IS OF BULK AT MOST 1048576: true; the input reads as it did. -/
def packHeadsUptoRow : OpenClaim := { program := "ytpbmgollolbgoaa", sum := "2c0d5c88b921b3d145b4162ef57dd6882dc42df11aed1eab32c22906ecd2769b", func := "grapnel/grapnellaw01.PackHeads", spec := "packHeads", unfollowed := true, recurses := true, apart := false, narrowed := true }
def PackHeadsUptoSaid : Prop := packHeadsUptoRow.holds Try.pinned (OpenSpec.upto packHeadsSpec)

/-- 'grapnellaw01.PackSupers', WHERE WHAT IT READS IS OF BULK AT MOST 1048576: true; the input reads as it did. -/
def packSupersUptoRow : OpenClaim := { program := "ytpbmgollolbgoaa", sum := "2c0d5c88b921b3d145b4162ef57dd6882dc42df11aed1eab32c22906ecd2769b", func := "grapnel/grapnellaw01.PackSupers", spec := "packSupers", unfollowed := true, recurses := true, apart := false, narrowed := true }
def PackSupersUptoSaid : Prop := packSupersUptoRow.holds Try.pinned (OpenSpec.upto packSupersSpec)

/-- 'grapnellaw01.PackHeadReads', WHERE WHAT IT READS IS OF BULK AT MOST 1048576: true; the input reads as it did. -/
def packHeadReadsUptoRow : OpenClaim := { program := "ytpbmgollolbgoaa", sum := "2c0d5c88b921b3d145b4162ef57dd6882dc42df11aed1eab32c22906ecd2769b", func := "grapnel/grapnellaw01.PackHeadReads", spec := "packHeadReads", unfollowed := true, recurses := true, apart := false, narrowed := true }
def PackHeadReadsUptoSaid : Prop := packHeadReadsUptoRow.holds Try.pinned (OpenSpec.upto packHeadReadsSpec)

/-- 'grapnellaw01.PackInodes', WHERE WHAT IT READS IS OF BULK AT MOST 1048576: true; the input reads as it did. -/
def packInodesUptoRow : OpenClaim := { program := "ytpbmgollolbgoaa", sum := "2c0d5c88b921b3d145b4162ef57dd6882dc42df11aed1eab32c22906ecd2769b", func := "grapnel/grapnellaw01.PackInodes", spec := "packInodes", unfollowed := true, recurses := true, apart := false, narrowed := true }
def PackInodesUptoSaid : Prop := packInodesUptoRow.holds Try.pinned (OpenSpec.upto packInodesSpec)

/-- 'grapnellaw01.PackInodeReads', WHERE WHAT IT READS IS OF BULK AT MOST 1048576: true; the input reads as it did. -/
def packInodeReadsUptoRow : OpenClaim := { program := "ytpbmgollolbgoaa", sum := "2c0d5c88b921b3d145b4162ef57dd6882dc42df11aed1eab32c22906ecd2769b", func := "grapnel/grapnellaw01.PackInodeReads", spec := "packInodeReads", unfollowed := true, recurses := true, apart := false, narrowed := true }
def PackInodeReadsUptoSaid : Prop := packInodeReadsUptoRow.holds Try.pinned (OpenSpec.upto packInodeReadsSpec)

/-- 'grapnellaw01.PackSuperReads', WHERE WHAT IT READS IS OF BULK AT MOST 1048576: true; the input reads as it did. -/
def packSuperReadsUptoRow : OpenClaim := { program := "ytpbmgollolbgoaa", sum := "2c0d5c88b921b3d145b4162ef57dd6882dc42df11aed1eab32c22906ecd2769b", func := "grapnel/grapnellaw01.PackSuperReads", spec := "packSuperReads", unfollowed := true, recurses := true, apart := false, narrowed := true }
def PackSuperReadsUptoSaid : Prop := packSuperReadsUptoRow.holds Try.pinned (OpenSpec.upto packSuperReadsSpec)

/-- 'grapnellaw01.PackEntryReads', WHERE WHAT IT READS IS OF BULK AT MOST 1048576: true; the input reads as it did. -/
def packEntryReadsUptoRow : OpenClaim := { program := "ytpbmgollolbgoaa", sum := "2c0d5c88b921b3d145b4162ef57dd6882dc42df11aed1eab32c22906ecd2769b", func := "grapnel/grapnellaw01.PackEntryReads", spec := "packEntryReads", unfollowed := true, recurses := true, apart := false, narrowed := true }
def PackEntryReadsUptoSaid : Prop := packEntryReadsUptoRow.holds Try.pinned (OpenSpec.upto packEntryReadsSpec)

/-- 'grapnellaw01.PackUnlike', WHERE WHAT IT READS IS OF BULK AT MOST 1048576: true; the input reads as it did. -/
def packUnlikeUptoRow : OpenClaim := { program := "ytpbmgollolbgoaa", sum := "2c0d5c88b921b3d145b4162ef57dd6882dc42df11aed1eab32c22906ecd2769b", func := "grapnel/grapnellaw01.PackUnlike", spec := "packUnlike", unfollowed := true, recurses := true, apart := false, narrowed := true }
def PackUnlikeUptoSaid : Prop := packUnlikeUptoRow.holds Try.pinned (OpenSpec.upto packUnlikeSpec)

/-- 'grapnellaw01.PackCanon', WHERE WHAT IT READS IS OF BULK AT MOST 1048576: true; the input reads as it did. -/
def packCanonUptoRow : OpenClaim := { program := "ytpbmgollolbgoaa", sum := "2c0d5c88b921b3d145b4162ef57dd6882dc42df11aed1eab32c22906ecd2769b", func := "grapnel/grapnellaw01.PackCanon", spec := "packCanon", unfollowed := true, recurses := true, apart := false, narrowed := true }
def PackCanonUptoSaid : Prop := packCanonUptoRow.holds Try.pinned (OpenSpec.upto packCanonSpec)

end Rows
end Go.Proofs.Ytpbmgollolbgoaa
