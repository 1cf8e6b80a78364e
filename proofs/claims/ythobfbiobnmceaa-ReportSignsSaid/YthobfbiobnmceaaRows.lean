/-
  No cell of these rows narrows 'for every input' (looked for: loops, veiled, ifaces, maps, wideKeys, modest, calm, conditions, laid).
  DERIVED. THE GIVEN ROWS OF THIS SEAT. 8 by the template 'for every input the law returns true; each argument reads behind the call as it read before'; 0 by the template 'total and deterministic' (their statements: YthobfbiobnmceaaTotals.lean).
  GIVEN WITH THE SEED: the statements are not yours to turn. If you find one false, say at which input.
  Laid BY PROGRAM, IN A SANDBOX (cutbox-rows.mjs): the forced cells as the released guide's own fill.sh prints them over the translation a1e7ac0e8e805aa9… (all of the seat's roots in one cut). By AI agents, Wed Nov 11 2026. No macro, syntax, notation, axiom, sorry.
-/
import Derived.Test.YthobfbiobnmceaaChecked
import GoSem.Claim
import GoSem.ClaimJoined
import GoSem.ClaimMapViews
import Derived.JoinedTies
import Derived.KernelRfl
namespace Go.Proofs.Ythobfbiobnmceaa
/- THE CELL 'sum', in the pinned program and in every row, IS THE sha256 OF THE DUMP (.gsa) THAT YthobfbiobnmceaaProg.lean LOADS. Nothing in Lean hashes anything: it is a label: what it is worth is what the hold of that sum in a sandbox is worth. -/
noncomputable def Try.pinned : Pinned := { name := "ythobfbiobnmceaa", sum := "a1e7ac0e8e805aa9847a959bcb1683504ffefc71cc812cda58b00c4bd4a5ff6a", checked := Try.checked }
namespace Rows
def none {H : Type} : Left H := { results := [], args := [] }

/-- 'grapnellaw16.ReportBytes': WHATEVER THE INPUT: true; the input reads as it did. -/
def reportBytesSpec : ChangeSpec := { name := "reportBytes", fn := fun _ => fun
  | [d] => { results := [.lit (.bool true)], args := [d] }
  | _ => none }
def reportBytesRow : OpenClaim := { program := "ythobfbiobnmceaa", sum := "a1e7ac0e8e805aa9847a959bcb1683504ffefc71cc812cda58b00c4bd4a5ff6a", func := "grapnel/grapnellaw16.ReportBytes", spec := "reportBytes", inPlace := ["internal/abi.NoEscape"], unfollowed := true, recurses := true, plainKeys := false, apart := false }
def ReportBytesSaid : Prop := reportBytesRow.holds Try.pinned (OpenSpec.ofChange reportBytesSpec)

/-- ITS FALSE NEIGHBOUR: 'it returns false'. Refute it at one input. -/
def reportBytesWrong : ChangeSpec := { name := "reportBytes", fn := fun _ => fun
  | [d] => { results := [.lit (.bool false)], args := [d] }
  | _ => none }
def ReportBytesWrongFalsely : Prop := reportBytesRow.holds Try.pinned (OpenSpec.ofChange reportBytesWrong)

/-- 'grapnellaw16.ReportReads': WHATEVER THE INPUT: true; the input reads as it did. -/
def reportReadsSpec : ChangeSpec := { name := "reportReads", fn := fun _ => fun
  | [d] => { results := [.lit (.bool true)], args := [d] }
  | _ => none }
def reportReadsRow : OpenClaim := { program := "ythobfbiobnmceaa", sum := "a1e7ac0e8e805aa9847a959bcb1683504ffefc71cc812cda58b00c4bd4a5ff6a", func := "grapnel/grapnellaw16.ReportReads", spec := "reportReads", inPlace := ["internal/abi.NoEscape"], unfollowed := true, recurses := true, plainKeys := false, apart := false }
def ReportReadsSaid : Prop := reportReadsRow.holds Try.pinned (OpenSpec.ofChange reportReadsSpec)

/-- ITS FALSE NEIGHBOUR: 'it returns false'. Refute it at one input. -/
def reportReadsWrong : ChangeSpec := { name := "reportReads", fn := fun _ => fun
  | [d] => { results := [.lit (.bool false)], args := [d] }
  | _ => none }
def ReportReadsWrongFalsely : Prop := reportReadsRow.holds Try.pinned (OpenSpec.ofChange reportReadsWrong)

/-- 'grapnellaw16.ReportBack': WHATEVER THE INPUT: true; the input reads as it did. -/
def reportBackSpec : ChangeSpec := { name := "reportBack", fn := fun _ => fun
  | [d1, d2] => { results := [.lit (.bool true)], args := [d1, d2] }
  | _ => none }
def reportBackRow : OpenClaim := { program := "ythobfbiobnmceaa", sum := "a1e7ac0e8e805aa9847a959bcb1683504ffefc71cc812cda58b00c4bd4a5ff6a", func := "grapnel/grapnellaw16.ReportBack", spec := "reportBack", inPlace := ["internal/abi.NoEscape"], unfollowed := true, recurses := true, plainKeys := false, apart := false }
def ReportBackSaid : Prop := reportBackRow.holds Try.pinned (OpenSpec.ofChange reportBackSpec)

/-- ITS FALSE NEIGHBOUR: 'it returns false'. Refute it at one input. -/
def reportBackWrong : ChangeSpec := { name := "reportBack", fn := fun _ => fun
  | [d1, d2] => { results := [.lit (.bool false)], args := [d1, d2] }
  | _ => none }
def ReportBackWrongFalsely : Prop := reportBackRow.holds Try.pinned (OpenSpec.ofChange reportBackWrong)

/-- 'grapnellaw16.ReportCuts': WHATEVER THE INPUT: true; the input reads as it did. -/
def reportCutsSpec : ChangeSpec := { name := "reportCuts", fn := fun _ => fun
  | [d1, d2, d3] => { results := [.lit (.bool true)], args := [d1, d2, d3] }
  | _ => none }
def reportCutsRow : OpenClaim := { program := "ythobfbiobnmceaa", sum := "a1e7ac0e8e805aa9847a959bcb1683504ffefc71cc812cda58b00c4bd4a5ff6a", func := "grapnel/grapnellaw16.ReportCuts", spec := "reportCuts", inPlace := ["internal/abi.NoEscape"], unfollowed := true, recurses := true, plainKeys := false, apart := false }
def ReportCutsSaid : Prop := reportCutsRow.holds Try.pinned (OpenSpec.ofChange reportCutsSpec)

/-- ITS FALSE NEIGHBOUR: 'it returns false'. Refute it at one input. -/
def reportCutsWrong : ChangeSpec := { name := "reportCuts", fn := fun _ => fun
  | [d1, d2, d3] => { results := [.lit (.bool false)], args := [d1, d2, d3] }
  | _ => none }
def ReportCutsWrongFalsely : Prop := reportCutsRow.holds Try.pinned (OpenSpec.ofChange reportCutsWrong)

/-- 'grapnellaw16.ReportPurpose': WHATEVER THE INPUT: true; the input reads as it did. -/
def reportPurposeSpec : ChangeSpec := { name := "reportPurpose", fn := fun _ => fun
  | [d1, d2] => { results := [.lit (.bool true)], args := [d1, d2] }
  | _ => none }
def reportPurposeRow : OpenClaim := { program := "ythobfbiobnmceaa", sum := "a1e7ac0e8e805aa9847a959bcb1683504ffefc71cc812cda58b00c4bd4a5ff6a", func := "grapnel/grapnellaw16.ReportPurpose", spec := "reportPurpose", inPlace := ["internal/abi.NoEscape"], unfollowed := true, recurses := true, plainKeys := false, apart := false }
def ReportPurposeSaid : Prop := reportPurposeRow.holds Try.pinned (OpenSpec.ofChange reportPurposeSpec)

/-- ITS FALSE NEIGHBOUR: 'it returns false'. Refute it at one input. -/
def reportPurposeWrong : ChangeSpec := { name := "reportPurpose", fn := fun _ => fun
  | [d1, d2] => { results := [.lit (.bool false)], args := [d1, d2] }
  | _ => none }
def ReportPurposeWrongFalsely : Prop := reportPurposeRow.holds Try.pinned (OpenSpec.ofChange reportPurposeWrong)

/-- 'grapnellaw16.ReportNobody': WHATEVER THE INPUT: true; the input reads as it did. -/
def reportNobodySpec : ChangeSpec := { name := "reportNobody", fn := fun _ => fun
  | [d1, d2] => { results := [.lit (.bool true)], args := [d1, d2] }
  | _ => none }
def reportNobodyRow : OpenClaim := { program := "ythobfbiobnmceaa", sum := "a1e7ac0e8e805aa9847a959bcb1683504ffefc71cc812cda58b00c4bd4a5ff6a", func := "grapnel/grapnellaw16.ReportNobody", spec := "reportNobody", inPlace := ["internal/abi.NoEscape"], unfollowed := true, recurses := true, plainKeys := false, apart := false }
def ReportNobodySaid : Prop := reportNobodyRow.holds Try.pinned (OpenSpec.ofChange reportNobodySpec)

/-- ITS FALSE NEIGHBOUR: 'it returns false'. Refute it at one input. -/
def reportNobodyWrong : ChangeSpec := { name := "reportNobody", fn := fun _ => fun
  | [d1, d2] => { results := [.lit (.bool false)], args := [d1, d2] }
  | _ => none }
def ReportNobodyWrongFalsely : Prop := reportNobodyRow.holds Try.pinned (OpenSpec.ofChange reportNobodyWrong)

/-- 'grapnellaw16.ReportTrue': WHATEVER THE INPUT: true; the input reads as it did. -/
def reportTrueSpec : ChangeSpec := { name := "reportTrue", fn := fun _ => fun
  | [d1, d2, d3] => { results := [.lit (.bool true)], args := [d1, d2, d3] }
  | _ => none }
def reportTrueRow : OpenClaim := { program := "ythobfbiobnmceaa", sum := "a1e7ac0e8e805aa9847a959bcb1683504ffefc71cc812cda58b00c4bd4a5ff6a", func := "grapnel/grapnellaw16.ReportTrue", spec := "reportTrue", inPlace := ["internal/abi.NoEscape"], unfollowed := true, recurses := true, plainKeys := false, apart := false }
def ReportTrueSaid : Prop := reportTrueRow.holds Try.pinned (OpenSpec.ofChange reportTrueSpec)

/-- ITS FALSE NEIGHBOUR: 'it returns false'. Refute it at one input. -/
def reportTrueWrong : ChangeSpec := { name := "reportTrue", fn := fun _ => fun
  | [d1, d2, d3] => { results := [.lit (.bool false)], args := [d1, d2, d3] }
  | _ => none }
def ReportTrueWrongFalsely : Prop := reportTrueRow.holds Try.pinned (OpenSpec.ofChange reportTrueWrong)

/-- 'grapnellaw16.ReportSigns': WHATEVER THE INPUT: true; the input reads as it did. -/
def reportSignsSpec : ChangeSpec := { name := "reportSigns", fn := fun _ => fun
  | [d1, d2, d3] => { results := [.lit (.bool true)], args := [d1, d2, d3] }
  | _ => none }
def reportSignsRow : OpenClaim := { program := "ythobfbiobnmceaa", sum := "a1e7ac0e8e805aa9847a959bcb1683504ffefc71cc812cda58b00c4bd4a5ff6a", func := "grapnel/grapnellaw16.ReportSigns", spec := "reportSigns", inPlace := ["internal/abi.NoEscape"], unfollowed := true, recurses := true, plainKeys := false, apart := false }
def ReportSignsSaid : Prop := reportSignsRow.holds Try.pinned (OpenSpec.ofChange reportSignsSpec)

/-- ITS FALSE NEIGHBOUR: 'it returns false'. Refute it at one input. -/
def reportSignsWrong : ChangeSpec := { name := "reportSigns", fn := fun _ => fun
  | [d1, d2, d3] => { results := [.lit (.bool false)], args := [d1, d2, d3] }
  | _ => none }
def ReportSignsWrongFalsely : Prop := reportSignsRow.holds Try.pinned (OpenSpec.ofChange reportSignsWrong)

/- THE SECOND FORM. 'bulk': how many values and letters a reading holds, each counted each time it is reached (what is shared counts as often as it is met; a slice's spare places count too). A statement '..UptoSaid' is the law's where the arguments, and the package variables that the reading takes, are together of bulk at most 1048576: NARROWER than '..Said'. Prove '..Said' where nothing that the law and all that it calls make is longer than what came in: it says more and counts as full. Else prove '..UptoSaid'. A law counts once. -/
mutual
def uptoBulk {H : Type} : DataW H → Nat
  | .lit (.string bytes) => bytes.length + 1
  | .lit _ => 1
  | .nil => 1
  | .ptr d => uptoBulk d + 1
  | .slice elems spare => uptoBulkAll elems + uptoBulkAll spare + 1
  | .agg parts => uptoBulkAll parts + 1
  | .iface _ d => uptoBulk d + 1
  | .map entries => uptoBulkEntries entries + 1
  | .held _ => 1
def uptoBulkAll {H : Type} : List (DataW H) → Nat
  | [] => 0
  | d :: r => uptoBulk d + uptoBulkAll r
def uptoBulkEntries {H : Type} : List (Lit × DataW H) → Nat
  | [] => 0
  | x :: r => uptoBulkEntry x + uptoBulkEntries r
def uptoBulkEntry {H : Type} : Lit × DataW H → Nat
  | (.string bytes, d) => bytes.length + uptoBulk d + 1
  | (_, d) => uptoBulk d + 1
 end
def uptoSmall : (H : Type) → List (DataW H) → Bool := fun _ ds => decide (uptoBulkAll ds ≤ 1048576)
def OpenSpec.upto (s : _root_.Go.ChangeSpec) : _root_.Go.OpenSpec := { _root_.Go.OpenSpec.ofChange s with cond := some uptoSmall }

/-- 'grapnellaw16.ReportBytes', WHERE WHAT IT READS IS OF BULK AT MOST 1048576: true; the input reads as it did. -/
def reportBytesUptoRow : OpenClaim := { program := "ythobfbiobnmceaa", sum := "a1e7ac0e8e805aa9847a959bcb1683504ffefc71cc812cda58b00c4bd4a5ff6a", func := "grapnel/grapnellaw16.ReportBytes", spec := "reportBytes", inPlace := ["internal/abi.NoEscape"], unfollowed := true, recurses := true, plainKeys := false, apart := false, narrowed := true }
def ReportBytesUptoSaid : Prop := reportBytesUptoRow.holds Try.pinned (OpenSpec.upto reportBytesSpec)

/-- 'grapnellaw16.ReportReads', WHERE WHAT IT READS IS OF BULK AT MOST 1048576: true; the input reads as it did. -/
def reportReadsUptoRow : OpenClaim := { program := "ythobfbiobnmceaa", sum := "a1e7ac0e8e805aa9847a959bcb1683504ffefc71cc812cda58b00c4bd4a5ff6a", func := "grapnel/grapnellaw16.ReportReads", spec := "reportReads", inPlace := ["internal/abi.NoEscape"], unfollowed := true, recurses := true, plainKeys := false, apart := false, narrowed := true }
def ReportReadsUptoSaid : Prop := reportReadsUptoRow.holds Try.pinned (OpenSpec.upto reportReadsSpec)

/-- 'grapnellaw16.ReportBack', WHERE WHAT IT READS IS OF BULK AT MOST 1048576: true; the input reads as it did. -/
def reportBackUptoRow : OpenClaim := { program := "ythobfbiobnmceaa", sum := "a1e7ac0e8e805aa9847a959bcb1683504ffefc71cc812cda58b00c4bd4a5ff6a", func := "grapnel/grapnellaw16.ReportBack", spec := "reportBack", inPlace := ["internal/abi.NoEscape"], unfollowed := true, recurses := true, plainKeys := false, apart := false, narrowed := true }
def ReportBackUptoSaid : Prop := reportBackUptoRow.holds Try.pinned (OpenSpec.upto reportBackSpec)

/-- 'grapnellaw16.ReportCuts', WHERE WHAT IT READS IS OF BULK AT MOST 1048576: true; the input reads as it did. -/
def reportCutsUptoRow : OpenClaim := { program := "ythobfbiobnmceaa", sum := "a1e7ac0e8e805aa9847a959bcb1683504ffefc71cc812cda58b00c4bd4a5ff6a", func := "grapnel/grapnellaw16.ReportCuts", spec := "reportCuts", inPlace := ["internal/abi.NoEscape"], unfollowed := true, recurses := true, plainKeys := false, apart := false, narrowed := true }
def ReportCutsUptoSaid : Prop := reportCutsUptoRow.holds Try.pinned (OpenSpec.upto reportCutsSpec)

/-- 'grapnellaw16.ReportPurpose', WHERE WHAT IT READS IS OF BULK AT MOST 1048576: true; the input reads as it did. -/
def reportPurposeUptoRow : OpenClaim := { program := "ythobfbiobnmceaa", sum := "a1e7ac0e8e805aa9847a959bcb1683504ffefc71cc812cda58b00c4bd4a5ff6a", func := "grapnel/grapnellaw16.ReportPurpose", spec := "reportPurpose", inPlace := ["internal/abi.NoEscape"], unfollowed := true, recurses := true, plainKeys := false, apart := false, narrowed := true }
def ReportPurposeUptoSaid : Prop := reportPurposeUptoRow.holds Try.pinned (OpenSpec.upto reportPurposeSpec)

/-- 'grapnellaw16.ReportNobody', WHERE WHAT IT READS IS OF BULK AT MOST 1048576: true; the input reads as it did. -/
def reportNobodyUptoRow : OpenClaim := { program := "ythobfbiobnmceaa", sum := "a1e7ac0e8e805aa9847a959bcb1683504ffefc71cc812cda58b00c4bd4a5ff6a", func := "grapnel/grapnellaw16.ReportNobody", spec := "reportNobody", inPlace := ["internal/abi.NoEscape"], unfollowed := true, recurses := true, plainKeys := false, apart := false, narrowed := true }
def ReportNobodyUptoSaid : Prop := reportNobodyUptoRow.holds Try.pinned (OpenSpec.upto reportNobodySpec)

/-- 'grapnellaw16.ReportTrue', WHERE WHAT IT READS IS OF BULK AT MOST 1048576: true; the input reads as it did. -/
def reportTrueUptoRow : OpenClaim := { program := "ythobfbiobnmceaa", sum := "a1e7ac0e8e805aa9847a959bcb1683504ffefc71cc812cda58b00c4bd4a5ff6a", func := "grapnel/grapnellaw16.ReportTrue", spec := "reportTrue", inPlace := ["internal/abi.NoEscape"], unfollowed := true, recurses := true, plainKeys := false, apart := false, narrowed := true }
def ReportTrueUptoSaid : Prop := reportTrueUptoRow.holds Try.pinned (OpenSpec.upto reportTrueSpec)

/-- 'grapnellaw16.ReportSigns', WHERE WHAT IT READS IS OF BULK AT MOST 1048576: true; the input reads as it did. -/
def reportSignsUptoRow : OpenClaim := { program := "ythobfbiobnmceaa", sum := "a1e7ac0e8e805aa9847a959bcb1683504ffefc71cc812cda58b00c4bd4a5ff6a", func := "grapnel/grapnellaw16.ReportSigns", spec := "reportSigns", inPlace := ["internal/abi.NoEscape"], unfollowed := true, recurses := true, plainKeys := false, apart := false, narrowed := true }
def ReportSignsUptoSaid : Prop := reportSignsUptoRow.holds Try.pinned (OpenSpec.upto reportSignsSpec)

end Rows
end Go.Proofs.Ythobfbiobnmceaa
