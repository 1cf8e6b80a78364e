/-
  No cell of these rows narrows 'for every input' (looked for: loops, veiled, ifaces, maps, wideKeys, modest, calm, conditions, laid).
  DERIVED. THE GIVEN ROWS OF THIS SEAT. 9 by the template 'for every input the law returns true; each argument reads behind the call as it read before'; 0 by the template 'total and deterministic' (their statements: YtobgnmellbgfmaaTotals.lean).
  GIVEN WITH THE SEED: the statements are not yours to turn. If you find one false, say at which input.
  Laid BY PROGRAM, IN A SANDBOX (cutbox-rows.mjs): the forced cells as the released guide's own fill.sh prints them over the translation 996807b3b05ab15c… (all of the seat's roots in one cut). By AI agents, Wed Nov 11 2026. No macro, syntax, notation, axiom, sorry.
-/
import Derived.Test.YtobgnmellbgfmaaChecked
import GoSem.Claim
import GoSem.ClaimJoined
import GoSem.ClaimMapViews
import Derived.JoinedTies
import Derived.KernelRfl
namespace Go.Proofs.Ytobgnmellbgfmaa
/- THE CELL 'sum', in the pinned program and in every row, IS THE sha256 OF THE DUMP (.gsa) THAT YtobgnmellbgfmaaProg.lean LOADS. Nothing in Lean hashes anything: it is a label: what it is worth is what the hold of that sum in a sandbox is worth. -/
noncomputable def Try.pinned : Pinned := { name := "ytobgnmellbgfmaa", sum := "996807b3b05ab15c7ac8fea583c4037abed8da6d5ab96739dcd9e41e9f5d5f55", checked := Try.checked }
namespace Rows
def none {H : Type} : Left H := { results := [], args := [] }

/-- 'grapnellaw02.SumSums': WHATEVER THE INPUT: true; the input reads as it did. -/
def sumSumsSpec : ChangeSpec := { name := "sumSums", fn := fun _ => fun
  | [d] => { results := [.lit (.bool true)], args := [d] }
  | _ => none }
def sumSumsRow : OpenClaim := { program := "ytobgnmellbgfmaa", sum := "996807b3b05ab15c7ac8fea583c4037abed8da6d5ab96739dcd9e41e9f5d5f55", func := "grapnel/grapnellaw02.SumSums", spec := "sumSums", apart := false }
def SumSumsSaid : Prop := sumSumsRow.holds Try.pinned (OpenSpec.ofChange sumSumsSpec)

/-- ITS FALSE NEIGHBOUR: 'it returns false'. Refute it at one input. -/
def sumSumsWrong : ChangeSpec := { name := "sumSums", fn := fun _ => fun
  | [d] => { results := [.lit (.bool false)], args := [d] }
  | _ => none }
def SumSumsWrongFalsely : Prop := sumSumsRow.holds Try.pinned (OpenSpec.ofChange sumSumsWrong)

/-- 'grapnellaw02.SumParts': WHATEVER THE INPUT: true; the input reads as it did. -/
def sumPartsSpec : ChangeSpec := { name := "sumParts", fn := fun _ => fun
  | [d] => { results := [.lit (.bool true)], args := [d] }
  | _ => none }
def sumPartsRow : OpenClaim := { program := "ytobgnmellbgfmaa", sum := "996807b3b05ab15c7ac8fea583c4037abed8da6d5ab96739dcd9e41e9f5d5f55", func := "grapnel/grapnellaw02.SumParts", spec := "sumParts", apart := false }
def SumPartsSaid : Prop := sumPartsRow.holds Try.pinned (OpenSpec.ofChange sumPartsSpec)

/-- ITS FALSE NEIGHBOUR: 'it returns false'. Refute it at one input. -/
def sumPartsWrong : ChangeSpec := { name := "sumParts", fn := fun _ => fun
  | [d] => { results := [.lit (.bool false)], args := [d] }
  | _ => none }
def SumPartsWrongFalsely : Prop := sumPartsRow.holds Try.pinned (OpenSpec.ofChange sumPartsWrong)

/-- 'grapnellaw02.SumTwo': WHATEVER THE INPUT: true; the input reads as it did. -/
def sumTwoSpec : ChangeSpec := { name := "sumTwo", fn := fun _ => fun
  | [d1, d2] => { results := [.lit (.bool true)], args := [d1, d2] }
  | _ => none }
def sumTwoRow : OpenClaim := { program := "ytobgnmellbgfmaa", sum := "996807b3b05ab15c7ac8fea583c4037abed8da6d5ab96739dcd9e41e9f5d5f55", func := "grapnel/grapnellaw02.SumTwo", spec := "sumTwo", apart := false }
def SumTwoSaid : Prop := sumTwoRow.holds Try.pinned (OpenSpec.ofChange sumTwoSpec)

/-- ITS FALSE NEIGHBOUR: 'it returns false'. Refute it at one input. -/
def sumTwoWrong : ChangeSpec := { name := "sumTwo", fn := fun _ => fun
  | [d1, d2] => { results := [.lit (.bool false)], args := [d1, d2] }
  | _ => none }
def SumTwoWrongFalsely : Prop := sumTwoRow.holds Try.pinned (OpenSpec.ofChange sumTwoWrong)

/-- 'grapnellaw02.SumNobody': WHATEVER THE INPUT: true; the input reads as it did. -/
def sumNobodySpec : ChangeSpec := { name := "sumNobody", fn := fun _ => fun
  | [d] => { results := [.lit (.bool true)], args := [d] }
  | _ => none }
def sumNobodyRow : OpenClaim := { program := "ytobgnmellbgfmaa", sum := "996807b3b05ab15c7ac8fea583c4037abed8da6d5ab96739dcd9e41e9f5d5f55", func := "grapnel/grapnellaw02.SumNobody", spec := "sumNobody", apart := false }
def SumNobodySaid : Prop := sumNobodyRow.holds Try.pinned (OpenSpec.ofChange sumNobodySpec)

/-- ITS FALSE NEIGHBOUR: 'it returns false'. Refute it at one input. -/
def sumNobodyWrong : ChangeSpec := { name := "sumNobody", fn := fun _ => fun
  | [d] => { results := [.lit (.bool false)], args := [d] }
  | _ => none }
def SumNobodyWrongFalsely : Prop := sumNobodyRow.holds Try.pinned (OpenSpec.ofChange sumNobodyWrong)

/-- 'grapnellaw02.SumKeys': WHATEVER THE INPUT: true; the input reads as it did. -/
def sumKeysSpec : ChangeSpec := { name := "sumKeys", fn := fun _ => fun
  | [d1, d2, d3] => { results := [.lit (.bool true)], args := [d1, d2, d3] }
  | _ => none }
def sumKeysRow : OpenClaim := { program := "ytobgnmellbgfmaa", sum := "996807b3b05ab15c7ac8fea583c4037abed8da6d5ab96739dcd9e41e9f5d5f55", func := "grapnel/grapnellaw02.SumKeys", spec := "sumKeys", apart := false }
def SumKeysSaid : Prop := sumKeysRow.holds Try.pinned (OpenSpec.ofChange sumKeysSpec)

/-- ITS FALSE NEIGHBOUR: 'it returns false'. Refute it at one input. -/
def sumKeysWrong : ChangeSpec := { name := "sumKeys", fn := fun _ => fun
  | [d1, d2, d3] => { results := [.lit (.bool false)], args := [d1, d2, d3] }
  | _ => none }
def SumKeysWrongFalsely : Prop := sumKeysRow.holds Try.pinned (OpenSpec.ofChange sumKeysWrong)

/-- 'grapnellaw02.SumMacs': WHATEVER THE INPUT: true; the input reads as it did. -/
def sumMacsSpec : ChangeSpec := { name := "sumMacs", fn := fun _ => fun
  | [d1, d2] => { results := [.lit (.bool true)], args := [d1, d2] }
  | _ => none }
def sumMacsRow : OpenClaim := { program := "ytobgnmellbgfmaa", sum := "996807b3b05ab15c7ac8fea583c4037abed8da6d5ab96739dcd9e41e9f5d5f55", func := "grapnel/grapnellaw02.SumMacs", spec := "sumMacs", apart := false }
def SumMacsSaid : Prop := sumMacsRow.holds Try.pinned (OpenSpec.ofChange sumMacsSpec)

/-- ITS FALSE NEIGHBOUR: 'it returns false'. Refute it at one input. -/
def sumMacsWrong : ChangeSpec := { name := "sumMacs", fn := fun _ => fun
  | [d1, d2] => { results := [.lit (.bool false)], args := [d1, d2] }
  | _ => none }
def SumMacsWrongFalsely : Prop := sumMacsRow.holds Try.pinned (OpenSpec.ofChange sumMacsWrong)

/-- 'grapnellaw02.SumExpands': WHATEVER THE INPUT: true; the input reads as it did. -/
def sumExpandsSpec : ChangeSpec := { name := "sumExpands", fn := fun _ => fun
  | [d1, d2, d3] => { results := [.lit (.bool true)], args := [d1, d2, d3] }
  | _ => none }
def sumExpandsRow : OpenClaim := { program := "ytobgnmellbgfmaa", sum := "996807b3b05ab15c7ac8fea583c4037abed8da6d5ab96739dcd9e41e9f5d5f55", func := "grapnel/grapnellaw02.SumExpands", spec := "sumExpands", apart := false }
def SumExpandsSaid : Prop := sumExpandsRow.holds Try.pinned (OpenSpec.ofChange sumExpandsSpec)

/-- ITS FALSE NEIGHBOUR: 'it returns false'. Refute it at one input. -/
def sumExpandsWrong : ChangeSpec := { name := "sumExpands", fn := fun _ => fun
  | [d1, d2, d3] => { results := [.lit (.bool false)], args := [d1, d2, d3] }
  | _ => none }
def SumExpandsWrongFalsely : Prop := sumExpandsRow.holds Try.pinned (OpenSpec.ofChange sumExpandsWrong)

/-- 'grapnellaw02.SumStretches': WHATEVER THE INPUT: true; the input reads as it did. -/
def sumStretchesSpec : ChangeSpec := { name := "sumStretches", fn := fun _ => fun
  | [d1, d2, d3, d4] => { results := [.lit (.bool true)], args := [d1, d2, d3, d4] }
  | _ => none }
def sumStretchesRow : OpenClaim := { program := "ytobgnmellbgfmaa", sum := "996807b3b05ab15c7ac8fea583c4037abed8da6d5ab96739dcd9e41e9f5d5f55", func := "grapnel/grapnellaw02.SumStretches", spec := "sumStretches", apart := false }
def SumStretchesSaid : Prop := sumStretchesRow.holds Try.pinned (OpenSpec.ofChange sumStretchesSpec)

/-- ITS FALSE NEIGHBOUR: 'it returns false'. Refute it at one input. -/
def sumStretchesWrong : ChangeSpec := { name := "sumStretches", fn := fun _ => fun
  | [d1, d2, d3, d4] => { results := [.lit (.bool false)], args := [d1, d2, d3, d4] }
  | _ => none }
def SumStretchesWrongFalsely : Prop := sumStretchesRow.holds Try.pinned (OpenSpec.ofChange sumStretchesWrong)

/-- 'grapnellaw02.SumBegins': WHATEVER THE INPUT: true; the input reads as it did. -/
def sumBeginsSpec : ChangeSpec := { name := "sumBegins", fn := fun _ => fun
  | [d1, d2, d3, d4] => { results := [.lit (.bool true)], args := [d1, d2, d3, d4] }
  | _ => none }
def sumBeginsRow : OpenClaim := { program := "ytobgnmellbgfmaa", sum := "996807b3b05ab15c7ac8fea583c4037abed8da6d5ab96739dcd9e41e9f5d5f55", func := "grapnel/grapnellaw02.SumBegins", spec := "sumBegins", apart := false }
def SumBeginsSaid : Prop := sumBeginsRow.holds Try.pinned (OpenSpec.ofChange sumBeginsSpec)

/-- ITS FALSE NEIGHBOUR: 'it returns false'. Refute it at one input. -/
def sumBeginsWrong : ChangeSpec := { name := "sumBegins", fn := fun _ => fun
  | [d1, d2, d3, d4] => { results := [.lit (.bool false)], args := [d1, d2, d3, d4] }
  | _ => none }
def SumBeginsWrongFalsely : Prop := sumBeginsRow.holds Try.pinned (OpenSpec.ofChange sumBeginsWrong)

/- THE SECOND FORM. 'bulk': how many values and letters a reading holds, each counted each time it is reached (what is shared counts as often as it is met; a slice's spare places count too). A statement '..UptoSaid' is the law's where the arguments, and the package variables that the reading takes, are together of bulk at most 1048576: NARROWER than '..Said'. Prove '..Said' where nothing that the law and all that it calls make is longer than what came in: it says more and counts as full. Else prove '..UptoSaid'. A law counts once. -/
mutual
def uptoBulk {H : Type} : DataW H → Nat
  | .lit (.string bytes) => bytes.length + 1
  | .lit _ => 1
  | .nil => 1
  | .ptr d => uptoBulk d + 1
  | .slice elems spare => uptoBulkAll elems + uptoBulkAll spare + 1
  | .agg parts => uptoBulkAll parts + 1
  | .iface _ d => uptoBulk d + 1
  | .map entries => uptoBulkEntries entries + 1
  | .held _ => 1
def uptoBulkAll {H : Type} : List (DataW H) → Nat
  | [] => 0
  | d :: r => uptoBulk d + uptoBulkAll r
def uptoBulkEntries {H : Type} : List (Lit × DataW H) → Nat
  | [] => 0
  | x :: r => uptoBulkEntry x + uptoBulkEntries r
def uptoBulkEntry {H : Type} : Lit × DataW H → Nat
  | (.string bytes, d) => bytes.length + uptoBulk d + 1
  | (_, d) => uptoBulk d + 1
 end
def uptoSmall : (H : Type) → List (DataW H) → Bool := fun _ ds => decide (uptoBulkAll ds ≤ 1048576)
def OpenSpec.upto (s : _root_.Go.ChangeSpec) : _root_.Go.OpenSpec := { _root_.Go.OpenSpec.ofChange s with cond := some uptoSmall }

/-- 'grapnellaw02.SumSums', WHERE WHAT IT READS IS OF BULK AT MOST 1048576: true; the input reads as it did. -/
def sumSumsUptoRow : OpenClaim := { program := "ytobgnmellbgfmaa", sum := "996807b3b05ab15c7ac8fea583c4037abed8da6d5ab96739dcd9e41e9f5d5f55", func := "grapnel/grapnellaw02.SumSums", spec := "sumSums", apart := false, narrowed := true }
def SumSumsUptoSaid : Prop := sumSumsUptoRow.holds Try.pinned (OpenSpec.upto sumSumsSpec)

/-- 'grapnellaw02.SumParts', WHERE WHAT IT READS IS OF BULK AT MOST 1048576: true; the input reads as it did. -/
def sumPartsUptoRow : OpenClaim := { program := "ytobgnmellbgfmaa", sum := "996807b3b05ab15c7ac8fea583c4037abed8da6d5ab96739dcd9e41e9f5d5f55", func := "grapnel/grapnellaw02.SumParts", spec := "sumParts", apart := false, narrowed := true }
def SumPartsUptoSaid : Prop := sumPartsUptoRow.holds Try.pinned (OpenSpec.upto sumPartsSpec)

/-- 'grapnellaw02.SumTwo', WHERE WHAT IT READS IS OF BULK AT MOST 1048576: true; the input reads as it did. -/
def sumTwoUptoRow : OpenClaim := { program := "ytobgnmellbgfmaa", sum := "996807b3b05ab15c7ac8fea583c4037abed8da6d5ab96739dcd9e41e9f5d5f55", func := "grapnel/grapnellaw02.SumTwo", spec := "sumTwo", apart := false, narrowed := true }
def SumTwoUptoSaid : Prop := sumTwoUptoRow.holds Try.pinned (OpenSpec.upto sumTwoSpec)

/-- 'grapnellaw02.SumNobody', WHERE WHAT IT READS IS OF BULK AT MOST 1048576: true; the input reads as it did. -/
def sumNobodyUptoRow : OpenClaim := { program := "ytobgnmellbgfmaa", sum := "996807b3b05ab15c7ac8fea583c4037abed8da6d5ab96739dcd9e41e9f5d5f55", func := "grapnel/grapnellaw02.SumNobody", spec := "sumNobody", apart := false, narrowed := true }
def SumNobodyUptoSaid : Prop := sumNobodyUptoRow.holds Try.pinned (OpenSpec.upto sumNobodySpec)

/-- 'grapnellaw02.SumKeys', WHERE WHAT IT READS IS OF BULK AT MOST 1048576: true; the input reads as it did. -/
def sumKeysUptoRow : OpenClaim := { program := "ytobgnmellbgfmaa", sum := "996807b3b05ab15c7ac8fea583c4037abed8da6d5ab96739dcd9e41e9f5d5f55", func := "grapnel/grapnellaw02.SumKeys", spec := "sumKeys", apart := false, narrowed := true }
def SumKeysUptoSaid : Prop := sumKeysUptoRow.holds Try.pinned (OpenSpec.upto sumKeysSpec)

/-- 'grapnellaw02.SumMacs', WHERE WHAT IT READS IS OF BULK AT MOST 1048576: true; the input reads as it did. -/
def sumMacsUptoRow : OpenClaim := { program := "ytobgnmellbgfmaa", sum := "996807b3b05ab15c7ac8fea583c4037abed8da6d5ab96739dcd9e41e9f5d5f55", func := "grapnel/grapnellaw02.SumMacs", spec := "sumMacs", apart := false, narrowed := true }
def SumMacsUptoSaid : Prop := sumMacsUptoRow.holds Try.pinned (OpenSpec.upto sumMacsSpec)

/-- 'grapnellaw02.SumExpands', WHERE WHAT IT READS IS OF BULK AT MOST 1048576: true; the input reads as it did. -/
def sumExpandsUptoRow : OpenClaim := { program := "ytobgnmellbgfmaa", sum := "996807b3b05ab15c7ac8fea583c4037abed8da6d5ab96739dcd9e41e9f5d5f55", func := "grapnel/grapnellaw02.SumExpands", spec := "sumExpands", apart := false, narrowed := true }
def SumExpandsUptoSaid : Prop := sumExpandsUptoRow.holds Try.pinned (OpenSpec.upto sumExpandsSpec)

/-- 'grapnellaw02.SumStretches', WHERE WHAT IT READS IS OF BULK AT MOST 1048576: true; the input reads as it did. -/
def sumStretchesUptoRow : OpenClaim := { program := "ytobgnmellbgfmaa", sum := "996807b3b05ab15c7ac8fea583c4037abed8da6d5ab96739dcd9e41e9f5d5f55", func := "grapnel/grapnellaw02.SumStretches", spec := "sumStretches", apart := false, narrowed := true }
def SumStretchesUptoSaid : Prop := sumStretchesUptoRow.holds Try.pinned (OpenSpec.upto sumStretchesSpec)

/-- 'grapnellaw02.SumBegins', WHERE WHAT IT READS IS OF BULK AT MOST 1048576: true; the input reads as it did. -/
def sumBeginsUptoRow : OpenClaim := { program := "ytobgnmellbgfmaa", sum := "996807b3b05ab15c7ac8fea583c4037abed8da6d5ab96739dcd9e41e9f5d5f55", func := "grapnel/grapnellaw02.SumBegins", spec := "sumBegins", apart := false, narrowed := true }
def SumBeginsUptoSaid : Prop := sumBeginsUptoRow.holds Try.pinned (OpenSpec.upto sumBeginsSpec)

end Rows
end Go.Proofs.Ytobgnmellbgfmaa
