/-
  ReportPurpose in the form in which a row hands its arguments over.
-/
import Derived.Test.YthobfbiobnmceaaRepLawsE
import Derived.Test.YthobfbiobnmceaaRepOpen
namespace Go.Proofs.Ythobfbiobnmceaa.R
open Go.RowKit
set_option linter.unusedVariables false
theorem ReportPurpose (cs : List Value) (a : ByteArray) (w : World) (h : F.FitsAt w 8 [.int .i64, .int .i64, .int .i64, .rows [.int .i64, .int .i64, .int .i64, .int .i64]] cs) (ha : a.size ≤ 140737488351232) :
    Calls Try.prog 7 #[.agg cs.toArray, .string a] w fun e w' => e = .returned (.bool true) ∧ Below w.heap.size w w' := by
  obtain ⟨a0, a1, a2, v, l, rfl, h0, h1, h2, hr⟩ := rep_open2 h
  exact B.reportPurpose_walk a0 a1 a2 v l a ha w hr h0 h1 h2
end Go.Proofs.Ythobfbiobnmceaa.R
