/-
  ReportReads in the form in which a row hands its arguments over.
-/
import Derived.Test.YthobfbiobnmceaaRepLawsC
namespace Go.Proofs.Ythobfbiobnmceaa.R
open Go.RowKit
set_option linter.unusedVariables false
theorem ReportReads (s : ByteArray) (w : World) (h : s.size ≤ 140737488351232) :
    Calls Try.prog 4 #[.string s] w fun e w' => e = .returned (.bool true) ∧ Below w.heap.size w w' :=
  PReportReads.reportReads_cut s (if 3000 < s.size then s.extract 0 3000 else s) (by
    split
    · rw [ByteArray.size_extract]; omega
    · omega) rfl w h
end Go.Proofs.Ythobfbiobnmceaa.R
