/-
  ReportBack in the form in which a row hands its arguments over.
-/
import Derived.Test.YthobfbiobnmceaaRepLawsD
import Derived.Test.YthobfbiobnmceaaRepOpen
namespace Go.Proofs.Ythobfbiobnmceaa.R
open Go.RowKit
set_option linter.unusedVariables false
theorem ReportBack (cs : List Value) (s : ByteArray) (w : World) (h : F.FitsAt w 8 [.int .i64, .int .i64, .int .i64, .rows [.int .i64, .int .i64, .int .i64, .int .i64]] cs) (hs : s.size ≤ 140737488351232) :
    Calls Try.prog 5 #[.agg cs.toArray, .string s] w fun e w' => e = .returned (.bool true) ∧ Below w.heap.size w w' := by
  obtain ⟨a0, a1, a2, v, l, rfl, h0, h1, h2, hr⟩ := rep_open2 h
  exact B.reportBack_cut a0 a1 a2 v l s (if 3000 < s.size then s.extract 0 3000 else s) (by
    split
    · rw [ByteArray.size_extract]; omega
    · omega) rfl hs w hr h0 h1 h2
end Go.Proofs.Ythobfbiobnmceaa.R
