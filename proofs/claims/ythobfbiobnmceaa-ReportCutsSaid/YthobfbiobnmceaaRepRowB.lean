/-
  ReportCuts in the form in which a row hands its arguments over.
-/
import Derived.Test.YthobfbiobnmceaaRepLawsB
import Derived.Test.YthobfbiobnmceaaRepRowA
namespace Go.Proofs.Ythobfbiobnmceaa.R
open Go.RowKit
set_option linter.unusedVariables false
theorem ReportCuts (cs : List Value) (cut : Int) (more : ByteArray) (w : World) (h : F.FitsAt w 8 [.int .i64, .int .i64, .int .i64, .rows [.int .i64, .int .i64, .int .i64, .int .i64]] cs) (hc : (Lit.int .i64 cut).wf = true) (hm : more.size ≤ 140737488351232) :
    Calls Try.prog 6 #[.agg cs.toArray, .int .i64 cut, .string more] w fun e w' => e = .returned (.bool true) ∧ Below w.heap.size w w' := by
  obtain ⟨a0, a1, a2, v, l, rfl, h0, h1, h2, hr⟩ := rep_open h
  exact B.reportCuts_walk a0 a1 a2 v l cut more hm w hr h0 h1 h2
end Go.Proofs.Ythobfbiobnmceaa.R
