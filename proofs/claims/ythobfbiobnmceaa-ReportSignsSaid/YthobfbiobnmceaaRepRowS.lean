/-
  ReportSigns in the form in which a row hands its arguments over.
-/
import Derived.Test.YthobfbiobnmceaaRepLawsS
import Derived.Test.YthobfbiobnmceaaRepLawsT
import Derived.Test.YthobfbiobnmceaaRepLawsU
import Derived.Test.YthobfbiobnmceaaRepOpen
namespace Go.Proofs.Ythobfbiobnmceaa.R
open Go.RowKit
set_option linter.unusedVariables false
theorem wfB {n : Int} (h : (Lit.int .u8 n).wf = true) : 0 ≤ n ∧ n ≤ 255 := by
  simp [Lit.wf, IntKind.min, IntKind.max, IntKind.bits, IntKind.signed] at h
  omega
theorem ReportSigns (cs : List Value) (bent by_ : Int) (w : World) (h : F.FitsAt w 8 [.int .i64, .int .i64, .int .i64, .rows [.int .i64, .int .i64, .int .i64, .int .i64]] cs) (hb : (Lit.int .i64 bent).wf = true) (hy : (Lit.int .u8 by_).wf = true) :
    Calls Try.prog 10 #[.agg cs.toArray, .int .i64 bent, .int .u8 by_] w fun e w' => e = .returned (.bool true) ∧ Below w.heap.size w w' := by
  obtain ⟨a0, a1, a2, v, l, rfl, h0, h1, h2, hr⟩ := rep_open2 h
  by_cases hlow : bent < 0
  · exact B.reportSigns_low a0 a1 a2 v l bent by_ (wfB hy) hlow w hr h0 h1 h2
  · by_cases hin : bent < ((B.repBytes a0 a1 a2 (l.take 50)).1.size : Int) + 16
    · exact B.reportSigns_in a0 a1 a2 v l bent by_ (wfB hy) (fun _ => ⟨by omega, hin⟩) w hr h0 h1 h2
    · exact B.reportSigns_far a0 a1 a2 v l bent by_ (wfB hy) (fun _ => by omega) w hr h0 h1 h2
end Go.Proofs.Ythobfbiobnmceaa.R
