/-
  The walks of the laws over plain numbers and texts in the form in which a row hands its arguments over: numbers by 'wf', texts by their size.
-/
import Derived.Test.YtpbmgollolbgoaaLawsA
namespace Go.Proofs.Ytpbmgollolbgoaa.R
open Go.RowKit

theorem wf_i64 {n : Int} (h : (Lit.int .i64 n).wf = true) : -9223372036854775808 ≤ n ∧ n ≤ 9223372036854775807 := by
  simp [Lit.wf, IntKind.min, IntKind.max, IntKind.signed, IntKind.bits] at h
  exact ⟨by omega, by omega⟩
theorem PackPuts (n width : Int) (w : World) (h1 : (Lit.int .i64 n).wf = true) (_h2 : (Lit.int .i64 width).wf = true) :
    Calls Try.prog 3 #[.int .i64 n, .int .i64 width] w fun e w' => e = .returned (.bool true) ∧ Below w.heap.size w w' :=
  B.PackPuts_walk n width (wf_i64 h1).1 (wf_i64 h1).2 w
end Go.Proofs.Ytpbmgollolbgoaa.R
