/-
  SumSums, SumNobody in the form in which a row hands its arguments over.
-/
import Derived.Test.YtobgnmellbgfmaaSumAwake
namespace Go.Proofs.Ytobgnmellbgfmaa.R
open Go.RowKit
theorem SumSums (s : ByteArray) (w : World) (h : s.size ≤ 140737488351232) :
    Calls Try.prog 3 #[.string s] w fun e w' => e = .returned (.bool true) ∧ Below w.heap.size w w' := B.SumSums_walk s h w
theorem SumNobody (s : ByteArray) (w : World) (h : s.size ≤ 140737488351232) :
    Calls Try.prog 6 #[.string s] w fun e w' => e = .returned (.bool true) ∧ Below w.heap.size w w' := B.SumNobody_walk s h w
end Go.Proofs.Ytobgnmellbgfmaa.R
