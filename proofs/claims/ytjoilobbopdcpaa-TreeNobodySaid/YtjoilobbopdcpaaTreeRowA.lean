/-
  TreeNobody in the form in which a row hands its arguments over.
-/
import Derived.Test.YtjoilobbopdcpaaTreeH
namespace Go.Proofs.Ytjoilobbopdcpaa.R
open Go.RowKit
set_option linter.unusedVariables false
theorem TreeNobody (i : Int) (s : ByteArray) (w : World) (h1 : (Lit.int .i64 i).wf = true) (h2 : s.size ≤ 140737488351232) :
    Calls Try.prog 7 #[.int .i64 i, .string s] w fun e w' => e = .returned (.bool true) ∧ Below w.heap.size w w' := B.treeNobody_walk i s w
end Go.Proofs.Ytjoilobbopdcpaa.R
