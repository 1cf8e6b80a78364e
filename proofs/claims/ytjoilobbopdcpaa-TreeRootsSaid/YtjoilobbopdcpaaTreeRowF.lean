/-
  TreeRoots in the form in which a row hands its arguments over.
-/
import Derived.Test.YtjoilobbopdcpaaRTreeF
namespace Go.Proofs.Ytjoilobbopdcpaa.R
open Go.RowKit
set_option linter.unusedVariables false
theorem TreeRoots (v : Value) (w : World) (h1 : F.ShOk w 8 (.rows [.str]) v) :
    Calls Try.prog 8 #[v] w fun e w' => e = .returned (.bool true) ∧ Below w.heap.size w w' := by
  obtain ⟨l1, hr1⟩ := F.strRow_of h1
  exact B.treeRoots_walk v l1 w (B.Strs.of_strRow hr1)
end Go.Proofs.Ytjoilobbopdcpaa.R
