/-
  TreeUnlike in the form in which a row hands its arguments over.
-/
import Derived.Test.YtjoilobbopdcpaaTreeK
namespace Go.Proofs.Ytjoilobbopdcpaa.R
open Go.RowKit
set_option linter.unusedVariables false
theorem TreeUnlike (v1 v2 : Value) (w : World) (h1 : F.ShOk w 8 (.rows [.str]) v1) (h2 : F.ShOk w 8 (.rows [.str]) v2) :
    Calls Try.prog 3 #[v1, v2] w fun e w' => e = .returned (.bool true) ∧ Below w.heap.size w w' := by
  obtain ⟨l1, hr1⟩ := F.strRow_of h1
  obtain ⟨l2, hr2⟩ := F.strRow_of h2
  exact B.treeUnlike_walk v1 v2 l1 l2 w (B.Strs.of_strRow hr1) (B.Strs.of_strRow hr2)
end Go.Proofs.Ytjoilobbopdcpaa.R
