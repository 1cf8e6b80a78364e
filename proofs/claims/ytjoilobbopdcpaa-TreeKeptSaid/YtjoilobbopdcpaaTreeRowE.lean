/-
  TreeKept in the form in which a row hands its arguments over.
-/
import Derived.Test.YtjoilobbopdcpaaTreeV
import Derived.Test.YtjoilobbopdcpaaTreeRowC
namespace Go.Proofs.Ytjoilobbopdcpaa.R
open Go.RowKit
set_option linter.unusedVariables false
theorem TreeKept (v : Value) (i : Int) (w : World) (h1 : F.ShOk w 8 (.rows [.str]) v) (h2 : (Lit.int .i64 i).wf = true) :
    Calls Try.prog 6 #[v, .int .i64 i] w fun e w' => e = .returned (.bool true) ∧ Below w.heap.size w w' := by
  obtain ⟨l1, hr1⟩ := F.strRow_of h1
  exact B.treeKept_walk v l1 i (wf_in64 h2) w (B.Strs.of_strRow hr1)
end Go.Proofs.Ytjoilobbopdcpaa.R
