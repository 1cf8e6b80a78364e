/-
  TreePaths in the form in which a row hands its arguments over.
-/
import Derived.Test.YtjoilobbopdcpaaRTreeH
namespace Go.Proofs.Ytjoilobbopdcpaa.R
open Go.RowKit
set_option linter.unusedVariables false
theorem wf_in64 {n : Int} (h : (Lit.int .i64 n).wf = true) : B.in64 n := by
  simp [Lit.wf, IntKind.min, IntKind.max, IntKind.signed, IntKind.bits] at h
  exact ⟨by omega, by omega⟩
theorem TreePaths (v : Value) (i : Int) (w : World) (h1 : F.ShOk w 8 (.rows [.str]) v) (h2 : (Lit.int .i64 i).wf = true) :
    Calls Try.prog 11 #[v, .int .i64 i] w fun e w' => e = .returned (.bool true) ∧ Below w.heap.size w w' := by
  obtain ⟨l1, hr1⟩ := F.strRow_of h1
  exact B.treePaths_walk v l1 i (wf_in64 h2) w (B.Strs.of_strRow hr1)
end Go.Proofs.Ytjoilobbopdcpaa.R
