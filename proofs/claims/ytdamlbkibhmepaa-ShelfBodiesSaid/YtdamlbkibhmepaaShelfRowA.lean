/-
  ShelfPages, ShelfBodies in the form in which a row hands its arguments over.
-/
import Derived.Test.YtdamlbkibhmepaaShelfLawsA
namespace Go.Proofs.Ytdamlbkibhmepaa.R
open Go.RowKit
set_option linter.unusedVariables false
theorem ShelfPages (s : ByteArray) (w : World) (h : s.size ≤ 140737488351232) :
    Calls Try.prog 3 #[.string s] w fun e w' => e = .returned (.bool true) ∧ Below w.heap.size w w' := B.shelfPages_walk s (by omega) w
theorem ShelfBodies (v : Value) (w : World) (h : F.ShOk w 8 (.rows [.str, .int .i64, .int .i64]) v) :
    Calls Try.prog 4 #[v] w fun e w' => e = .returned (.bool true) ∧ Below w.heap.size w w' := by
  obtain ⟨l, hr⟩ := B.entRow_of h
  exact B.shelfBodies_walk v l w hr
end Go.Proofs.Ytdamlbkibhmepaa.R
