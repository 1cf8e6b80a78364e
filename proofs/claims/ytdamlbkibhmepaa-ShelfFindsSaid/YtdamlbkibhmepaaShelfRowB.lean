/-
  ShelfFinds, ShelfNames in the form in which a row hands its arguments over.
-/
import Derived.Test.YtdamlbkibhmepaaShelfLawsB
namespace Go.Proofs.Ytdamlbkibhmepaa.R
open Go.RowKit
set_option linter.unusedVariables false
theorem ShelfFinds (v : Value) (name : ByteArray) (w : World) (h : F.ShOk w 8 (.rows [.str, .int .i64, .int .i64]) v) (hn : name.size ≤ 140737488351232) :
    Calls Try.prog 6 #[v, .string name] w fun e w' => e = .returned (.bool true) ∧ Below w.heap.size w w' := by
  obtain ⟨l, hr⟩ := B.entRow_of h
  exact B.shelfFinds_walk v l name w hr
theorem ShelfNames (v : Value) (w : World) (h : F.ShOk w 8 (.rows [.str, .int .i64, .int .i64]) v) :
    Calls Try.prog 7 #[v] w fun e w' => e = .returned (.bool true) ∧ Below w.heap.size w w' := by
  obtain ⟨l, hr⟩ := B.entRow_of h
  exact B.shelfNames_walk v l w hr
end Go.Proofs.Ytdamlbkibhmepaa.R
