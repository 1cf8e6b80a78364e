/-
  ShelfBack in the form in which a row hands its arguments over.
-/
import Derived.Test.YtdamlbkibhmepaaShelfLawsC
namespace Go.Proofs.Ytdamlbkibhmepaa.R
open Go.RowKit
set_option linter.unusedVariables false
theorem ShelfBack (v : Value) (body : ByteArray) (w : World) (h : F.ShOk w 8 (.rows [.str, .int .i64, .int .i64]) v) (hn : body.size ≤ 140737488351232) :
    Calls Try.prog 5 #[v, .string body] w fun e w' => e = .returned (.bool true) ∧ Below w.heap.size w w' := by
  obtain ⟨l, hr⟩ := B.entRow_of h
  exact B.shelfBack_walk v l body (by omega) w hr
end Go.Proofs.Ytdamlbkibhmepaa.R
