/-
  ShelfEnters in the form in which a row hands its arguments over.
-/
import Derived.Test.YtdamlbkibhmepaaShelfLawsF
namespace Go.Proofs.Ytdamlbkibhmepaa.R
open Go.RowKit
set_option linter.unusedVariables false
theorem ShelfEnters (v : Value) (cs : List Value) (w : World) (h : F.ShOk w 8 (.rows [.str, .int .i64, .int .i64]) v) (hx : F.FitsAt w 8 [.str, .int .i64, .int .i64] cs) :
    Calls Try.prog 8 #[v, .agg cs.toArray] w fun e w' => e = .returned (.bool true) ∧ Below w.heap.size w w' := by
  obtain ⟨l, hr⟩ := B.entRow_of h
  obtain ⟨hl, hc⟩ := hx
  obtain ⟨c0, e0, s, rfl, w0⟩ := hc 0 _ rfl
  obtain ⟨c1, e1, a, rfl, w1⟩ := hc 1 _ rfl
  obtain ⟨c2, e2, b, rfl, w2⟩ := hc 2 _ rfl
  match cs, hl, e0, e1, e2 with
  | [x0, x1, x2], _, e0, e1, e2 =>
    simp at e0 e1 e2
    subst e0 e1 e2
    exact B.shelfEnters_walk v l ⟨s, a, b⟩ ⟨w0, B.wfI w1, B.wfI w2⟩ w hr
end Go.Proofs.Ytdamlbkibhmepaa.R
