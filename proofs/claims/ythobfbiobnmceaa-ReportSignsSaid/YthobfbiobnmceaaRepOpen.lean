/-
  A report that came in.
-/
import Derived.Test.YthobfbiobnmceaaFndRow
namespace Go.Proofs.Ythobfbiobnmceaa.R
open Go.RowKit
set_option linter.unusedVariables false
theorem rep_open2 {w : World} {cs : List Value} (h : F.FitsAt w 8 [.int .i64, .int .i64, .int .i64, .rows [.int .i64, .int .i64, .int .i64, .int .i64]] cs) :
    ∃ (a0 a1 a2 : Int) (v : Value) (l : List B.Four), cs = [.int .i64 a0, .int .i64 a1, .int .i64 a2, v] ∧ (-9223372036854775808 ≤ a0 ∧ a0 ≤ 9223372036854775807) ∧ (-9223372036854775808 ≤ a1 ∧ a1 ≤ 9223372036854775807) ∧ (-9223372036854775808 ≤ a2 ∧ a2 ≤ 9223372036854775807) ∧ B.FndRow w v l := by
  obtain ⟨hl, hc⟩ := h
  obtain ⟨c0, e0, a0, rfl, w0⟩ := hc 0 _ rfl
  obtain ⟨c1, e1, a1, rfl, w1⟩ := hc 1 _ rfl
  obtain ⟨c2, e2, a2, rfl, w2⟩ := hc 2 _ rfl
  obtain ⟨c3, e3, h3⟩ := hc 3 _ rfl
  obtain ⟨l, hr⟩ := B.fndRow_of h3
  match cs, hl, e0, e1, e2, e3 with
  | [x0, x1, x2, x3], _, e0, e1, e2, e3 =>
    simp at e0 e1 e2 e3
    subst e0 e1 e2 e3
    exact ⟨a0, a1, a2, _, l, rfl, B.wfI w0, B.wfI w1, B.wfI w2, hr⟩
end Go.Proofs.Ythobfbiobnmceaa.R
