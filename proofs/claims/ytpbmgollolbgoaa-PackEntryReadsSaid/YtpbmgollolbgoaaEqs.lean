/-
  Records compared.
-/
import Derived.Test.YtpbmgollolbgoaaLawsB
namespace Go.Proofs.Ytpbmgollolbgoaa.B
open Go.RowKit
set_option linter.unusedVariables false
theorem eq_head (a0 a1 a2 a3 a4 a5 a6 a7 b0 b1 b2 b3 b4 b5 b6 b7 : Int) (W : World) : (binOp .eql 38 (.agg #[.int .i64 a0, .int .i64 a1, .int .i64 a2, .int .i64 a3, .int .i64 a4, .int .i64 a5, .int .i64 a6, .int .i64 a7]) (.agg #[.int .i64 b0, .int .i64 b1, .int .i64 b2, .int .i64 b3, .int .i64 b4, .int .i64 b5, .int .i64 b6, .int .i64 b7])).run Try.prog W = .ok (.bool (decide (a0 = b0 ∧ a1 = b1 ∧ a2 = b2 ∧ a3 = b3 ∧ a4 = b4 ∧ a5 = b5 ∧ a6 = b6 ∧ a7 = b7))) W := by
  have hu := Try.underlying38
  have hi := Try.underlying3
  simp [go_sem]
  repeat' split
  all_goals simp_all
theorem toList_eq {a b : ByteArray} : a.toList = b.toList ↔ a = b := ⟨fun h => by
    rw [ByteArray.toList_eq, ByteArray.toList_eq] at h
    exact ByteArray.ext (Array.toList_inj.mp h), fun h => by rw [h]⟩
theorem eq_entry (s t : ByteArray) (a0 a1 b0 b1 : Int) (W : World) : (binOp .eql 34 (.agg #[.string s, .int .i64 a0, .int .i64 a1]) (.agg #[.string t, .int .i64 b0, .int .i64 b1])).run Try.prog W = .ok (.bool (decide (s = t ∧ a0 = b0 ∧ a1 = b1))) W := by
  have hu := Try.underlying34
  have hi := Try.underlying3
  have hs := Try.underlying9
  simp [go_sem]
  repeat' split
  all_goals simp_all [toList_eq]
end Go.Proofs.Ytpbmgollolbgoaa.B
