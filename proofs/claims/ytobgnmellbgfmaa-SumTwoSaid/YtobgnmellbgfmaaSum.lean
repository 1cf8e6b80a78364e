/-
  sum.Sum, walked.
-/
import Derived.Test.YtobgnmellbgfmaaTold
namespace Go.Proofs.Ytobgnmellbgfmaa.B
open Go.RowKit
set_option linter.unusedVariables false

set_option maxRecDepth 100000 in
set_option maxHeartbeats 1600000 in
theorem sum_any (s : ByteArray) (hs : s.size ≤ 800000000000) (w : World) : Calls Try.prog 13 #[.string s] w fun e w' => e = .returned (.string (strOfNums (sha (bytesOf s)))) ∧ Below w.heap.size w w' := by
  go_enter Try.func13, Try.ntmps13
  go_wp2_with fail
  refine (new_any w).mono ?_
  rintro e W1 ⟨rfl, hm1, hb1⟩
  have HF := Lib.hid (feed_any w.heap.size s [] W1 hm1 (by simp; omega))
  have HB1 := Lib.hid hb1
  clear hm1 hb1
  go_wp2_with fail
  refine HF.out.mono ?_
  rintro e W2 ⟨rfl, hm2, hk2⟩
  rw [List.nil_append] at hm2
  have HT := Lib.hid (told_any w.heap.size (bytesOf s) W2 hm2 (by rw [bytesOf_length]; omega))
  have HB2 := Lib.hid (HB1.out.trans (hk2.below HB1.out.size (by intro i hi; omega)))
  clear hm2 hk2 HF HB1
  go_wp2_with fail
  refine HT.out.mono ?_
  rintro e W3 ⟨rfl, hb3⟩
  have HB3 := Lib.hid (HB2.out.trans (hb3.mono HB2.out.size))
  clear hb3 HT HB2
  go_wp2
  go_ret
  exact ⟨rfl, HB3.out⟩
end Go.Proofs.Ytobgnmellbgfmaa.B
