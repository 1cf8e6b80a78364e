/-
  PackEntries: the law's walk.
-/
import Derived.Test.YtpbmgollolbgoaaRefEntry
import Derived.Test.YtpbmgollolbgoaaLawsB
namespace Go.Proofs.Ytpbmgollolbgoaa.B
open Go.RowKit
set_option linter.unusedVariables false

theorem PackEntries_walk (s : ByteArray) (a1 a2 : Int) (hr : ∀ x ∈ [a1, a2], -9223372036854775808 ≤ x ∧ x ≤ 9223372036854775807) (w : World) :
    Calls Try.prog 7 #[.agg #[.string s, .int .i64 a1, .int .i64 a2]] w fun e w' => e = .returned (.bool true) ∧ Below w.heap.size w w' := by
  have hu := Try.underlying34
  have r1 := hr a1 (by simp)
  have r2 := hr a2 (by simp)
  have HR := Lib.hid hr
  have HA := Lib.hid (Entry_any s a1 a2 r1.1 r1.2 r2.1 r2.2)
  clear hr r1 r2
  obtain ⟨q, hq⟩ : ∃ q, q = entrySpec s a1 a2 := ⟨_, rfl⟩
  have HQ := Lib.hid hq
  clear hq
  go_enter Try.func7, Try.ntmps7
  go_wp2_with fail
  refine (HA.out _).mono ?_
  rw [← HQ.out]
  rintro e w1 ⟨rfl, hb1⟩
  have HB1 := Lib.hid hb1
  have hblk : w1.heap[w.heap.size]? = some (.cells #[.string s, .int .i64 a1, .int .i64 a2] 34 (0, 0)) := (hb1.block _ (by simp)).trans (heap_alloc_new w _)
  have c0 := blk_cell hblk 0
  have c1 := blk_cell hblk 1
  have c2 := blk_cell hblk 2
  clear hb1 hblk
  go_wp2_with fail
  clear c0 c1 c2
  refine (refEntry_any _ _ _ HR.out _).mono ?_
  rw [← HQ.out]
  rintro e w2 ⟨rfl, hb2⟩
  have HB2 := Lib.hid hb2
  clear hb2
  go_wp2_with fail
  refine (awake_any _).mono ?_
  rintro e w3 ⟨rfl, hb3⟩
  have HB3 := Lib.hid hb3
  clear hb3
  go_wp2
  go_ret
  exact ⟨rfl, below3 w _ HB1.out HB2.out HB3.out⟩

end Go.Proofs.Ytpbmgollolbgoaa.B
namespace Go.Proofs.Ytpbmgollolbgoaa.R
open Go.RowKit
theorem PackEntries (cs : List Value) (w : World) (h : F.Fits [.str, .int .i64, .int .i64] cs) :
    Calls Try.prog 7 #[.agg cs.toArray] w fun e w' => e = .returned (.bool true) ∧ Below w.heap.size w w' := by
  obtain ⟨s, r0, rfl, h0, f0⟩ := h.str
  obtain ⟨a1, r1, rfl, h1, f1⟩ := f0.int
  obtain ⟨a2, r2, rfl, h2, f2⟩ := f1.int
  obtain rfl := f2.nil
  refine B.PackEntries_walk s a1 a2 (fun x hx => ?_) w
  simp only [List.mem_cons, List.not_mem_nil, or_false] at hx
  rcases hx with rfl | rfl <;> exact wf_64 (by assumption)
end Go.Proofs.Ytpbmgollolbgoaa.R
