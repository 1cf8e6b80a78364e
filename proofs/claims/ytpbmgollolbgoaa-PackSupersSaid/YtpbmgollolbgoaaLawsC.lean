/-
  PackSupers: the law's walk.
-/
import Derived.Test.YtpbmgollolbgoaaSuper
import Derived.Test.YtpbmgollolbgoaaLawsB
namespace Go.Proofs.Ytpbmgollolbgoaa.B
open Go.RowKit
set_option linter.unusedVariables false

theorem PackSupers_walk (a0 a1 a2 a3 : Int) (s : ByteArray) (hs : s.size ≤ 9223372036854775807) (hr : ∀ x ∈ [a0, a1, a2, a3], -9223372036854775808 ≤ x ∧ x ≤ 9223372036854775807) (w : World) :
    Calls Try.prog 9 #[.agg #[.int .i64 a0, .int .i64 a1, .int .i64 a2, .int .i64 a3, .string s]] w fun e w' => e = .returned (.bool true) ∧ Below w.heap.size w w' := by
  have hu := Try.underlying42
  have r0 := hr a0 (by simp)
  have r1 := hr a1 (by simp)
  have r2 := hr a2 (by simp)
  have r3 := hr a3 (by simp)
  have HR := Lib.hid hr
  have HA := Lib.hid (Super_any a0 a1 a2 a3 s hs r0.1 r0.2 r1.1 r1.2 r2.1 r2.2 r3.1 r3.2)
  clear hr r0 r1 r2 r3
  obtain ⟨q, hq⟩ : ∃ q, q = superSpec (superFs a0 a1 a2 a3) s := ⟨_, rfl⟩
  have HQ := Lib.hid hq
  clear hq
  go_enter Try.func9, Try.ntmps9
  go_wp2_with fail
  refine (HA.out _).mono ?_
  rw [← HQ.out]
  rintro e w1 ⟨rfl, hb1⟩
  have HB1 := Lib.hid hb1
  have hblk : w1.heap[w.heap.size]? = some (.cells #[.int .i64 a0, .int .i64 a1, .int .i64 a2, .int .i64 a3, .string s] 42 (0, 0)) := (hb1.block _ (by simp)).trans (heap_alloc_new w _)
  have c0 := blk_cell hblk 0
  have c1 := blk_cell hblk 1
  have c2 := blk_cell hblk 2
  have c3 := blk_cell hblk 3
  have c4 := blk_cell hblk 4
  clear hb1 hblk
  go_wp2_with fail
  clear c0 c1 c2 c3 c4
  refine (refSuper_any _ _ _ _ _ hs HR.out _).mono ?_
  rw [← HQ.out]
  rintro e w2 ⟨rfl, hb2⟩
  have HB2 := Lib.hid hb2
  clear hb2
  go_wp2_with fail
  refine (awake_any _).mono ?_
  rintro e w3 ⟨rfl, hb3⟩
  have HB3 := Lib.hid hb3
  clear hb3
  go_wp2
  go_ret
  exact ⟨rfl, below3 w _ HB1.out HB2.out HB3.out⟩

end Go.Proofs.Ytpbmgollolbgoaa.B
namespace Go.Proofs.Ytpbmgollolbgoaa.R
open Go.RowKit
theorem PackSupers (cs : List Value) (w : World) (h : F.Fits [.int .i64, .int .i64, .int .i64, .int .i64, .str] cs) :
    Calls Try.prog 9 #[.agg cs.toArray] w fun e w' => e = .returned (.bool true) ∧ Below w.heap.size w w' := by
  obtain ⟨a0, r0, rfl, h0, f0⟩ := h.int
  obtain ⟨a1, r1, rfl, h1, f1⟩ := f0.int
  obtain ⟨a2, r2, rfl, h2, f2⟩ := f1.int
  obtain ⟨a3, r3, rfl, h3, f3⟩ := f2.int
  obtain ⟨s, r4, rfl, h4, f4⟩ := f3.str
  obtain rfl := f4.nil
  refine B.PackSupers_walk a0 a1 a2 a3 s (Nat.le_trans h4 (by decide)) (fun x hx => ?_) w
  simp only [List.mem_cons, List.not_mem_nil, or_false] at hx
  rcases hx with rfl | rfl | rfl | rfl <;> exact wf_64 (by assumption)
end Go.Proofs.Ytpbmgollolbgoaa.R
