/-
  PackHeads: the law's walk, out of the contracts of Head on both sides.
-/
import Derived.Test.YtpbmgollolbgoaaRefHead
import Derived.Test.YtpbmgollolbgoaaLawsA
import Derived.Test.YtpbmgollolbgoaaFlat
namespace Go.Proofs.Ytpbmgollolbgoaa.B
open Go.RowKit
set_option linter.unusedVariables false

theorem below3 (w : World) (o : Obj) {w1 w2 w3 : World} (h1 : Below (w.alloc o).heap.size (w.alloc o) w1) (h2 : Below w1.heap.size w1 w2) (h3 : Below w2.heap.size w2 w3) : Below w.heap.size w w3 := by
  have e : (w.alloc o).heap.size = w.heap.size + 1 := by simp
  have s1 := h1.size
  have s2 := h2.size
  exact (((Below.refl _ w).alloc (Nat.le_refl _) o).trans (h1.mono (by omega))).trans ((h2.mono (by omega)).trans (h3.mono (by omega)))

theorem PackHeads_walk (a0 a1 a2 a3 a4 a5 a6 a7 : Int) (hr : ∀ x ∈ [a0, a1, a2, a3, a4, a5, a6, a7], -9223372036854775808 ≤ x ∧ x ≤ 9223372036854775807) (w : World) :
    Calls Try.prog 8 #[.agg #[.int .i64 a0, .int .i64 a1, .int .i64 a2, .int .i64 a3, .int .i64 a4, .int .i64 a5, .int .i64 a6, .int .i64 a7]] w fun e w' => e = .returned (.bool true) ∧ Below w.heap.size w w' := by
  have hu := Try.underlying38
  have r0 := hr a0 (by simp)
  have r1 := hr a1 (by simp)
  have r2 := hr a2 (by simp)
  have r3 := hr a3 (by simp)
  have r4 := hr a4 (by simp)
  have r5 := hr a5 (by simp)
  have r6 := hr a6 (by simp)
  have r7 := hr a7 (by simp)
  have HR := Lib.hid hr
  have HA := Lib.hid (Head_any a0 a1 a2 a3 a4 a5 a6 a7 r0.1 r0.2 r1.1 r1.2 r2.1 r2.2 r3.1 r3.2 r4.1 r4.2 r5.1 r5.2 r6.1 r6.2 r7.1 r7.2)
  clear hr r0 r1 r2 r3 r4 r5 r6 r7
  obtain ⟨q, hq⟩ : ∃ q, q = headSpec (headFs a0 a1 a2 a3 a4 a5 a6 a7) := ⟨_, rfl⟩
  have HQ := Lib.hid hq
  clear hq
  go_enter Try.func8, Try.ntmps8
  go_wp2_with fail
  refine (HA.out _).mono ?_
  rw [← HQ.out]
  rintro e w1 ⟨rfl, hb1⟩
  have HB1 := Lib.hid hb1
  have hblk : w1.heap[w.heap.size]? = some (.cells #[.int .i64 a0, .int .i64 a1, .int .i64 a2, .int .i64 a3, .int .i64 a4, .int .i64 a5, .int .i64 a6, .int .i64 a7] 38 (0, 0)) := (hb1.block _ (by simp)).trans (heap_alloc_new w _)
  have c0 := blk_cell hblk 0
  have c1 := blk_cell hblk 1
  have c2 := blk_cell hblk 2
  have c3 := blk_cell hblk 3
  have c4 := blk_cell hblk 4
  have c5 := blk_cell hblk 5
  have c6 := blk_cell hblk 6
  have c7 := blk_cell hblk 7
  clear hb1 hblk
  go_wp2_with fail
  clear c0 c1 c2 c3 c4 c5 c6 c7
  refine (refHead_any _ _ _ _ _ _ _ _ HR.out _).mono ?_
  rw [← HQ.out]
  rintro e w2 ⟨rfl, hb2⟩
  have HB2 := Lib.hid hb2
  clear hb2
  go_wp2_with fail
  refine (awake_any _).mono ?_
  rintro e w3 ⟨rfl, hb3⟩
  have HB3 := Lib.hid hb3
  clear hb3
  go_wp2
  go_ret
  exact ⟨rfl, below3 w _ HB1.out HB2.out HB3.out⟩

end Go.Proofs.Ytpbmgollolbgoaa.B
namespace Go.Proofs.Ytpbmgollolbgoaa.R
open Go.RowKit
theorem wf_64 {n : Int} (h : (Lit.int .i64 n).wf = true) : -9223372036854775808 ≤ n ∧ n ≤ 9223372036854775807 := by
  simp [Lit.wf, IntKind.min, IntKind.max, IntKind.signed, IntKind.bits] at h
  exact ⟨by omega, by omega⟩
theorem PackHeads (cs : List Value) (w : World) (h : F.Fits [.int .i64, .int .i64, .int .i64, .int .i64, .int .i64, .int .i64, .int .i64, .int .i64] cs) :
    Calls Try.prog 8 #[.agg cs.toArray] w fun e w' => e = .returned (.bool true) ∧ Below w.heap.size w w' := by
  obtain ⟨a0, r0, rfl, h0, f0⟩ := h.int
  obtain ⟨a1, r1, rfl, h1, f1⟩ := f0.int
  obtain ⟨a2, r2, rfl, h2, f2⟩ := f1.int
  obtain ⟨a3, r3, rfl, h3, f3⟩ := f2.int
  obtain ⟨a4, r4, rfl, h4, f4⟩ := f3.int
  obtain ⟨a5, r5, rfl, h5, f5⟩ := f4.int
  obtain ⟨a6, r6, rfl, h6, f6⟩ := f5.int
  obtain ⟨a7, r7, rfl, h7, f7⟩ := f6.int
  obtain rfl := f7.nil
  refine B.PackHeads_walk a0 a1 a2 a3 a4 a5 a6 a7 (fun x hx => ?_) w
  simp only [List.mem_cons, List.not_mem_nil, or_false] at hx
  rcases hx with rfl | rfl | rfl | rfl | rfl | rfl | rfl | rfl <;> exact wf_64 (by assumption)
end Go.Proofs.Ytpbmgollolbgoaa.R
