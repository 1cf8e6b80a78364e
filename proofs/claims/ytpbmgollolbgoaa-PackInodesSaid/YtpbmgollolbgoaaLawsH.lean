/-
  PackInodes: the law's walk.
-/
import Derived.Test.YtpbmgollolbgoaaRefInode
import Derived.Test.YtpbmgollolbgoaaLawsB
import Derived.Deep.MidRow
namespace Go.Proofs.Ytpbmgollolbgoaa.B
open Go.RowKit
set_option linter.unusedVariables false

theorem PackInodes_walk (a0 a1 a2 a3 a4 a5 a6 a7 a8 a9 a10 a11 a12 a13 a14 a15 a16 a17 : Int) (hr : ∀ x ∈ [a0, a1, a2, a3, a4, a5, a6, a7, a8, a9, a10, a11, a12, a13, a14, a15, a16, a17], -9223372036854775808 ≤ x ∧ x ≤ 9223372036854775807) (w : World) :
    Calls Try.prog 11 #[.agg #[.int .i64 a0, .int .i64 a1, .int .i64 a2, .int .i64 a3, .int .i64 a4, .int .i64 a5, .int .i64 a6, .int .i64 a7, .int .i64 a8, .int .i64 a9, .int .i64 a10, .int .i64 a11, .int .i64 a12, .int .i64 a13, .int .i64 a14, .int .i64 a15, .int .i64 a16, .int .i64 a17]] w fun e w' => e = .returned (.bool true) ∧ Below w.heap.size w w' := by
  have hld : ∀ W : World, W.heap[w.heap.size]? = some (.cells #[.int .i64 a0, .int .i64 a1, .int .i64 a2, .int .i64 a3, .int .i64 a4, .int .i64 a5, .int .i64 a6, .int .i64 a7, .int .i64 a8, .int .i64 a9, .int .i64 a10, .int .i64 a11, .int .i64 a12, .int .i64 a13, .int .i64 a14, .int .i64 a15, .int .i64 a16, .int .i64 a17] 50 (0, 0)) → (Instr.loadAt 50 (.pointer (some ⟨w.heap.size, 0, none⟩))).run Try.prog W = .ok (.agg #[.int .i64 a0, .int .i64 a1, .int .i64 a2, .int .i64 a3, .int .i64 a4, .int .i64 a5, .int .i64 a6, .int .i64 a7, .int .i64 a8, .int .i64 a9, .int .i64 a10, .int .i64 a11, .int .i64 a12, .int .i64 a13, .int .i64 a14, .int .i64 a15, .int .i64 a16, .int .i64 a17]) W := fun W hb =>
    run_loadAt_mid W w.heap.size 0 50 [.int .i64 a0, .int .i64 a1, .int .i64 a2, .int .i64 a3, .int .i64 a4, .int .i64 a5, .int .i64 a6, .int .i64 a7, .int .i64 a8, .int .i64 a9, .int .i64 a10, .int .i64 a11, .int .i64 a12, .int .i64 a13, .int .i64 a14, .int .i64 a15, .int .i64 a16, .int .i64 a17] _ (fun j v hv => by
      rw [blk_cell hb (0 + j), Nat.zero_add, ← hv]
      exact List.getElem?_toArray) Try.underlying50 rfl rfl
  have h0 := hld (w.alloc (.cells #[.int .i64 a0, .int .i64 a1, .int .i64 a2, .int .i64 a3, .int .i64 a4, .int .i64 a5, .int .i64 a6, .int .i64 a7, .int .i64 a8, .int .i64 a9, .int .i64 a10, .int .i64 a11, .int .i64 a12, .int .i64 a13, .int .i64 a14, .int .i64 a15, .int .i64 a16, .int .i64 a17] 50)) (heap_alloc_new w _)
  have HLD := Lib.hid hld
  clear hld
  have HR := Lib.hid hr
  have HA := Lib.hid (Inode_any a0 a1 a2 a3 a4 a5 a6 a7 a8 a9 a10 a11 a12 a13 a14 a15 a16 a17 hr)
  clear hr
  obtain ⟨q, hq⟩ : ∃ q, q = inodeSpec a0 (inodeFs a0 a1 a2 a3 a4 a5 a6 a7 a8 a9 a10 a11 a12 a13 a14 a15 a16 a17) := ⟨_, rfl⟩
  have HQ := Lib.hid hq
  clear hq
  go_enter Try.func11, Try.ntmps11
  go_wp2_with fail
  refine (HA.out _).mono ?_
  rw [← HQ.out]
  rintro e w1 ⟨rfl, hb1⟩
  have HB1 := Lib.hid hb1
  have hblk : w1.heap[w.heap.size]? = some (.cells #[.int .i64 a0, .int .i64 a1, .int .i64 a2, .int .i64 a3, .int .i64 a4, .int .i64 a5, .int .i64 a6, .int .i64 a7, .int .i64 a8, .int .i64 a9, .int .i64 a10, .int .i64 a11, .int .i64 a12, .int .i64 a13, .int .i64 a14, .int .i64 a15, .int .i64 a16, .int .i64 a17] 50 (0, 0)) := (hb1.block _ (by simp)).trans (heap_alloc_new w _)
  have hrg : w1.rangeAt w.heap.size 0 [.int .i64 a0, .int .i64 a1, .int .i64 a2, .int .i64 a3, .int .i64 a4, .int .i64 a5, .int .i64 a6, .int .i64 a7, .int .i64 a8, .int .i64 a9, .int .i64 a10, .int .i64 a11, .int .i64 a12, .int .i64 a13, .int .i64 a14, .int .i64 a15, .int .i64 a16, .int .i64 a17] := fun j v hv => by
    rw [blk_cell hblk (0 + j), Nat.zero_add, ← hv]
    exact List.getElem?_toArray
  have HRG := Lib.hid hrg
  clear hb1 hblk hrg h0
  go_wp2_with (refine wpList_load_mid (by rfl) 50 _ (by rfl) w.heap.size 0 (by rfl) [.int .i64 a0, .int .i64 a1, .int .i64 a2, .int .i64 a3, .int .i64 a4, .int .i64 a5, .int .i64 a6, .int .i64 a7, .int .i64 a8, .int .i64 a9, .int .i64 a10, .int .i64 a11, .int .i64 a12, .int .i64 a13, .int .i64 a14, .int .i64 a15, .int .i64 a16, .int .i64 a17] _ HRG.out Try.underlying50 rfl rfl ?_)
  refine (refInode_any _ _ _ _ _ _ _ _ _ _ _ _ _ _ _ _ _ _ HR.out _).mono ?_
  rw [← HQ.out]
  rintro e w2 ⟨rfl, hb2⟩
  have HB2 := Lib.hid hb2
  clear hb2
  go_wp2_with fail
  refine (awake_any _).mono ?_
  rintro e w3 ⟨rfl, hb3⟩
  have HB3 := Lib.hid hb3
  clear hb3
  go_wp2
  go_ret
  exact ⟨rfl, below3 w _ HB1.out HB2.out HB3.out⟩

end Go.Proofs.Ytpbmgollolbgoaa.B
namespace Go.Proofs.Ytpbmgollolbgoaa.R
open Go.RowKit
theorem PackInodes (cs : List Value) (w : World) (h : F.Fits [.int .i64, .int .i64, .int .i64, .int .i64, .int .i64, .int .i64, .int .i64, .int .i64, .int .i64, .int .i64, .int .i64, .int .i64, .int .i64, .int .i64, .int .i64, .int .i64, .int .i64, .int .i64] cs) :
    Calls Try.prog 11 #[.agg cs.toArray] w fun e w' => e = .returned (.bool true) ∧ Below w.heap.size w w' := by
  have f0 := h
  obtain ⟨a0, r0, rfl, h0, f1⟩ := f0.int
  obtain ⟨a1, r1, rfl, h1, f2⟩ := f1.int
  obtain ⟨a2, r2, rfl, h2, f3⟩ := f2.int
  obtain ⟨a3, r3, rfl, h3, f4⟩ := f3.int
  obtain ⟨a4, r4, rfl, h4, f5⟩ := f4.int
  obtain ⟨a5, r5, rfl, h5, f6⟩ := f5.int
  obtain ⟨a6, r6, rfl, h6, f7⟩ := f6.int
  obtain ⟨a7, r7, rfl, h7, f8⟩ := f7.int
  obtain ⟨a8, r8, rfl, h8, f9⟩ := f8.int
  obtain ⟨a9, r9, rfl, h9, f10⟩ := f9.int
  obtain ⟨a10, r10, rfl, h10, f11⟩ := f10.int
  obtain ⟨a11, r11, rfl, h11, f12⟩ := f11.int
  obtain ⟨a12, r12, rfl, h12, f13⟩ := f12.int
  obtain ⟨a13, r13, rfl, h13, f14⟩ := f13.int
  obtain ⟨a14, r14, rfl, h14, f15⟩ := f14.int
  obtain ⟨a15, r15, rfl, h15, f16⟩ := f15.int
  obtain ⟨a16, r16, rfl, h16, f17⟩ := f16.int
  obtain ⟨a17, r17, rfl, h17, f18⟩ := f17.int
  obtain rfl := f18.nil
  refine B.PackInodes_walk a0 a1 a2 a3 a4 a5 a6 a7 a8 a9 a10 a11 a12 a13 a14 a15 a16 a17 (fun x hx => ?_) w
  simp only [List.mem_cons, List.not_mem_nil, or_false] at hx
  rcases hx with rfl | rfl | rfl | rfl | rfl | rfl | rfl | rfl | rfl | rfl | rfl | rfl | rfl | rfl | rfl | rfl | rfl | rfl <;> exact wf_64 (by assumption)
end Go.Proofs.Ytpbmgollolbgoaa.R
