/-
  PackInodeReads: the law's walk.
-/
import Derived.Test.YtpbmgollolbgoaaRefInodeOf
import Derived.Test.YtpbmgollolbgoaaLawsB
import Derived.ChangeKeysEq
namespace Go.Proofs.Ytpbmgollolbgoaa.B
open Go.RowKit
set_option linter.unusedVariables false

theorem eq_twelve (x4 x5 x6 x7 x8 x9 x10 x11 x12 x13 x14 x15 : Int) (W : World) : (Op.equalIn 9999 48 (.agg #[.int .i64 x4, .int .i64 x5, .int .i64 x6, .int .i64 x7, .int .i64 x8, .int .i64 x9, .int .i64 x10, .int .i64 x11, .int .i64 x12, .int .i64 x13, .int .i64 x14, .int .i64 x15]) (.agg #[.int .i64 x4, .int .i64 x5, .int .i64 x6, .int .i64 x7, .int .i64 x8, .int .i64 x9, .int .i64 x10, .int .i64 x11, .int .i64 x12, .int .i64 x13, .int .i64 x14, .int .i64 x15])).run Try.prog W = .ok true W := by
  obtain ⟨i0, hi, hz0, hz1, hz2⟩ := info_parts infoInt
  have hc : Try.prog.cellsOf 3 = 1 := by kernel_rfl
  have hii := Try.underlying3
  rw [show (9999 : Nat) = 9998 + 1 from rfl, run_equalIn_array W 9998 _ _ Try.underlying48 hi, hc]
  simp [Op.eqItems, show List.range 12 = [0, 1, 2, 3, 4, 5, 6, 7, 8, 9, 10, 11] from rfl, go_sem, part]
theorem eq_inode (x0 x1 x2 x3 x4 x5 x6 x7 x8 x9 x10 x11 x12 x13 x14 x15 x16 x17 : Int) (W : World) : (binOp .eql 50 (.agg #[.int .i64 x0, .int .i64 x1, .int .i64 x2, .int .i64 x3, .int .i64 x4, .int .i64 x5, .int .i64 x6, .int .i64 x7, .int .i64 x8, .int .i64 x9, .int .i64 x10, .int .i64 x11, .int .i64 x12, .int .i64 x13, .int .i64 x14, .int .i64 x15, .int .i64 x16, .int .i64 x17]) (.agg #[.int .i64 x0, .int .i64 x1, .int .i64 x2, .int .i64 x3, .int .i64 x4, .int .i64 x5, .int .i64 x6, .int .i64 x7, .int .i64 x8, .int .i64 x9, .int .i64 x10, .int .i64 x11, .int .i64 x12, .int .i64 x13, .int .i64 x14, .int .i64 x15, .int .i64 x16, .int .i64 x17])).run Try.prog W = .ok (.bool true) W := by
  have hu := Try.underlying50
  have hua := Try.underlying48
  have hi := Try.underlying3
  have h12 := eq_twelve x4 x5 x6 x7 x8 x9 x10 x11 x12 x13 x14 x15 W
  simp [go_sem, h12]

theorem inodeOfSpec_length (s : ByteArray) : (inodeOfSpec s).1.length = 18 := by
  unfold inodeOfSpec
  repeat' split
  all_goals simp [inodeNums_length]
theorem eq_inode_list (fl : List Int) (hl : fl.length = 18) (W : World) : (binOp .eql 50 (.agg (ints fl).toArray) (.agg (ints fl).toArray)).run Try.prog W = .ok (.bool true) W := by
  obtain ⟨x0, x1, x2, x3, x4, x5, x6, x7, x8, x9, x10, x11, x12, x13, x14, x15, x16, x17, rfl⟩ := eighteen fl hl
  exact eq_inode x0 x1 x2 x3 x4 x5 x6 x7 x8 x9 x10 x11 x12 x13 x14 x15 x16 x17 W

set_option maxRecDepth 100000 in
set_option maxHeartbeats 1600000 in
theorem PackInodeReads_walk (s : ByteArray) (w : World) :
    Calls Try.prog 12 #[.string s] w fun e w' => e = .returned (.bool true) ∧ Below w.heap.size w w' := by
  have hu := Try.underlying50
  have HA := Lib.hid (InodeOf_any s)
  have HB := Lib.hid (refInodeOf_any s)
  have hlen := inodeOfSpec_length s
  obtain ⟨q, hq⟩ : ∃ q, q = inodeOfSpec s := ⟨_, rfl⟩
  rw [← hq] at hlen
  have HQ := Lib.hid hq
  obtain ⟨A, hA⟩ : ∃ A, A = (ints q.1).toArray := ⟨_, rfl⟩
  have hE : ∀ W, (binOp .eql 50 (.agg A) (.agg A)).run Try.prog W = .ok (.bool true) W := by
    intro W
    rw [hA]
    exact eq_inode_list q.1 hlen W
  have h18 : A.size = 18 := by rw [hA]; simp [ints_length, hlen]
  have h1c : ∀ v ∈ A.toList, v.oneCell' = true := by rw [hA]; exact ints_oneCell _
  have hi : (Try.prog.info? 50).map (·.size) = some A.size := by rw [h18]; exact infoInode
  have H18 := Lib.hid h18
  have H1C := Lib.hid h1c
  have HI := Lib.hid hi
  have HAA := Lib.hid hA
  clear hq hlen hA h18 h1c hi
  go_enter Try.func12, Try.ntmps12
  go_wp2_with fail
  refine (HA.out _).mono ?_
  rw [← HQ.out, ← HAA.out]
  rintro e w1 ⟨rfl, hb1⟩
  have HB1 := Lib.hid hb1
  clear hb1
  go_wp2_with (first | (refine wpList_store_row (by rfl) 50 _ _ (by rfl) w1.heap.size A #[.int .i64 0, .int .i64 0, .int .i64 0, .int .i64 0, .int .i64 0, .int .i64 0, .int .i64 0, .int .i64 0, .int .i64 0, .int .i64 0, .int .i64 0, .int .i64 0, .int .i64 0, .int .i64 0, .int .i64 0, .int .i64 0, .int .i64 0, .int .i64 0] 50 (by rfl) (by rfl) (get_top rfl) H18.out HI.out H1C.out ?_; intro W1 hW1 hK1; have HW1 := Lib.hid hW1; have HK1 := Lib.hid (HB1.out.alloc HB1.out.size (.cells #[.int .i64 0, .int .i64 0, .int .i64 0, .int .i64 0, .int .i64 0, .int .i64 0, .int .i64 0, .int .i64 0, .int .i64 0, .int .i64 0, .int .i64 0, .int .i64 0, .int .i64 0, .int .i64 0, .int .i64 0, .int .i64 0, .int .i64 0, .int .i64 0] 50) |>.trans (hK1.below (by have := HB1.out.size; simp; omega) (by intro i hi; have := HB1.out.size; omega))); clear hW1 hK1) | fail)
  refine (HB.out _).mono ?_
  rw [← HQ.out, ← HAA.out]
  rintro e w2 ⟨rfl, hb2⟩
  have hg1 : w2.heap[w1.heap.size]? = some (.cells A 50 (0, 0)) := (hb2.block _ (blk_lt HW1.out)).trans HW1.out
  have HG1 := Lib.hid hg1
  have HB2 := Lib.hid (HK1.out.trans (hb2.mono HK1.out.size))
  have hlt := blk_lt hg1
  clear hb2 hg1
  go_wp2_with (first | (refine wpList_store_row (by rfl) 50 _ _ (by rfl) w2.heap.size A #[.int .i64 0, .int .i64 0, .int .i64 0, .int .i64 0, .int .i64 0, .int .i64 0, .int .i64 0, .int .i64 0, .int .i64 0, .int .i64 0, .int .i64 0, .int .i64 0, .int .i64 0, .int .i64 0, .int .i64 0, .int .i64 0, .int .i64 0, .int .i64 0] 50 (by rfl) (by rfl) (get_top rfl) H18.out HI.out H1C.out ?_; intro W2 hW2 hK2; have HW2 := Lib.hid hW2; have HG2 := Lib.hid (hK2.at_ (get_below HG1.out) (by omega)); have HK2 := Lib.hid (HB2.out.alloc HB2.out.size (.cells #[.int .i64 0, .int .i64 0, .int .i64 0, .int .i64 0, .int .i64 0, .int .i64 0, .int .i64 0, .int .i64 0, .int .i64 0, .int .i64 0, .int .i64 0, .int .i64 0, .int .i64 0, .int .i64 0, .int .i64 0, .int .i64 0, .int .i64 0, .int .i64 0] 50) |>.trans (hK2.below (by have := HB2.out.size; simp; omega) (by intro i hi; have := HB2.out.size; omega))); clear hW2 hK2) | (refine wpList_load_row (by rfl) 50 _ (by rfl) w1.heap.size (by rfl) 50 _ (0, 0) _ HG2.out Try.underlying50 rfl HI.out ?_) | (refine wpList_load_row (by rfl) 50 _ (by rfl) w2.heap.size (by rfl) 50 _ (0, 0) _ HW2.out Try.underlying50 rfl HI.out ?_) | fail)
  refine (awake_any _).mono ?_
  rintro e w3 ⟨rfl, hb3⟩
  have HB3 := Lib.hid hb3
  clear hb3
  go_wp2
  go_ret
  exact ⟨rfl, HK2.out.trans (HB3.out.mono HK2.out.size)⟩
end Go.Proofs.Ytpbmgollolbgoaa.B
namespace Go.Proofs.Ytpbmgollolbgoaa.R
open Go.RowKit
theorem PackInodeReads (s : ByteArray) (w : World) (_h : s.size ≤ 140737488351232) :
    Calls Try.prog 12 #[.string s] w fun e w' => e = .returned (.bool true) ∧ Below w.heap.size w w' := B.PackInodeReads_walk s w
end Go.Proofs.Ytpbmgollolbgoaa.R
