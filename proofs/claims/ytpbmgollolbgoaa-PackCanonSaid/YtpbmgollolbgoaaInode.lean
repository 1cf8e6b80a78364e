/-
  pack.Inode, walked: eighteen numbers, twelve of them in a loop.
-/
import Derived.Test.YtpbmgollolbgoaaSuper
import Derived.LoopN
namespace Go.Proofs.Ytpbmgollolbgoaa.B
open Go.RowKit
set_option linter.unusedVariables false

def inodeFs (a0 a1 a2 a3 a4 a5 a6 a7 a8 a9 a10 a11 a12 a13 a14 a15 a16 a17 : Int) : List (Int × Nat) := [(a0, 2), (a1, 4), (a2, 6), (a3, 4), (a4, 4), (a5, 4), (a6, 4), (a7, 4), (a8, 4), (a9, 4), (a10, 4), (a11, 4), (a12, 4), (a13, 4), (a14, 4), (a15, 4), (a16, 4), (a17, 4)]
def inodeSpec (k : Int) (fs : List (Int × Nat)) : ByteArray × Int := if k ≤ 3 ∧ good fs = true then (strOfNums (lay fs) ++ strOfNums (List.replicate 376 0), 0) else (⟨#[]⟩, 2)

theorem ix12_0 (x0 x1 x2 x3 x4 x5 x6 x7 x8 x9 x10 x11 : Value) (W : World) : (Instr.index 48 (.agg #[x0, x1, x2, x3, x4, x5, x6, x7, x8, x9, x10, x11]) (.int .i64 0)).run Try.prog W = .ok x0 W := by
  have hua := Try.underlying48
  simp [Instr.index, run_underlying hua, asIntOf, go_sem]
theorem ix12_1 (x0 x1 x2 x3 x4 x5 x6 x7 x8 x9 x10 x11 : Value) (W : World) : (Instr.index 48 (.agg #[x0, x1, x2, x3, x4, x5, x6, x7, x8, x9, x10, x11]) (.int .i64 1)).run Try.prog W = .ok x1 W := by
  have hua := Try.underlying48
  simp [Instr.index, run_underlying hua, asIntOf, go_sem]
theorem ix12_2 (x0 x1 x2 x3 x4 x5 x6 x7 x8 x9 x10 x11 : Value) (W : World) : (Instr.index 48 (.agg #[x0, x1, x2, x3, x4, x5, x6, x7, x8, x9, x10, x11]) (.int .i64 2)).run Try.prog W = .ok x2 W := by
  have hua := Try.underlying48
  simp [Instr.index, run_underlying hua, asIntOf, go_sem]
theorem ix12_3 (x0 x1 x2 x3 x4 x5 x6 x7 x8 x9 x10 x11 : Value) (W : World) : (Instr.index 48 (.agg #[x0, x1, x2, x3, x4, x5, x6, x7, x8, x9, x10, x11]) (.int .i64 3)).run Try.prog W = .ok x3 W := by
  have hua := Try.underlying48
  simp [Instr.index, run_underlying hua, asIntOf, go_sem]
theorem ix12_4 (x0 x1 x2 x3 x4 x5 x6 x7 x8 x9 x10 x11 : Value) (W : World) : (Instr.index 48 (.agg #[x0, x1, x2, x3, x4, x5, x6, x7, x8, x9, x10, x11]) (.int .i64 4)).run Try.prog W = .ok x4 W := by
  have hua := Try.underlying48
  simp [Instr.index, run_underlying hua, asIntOf, go_sem]
theorem ix12_5 (x0 x1 x2 x3 x4 x5 x6 x7 x8 x9 x10 x11 : Value) (W : World) : (Instr.index 48 (.agg #[x0, x1, x2, x3, x4, x5, x6, x7, x8, x9, x10, x11]) (.int .i64 5)).run Try.prog W = .ok x5 W := by
  have hua := Try.underlying48
  simp [Instr.index, run_underlying hua, asIntOf, go_sem]
theorem ix12_6 (x0 x1 x2 x3 x4 x5 x6 x7 x8 x9 x10 x11 : Value) (W : World) : (Instr.index 48 (.agg #[x0, x1, x2, x3, x4, x5, x6, x7, x8, x9, x10, x11]) (.int .i64 6)).run Try.prog W = .ok x6 W := by
  have hua := Try.underlying48
  simp [Instr.index, run_underlying hua, asIntOf, go_sem]
theorem ix12_7 (x0 x1 x2 x3 x4 x5 x6 x7 x8 x9 x10 x11 : Value) (W : World) : (Instr.index 48 (.agg #[x0, x1, x2, x3, x4, x5, x6, x7, x8, x9, x10, x11]) (.int .i64 7)).run Try.prog W = .ok x7 W := by
  have hua := Try.underlying48
  simp [Instr.index, run_underlying hua, asIntOf, go_sem]
theorem ix12_8 (x0 x1 x2 x3 x4 x5 x6 x7 x8 x9 x10 x11 : Value) (W : World) : (Instr.index 48 (.agg #[x0, x1, x2, x3, x4, x5, x6, x7, x8, x9, x10, x11]) (.int .i64 8)).run Try.prog W = .ok x8 W := by
  have hua := Try.underlying48
  simp [Instr.index, run_underlying hua, asIntOf, go_sem]
theorem ix12_9 (x0 x1 x2 x3 x4 x5 x6 x7 x8 x9 x10 x11 : Value) (W : World) : (Instr.index 48 (.agg #[x0, x1, x2, x3, x4, x5, x6, x7, x8, x9, x10, x11]) (.int .i64 9)).run Try.prog W = .ok x9 W := by
  have hua := Try.underlying48
  simp [Instr.index, run_underlying hua, asIntOf, go_sem]
theorem ix12_10 (x0 x1 x2 x3 x4 x5 x6 x7 x8 x9 x10 x11 : Value) (W : World) : (Instr.index 48 (.agg #[x0, x1, x2, x3, x4, x5, x6, x7, x8, x9, x10, x11]) (.int .i64 10)).run Try.prog W = .ok x10 W := by
  have hua := Try.underlying48
  simp [Instr.index, run_underlying hua, asIntOf, go_sem]
theorem ix12_11 (x0 x1 x2 x3 x4 x5 x6 x7 x8 x9 x10 x11 : Value) (W : World) : (Instr.index 48 (.agg #[x0, x1, x2, x3, x4, x5, x6, x7, x8, x9, x10, x11]) (.int .i64 11)).run Try.prog W = .ok x11 W := by
  have hua := Try.underlying48
  simp [Instr.index, run_underlying hua, asIntOf, go_sem]
set_option maxRecDepth 100000 in
set_option maxHeartbeats 6400000 in
theorem Inode_any (a0 a1 a2 a3 a4 a5 a6 a7 a8 a9 a10 a11 a12 a13 a14 a15 a16 a17 : Int) (hi : ∀ x ∈ [a0, a1, a2, a3, a4, a5, a6, a7, a8, a9, a10, a11, a12, a13, a14, a15, a16, a17], -9223372036854775808 ≤ x ∧ x ≤ 9223372036854775807) (w : World) :
    Calls Try.prog 32 #[.agg #[.int .i64 a0, .int .i64 a1, .int .i64 a2, .int .i64 a3, .int .i64 a4, .int .i64 a5, .int .i64 a6, .int .i64 a7, .int .i64 a8, .int .i64 a9, .int .i64 a10, .int .i64 a11, .int .i64 a12, .int .i64 a13, .int .i64 a14, .int .i64 a15, .int .i64 a16, .int .i64 a17]] w fun e w' => e = .returned (.tuple #[.string (inodeSpec a0 (inodeFs a0 a1 a2 a3 a4 a5 a6 a7 a8 a9 a10 a11 a12 a13 a14 a15 a16 a17)).1, .int .i64 (inodeSpec a0 (inodeFs a0 a1 a2 a3 a4 a5 a6 a7 a8 a9 a10 a11 a12 a13 a14 a15 a16 a17)).2]) ∧ Below w.heap.size w w' := by
  have hu := Try.underlying50
  have hua := Try.underlying48
  by_cases hk0 : a0 < 0
  · have hs : inodeSpec a0 (inodeFs a0 a1 a2 a3 a4 a5 a6 a7 a8 a9 a10 a11 a12 a13 a14 a15 a16 a17) = (⟨#[]⟩, 2) := by
      rw [inodeSpec, if_neg]
      rintro ⟨_, h⟩
      simp [inodeFs, good, fits] at h
      omega
    have HS := Lib.hid hs
    clear hs hi
    go_enter Try.func32, Try.ntmps32
    go_wp2
    go_ret2
    rw [HS.out]
    exact ⟨rfl, (Below.refl _ w).alloc (Nat.le_refl _) _⟩
  by_cases hk3 : 3 < a0
  · have hs : inodeSpec a0 (inodeFs a0 a1 a2 a3 a4 a5 a6 a7 a8 a9 a10 a11 a12 a13 a14 a15 a16 a17) = (⟨#[]⟩, 2) := by rw [inodeSpec, if_neg (by omega)]
    have HS := Lib.hid hs
    clear hs hi
    go_enter Try.func32, Try.ntmps32
    go_wp2
    go_ret2
    rw [HS.out]
    exact ⟨rfl, (Below.refl _ w).alloc (Nat.le_refl _) _⟩
  have r0 := Lib.hid (hi a0 (by simp))
  have r1 := Lib.hid (hi a1 (by simp))
  have r2 := Lib.hid (hi a2 (by simp))
  have r3 := Lib.hid (hi a3 (by simp))
  have r4 := Lib.hid (hi a4 (by simp))
  have r5 := Lib.hid (hi a5 (by simp))
  have r6 := Lib.hid (hi a6 (by simp))
  have r7 := Lib.hid (hi a7 (by simp))
  have r8 := Lib.hid (hi a8 (by simp))
  have r9 := Lib.hid (hi a9 (by simp))
  have r10 := Lib.hid (hi a10 (by simp))
  have r11 := Lib.hid (hi a11 (by simp))
  have r12 := Lib.hid (hi a12 (by simp))
  have r13 := Lib.hid (hi a13 (by simp))
  have r14 := Lib.hid (hi a14 (by simp))
  have r15 := Lib.hid (hi a15 (by simp))
  have r16 := Lib.hid (hi a16 (by simp))
  have r17 := Lib.hid (hi a17 (by simp))
  clear hi
  have h0 := At.plain w (.cells #[.int .i64 a0, .int .i64 a1, .int .i64 a2, .int .i64 a3, .int .i64 a4, .int .i64 a5, .int .i64 a6, .int .i64 a7, .int .i64 a8, .int .i64 a9, .int .i64 a10, .int .i64 a11, .int .i64 a12, .int .i64 a13, .int .i64 a14, .int .i64 a15, .int .i64 a16, .int .i64 a17] 50)
  have H0 := Lib.hid h0
  have L0 := Lib.hid (show ([] : List Int).length ≤ 0 by decide)
  clear h0
  go_enter Try.func32, Try.ntmps32
  go_wp2_with fail
  refine (put_any _ _ _ _ a0 2 _ H0.out.wr (Nat.le_trans L0.out (by omega)) r0.out.1 r0.out.2 (by omega) (by omega)).mono ?_
  rintro e u1 ⟨rfl, t1⟩
  obtain ⟨v1, x1, b1, h1, l1, ex1, eb1⟩ := H0.out.put L0.out t1
  have H1 := Lib.hid h1
  have L1 := Lib.hid l1
  have E1 := Lib.hid ex1
  have F1 := Lib.hid eb1
  have c1 := blk_cell h1.par 1
  clear t1 h1 l1 ex1 eb1
  go_wp2_with fail
  clear c1
  refine (put_any _ _ _ _ a1 4 _ H1.out.wr (Nat.le_trans L1.out (by omega)) r1.out.1 r1.out.2 (by omega) (by omega)).mono ?_
  rintro e u2 ⟨rfl, t2⟩
  obtain ⟨v2, x2, b2, h2, l2, ex2, eb2⟩ := H1.out.put L1.out t2
  have H2 := Lib.hid h2
  have L2 := Lib.hid l2
  have E2 := Lib.hid ex2
  have F2 := Lib.hid eb2
  have c2 := blk_cell h2.par 2
  clear t2 h2 l2 ex2 eb2
  go_wp2_with fail
  clear c2
  refine (put_any _ _ _ _ a2 6 _ H2.out.wr (Nat.le_trans L2.out (by omega)) r2.out.1 r2.out.2 (by omega) (by omega)).mono ?_
  rintro e u3 ⟨rfl, t3⟩
  obtain ⟨v3, x3, b3, h3, l3, ex3, eb3⟩ := H2.out.put L2.out t3
  have H3 := Lib.hid h3
  have L3 := Lib.hid l3
  have E3 := Lib.hid ex3
  have F3 := Lib.hid eb3
  have c3 := blk_cell h3.par 3
  clear t3 h3 l3 ex3 eb3
  go_wp2_with fail
  clear c3
  refine (put_any _ _ _ _ a3 4 _ H3.out.wr (Nat.le_trans L3.out (by omega)) r3.out.1 r3.out.2 (by omega) (by omega)).mono ?_
  rintro e u4 ⟨rfl, t4⟩
  obtain ⟨v4, x4, b4, h4, l4, ex4, eb4⟩ := H3.out.put L3.out t4
  have H4 := Lib.hid h4
  have L4 := Lib.hid l4
  have E4 := Lib.hid ex4
  have F4 := Lib.hid eb4
  have c4 := blk_cell h4.par 4
  have c5 := blk_cell h4.par 5
  have c6 := blk_cell h4.par 6
  have c7 := blk_cell h4.par 7
  have c8 := blk_cell h4.par 8
  have c9 := blk_cell h4.par 9
  have c10 := blk_cell h4.par 10
  have c11 := blk_cell h4.par 11
  have c12 := blk_cell h4.par 12
  have c13 := blk_cell h4.par 13
  have c14 := blk_cell h4.par 14
  have c15 := blk_cell h4.par 15
  clear t4 h4 l4 ex4 eb4
  go_wp2_with fail
  have hix := ix12_0 (.int .i64 a4) (.int .i64 a5) (.int .i64 a6) (.int .i64 a7) (.int .i64 a8) (.int .i64 a9) (.int .i64 a10) (.int .i64 a11) (.int .i64 a12) (.int .i64 a13) (.int .i64 a14) (.int .i64 a15)
  refine wp_loop_rounds 13 ?_
  rw [rounds_succ]
  go_wp2_with fail
  clear hix
  clear c4 c5 c6 c7 c8 c9 c10 c11 c12 c13 c14 c15
  refine (put_any _ _ _ _ a4 4 _ H4.out.wr (Nat.le_trans L4.out (by omega)) r4.out.1 r4.out.2 (by omega) (by omega)).mono ?_
  rintro e u5 ⟨rfl, t5⟩
  obtain ⟨v5, x5, b5, h5, l5, ex5, eb5⟩ := H4.out.put L4.out t5
  have H5 := Lib.hid h5
  have L5 := Lib.hid l5
  have E5 := Lib.hid ex5
  have F5 := Lib.hid eb5
  clear t5 h5 l5 ex5 eb5
  go_wp2_with fail
  have hix := ix12_1 (.int .i64 a4) (.int .i64 a5) (.int .i64 a6) (.int .i64 a7) (.int .i64 a8) (.int .i64 a9) (.int .i64 a10) (.int .i64 a11) (.int .i64 a12) (.int .i64 a13) (.int .i64 a14) (.int .i64 a15)
  rw [rounds_succ]
  go_wp2_with fail
  clear hix
  refine (put_any _ _ _ _ a5 4 _ H5.out.wr (Nat.le_trans L5.out (by omega)) r5.out.1 r5.out.2 (by omega) (by omega)).mono ?_
  rintro e u6 ⟨rfl, t6⟩
  obtain ⟨v6, x6, b6, h6, l6, ex6, eb6⟩ := H5.out.put L5.out t6
  have H6 := Lib.hid h6
  have L6 := Lib.hid l6
  have E6 := Lib.hid ex6
  have F6 := Lib.hid eb6
  clear t6 h6 l6 ex6 eb6
  go_wp2_with fail
  have hix := ix12_2 (.int .i64 a4) (.int .i64 a5) (.int .i64 a6) (.int .i64 a7) (.int .i64 a8) (.int .i64 a9) (.int .i64 a10) (.int .i64 a11) (.int .i64 a12) (.int .i64 a13) (.int .i64 a14) (.int .i64 a15)
  rw [rounds_succ]
  go_wp2_with fail
  clear hix
  refine (put_any _ _ _ _ a6 4 _ H6.out.wr (Nat.le_trans L6.out (by omega)) r6.out.1 r6.out.2 (by omega) (by omega)).mono ?_
  rintro e u7 ⟨rfl, t7⟩
  obtain ⟨v7, x7, b7, h7, l7, ex7, eb7⟩ := H6.out.put L6.out t7
  have H7 := Lib.hid h7
  have L7 := Lib.hid l7
  have E7 := Lib.hid ex7
  have F7 := Lib.hid eb7
  clear t7 h7 l7 ex7 eb7
  go_wp2_with fail
  have hix := ix12_3 (.int .i64 a4) (.int .i64 a5) (.int .i64 a6) (.int .i64 a7) (.int .i64 a8) (.int .i64 a9) (.int .i64 a10) (.int .i64 a11) (.int .i64 a12) (.int .i64 a13) (.int .i64 a14) (.int .i64 a15)
  rw [rounds_succ]
  go_wp2_with fail
  clear hix
  refine (put_any _ _ _ _ a7 4 _ H7.out.wr (Nat.le_trans L7.out (by omega)) r7.out.1 r7.out.2 (by omega) (by omega)).mono ?_
  rintro e u8 ⟨rfl, t8⟩
  obtain ⟨v8, x8, b8, h8, l8, ex8, eb8⟩ := H7.out.put L7.out t8
  have H8 := Lib.hid h8
  have L8 := Lib.hid l8
  have E8 := Lib.hid ex8
  have F8 := Lib.hid eb8
  clear t8 h8 l8 ex8 eb8
  go_wp2_with fail
  have hix := ix12_4 (.int .i64 a4) (.int .i64 a5) (.int .i64 a6) (.int .i64 a7) (.int .i64 a8) (.int .i64 a9) (.int .i64 a10) (.int .i64 a11) (.int .i64 a12) (.int .i64 a13) (.int .i64 a14) (.int .i64 a15)
  rw [rounds_succ]
  go_wp2_with fail
  clear hix
  refine (put_any _ _ _ _ a8 4 _ H8.out.wr (Nat.le_trans L8.out (by omega)) r8.out.1 r8.out.2 (by omega) (by omega)).mono ?_
  rintro e u9 ⟨rfl, t9⟩
  obtain ⟨v9, x9, b9, h9, l9, ex9, eb9⟩ := H8.out.put L8.out t9
  have H9 := Lib.hid h9
  have L9 := Lib.hid l9
  have E9 := Lib.hid ex9
  have F9 := Lib.hid eb9
  clear t9 h9 l9 ex9 eb9
  go_wp2_with fail
  have hix := ix12_5 (.int .i64 a4) (.int .i64 a5) (.int .i64 a6) (.int .i64 a7) (.int .i64 a8) (.int .i64 a9) (.int .i64 a10) (.int .i64 a11) (.int .i64 a12) (.int .i64 a13) (.int .i64 a14) (.int .i64 a15)
  rw [rounds_succ]
  go_wp2_with fail
  clear hix
  refine (put_any _ _ _ _ a9 4 _ H9.out.wr (Nat.le_trans L9.out (by omega)) r9.out.1 r9.out.2 (by omega) (by omega)).mono ?_
  rintro e u10 ⟨rfl, t10⟩
  obtain ⟨v10, x10, b10, h10, l10, ex10, eb10⟩ := H9.out.put L9.out t10
  have H10 := Lib.hid h10
  have L10 := Lib.hid l10
  have E10 := Lib.hid ex10
  have F10 := Lib.hid eb10
  clear t10 h10 l10 ex10 eb10
  go_wp2_with fail
  have hix := ix12_6 (.int .i64 a4) (.int .i64 a5) (.int .i64 a6) (.int .i64 a7) (.int .i64 a8) (.int .i64 a9) (.int .i64 a10) (.int .i64 a11) (.int .i64 a12) (.int .i64 a13) (.int .i64 a14) (.int .i64 a15)
  rw [rounds_succ]
  go_wp2_with fail
  clear hix
  refine (put_any _ _ _ _ a10 4 _ H10.out.wr (Nat.le_trans L10.out (by omega)) r10.out.1 r10.out.2 (by omega) (by omega)).mono ?_
  rintro e u11 ⟨rfl, t11⟩
  obtain ⟨v11, x11, b11, h11, l11, ex11, eb11⟩ := H10.out.put L10.out t11
  have H11 := Lib.hid h11
  have L11 := Lib.hid l11
  have E11 := Lib.hid ex11
  have F11 := Lib.hid eb11
  clear t11 h11 l11 ex11 eb11
  go_wp2_with fail
  have hix := ix12_7 (.int .i64 a4) (.int .i64 a5) (.int .i64 a6) (.int .i64 a7) (.int .i64 a8) (.int .i64 a9) (.int .i64 a10) (.int .i64 a11) (.int .i64 a12) (.int .i64 a13) (.int .i64 a14) (.int .i64 a15)
  rw [rounds_succ]
  go_wp2_with fail
  clear hix
  refine (put_any _ _ _ _ a11 4 _ H11.out.wr (Nat.le_trans L11.out (by omega)) r11.out.1 r11.out.2 (by omega) (by omega)).mono ?_
  rintro e u12 ⟨rfl, t12⟩
  obtain ⟨v12, x12, b12, h12, l12, ex12, eb12⟩ := H11.out.put L11.out t12
  have H12 := Lib.hid h12
  have L12 := Lib.hid l12
  have E12 := Lib.hid ex12
  have F12 := Lib.hid eb12
  clear t12 h12 l12 ex12 eb12
  go_wp2_with fail
  have hix := ix12_8 (.int .i64 a4) (.int .i64 a5) (.int .i64 a6) (.int .i64 a7) (.int .i64 a8) (.int .i64 a9) (.int .i64 a10) (.int .i64 a11) (.int .i64 a12) (.int .i64 a13) (.int .i64 a14) (.int .i64 a15)
  rw [rounds_succ]
  go_wp2_with fail
  clear hix
  refine (put_any _ _ _ _ a12 4 _ H12.out.wr (Nat.le_trans L12.out (by omega)) r12.out.1 r12.out.2 (by omega) (by omega)).mono ?_
  rintro e u13 ⟨rfl, t13⟩
  obtain ⟨v13, x13, b13, h13, l13, ex13, eb13⟩ := H12.out.put L12.out t13
  have H13 := Lib.hid h13
  have L13 := Lib.hid l13
  have E13 := Lib.hid ex13
  have F13 := Lib.hid eb13
  clear t13 h13 l13 ex13 eb13
  go_wp2_with fail
  have hix := ix12_9 (.int .i64 a4) (.int .i64 a5) (.int .i64 a6) (.int .i64 a7) (.int .i64 a8) (.int .i64 a9) (.int .i64 a10) (.int .i64 a11) (.int .i64 a12) (.int .i64 a13) (.int .i64 a14) (.int .i64 a15)
  rw [rounds_succ]
  go_wp2_with fail
  clear hix
  refine (put_any _ _ _ _ a13 4 _ H13.out.wr (Nat.le_trans L13.out (by omega)) r13.out.1 r13.out.2 (by omega) (by omega)).mono ?_
  rintro e u14 ⟨rfl, t14⟩
  obtain ⟨v14, x14, b14, h14, l14, ex14, eb14⟩ := H13.out.put L13.out t14
  have H14 := Lib.hid h14
  have L14 := Lib.hid l14
  have E14 := Lib.hid ex14
  have F14 := Lib.hid eb14
  clear t14 h14 l14 ex14 eb14
  go_wp2_with fail
  have hix := ix12_10 (.int .i64 a4) (.int .i64 a5) (.int .i64 a6) (.int .i64 a7) (.int .i64 a8) (.int .i64 a9) (.int .i64 a10) (.int .i64 a11) (.int .i64 a12) (.int .i64 a13) (.int .i64 a14) (.int .i64 a15)
  rw [rounds_succ]
  go_wp2_with fail
  clear hix
  refine (put_any _ _ _ _ a14 4 _ H14.out.wr (Nat.le_trans L14.out (by omega)) r14.out.1 r14.out.2 (by omega) (by omega)).mono ?_
  rintro e u15 ⟨rfl, t15⟩
  obtain ⟨v15, x15, b15, h15, l15, ex15, eb15⟩ := H14.out.put L14.out t15
  have H15 := Lib.hid h15
  have L15 := Lib.hid l15
  have E15 := Lib.hid ex15
  have F15 := Lib.hid eb15
  clear t15 h15 l15 ex15 eb15
  go_wp2_with fail
  have hix := ix12_11 (.int .i64 a4) (.int .i64 a5) (.int .i64 a6) (.int .i64 a7) (.int .i64 a8) (.int .i64 a9) (.int .i64 a10) (.int .i64 a11) (.int .i64 a12) (.int .i64 a13) (.int .i64 a14) (.int .i64 a15)
  rw [rounds_succ]
  go_wp2_with fail
  clear hix
  refine (put_any _ _ _ _ a15 4 _ H15.out.wr (Nat.le_trans L15.out (by omega)) r15.out.1 r15.out.2 (by omega) (by omega)).mono ?_
  rintro e u16 ⟨rfl, t16⟩
  obtain ⟨v16, x16, b16, h16, l16, ex16, eb16⟩ := H15.out.put L15.out t16
  have H16 := Lib.hid h16
  have L16 := Lib.hid l16
  have E16 := Lib.hid ex16
  have F16 := Lib.hid eb16
  have c16 := blk_cell h16.par 16
  clear t16 h16 l16 ex16 eb16
  go_wp2_with fail
  rw [rounds_succ]
  go_wp2_with fail
  clear c16
  refine (put_any _ _ _ _ a16 4 _ H16.out.wr (Nat.le_trans L16.out (by omega)) r16.out.1 r16.out.2 (by omega) (by omega)).mono ?_
  rintro e u17 ⟨rfl, t17⟩
  obtain ⟨v17, x17, b17, h17, l17, ex17, eb17⟩ := H16.out.put L16.out t17
  have H17 := Lib.hid h17
  have L17 := Lib.hid l17
  have E17 := Lib.hid ex17
  have F17 := Lib.hid eb17
  have c17 := blk_cell h17.par 17
  clear t17 h17 l17 ex17 eb17
  go_wp2_with fail
  clear c17
  refine (put_any _ _ _ _ a17 4 _ H17.out.wr (Nat.le_trans L17.out (by omega)) r17.out.1 r17.out.2 (by omega) (by omega)).mono ?_
  rintro e u18 ⟨rfl, t18⟩
  obtain ⟨v18, x18, b18, h18, l18, ex18, eb18⟩ := H17.out.put L17.out t18
  have H18 := Lib.hid h18
  have L18 := Lib.hid l18
  have E18 := Lib.hid ex18
  have F18 := Lib.hid eb18
  clear t18 h18 l18 ex18 eb18
  have ex : x18 = putsXs [] (inodeFs a0 a1 a2 a3 a4 a5 a6 a7 a8 a9 a10 a11 a12 a13 a14 a15 a16 a17) := by rw [E18.out, E17.out, E16.out, E15.out, E14.out, E13.out, E12.out, E11.out, E10.out, E9.out, E8.out, E7.out, E6.out, E5.out, E4.out, E3.out, E2.out, E1.out]; rfl
  have eb : b18 = !good (inodeFs a0 a1 a2 a3 a4 a5 a6 a7 a8 a9 a10 a11 a12 a13 a14 a15 a16 a17) := by rw [← putsBad_eq, F18.out, F17.out, F16.out, F15.out, F14.out, F13.out, F12.out, F11.out, F10.out, F9.out, F8.out, F7.out, F6.out, F5.out, F4.out, F3.out, F2.out, F1.out]; rfl
  by_cases hgood : good (inodeFs a0 a1 a2 a3 a4 a5 a6 a7 a8 a9 a10 a11 a12 a13 a14 a15 a16 a17) = true
  · have hs : inodeSpec a0 (inodeFs a0 a1 a2 a3 a4 a5 a6 a7 a8 a9 a10 a11 a12 a13 a14 a15 a16 a17) = (strOfNums (lay (inodeFs a0 a1 a2 a3 a4 a5 a6 a7 a8 a9 a10 a11 a12 a13 a14 a15 a16 a17)) ++ strOfNums (List.replicate 376 0), 0) := by rw [inodeSpec, if_pos ⟨by omega, hgood⟩]
    have hx : x18 = lay (inodeFs a0 a1 a2 a3 a4 a5 a6 a7 a8 a9 a10 a11 a12 a13 a14 a15 a16 a17) := by rw [ex, putsXs_good _ _ hgood]; rfl
    have hxl : x18.length = 72 := by rw [hx, lay_length]; rfl
    have hxl' : x18.length ≤ 1000000 := by omega
    rw [hgood] at eb
    obtain rfl : b18 = false := eb
    obtain ⟨z, hzz⟩ : ∃ z, z = strOfNums (List.replicate 376 (0 : Int)) := ⟨_, rfl⟩
    rw [← hzz] at hs
    have HZ := Lib.hid hzz
    have HS := Lib.hid hs
    have HX := Lib.hid hx
    have HXL := Lib.hid hxl
    have c1 := blk_cell H18.out.wr.blk 1
    clear hs hx hxl ex hgood hzz
    go_wp2_with fail
    refine (full_any _ _ _ _ 448 _ H18.out.wr hxl' (by omega) (by omega)).mono ?_
    rintro e u19 ⟨rfl, t19⟩
    obtain ⟨v19, h19⟩ := H18.out.step t19
    have HB := Lib.hid h19.bel
    clear t19 h19
    rw [HXL.out, strOfNums_append, HX.out, show strOfNums (List.replicate ((448 : Int).toNat - 72) 0) = z from HZ.out.symm]
    go_wp2
    go_ret2
    rw [HS.out]
    exact ⟨rfl, HB.out⟩
  · have hs : inodeSpec a0 (inodeFs a0 a1 a2 a3 a4 a5 a6 a7 a8 a9 a10 a11 a12 a13 a14 a15 a16 a17) = (⟨#[]⟩, 2) := by rw [inodeSpec, if_neg (fun h => hgood h.2)]
    have hgf : good (inodeFs a0 a1 a2 a3 a4 a5 a6 a7 a8 a9 a10 a11 a12 a13 a14 a15 a16 a17) = false := by simpa using hgood
    rw [hgf] at eb
    obtain rfl : b18 = true := eb
    have HS := Lib.hid hs
    have c1 := blk_cell H18.out.wr.blk 1
    clear hs ex hgood hgf
    go_wp2
    go_ret2
    rw [HS.out]
    exact ⟨rfl, H18.out.bel⟩
end Go.Proofs.Ytpbmgollolbgoaa.B
