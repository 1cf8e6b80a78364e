/-
  The document's SuperOf, walked.
-/
import Derived.Test.YtpbmgollolbgoaaSuperOf
import Derived.Test.YtpbmgollolbgoaaRefRead
import Derived.Test.YtpbmgollolbgoaaEntryAny
import Derived.StillTailTactics
namespace Go.Proofs.Ytpbmgollolbgoaa.B
open Go.RowKit
set_option linter.unusedVariables false

theorem rest_zero (s : ByteArray) (p : Nat) (hp : p ≤ s.size) : restSpec s p = true ↔ s.extract p s.size = strOfNums (List.replicate (s.size - p) 0) := by
  have hl : (bytesOf (s.extract p s.size)).length = s.size - p := by rw [bytesOf_length, ByteArray.size_extract]; omega
  constructor
  · intro h
    rw [restSpec, List.all_eq_true] at h
    rw [← strOfNums_bytesOf (s.extract p s.size)]
    congr 1
    exact List.eq_replicate_iff.mpr ⟨hl, fun b hb => by simpa using h b hb⟩
  · intro h
    rw [restSpec, h, bytesOf_strOfNums _ (fun x hx => by rw [List.mem_replicate] at hx; omega)]
    simp

set_option maxRecDepth 100000 in
set_option maxHeartbeats 3200000 in
theorem refSuperOf_any (s : ByteArray) (hS : s.size ≤ 9223372036854775807) (w : World) :
    Calls Try.prog 37 #[.string s] w fun e w' => e = .returned (.tuple #[superVal (superOfSpec s).1 (superOfSpec s).2.1, .int .i64 (superOfSpec s).2.2]) ∧ Below w.heap.size w w' := by
  have hu := Try.underlying42
  by_cases hsz : s.size = 448
  case neg =>
    obtain ⟨n, hn0, hn, hsp⟩ : ∃ n : Int, (n != 0) = true ∧ (if 448 < s.size then (4 : Int) else if s.size < 448 then 3 else 0) = n ∧ superOfSpec s = ([0, 0, 0, 0], ⟨#[]⟩, n) := by
      by_cases h1 : 448 < s.size
      · exact ⟨4, rfl, by rw [if_pos h1], by rw [superOfSpec, if_pos h1]⟩
      · have h2 : s.size < 448 := by omega
        exact ⟨3, rfl, by rw [if_neg h1, if_pos h2], by rw [superOfSpec, if_neg h1, if_pos h2]⟩
    have HN := Lib.hid hn
    have HSP := Lib.hid hsp
    clear hn hsp
    go_enter Try.func37, Try.ntmps37
    go_wp2_with fail
    refine (sized_any s 448 (by omega) _).mono ?_
    rw [HN.out]
    rintro e w1 ⟨rfl, rfl⟩
    go_wp2
    refine bodyPost_ret (v := .tuple #[superVal [0, 0, 0, 0] ⟨#[]⟩, .int .i64 n]) (by simp [results, Try.results37, go_sem, superVal]) rfl ?_
    rw [HSP.out]
    exact ⟨rfl, (Below.refl _ w).alloc (Nat.le_refl _) _⟩
  have hn : (if 448 < s.size then (4 : Int) else if s.size < 448 then 3 else 0) = 0 := by rw [if_neg (by omega), if_neg (by omega)]
  have hspec : superOfSpec s = if restSpec s 54 = false then ([0, 0, 0, 0], ⟨#[]⟩, 5) else (numsAt s 0 [6, 6, 6, 4], s.extract 22 54, 0) := by
    rw [superOfSpec, if_neg (by omega), if_neg (by omega)]
    rfl
  have hz := rest_zero s 54 (by omega)
  rw [hsz] at hz
  obtain ⟨z, hzz⟩ : ∃ z, z = strOfNums (List.replicate 394 (0 : Int)) := ⟨_, rfl⟩
  rw [show 448 - 54 = 394 from rfl, ← hzz] at hz
  have HZZ := Lib.hid hzz
  have HN := Lib.hid hn
  have HS := Lib.hid hS
  clear hn hzz hS
  by_cases hr : restSpec s 54 = false
  · have hsp : superOfSpec s = ([0, 0, 0, 0], ⟨#[]⟩, 5) := by rw [hspec, if_pos hr]
    have HSP := Lib.hid hsp
    have hx' : ((s.extract 54 448).toList == z.toList) = false := by
      rw [beq_eq_false_iff_ne]
      exact fun h => by
        rw [hz.mpr (ByteArray.ext (Array.toList_inj.mp (by rw [← ByteArray.toList_eq, ← ByteArray.toList_eq]; exact h)))] at hr
        cases hr
    clear hsp hspec hr hz
    go_enter Try.func37, Try.ntmps37
    go_wp2_with fail
    refine (sized_any s 448 (by omega) _).mono ?_
    rw [HN.out]
    rintro e w1 ⟨rfl, rfl⟩
    go_wp2_with fail
    go_region_held3 (fun w' => True) (first | go_keep | trivial)
      ((go_at_call 45; refine (Noughts_any 394 (by omega) (by omega) _).mono ?_; rw [show strOfNums (List.replicate (394 : Int).toNat 0) = z from HZZ.out.symm]; rintro e w2 ⟨rfl, hb2⟩))
    have hB4 : Below (w.alloc (.cells #[.int .i64 0, .int .i64 0, .int .i64 0, .int .i64 0, .string ⟨#[]⟩] 42)).heap.size (w.alloc (.cells #[.int .i64 0, .int .i64 0, .int .i64 0, .int .i64 0, .string ⟨#[]⟩] 42)) w2 := (bdrewN (Below.refl _ _) 1).trans hb2
    have b0 : w2.heap[w.heap.size]? = some _ := (hB4.block _ (by simp)).trans (heap_alloc_new w _)
    have hBB := ((Below.refl _ w).alloc (Nat.le_refl _) _).trans (hB4.mono (by simp))
    have c0 := blk_cell b0 0
    have z0 := blk_frozen b0 0
    have c1 := blk_cell b0 1
    have z1 := blk_frozen b0 1
    have c2 := blk_cell b0 2
    have z2 := blk_frozen b0 2
    have c3 := blk_cell b0 3
    have z3 := blk_frozen b0 3
    have c4 := blk_cell b0 4
    have z4 := blk_frozen b0 4
    have l0 := blk_lt b0
    have HB0 := Lib.hid b0
    have HBB := Lib.hid hBB
    clear hB4 b0 hBB hb2
    obtain ⟨W, hW, j0, _, hB⟩ := sets5 (.int .i64 0) (.int .i64 0) (.int .i64 0) (.int .i64 0) (.string ⟨#[]⟩) (W := w2) HB0.out
    have hB := hB _ _ HBB.out (Nat.le_refl _)
    have d0 := blk_cell j0 0
    have d1 := blk_cell j0 1
    have d2 := blk_cell j0 2
    have d3 := blk_cell j0 3
    have d4 := blk_cell j0 4
    go_wp2
    clear hW j0
    refine bodyPost_ret (v := .tuple #[superVal [0, 0, 0, 0] ⟨#[]⟩, .int .i64 5]) (by simp [results, Try.results37, go_sem, superVal, d0, d1, d2, d3, d4]) rfl ?_
    rw [HSP.out]
    exact ⟨rfl, hB⟩
  · have hsp : superOfSpec s = (numsAt s 0 [6, 6, 6, 4], s.extract 22 54, 0) := by rw [hspec, if_neg hr]
    have HSP := Lib.hid hsp
    have hx' : ((s.extract 54 448).toList == z.toList) = true := by rw [hz.mp (by simpa using hr)]; simp
    have HSZ := Lib.hid hsz
    clear hsp hspec hr hz
    go_enter Try.func37, Try.ntmps37
    go_wp2_with fail
    refine (sized_any s 448 (by omega) _).mono ?_
    rw [HN.out]
    rintro e w1 ⟨rfl, rfl⟩
    go_wp2_with fail
    go_region_held3 (fun w' => True) (first | go_keep | trivial)
      ((go_at_call 45; refine (Noughts_any 394 (by omega) (by omega) _).mono ?_; rw [show strOfNums (List.replicate (394 : Int).toNat 0) = z from HZZ.out.symm]; rintro e w2 ⟨rfl, hb2⟩))
    have hB4 : Below (w.alloc (.cells #[.int .i64 0, .int .i64 0, .int .i64 0, .int .i64 0, .string ⟨#[]⟩] 42)).heap.size (w.alloc (.cells #[.int .i64 0, .int .i64 0, .int .i64 0, .int .i64 0, .string ⟨#[]⟩] 42)) w2 := (bdrewN (Below.refl _ _) 1).trans hb2
    have HWB := Lib.hid hB4
    clear hB4 hb2
    go_wp2_with fail
    refine (read_any s 0 _ [6, 6, 6, 4] HS.out _ (Row.lit (get_top rfl) 4 rfl (by unfold maxLen; omega)) (by simp) (by simp) (by rw [HSZ.out]; decide)).mono ?_
    rintro e w4 ⟨v, rfl, hL⟩
    rw [show numsAt s 0 [6, 6, 6, 4] = [num s 0 6, num s 6 6, num s 12 6, num s 18 4] from rfl] at hL HSP
    generalize num s 0 6 = n0 at *
    generalize num s 6 6 = n1 at *
    generalize num s 12 6 = n2 at *
    generalize num s 18 4 = n3 at *
    have hB4 := (HWB.out.alloc HWB.out.size _).trans (hL.below.mono (by have := HWB.out.size; simp at this ⊢; omega))
    obtain ⟨g, cap, rfl, _, hg⟩ := hL.row.form_pos (by simp)
    have hgw : w.heap.size ≠ g := by
      have h1 := hL.base g rfl
      have h2 := HWB.out.size
      simp at h1 h2
      omega
    have hwg : g ≠ w.heap.size := Ne.symm hgw
    have k0 := hL.row.cells 0 (.int .i64 n0) rfl
    have k1 := hL.row.cells 1 (.int .i64 n1) rfl
    have k2 := hL.row.cells 2 (.int .i64 n2) rfl
    have k3 := hL.row.cells 3 (.int .i64 n3) rfl
    clear hx'
    have b0 : w4.heap[w.heap.size]? = some _ := (hB4.block _ (by simp)).trans (heap_alloc_new w _)
    have hBB := ((Below.refl _ w).alloc (Nat.le_refl _) _).trans (hB4.mono (by simp))
    have c0 := blk_cell b0 0
    have z0 := blk_frozen b0 0
    have c1 := blk_cell b0 1
    have z1 := blk_frozen b0 1
    have c2 := blk_cell b0 2
    have z2 := blk_frozen b0 2
    have c3 := blk_cell b0 3
    have z3 := blk_frozen b0 3
    have c4 := blk_cell b0 4
    have z4 := blk_frozen b0 4
    have l0 := blk_lt b0
    have HB0 := Lib.hid b0
    have HBB := Lib.hid hBB
    clear hB4 b0 hBB hL HWB
    go_wp2_with fail
    go_still_tail 15, (by kernel_rfl)
    change wpList _ _ _ _ _ w4.drew
    obtain ⟨W, hW, j0, _, hB⟩ := sets5 (.int .i64 n0) (.int .i64 n1) (.int .i64 n2) (.int .i64 n3) (.string (s.extract 22 54)) (W := w4) HB0.out
    have hB := hB _ _ HBB.out (Nat.le_refl _)
    have d0 := blk_cell j0 0
    have d1 := blk_cell j0 1
    have d2 := blk_cell j0 2
    have d3 := blk_cell j0 3
    have d4 := blk_cell j0 4
    go_wp2
    clear hW j0
    refine bodyPost_ret (v := .tuple #[superVal [n0, n1, n2, n3] (s.extract 22 54), .int .i64 0]) (by simp [results, Try.results37, go_sem, superVal, d0, d1, d2, d3, d4]) rfl ?_
    rw [HSP.out]
    exact ⟨rfl, hB.drew⟩
end Go.Proofs.Ytpbmgollolbgoaa.B