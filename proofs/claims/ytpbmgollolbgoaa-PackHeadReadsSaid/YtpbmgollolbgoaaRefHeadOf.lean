/-
  The document's HeadOf, walked.
-/
import Derived.Test.YtpbmgollolbgoaaHeadOf
import Derived.Test.YtpbmgollolbgoaaRefRead
import Derived.StillTailTactics
namespace Go.Proofs.Ytpbmgollolbgoaa.B
open Go.RowKit
set_option linter.unusedVariables false

theorem sets8 {W : World} {g : Nat} {t : TypeId} {c0 c1 c2 c3 c4 c5 c6 c7 : Value} (n0 n1 n2 n3 n4 n5 n6 n7 : Value) (hg : W.heap[g]? = some (.cells #[c0, c1, c2, c3, c4, c5, c6, c7] t (0, 0))) :
    ∃ W', ((((((((W.setCell ⟨g, 0, none⟩ n0).setCell ⟨g, 1, none⟩ n1).setCell ⟨g, 2, none⟩ n2).setCell ⟨g, 3, none⟩ n3).setCell ⟨g, 4, none⟩ n4).setCell ⟨g, 5, none⟩ n5).setCell ⟨g, 6, none⟩ n6).setCell ⟨g, 7, none⟩ n7) = W' ∧ W'.heap[g]? = some (.cells #[n0, n1, n2, n3, n4, n5, n6, n7] t (0, 0)) ∧ (∀ i, i ≠ g → W'.heap[i]? = W.heap[i]?) ∧ ∀ (B : Nat) (a : World), Below B a W → B ≤ g → Below B a W' := by
  have q0 := hg
  have q1 : (W.setCell ⟨g, 0, none⟩ n0).heap[g]? = some (.cells #[n0, c1, c2, c3, c4, c5, c6, c7] t (0, 0)) := blk_set q0 0 n0
  have q2 : ((W.setCell ⟨g, 0, none⟩ n0).setCell ⟨g, 1, none⟩ n1).heap[g]? = some (.cells #[n0, n1, c2, c3, c4, c5, c6, c7] t (0, 0)) := blk_set q1 1 n1
  have q3 : (((W.setCell ⟨g, 0, none⟩ n0).setCell ⟨g, 1, none⟩ n1).setCell ⟨g, 2, none⟩ n2).heap[g]? = some (.cells #[n0, n1, n2, c3, c4, c5, c6, c7] t (0, 0)) := blk_set q2 2 n2
  have q4 : ((((W.setCell ⟨g, 0, none⟩ n0).setCell ⟨g, 1, none⟩ n1).setCell ⟨g, 2, none⟩ n2).setCell ⟨g, 3, none⟩ n3).heap[g]? = some (.cells #[n0, n1, n2, n3, c4, c5, c6, c7] t (0, 0)) := blk_set q3 3 n3
  have q5 : (((((W.setCell ⟨g, 0, none⟩ n0).setCell ⟨g, 1, none⟩ n1).setCell ⟨g, 2, none⟩ n2).setCell ⟨g, 3, none⟩ n3).setCell ⟨g, 4, none⟩ n4).heap[g]? = some (.cells #[n0, n1, n2, n3, n4, c5, c6, c7] t (0, 0)) := blk_set q4 4 n4
  have q6 : ((((((W.setCell ⟨g, 0, none⟩ n0).setCell ⟨g, 1, none⟩ n1).setCell ⟨g, 2, none⟩ n2).setCell ⟨g, 3, none⟩ n3).setCell ⟨g, 4, none⟩ n4).setCell ⟨g, 5, none⟩ n5).heap[g]? = some (.cells #[n0, n1, n2, n3, n4, n5, c6, c7] t (0, 0)) := blk_set q5 5 n5
  have q7 : (((((((W.setCell ⟨g, 0, none⟩ n0).setCell ⟨g, 1, none⟩ n1).setCell ⟨g, 2, none⟩ n2).setCell ⟨g, 3, none⟩ n3).setCell ⟨g, 4, none⟩ n4).setCell ⟨g, 5, none⟩ n5).setCell ⟨g, 6, none⟩ n6).heap[g]? = some (.cells #[n0, n1, n2, n3, n4, n5, n6, c7] t (0, 0)) := blk_set q6 6 n6
  have q8 : ((((((((W.setCell ⟨g, 0, none⟩ n0).setCell ⟨g, 1, none⟩ n1).setCell ⟨g, 2, none⟩ n2).setCell ⟨g, 3, none⟩ n3).setCell ⟨g, 4, none⟩ n4).setCell ⟨g, 5, none⟩ n5).setCell ⟨g, 6, none⟩ n6).setCell ⟨g, 7, none⟩ n7).heap[g]? = some (.cells #[n0, n1, n2, n3, n4, n5, n6, n7] t (0, 0)) := blk_set q7 7 n7
  refine ⟨_, rfl, q8, fun i hi => ?_, fun B a hb hbg => ((((((((hb.setCell (p := ⟨g, 0, none⟩) hbg n0).setCell (p := ⟨g, 1, none⟩) hbg n1).setCell (p := ⟨g, 2, none⟩) hbg n2).setCell (p := ⟨g, 3, none⟩) hbg n3).setCell (p := ⟨g, 4, none⟩) hbg n4).setCell (p := ⟨g, 5, none⟩) hbg n5).setCell (p := ⟨g, 6, none⟩) hbg n6).setCell (p := ⟨g, 7, none⟩) hbg n7)⟩
  simp [Below.heap_setCell, hi]

set_option maxRecDepth 100000 in
set_option maxHeartbeats 3200000 in
theorem refHeadOf_any (s : ByteArray) (hS : s.size ≤ 9223372036854775807) (w : World) :
    Calls Try.prog 31 #[.string s] w fun e w' => e = .returned (.tuple #[headVal (headOfSpec s).1, .int .i64 (headOfSpec s).2]) ∧ Below w.heap.size w w' := by
  have hu := Try.underlying38
  by_cases hsz : s.size = 48
  case neg =>
    obtain ⟨n, hn0, hn, hsp⟩ : ∃ n : Int, (n != 0) = true ∧ (if 48 < s.size then (4 : Int) else if s.size < 48 then 3 else 0) = n ∧ headOfSpec s = ([0, 0, 0, 0, 0, 0, 0, 0], n) := by
      by_cases h1 : 48 < s.size
      · exact ⟨4, rfl, by rw [if_pos h1], by rw [headOfSpec, if_pos h1]⟩
      · have h2 : s.size < 48 := by omega
        exact ⟨3, rfl, by rw [if_neg h1, if_pos h2], by rw [headOfSpec, if_neg h1, if_pos h2]⟩
    have HN := Lib.hid hn
    have HSP := Lib.hid hsp
    clear hn hsp
    go_enter Try.func31, Try.ntmps31
    go_wp2_with fail
    refine (sized_any s 48 (by omega) _).mono ?_
    rw [HN.out]
    rintro e w1 ⟨rfl, rfl⟩
    go_wp2
    refine bodyPost_ret (v := .tuple #[headVal [0, 0, 0, 0, 0, 0, 0, 0], .int .i64 n]) (by simp [results, Try.results31, go_sem, headVal]) rfl ?_
    rw [HSP.out]
    exact ⟨rfl, (Below.refl _ w).alloc (Nat.le_refl _) _⟩
  have hn : (if 48 < s.size then (4 : Int) else if s.size < 48 then 3 else 0) = 0 := by rw [if_neg (by omega), if_neg (by omega)]
  have hspec : headOfSpec s = if s.extract 40 48 ≠ ⟨#[0, 0, 0, 0, 0, 0, 0, 0]⟩ ∨ s.extract 0 4 ≠ ⟨#[71, 82, 80, 78]⟩ then ([0, 0, 0, 0, 0, 0, 0, 0], 5) else (numsAt s 4 [6, 4, 2, 4, 4, 4, 6, 6], 0) := by
    rw [headOfSpec, if_neg (by omega), if_neg (by omega)]
    rfl
  have hl0 : (numsAt s 4 [6, 4, 2, 4, 4, 4, 6, 6]).length = 8 := rfl
  have hxe : (s.extract 40 48).toList = [0, 0, 0, 0, 0, 0, 0, 0] ↔ s.extract 40 48 = ⟨#[0, 0, 0, 0, 0, 0, 0, 0]⟩ := toList_lit
  have hme : (s.extract 0 4).toList = [71, 82, 80, 78] ↔ s.extract 0 4 = ⟨#[71, 82, 80, 78]⟩ := toList_lit
  have HN := Lib.hid hn
  clear hn
  by_cases hm : s.extract 0 4 = ⟨#[71, 82, 80, 78]⟩
  · by_cases hx : s.extract 40 48 = ⟨#[0, 0, 0, 0, 0, 0, 0, 0]⟩
    · have hsp : headOfSpec s = (numsAt s 4 [6, 4, 2, 4, 4, 4, 6, 6], 0) := by rw [hspec, if_neg (by simp [hx, hm])]
      have HSP := Lib.hid hsp
      have hx' := hxe.mpr hx
      have hm' := hme.mpr hm
      have HS := Lib.hid hS
      clear hsp hxe hme hx hm hspec hl0 hS
      have HSZ := Lib.hid hsz
      go_enter Try.func31, Try.ntmps31
      go_wp2_with fail
      refine (sized_any s 48 (by omega) _).mono ?_
      rw [HN.out]
      rintro e w1 ⟨rfl, rfl⟩
      go_wp2_with fail
      go_region_held3 (fun w' => True) (first | go_keep | trivial)
        ((go_at_call 45; refine (Noughts_any 8 (by omega) (by omega) _).mono ?_; rw [show strOfNums (List.replicate (8 : Int).toNat 0) = ⟨#[0, 0, 0, 0, 0, 0, 0, 0]⟩ from rfl]; rintro e w2 ⟨rfl, hb2⟩))
      have hwB : Below (w.alloc (.cells #[.int .i64 0, .int .i64 0, .int .i64 0, .int .i64 0, .int .i64 0, .int .i64 0, .int .i64 0, .int .i64 0] 38)).heap.size (w.alloc (.cells #[.int .i64 0, .int .i64 0, .int .i64 0, .int .i64 0, .int .i64 0, .int .i64 0, .int .i64 0, .int .i64 0] 38)) w2 := (bdrewN (Below.refl _ _) 1).trans hb2
      have HWB := Lib.hid hwB
      clear hwB hb2
      go_wp2_with fail
      refine (headWidths_any _).mono ?_
      rintro e w3 ⟨rfl, rfl⟩
      go_wp2_with fail
      refine (read_any s 4 _ [6, 4, 2, 4, 4, 4, 6, 6] HS.out _ (Row.lit (get_top rfl) 8 rfl (by unfold maxLen; omega)) (by simp) (by simp) (by rw [HSZ.out]; decide)).mono ?_
      rintro e w4 ⟨v, rfl, hL⟩
      rw [show numsAt s 4 [6, 4, 2, 4, 4, 4, 6, 6] = [num s 4 6, num s 10 4, num s 14 2, num s 16 4, num s 20 4, num s 24 4, num s 28 6, num s 34 6] from rfl] at hL HSP
      generalize num s 4 6 = n0 at *
      generalize num s 10 4 = n1 at *
      generalize num s 14 2 = n2 at *
      generalize num s 16 4 = n3 at *
      generalize num s 20 4 = n4 at *
      generalize num s 24 4 = n5 at *
      generalize num s 28 6 = n6 at *
      generalize num s 34 6 = n7 at *
      have hB4 := (HWB.out.alloc HWB.out.size _).trans (hL.below.mono (by have := HWB.out.size; simp at this ⊢; omega))
      have b0 : w4.heap[w.heap.size]? = some _ := (hB4.block _ (by simp)).trans (heap_alloc_new w _)
      have hBB := ((Below.refl _ w).alloc (Nat.le_refl _) _).trans (hB4.mono (by simp))
      obtain ⟨g, cap, rfl, _, hg⟩ := hL.row.form_pos (by simp)
      have hgw : w.heap.size ≠ g := by
        have h1 := hL.base g rfl
        have h2 := HWB.out.size
        simp at h1 h2
        omega
      have hwg : g ≠ w.heap.size := Ne.symm hgw
      have k0 := hL.row.cells 0 (.int .i64 n0) rfl
      have c0 := blk_cell b0 0
      have z0 := blk_frozen b0 0
      have k1 := hL.row.cells 1 (.int .i64 n1) rfl
      have c1 := blk_cell b0 1
      have z1 := blk_frozen b0 1
      have k2 := hL.row.cells 2 (.int .i64 n2) rfl
      have c2 := blk_cell b0 2
      have z2 := blk_frozen b0 2
      have k3 := hL.row.cells 3 (.int .i64 n3) rfl
      have c3 := blk_cell b0 3
      have z3 := blk_frozen b0 3
      have k4 := hL.row.cells 4 (.int .i64 n4) rfl
      have c4 := blk_cell b0 4
      have z4 := blk_frozen b0 4
      have k5 := hL.row.cells 5 (.int .i64 n5) rfl
      have c5 := blk_cell b0 5
      have z5 := blk_frozen b0 5
      have k6 := hL.row.cells 6 (.int .i64 n6) rfl
      have c6 := blk_cell b0 6
      have z6 := blk_frozen b0 6
      have k7 := hL.row.cells 7 (.int .i64 n7) rfl
      have c7 := blk_cell b0 7
      have z7 := blk_frozen b0 7
      have l0 := blk_lt b0
      have HB0 := Lib.hid b0
      have HBB := Lib.hid hBB
      clear hB4 hL b0 hBB HWB
      go_wp2_with fail
      go_still_tail 25, (by kernel_rfl)
      change wpList _ _ _ _ _ w4.drew
      obtain ⟨W, hW, j0, _, hB⟩ := sets8 (.int .i64 n0) (.int .i64 n1) (.int .i64 n2) (.int .i64 n3) (.int .i64 n4) (.int .i64 n5) (.int .i64 n6) (.int .i64 n7) (W := w4) HB0.out
      have hB := hB _ _ HBB.out (Nat.le_refl _)
      have d0 := blk_cell j0 0
      have d1 := blk_cell j0 1
      have d2 := blk_cell j0 2
      have d3 := blk_cell j0 3
      have d4 := blk_cell j0 4
      have d5 := blk_cell j0 5
      have d6 := blk_cell j0 6
      have d7 := blk_cell j0 7
      go_wp2
      clear hW j0
      refine bodyPost_ret (v := .tuple #[headVal [n0, n1, n2, n3, n4, n5, n6, n7], .int .i64 0]) (by simp [results, Try.results31, go_sem, headVal, d0, d1, d2, d3, d4, d5, d6, d7]) rfl ?_
      rw [HSP.out]
      exact ⟨rfl, hB.drew⟩
    · skip
      have hsp : headOfSpec s = ([0, 0, 0, 0, 0, 0, 0, 0], 5) := by rw [hspec, if_pos (.inl hx)]
      have HSP := Lib.hid hsp
      have hx' : ((s.extract 40 48).toList == [0, 0, 0, 0, 0, 0, 0, 0]) = false := by rw [beq_eq_false_iff_ne]; exact fun h => hx (hxe.mp h)
      have hx'' : ((s.extract 40 48).toList == ByteArray.toList ⟨#[0, 0, 0, 0, 0, 0, 0, 0]⟩) = false := by rw [beq_eq_false_iff_ne]; exact toList_ne hx
      have hm' := hme.mpr hm
      clear hsp hxe hme hspec hl0 hS
      have HSZ := Lib.hid hsz
      go_enter Try.func31, Try.ntmps31
      go_wp2_with fail
      refine (sized_any s 48 (by omega) _).mono ?_
      rw [HN.out]
      rintro e w1 ⟨rfl, rfl⟩
      go_wp2_with fail
      go_region_held3 (fun w' => True) (first | go_keep | trivial)
        ((go_at_call 45; refine (Noughts_any 8 (by omega) (by omega) _).mono ?_; rw [show strOfNums (List.replicate (8 : Int).toNat 0) = ⟨#[0, 0, 0, 0, 0, 0, 0, 0]⟩ from rfl]; rintro e w2 ⟨rfl, hb2⟩))
      have hB4 : Below (w.alloc (.cells #[.int .i64 0, .int .i64 0, .int .i64 0, .int .i64 0, .int .i64 0, .int .i64 0, .int .i64 0, .int .i64 0] 38)).heap.size (w.alloc (.cells #[.int .i64 0, .int .i64 0, .int .i64 0, .int .i64 0, .int .i64 0, .int .i64 0, .int .i64 0, .int .i64 0] 38)) w2 := (bdrewN (Below.refl _ _) 1).trans hb2
      have b0 : w2.heap[w.heap.size]? = some _ := (hB4.block _ (by simp)).trans (heap_alloc_new w _)
      have hBB := ((Below.refl _ w).alloc (Nat.le_refl _) _).trans (hB4.mono (by simp))
      have c0 := blk_cell b0 0
      have z0 := blk_frozen b0 0
      have c1 := blk_cell b0 1
      have z1 := blk_frozen b0 1
      have c2 := blk_cell b0 2
      have z2 := blk_frozen b0 2
      have c3 := blk_cell b0 3
      have z3 := blk_frozen b0 3
      have c4 := blk_cell b0 4
      have z4 := blk_frozen b0 4
      have c5 := blk_cell b0 5
      have z5 := blk_frozen b0 5
      have c6 := blk_cell b0 6
      have z6 := blk_frozen b0 6
      have c7 := blk_cell b0 7
      have z7 := blk_frozen b0 7
      have l0 := blk_lt b0
      have HB0 := Lib.hid b0
      have HBB := Lib.hid hBB
      clear hB4 b0 hBB hb2
      obtain ⟨W, hW, j0, _, hB⟩ := sets8 (.int .i64 0) (.int .i64 0) (.int .i64 0) (.int .i64 0) (.int .i64 0) (.int .i64 0) (.int .i64 0) (.int .i64 0) (W := w2) HB0.out
      have hB := hB _ _ HBB.out (Nat.le_refl _)
      have d0 := blk_cell j0 0
      have d1 := blk_cell j0 1
      have d2 := blk_cell j0 2
      have d3 := blk_cell j0 3
      have d4 := blk_cell j0 4
      have d5 := blk_cell j0 5
      have d6 := blk_cell j0 6
      have d7 := blk_cell j0 7
      go_wp2
      clear hW j0
      refine bodyPost_ret (v := .tuple #[headVal [0, 0, 0, 0, 0, 0, 0, 0], .int .i64 5]) (by simp [results, Try.results31, go_sem, headVal, d0, d1, d2, d3, d4, d5, d6, d7]) rfl ?_
      rw [HSP.out]
      exact ⟨rfl, hB⟩
  · skip
    have hsp : headOfSpec s = ([0, 0, 0, 0, 0, 0, 0, 0], 5) := by rw [hspec, if_pos (.inr hm)]
    have HSP := Lib.hid hsp
    have hm' : ((s.extract 0 4).toList == [71, 82, 80, 78]) = false := by rw [beq_eq_false_iff_ne]; exact fun h => hm (hme.mp h)
    have hm'' : ((s.extract 0 4).toList == ByteArray.toList ⟨#[71, 82, 80, 78]⟩) = false := by rw [beq_eq_false_iff_ne]; exact toList_ne hm
    clear hsp hxe hme hspec hl0 hS
    have HSZ := Lib.hid hsz
    go_enter Try.func31, Try.ntmps31
    go_wp2_with fail
    refine (sized_any s 48 (by omega) _).mono ?_
    rw [HN.out]
    rintro e w1 ⟨rfl, rfl⟩
    go_wp2_with fail
    go_quiet (fail)
    obtain ⟨w2, hw2⟩ : ∃ w2, (w.alloc (.cells #[.int .i64 0, .int .i64 0, .int .i64 0, .int .i64 0, .int .i64 0, .int .i64 0, .int .i64 0, .int .i64 0] 38)).drewN nq = w2 := ⟨_, rfl⟩
    rw [hw2]
    have b0 : w2.heap[w.heap.size]? = some (.cells #[.int .i64 0, .int .i64 0, .int .i64 0, .int .i64 0, .int .i64 0, .int .i64 0, .int .i64 0, .int .i64 0] 38) := by
      rw [← hw2]
      exact heap_alloc_new w _
    have hBB : Below w.heap.size w w2 := by
      rw [← hw2]
      exact bdrewN ((Below.refl _ w).alloc (Nat.le_refl _) _) nq
    have c0 := blk_cell b0 0
    have z0 := blk_frozen b0 0
    have c1 := blk_cell b0 1
    have z1 := blk_frozen b0 1
    have c2 := blk_cell b0 2
    have z2 := blk_frozen b0 2
    have c3 := blk_cell b0 3
    have z3 := blk_frozen b0 3
    have c4 := blk_cell b0 4
    have z4 := blk_frozen b0 4
    have c5 := blk_cell b0 5
    have z5 := blk_frozen b0 5
    have c6 := blk_cell b0 6
    have z6 := blk_frozen b0 6
    have c7 := blk_cell b0 7
    have z7 := blk_frozen b0 7
    have l0 := blk_lt b0
    have HB0 := Lib.hid b0
    have HBB := Lib.hid hBB
    clear b0 hBB hw2
    obtain ⟨W, hW, j0, _, hB⟩ := sets8 (.int .i64 0) (.int .i64 0) (.int .i64 0) (.int .i64 0) (.int .i64 0) (.int .i64 0) (.int .i64 0) (.int .i64 0) (W := w2) HB0.out
    have hB := hB _ _ HBB.out (Nat.le_refl _)
    have d0 := blk_cell j0 0
    have d1 := blk_cell j0 1
    have d2 := blk_cell j0 2
    have d3 := blk_cell j0 3
    have d4 := blk_cell j0 4
    have d5 := blk_cell j0 5
    have d6 := blk_cell j0 6
    have d7 := blk_cell j0 7
    go_wp2
    clear hW j0
    refine bodyPost_ret (v := .tuple #[headVal [0, 0, 0, 0, 0, 0, 0, 0], .int .i64 5]) (by simp [results, Try.results31, go_sem, headVal, d0, d1, d2, d3, d4, d5, d6, d7]) rfl ?_
    rw [HSP.out]
    exact ⟨rfl, hB⟩
end Go.Proofs.Ytpbmgollolbgoaa.B