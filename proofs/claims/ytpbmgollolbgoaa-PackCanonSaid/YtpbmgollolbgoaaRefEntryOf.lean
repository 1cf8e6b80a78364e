/-
  The document's EntryOf, walked.
-/
import Derived.Test.YtpbmgollolbgoaaEntryOf
import Derived.Test.YtpbmgollolbgoaaRefSuperOf
namespace Go.Proofs.Ytpbmgollolbgoaa.B
open Go.RowKit
set_option linter.unusedVariables false

theorem allZero_iff (x : ByteArray) : allZero x = true ↔ x = strOfNums (List.replicate x.size 0) := by
  have h := rest_zero x 0 (Nat.zero_le _)
  rw [restSpec_eq, ByteArray.extract_zero_size, Nat.sub_zero] at h
  exact h
theorem num_one (s : ByteArray) (h : 0 < s.size) : num s 0 1 = ((s[0]'h).toNat : Int) := by
  rw [byteAt_of]
  simp [num]

theorem sets3 {W : World} {g : Nat} {t : TypeId} {c0 c1 c2 : Value} (n0 n1 n2 : Value) (hg : W.heap[g]? = some (.cells #[c0, c1, c2] t (0, 0))) :
    ∃ W', (((W.setCell ⟨g, 0, none⟩ n0).setCell ⟨g, 1, none⟩ n1).setCell ⟨g, 2, none⟩ n2) = W' ∧ W'.heap[g]? = some (.cells #[n0, n1, n2] t (0, 0)) ∧ (∀ i, i ≠ g → W'.heap[i]? = W.heap[i]?) ∧ ∀ (B : Nat) (a : World), Below B a W → B ≤ g → Below B a W' := by
  have q0 := hg
  have q1 : (W.setCell ⟨g, 0, none⟩ n0).heap[g]? = some (.cells #[n0, c1, c2] t (0, 0)) := blk_set q0 0 n0
  have q2 : ((W.setCell ⟨g, 0, none⟩ n0).setCell ⟨g, 1, none⟩ n1).heap[g]? = some (.cells #[n0, n1, c2] t (0, 0)) := blk_set q1 1 n1
  have q3 : (((W.setCell ⟨g, 0, none⟩ n0).setCell ⟨g, 1, none⟩ n1).setCell ⟨g, 2, none⟩ n2).heap[g]? = some (.cells #[n0, n1, n2] t (0, 0)) := blk_set q2 2 n2
  refine ⟨_, rfl, q3, fun i hi => ?_, fun B a hb hbg => (((hb.setCell (p := ⟨g, 0, none⟩) hbg n0).setCell (p := ⟨g, 1, none⟩) hbg n1).setCell (p := ⟨g, 2, none⟩) hbg n2)⟩
  simp [Below.heap_setCell, hi]

set_option maxRecDepth 100000 in
set_option maxHeartbeats 3200000 in
theorem refEntryOf_any (s : ByteArray) (hS : s.size ≤ 9223372036854775807) (w : World) :
    Calls Try.prog 39 #[.string s] w fun e w' => e = .returned (.tuple #[entryVal (entryOfSpec s).1 (entryOfSpec s).2.1 (entryOfSpec s).2.2.1, .int .i64 (entryOfSpec s).2.2.2]) ∧ Below w.heap.size w w' := by
  have hu := Try.underlying34
  by_cases hsz : s.size = 28
  case neg =>
    obtain ⟨n, hn0, hn, hsp⟩ : ∃ n : Int, (n != 0) = true ∧ (if 28 < s.size then (4 : Int) else if s.size < 28 then 3 else 0) = n ∧ entryOfSpec s = (⟨#[]⟩, 0, 0, n) := by
      by_cases h1 : 28 < s.size
      · exact ⟨4, rfl, by rw [if_pos h1], by rw [entryOfSpec, if_pos h1]⟩
      · have h2 : s.size < 28 := by omega
        exact ⟨3, rfl, by rw [if_neg h1, if_pos h2], by rw [entryOfSpec, if_neg h1, if_pos h2]⟩
    have HN := Lib.hid hn
    have HSP := Lib.hid hsp
    clear hn hsp
    go_enter Try.func39, Try.ntmps39
    go_wp2_with fail
    refine (sized_any s 28 (by omega) _).mono ?_
    rw [HN.out]
    rintro e w1 ⟨rfl, rfl⟩
    go_wp2
    refine bodyPost_ret (v := .tuple #[entryVal ⟨#[]⟩ 0 0, .int .i64 n]) (by simp [results, Try.results39, go_sem, entryVal]) rfl ?_
    rw [HSP.out]
    exact ⟨rfl, (Below.refl _ w).alloc (Nat.le_refl _) _⟩
  have hn : (if 28 < s.size then (4 : Int) else if s.size < 28 then 3 else 0) = 0 := by rw [if_neg (by omega), if_neg (by omega)]
  have h0 : 0 < s.size := by omega
  obtain ⟨N, hN⟩ : ∃ N : Nat, (s[0]'h0).toNat = N := ⟨_, rfl⟩
  have hN255 : N ≤ 255 := by have := UInt8.toNat_lt (s[0]'h0); omega
  have hspec : entryOfSpec s = if 19 < N then (⟨#[]⟩, 0, 0, 5) else if allZero (s.extract (1 + N) 20) = false ∨ (N = 0 ∧ (num s 20 4 ≠ 0 ∨ num s 24 4 ≠ 0)) then (⟨#[]⟩, 0, 0, 5) else (s.extract 1 (1 + N), num s 20 4, num s 24 4, 0) := by
    rw [entryOfSpec, if_neg (by omega), if_neg (by omega), num_one s h0, hN, Int.toNat_natCast]
  have hwN : IntKind.i64.wrap (N : Int) = (N : Int) := IntWalk.i64_in _ (by omega)
  have hwN1 : IntKind.i64.wrap (1 + (N : Int)) = 1 + (N : Int) := IntWalk.i64_in _ (by omega)
  have HN := Lib.hid hn
  have HS := Lib.hid hS
  have HSPEC := Lib.hid hspec
  clear hn hS hspec
  by_cases h19 : 19 < N
  · have hsp : entryOfSpec s = (⟨#[]⟩, 0, 0, 5) := by rw [HSPEC.out, if_pos h19]
    have HSP := Lib.hid hsp
    have hb : ((19 : Int) < (N : Int)) = True := by simp; omega
    clear hsp HSPEC
    go_enter Try.func39, Try.ntmps39
    go_wp2_with fail
    refine (sized_any s 28 (by omega) _).mono ?_
    rw [HN.out]
    rintro e w1 ⟨rfl, rfl⟩
    go_wp2_with fail
    go_quiet (fail)
    obtain ⟨w2, hw2⟩ : ∃ w2, (w.alloc (.cells #[.string ⟨#[]⟩, .int .i64 0, .int .i64 0] 34)).drewN nq = w2 := ⟨_, rfl⟩
    rw [hw2]
    have b0 : w2.heap[w.heap.size]? = some (.cells #[.string ⟨#[]⟩, .int .i64 0, .int .i64 0] 34) := by
      rw [← hw2]
      exact heap_alloc_new w _
    have hBB : Below w.heap.size w w2 := by
      rw [← hw2]
      exact bdrewN ((Below.refl _ w).alloc (Nat.le_refl _) _) nq
    clear hw2
    have c0 := blk_cell b0 0
    have z0 := blk_frozen b0 0
    have c1 := blk_cell b0 1
    have z1 := blk_frozen b0 1
    have c2 := blk_cell b0 2
    have z2 := blk_frozen b0 2
    have l0 := blk_lt b0
    have HB0 := Lib.hid b0
    have HBB := Lib.hid hBB
    clear b0 hBB
    obtain ⟨W, hW, j0, _, hB⟩ := sets3 (.string ⟨#[]⟩) (.int .i64 0) (.int .i64 0) (W := w2) HB0.out
    have hB := hB _ _ HBB.out (Nat.le_refl _)
    have d0 := blk_cell j0 0
    have d1 := blk_cell j0 1
    have d2 := blk_cell j0 2
    go_wp2
    clear hW j0
    refine bodyPost_ret (v := .tuple #[entryVal ⟨#[]⟩ 0 0, .int .i64 5]) (by simp [results, Try.results39, go_sem, entryVal, d0, d1, d2]) rfl ?_
    rw [HSP.out]
    exact ⟨rfl, hB⟩
  · have hle : (N : Int) ≤ 19 := by omega
    have hb : ¬ (19 : Int) < (N : Int) := by omega
    have hbf : ((19 : Int) < (N : Int)) = False := by simp; omega
    have hbd : decide ((19 : Int) < (N : Int)) = false := by simp; omega
    have q1 : (0 : Int) ≤ 1 + (N : Int) := by omega
    have q2 : 1 + (N : Int) ≤ 20 := by omega
    have q3 : (1 + (N : Int)).toNat = 1 + N := by omega
    have q4 : (1 : Int) ≤ 1 + (N : Int) := by omega
    have q5 : 1 + (N : Int) ≤ 28 := by omega
    have hw19 : IntKind.i64.wrap (19 - (N : Int)) = 19 - (N : Int) := IntWalk.i64_in _ (by omega)
    obtain ⟨x, hx⟩ : ∃ x, x = s.extract (1 + N) 20 := ⟨_, rfl⟩
    have hxs : x.size = 19 - N := by rw [hx, ByteArray.size_extract]; omega
    have hz := allZero_iff x
    rw [hxs] at hz
    obtain ⟨z, hzz⟩ : ∃ z, z = strOfNums (List.replicate (19 - N) 0) := ⟨_, rfl⟩
    rw [← hzz] at hz
    have hspec : entryOfSpec s = if allZero x = false ∨ (N = 0 ∧ (num s 20 4 ≠ 0 ∨ num s 24 4 ≠ 0)) then (⟨#[]⟩, 0, 0, 5) else (s.extract 1 (1 + N), num s 20 4, num s 24 4, 0) := by rw [HSPEC.out, if_neg h19, ← hx]
    have hzz' : strOfNums (List.replicate (19 - (N : Int)).toNat 0) = z := by rw [hzz]; congr 2; omega
    have HZZ := Lib.hid hzz'
    have HSP0 := Lib.hid hspec
    have HXX := Lib.hid hx
    have hx' := hx.symm
    clear hspec HSPEC hx hxs hzz hzz'
    by_cases hr : allZero x = false
    · have hsp : entryOfSpec s = (⟨#[]⟩, 0, 0, 5) := by rw [HSP0.out, if_pos (.inl hr)]
      have HSP := Lib.hid hsp
      have hc : (x.toList == z.toList) = false := by
        rw [beq_eq_false_iff_ne]
        exact fun h => by
          rw [hz.mpr (ByteArray.ext (Array.toList_inj.mp (by rw [← ByteArray.toList_eq, ← ByteArray.toList_eq]; exact h)))] at hr
          cases hr
      clear hsp hr hz HSP0
      go_enter Try.func39, Try.ntmps39
      go_wp2_with fail
      refine (sized_any s 28 (by omega) _).mono ?_
      rw [HN.out]
      rintro e w1 ⟨rfl, rfl⟩
      go_wp2_with fail
      go_region_held3 (fun w' => True) (first | go_keep | trivial)
        ((go_at_call 45; refine (Noughts_any (19 - (N : Int)) (by omega) (by omega) _).mono ?_; rw [HZZ.out]; rintro e w2 ⟨rfl, hb2⟩))
      have hB4 : Below (w.alloc (.cells #[.string ⟨#[]⟩, .int .i64 0, .int .i64 0] 34)).heap.size (w.alloc (.cells #[.string ⟨#[]⟩, .int .i64 0, .int .i64 0] 34)) w2 := (bdrewN (Below.refl _ _) 1).trans hb2
      have b0 : w2.heap[w.heap.size]? = some (.cells #[.string ⟨#[]⟩, .int .i64 0, .int .i64 0] 34) := (hB4.block _ (by simp)).trans (heap_alloc_new w _)
      have hBB := ((Below.refl _ w).alloc (Nat.le_refl _) _).trans (hB4.mono (by simp))
      clear hb2 hB4
      have c0 := blk_cell b0 0
      have z0 := blk_frozen b0 0
      have c1 := blk_cell b0 1
      have z1 := blk_frozen b0 1
      have c2 := blk_cell b0 2
      have z2 := blk_frozen b0 2
      have l0 := blk_lt b0
      have HB0 := Lib.hid b0
      have HBB := Lib.hid hBB
      clear b0 hBB
      obtain ⟨W, hW, j0, _, hB⟩ := sets3 (.string ⟨#[]⟩) (.int .i64 0) (.int .i64 0) (W := w2) HB0.out
      have hB := hB _ _ HBB.out (Nat.le_refl _)
      have d0 := blk_cell j0 0
      have d1 := blk_cell j0 1
      have d2 := blk_cell j0 2
      go_wp2
      clear hW j0
      refine bodyPost_ret (v := .tuple #[entryVal ⟨#[]⟩ 0 0, .int .i64 5]) (by simp [results, Try.results39, go_sem, entryVal, d0, d1, d2]) rfl ?_
      rw [HSP.out]
      exact ⟨rfl, hB⟩
    · have hc : (x.toList == z.toList) = true := by rw [hz.mp (by simpa using hr)]; simp
      have hr' : allZero x = true := by simpa using hr
      have HSZ := Lib.hid hsz
      clear hr hz
      have hspec : entryOfSpec s = if N = 0 ∧ (num s 20 4 ≠ 0 ∨ num s 24 4 ≠ 0) then (⟨#[]⟩, 0, 0, 5) else (s.extract 1 (1 + N), num s 20 4, num s 24 4, 0) := by rw [HSP0.out, hr']; simp
      have HSP1 := Lib.hid hspec
      clear hspec HSP0 hr'
      go_enter Try.func39, Try.ntmps39
      go_wp2_with fail
      refine (sized_any s 28 (by omega) _).mono ?_
      rw [HN.out]
      rintro e w1 ⟨rfl, rfl⟩
      go_wp2_with fail
      go_region_held3 (fun w' => True) (first | go_keep | trivial)
        ((go_at_call 45; refine (Noughts_any (19 - (N : Int)) (by omega) (by omega) _).mono ?_; rw [HZZ.out]; rintro e w2 ⟨rfl, hb2⟩))
      have hB4 : Below (w.alloc (.cells #[.string ⟨#[]⟩, .int .i64 0, .int .i64 0] 34)).heap.size (w.alloc (.cells #[.string ⟨#[]⟩, .int .i64 0, .int .i64 0] 34)) w2 := (bdrewN (Below.refl _ _) 1).trans hb2
      have HWB := Lib.hid hB4
      clear hB4 hb2
      go_wp2_with fail
      refine (read_any s 20 _ [4, 4] HS.out _ (Row.lit (get_top rfl) 2 rfl (by unfold maxLen; omega)) (by simp) (by simp) (by rw [HSZ.out]; decide)).mono ?_
      rintro e w4 ⟨v, rfl, hL⟩
      rw [show numsAt s 20 [4, 4] = [num s 20 4, num s 24 4] from rfl] at hL
      generalize num s 20 4 = n1 at *
      generalize num s 24 4 = n2 at *
      have hB4 := (HWB.out.alloc HWB.out.size _).trans (hL.below.mono (by have := HWB.out.size; simp at this ⊢; omega))
      have b0 : w4.heap[w.heap.size]? = some (.cells #[.string ⟨#[]⟩, .int .i64 0, .int .i64 0] 34) := (hB4.block _ (by simp)).trans (heap_alloc_new w _)
      have hBB := ((Below.refl _ w).alloc (Nat.le_refl _) _).trans (hB4.mono (by simp))
      obtain ⟨g, cap, rfl, _, hg⟩ := hL.row.form_pos (by simp)
      have hgw : w.heap.size ≠ g := by
        have h1 := hL.base g rfl
        have h2 := HWB.out.size
        simp at h1 h2
        omega
      have hwg : g ≠ w.heap.size := Ne.symm hgw
      have k0 := hL.row.cells 0 (.int .i64 n1) rfl
      have k1 := hL.row.cells 1 (.int .i64 n2) rfl
      clear hL HWB hB4
      by_cases hN0 : N = 0
      · by_cases hn1 : n1 = 0
        · by_cases hn2 : n2 = 0
          · have hsp : entryOfSpec s = (s.extract 1 (1 + N), n1, n2, 0) := by rw [HSP1.out, if_neg (by simp [hn1, hn2])]
            have HSP := Lib.hid hsp
            have f0 : ((N : Int) == 0) = true := by simp [hN0]
            have f1 : (n1 != 0) = false := by simp [hn1]
            have f2 : (n2 != 0) = false := by simp [hn2]
            clear hsp HSP1 hN0 hn1 hn2
            have c0 := blk_cell b0 0
            have z0 := blk_frozen b0 0
            have c1 := blk_cell b0 1
            have z1 := blk_frozen b0 1
            have c2 := blk_cell b0 2
            have z2 := blk_frozen b0 2
            have l0 := blk_lt b0
            have HB0 := Lib.hid b0
            have HBB := Lib.hid hBB
            clear b0 hBB
            go_wp2_with fail
            go_still_tail 11, (by kernel_rfl)
            change wpList _ _ _ _ _ w4.drew
            obtain ⟨W, hW, j0, _, hB⟩ := sets3 (.string (s.extract 1 (1 + N))) (.int .i64 n1) (.int .i64 n2) (W := w4) HB0.out
            have hB := hB _ _ HBB.out (Nat.le_refl _)
            have d0 := blk_cell j0 0
            have d1 := blk_cell j0 1
            have d2 := blk_cell j0 2
            go_wp2
            clear hW j0
            refine bodyPost_ret (v := .tuple #[entryVal (s.extract 1 (1 + N)) n1 n2, .int .i64 0]) (by simp [results, Try.results39, go_sem, entryVal, d0, d1, d2]) rfl ?_
            rw [HSP.out]
            exact ⟨rfl, hB.drew⟩
          · have hsp : entryOfSpec s = (⟨#[]⟩, 0, 0, 5) := by rw [HSP1.out, if_pos ⟨hN0, .inr hn2⟩]
            have HSP := Lib.hid hsp
            have f0 : ((N : Int) == 0) = true := by simp [hN0]
            have f1 : (n1 != 0) = false := by simp [hn1]
            have f2 : (n2 != 0) = true := by simp [hn2]
            clear hsp HSP1 hN0 hn1 hn2
            have c0 := blk_cell b0 0
            have z0 := blk_frozen b0 0
            have c1 := blk_cell b0 1
            have z1 := blk_frozen b0 1
            have c2 := blk_cell b0 2
            have z2 := blk_frozen b0 2
            have l0 := blk_lt b0
            have HB0 := Lib.hid b0
            have HBB := Lib.hid hBB
            clear b0 hBB
            obtain ⟨W, hW, j0, _, hB⟩ := sets3 (.string ⟨#[]⟩) (.int .i64 0) (.int .i64 0) (W := w4) HB0.out
            have hB := hB _ _ HBB.out (Nat.le_refl _)
            have d0 := blk_cell j0 0
            have d1 := blk_cell j0 1
            have d2 := blk_cell j0 2
            go_wp2
            clear hW j0
            refine bodyPost_ret (v := .tuple #[entryVal ⟨#[]⟩ 0 0, .int .i64 5]) (by simp [results, Try.results39, go_sem, entryVal, d0, d1, d2]) rfl ?_
            rw [HSP.out]
            exact ⟨rfl, hB⟩
        · have hsp : entryOfSpec s = (⟨#[]⟩, 0, 0, 5) := by rw [HSP1.out, if_pos ⟨hN0, .inl hn1⟩]
          have HSP := Lib.hid hsp
          have f0 : ((N : Int) == 0) = true := by simp [hN0]
          have f1 : (n1 != 0) = true := by simp [hn1]
          clear hsp HSP1 hN0 hn1
          have c0 := blk_cell b0 0
          have z0 := blk_frozen b0 0
          have c1 := blk_cell b0 1
          have z1 := blk_frozen b0 1
          have c2 := blk_cell b0 2
          have z2 := blk_frozen b0 2
          have l0 := blk_lt b0
          have HB0 := Lib.hid b0
          have HBB := Lib.hid hBB
          clear b0 hBB
          obtain ⟨W, hW, j0, _, hB⟩ := sets3 (.string ⟨#[]⟩) (.int .i64 0) (.int .i64 0) (W := w4) HB0.out
          have hB := hB _ _ HBB.out (Nat.le_refl _)
          have d0 := blk_cell j0 0
          have d1 := blk_cell j0 1
          have d2 := blk_cell j0 2
          go_wp2
          clear hW j0
          refine bodyPost_ret (v := .tuple #[entryVal ⟨#[]⟩ 0 0, .int .i64 5]) (by simp [results, Try.results39, go_sem, entryVal, d0, d1, d2]) rfl ?_
          rw [HSP.out]
          exact ⟨rfl, hB⟩
      · have hsp : entryOfSpec s = (s.extract 1 (1 + N), n1, n2, 0) := by rw [HSP1.out, if_neg (by simp [hN0])]
        have HSP := Lib.hid hsp
        have f0 : ((N : Int) == 0) = false := by simp [hN0]
        clear hsp HSP1 hN0
        have c0 := blk_cell b0 0
        have z0 := blk_frozen b0 0
        have c1 := blk_cell b0 1
        have z1 := blk_frozen b0 1
        have c2 := blk_cell b0 2
        have z2 := blk_frozen b0 2
        have l0 := blk_lt b0
        have HB0 := Lib.hid b0
        have HBB := Lib.hid hBB
        clear b0 hBB
        go_wp2_with fail
        go_still_tail 11, (by kernel_rfl)
        change wpList _ _ _ _ _ w4.drew
        obtain ⟨W, hW, j0, _, hB⟩ := sets3 (.string (s.extract 1 (1 + N))) (.int .i64 n1) (.int .i64 n2) (W := w4) HB0.out
        have hB := hB _ _ HBB.out (Nat.le_refl _)
        have d0 := blk_cell j0 0
        have d1 := blk_cell j0 1
        have d2 := blk_cell j0 2
        go_wp2
        clear hW j0
        refine bodyPost_ret (v := .tuple #[entryVal (s.extract 1 (1 + N)) n1 n2, .int .i64 0]) (by simp [results, Try.results39, go_sem, entryVal, d0, d1, d2]) rfl ?_
        rw [HSP.out]
        exact ⟨rfl, hB.drew⟩
end Go.Proofs.Ytpbmgollolbgoaa.B