/-
  The document's InodeOf (grapnelref01), walked: it answers what pack's does.
-/
import Derived.Test.YtpbmgollolbgoaaInodeOf
import Derived.Test.YtpbmgollolbgoaaRefEntryOf
import Derived.Test.YtpbmgollolbgoaaRegion
namespace Go.Proofs.Ytpbmgollolbgoaa.B
open Go.RowKit
set_option linter.unusedVariables false
set_option linter.unusedSimpArgs false

/-- The cells when k of the twelve are there. -/
def inodeAt2 (fl : List Int) (k : Nat) : Array Value := (ints (fl.take (4 + k) ++ (List.replicate (12 - k) 0 ++ fl.drop 16))).toArray
theorem inodeAt2_set (fl : List Int) (hl : fl.length = 18) (k : Nat) (hk : k < 12) : (inodeAt2 fl k).setIfInBounds (4 + k) (.int .i64 (fl.getD (4 + k) 0)) = inodeAt2 fl (k + 1) := by
  simp only [inodeAt2, ints, List.setIfInBounds_toArray]
  congr 1
  rw [show (Value.int .i64 (fl.getD (4 + k) 0)) = (fun x => Value.int .i64 x) (fl.getD (4 + k) 0) from rfl, ← List.map_set]
  congr 1
  have h1 : (fl.take (4 + k)).length = 4 + k := by simp; omega
  rw [List.set_append_right _ _ (by omega), h1, Nat.sub_self, show 12 - k = (12 - (k + 1)) + 1 by omega, List.replicate_succ, List.cons_append, List.set_cons_zero]
  rw [show 4 + (k + 1) = (4 + k) + 1 by omega, ← List.take_append_getElem (by omega : 4 + k < fl.length), List.append_assoc]
  simp [List.getD, List.getElem?_eq_getElem (by omega : 4 + k < fl.length)]
theorem inodeAt2_size (fl : List Int) (hl : fl.length = 18) (k : Nat) (hk : k ≤ 12) : (inodeAt2 fl k).size = 18 := by
  simp [inodeAt2, ints, hl]
  omega
theorem inodeAt2_full (fl : List Int) : inodeAt2 fl 12 = (ints fl).toArray := by
  rw [inodeAt2, List.replicate_zero, List.nil_append, List.take_append_drop]
theorem eighteen (fl : List Int) (hl : fl.length = 18) : ∃ x0 x1 x2 x3 x4 x5 x6 x7 x8 x9 x10 x11 x12 x13 x14 x15 x16 x17, fl = [x0, x1, x2, x3, x4, x5, x6, x7, x8, x9, x10, x11, x12, x13, x14, x15, x16, x17] := by
  match fl, hl with
  | [x0, x1, x2, x3, x4, x5, x6, x7, x8, x9, x10, x11, x12, x13, x14, x15, x16, x17], _ => exact ⟨_, _, _, _, _, _, _, _, _, _, _, _, _, _, _, _, _, _, rfl⟩
theorem inodeAt2_zero (fl : List Int) (hl : fl.length = 18) : inodeAt2 fl 0 = #[.int .i64 (fl.getD 0 0), .int .i64 (fl.getD 1 0), .int .i64 (fl.getD 2 0), .int .i64 (fl.getD 3 0), .int .i64 0, .int .i64 0, .int .i64 0, .int .i64 0, .int .i64 0, .int .i64 0, .int .i64 0, .int .i64 0, .int .i64 0, .int .i64 0, .int .i64 0, .int .i64 0, .int .i64 (fl.getD 16 0), .int .i64 (fl.getD 17 0)] := by
  obtain ⟨x0, x1, x2, x3, x4, x5, x6, x7, x8, x9, x10, x11, x12, x13, x14, x15, x16, x17, rfl⟩ := eighteen fl hl
  simp [inodeAt2, ints, List.replicate]

/-- The document's reader at work on the array. -/
structure RI (w : World) (fl : List Int) (g G k : Nat) (W : World) : Prop where
  bel : Below w.heap.size w W
  box : W.heap[w.heap.size]? = some (.cells (ints (List.replicate 18 0)).toArray 50 (0, 0))
  blk : W.heap[G]? = some (.cells (inodeAt2 fl k) 50 (0, 0))
  src : ∀ j, j < 18 → W.cell? ⟨g, j, none⟩ = some (.int .i64 (fl.getD j 0))
  gt : w.heap.size < G
  ne : g ≠ G
theorem RI.put {w W : World} {fl : List Int} {g G k : Nat} (h : RI w fl g G k W) (hl : fl.length = 18) (hk : k < 12) : RI w fl g G (k + 1) (W.setCell ⟨G, 4 + k, none⟩ (.int .i64 (fl.getD (4 + k) 0))) := by
  have hg := h.gt
  refine ⟨h.bel.setCell (by simp; omega) _, ?_, ?_, fun j hj => ?_, hg, h.ne⟩
  · exact (Below.heap_setCell W _ _ _ (by simp; omega)).trans h.box
  · rw [blk_set h.blk, inodeAt2_set fl hl k hk]
  · rw [← h.src j hj]
    exact World.cell?_of_block (w := W) (Below.heap_setCell W _ _ _ h.ne)

set_option maxRecDepth 100000 in
set_option maxHeartbeats 3200000 in
theorem refInodeOf_bad (s : ByteArray) (hsz : ¬ s.size = 448) (w : World) :
    Calls Try.prog 35 #[.string s] w fun e w' => e = .returned (.tuple #[.agg (ints (inodeOfSpec s).1).toArray, .int .i64 (inodeOfSpec s).2]) ∧ Below w.heap.size w w' := by
  have hu := Try.underlying50
  obtain ⟨n, hn0, hn, hsp⟩ : ∃ n : Int, (n != 0) = true ∧ (if 448 < s.size then (4 : Int) else if s.size < 448 then 3 else 0) = n ∧ inodeOfSpec s = (List.replicate 18 0, n) := by
    by_cases h1 : 448 < s.size
    · exact ⟨4, rfl, by rw [if_pos h1], by rw [inodeOfSpec, if_pos h1]⟩
    · have h2 : s.size < 448 := by omega
      exact ⟨3, rfl, by rw [if_neg h1, if_pos h2], by rw [inodeOfSpec, if_neg h1, if_pos h2]⟩
  have HN := Lib.hid hn
  have HSP := Lib.hid hsp
  have hz := heap_alloc_new w (.cells (ints (List.replicate 18 0)).toArray 50 (0, 0))
  have HZ := Lib.hid hz
  clear hn hsp hz hsz
  go_enter Try.func35, Try.ntmps35
  go_wp2_with fail
  refine (sized_any s 448 (by omega) _).mono ?_
  rw [HN.out]
  rintro e w1 ⟨rfl, rfl⟩
  go_wp2_with (refine wpList_store_row (by rfl) 50 _ _ (by rfl) w.heap.size (ints (List.replicate 18 0)).toArray (ints (List.replicate 18 0)).toArray 50 (by rfl) (by rfl) HZ.out rfl infoInode (ints_oneCell _) ?_; intro W1 hW1 hK1; have HW1 := Lib.hid hW1; have HK1 := Lib.hid hK1; clear hW1 hK1)
  refine bodyPost_row_tmp rfl w.heap.size 50 (ints (List.replicate 18 0)).toArray (0, 0) _ (by rfl) HW1.out Try.underlying50 rfl infoInode rfl ?_
  rw [HSP.out]
  exact ⟨rfl, ((Below.refl _ w).alloc (Nat.le_refl _) _).trans (HK1.out.below (by simp) (by intro i hi; omega))⟩

set_option maxRecDepth 100000 in
set_option maxHeartbeats 3200000 in
theorem refInodeOf_ok (s : ByteArray) (hsz : s.size = 448) (w : World) :
    Calls Try.prog 35 #[.string s] w fun e w' => e = .returned (.tuple #[.agg (ints (inodeOfSpec s).1).toArray, .int .i64 (inodeOfSpec s).2]) ∧ Below w.heap.size w w' := by
  have hu := Try.underlying50
  have hua := Try.underlying48
  have hn : (if 448 < s.size then (4 : Int) else if s.size < 448 then 3 else 0) = 0 := by rw [if_neg (by omega), if_neg (by omega)]
  obtain ⟨fl, hfl⟩ : ∃ fl, fl = inodeNums s := ⟨_, rfl⟩
  have hlen : fl.length = 18 := by rw [hfl, inodeNums_length]
  have hspec : inodeOfSpec s = if 3 < fl.getD 0 0 ∨ restSpec s 72 = false then (List.replicate 18 0, 5) else (fl, 0) := by
    rw [inodeOfSpec, if_neg (by omega), if_neg (by omega), hfl, inodeNums_first]
  have hS : s.size ≤ 9223372036854775807 := by omega
  have hlens : 0 + lens inodeWs ≤ s.size := by rw [hsz]; decide
  have HN := Lib.hid hn
  have HS := Lib.hid hS
  have HFL := Lib.hid hfl
  have HLEN := Lib.hid hlen
  have HSPEC := Lib.hid hspec
  have HLENS := Lib.hid hlens
  clear hn hS hfl hlen hspec hlens
  go_enter Try.func35, Try.ntmps35
  go_wp2_with fail
  refine (sized_any s 448 (by omega) _).mono ?_
  rw [HN.out]
  rintro e w1 ⟨rfl, rfl⟩
  go_wp2_with fail
  refine (inodeWidths_any _).mono ?_
  rintro e w2 ⟨v, rfl, hL⟩
  have HL := Lib.hid hL
  clear hL
  go_wp2_with fail
  refine (read_any s 0 _ inodeWs HS.out _ HL.out.row (by decide) (by decide) HLENS.out).mono ?_
  rintro e w3 ⟨v3, rfl, hL⟩
  rw [show numsAt s 0 inodeWs = fl from HFL.out.symm, show inodeWs.length = 18 from rfl] at hL
  have hB4 := HL.out.below.trans (hL.below.mono HL.out.below.size)
  have b0 : w3.heap[w.heap.size]? = some (.cells (ints (List.replicate 18 0)).toArray 50 (0, 0)) := (hB4.block _ (by simp)).trans (heap_alloc_new w _)
  have hBB := ((Below.refl _ w).alloc (Nat.le_refl _) _).trans (hB4.mono (by simp))
  obtain ⟨g, cap, rfl, _, hg⟩ := hL.row.form_pos (by decide)
  have hgw : w.heap.size ≠ g := by
    have h1 := hL.base g rfl
    have h2 := HL.out.below.size
    simp at h1 h2
    omega
  have hcells : ∀ j, j < 18 → w3.cell? ⟨g, j, none⟩ = some (.int .i64 (fl.getD j 0)) := fun j hj => hL.row.cells j _ (by
    simp [ints, List.getElem?_eq_getElem (by rw [HLEN.out]; exact hj : j < fl.length), List.getD])
  have HC := Lib.hid hcells
  have HB0 := Lib.hid b0
  have HBB := Lib.hid hBB
  have HGW := Lib.hid hgw
  clear hL HL hB4 hcells b0 hBB hgw HLENS HFL
  obtain ⟨y, hy⟩ : ∃ y, y = fl.getD 0 0 := ⟨_, rfl⟩
  have k0 := HC.out 0 (by omega)
  rw [← hy] at k0
  have hspec := HSPEC.out
  rw [← hy] at hspec
  have HSPEC := Lib.hid hspec
  have HY := Lib.hid hy
  clear hspec hy
  by_cases h3 : 3 < y
  · have hsp : inodeOfSpec s = (List.replicate 18 0, 5) := by rw [HSPEC.out, if_pos (.inl h3)]
    have HSP := Lib.hid hsp
    have hb : ((3 : Int) < y) = True := by simp; omega
    clear hsp HSPEC
    go_wp2_with fail
    go_quiet (fail)
    obtain ⟨w5, hw5⟩ : ∃ w5, w3.drewN nq = w5 := ⟨_, rfl⟩
    rw [hw5]
    have BX := Lib.hid (show w5.heap[w.heap.size]? = some (.cells (ints (List.replicate 18 0)).toArray 50 (0, 0)) by rw [← hw5]; exact HB0.out)
    have BB := Lib.hid (show Below w.heap.size w w5 by rw [← hw5]; exact bdrewN HBB.out nq)
    clear hw5 k0 hb h3
    go_wp2_with (refine wpList_store_row (by rfl) 50 _ _ (by rfl) w.heap.size (ints (List.replicate 18 0)).toArray (ints (List.replicate 18 0)).toArray 50 (by rfl) (by rfl) BX.out rfl infoInode (ints_oneCell _) ?_; intro W1 hW1 hK1; have HW1 := Lib.hid hW1; have HK1 := Lib.hid hK1; clear hW1 hK1)
    refine bodyPost_row_tmp rfl w.heap.size 50 (ints (List.replicate 18 0)).toArray (0, 0) _ (by rfl) HW1.out Try.underlying50 rfl infoInode rfl ?_
    rw [HSP.out]
    exact ⟨rfl, BB.out.trans (HK1.out.below BB.out.size (by intro i hi; omega))⟩
  · have hbf : decide ((3 : Int) < y) = false := by simp; omega
    obtain ⟨x, hx⟩ : ∃ x, x = s.extract 72 s.size := ⟨_, rfl⟩
    have hr := rest_zero s 72 (by omega)
    rw [hsz] at hr
    obtain ⟨z, hzz⟩ : ∃ z, z = strOfNums (List.replicate 376 0) := ⟨_, rfl⟩
    have hx2 : s.extract 72 448 = x := by rw [hx, hsz]
    rw [hx2, show 448 - 72 = 376 from rfl, ← hzz] at hr
    have HZZ := Lib.hid hzz
    have HR := Lib.hid hr
    have HHX := Lib.hid hx
    have HSZ := Lib.hid hsz
    have q1 : (72 : Int) ≤ (s.size : Int) := by omega
    have hx' := hx.symm
    clear hzz hr hx2 hx hsz
    by_cases hrr : restSpec s 72 = false
    · have hc : (x.toList == z.toList) = false := by
        rw [beq_eq_false_iff_ne]
        exact fun h => by
          rw [HR.out.mpr (ByteArray.ext (Array.toList_inj.mp (by rw [← ByteArray.toList_eq, ← ByteArray.toList_eq]; exact h)))] at hrr
          cases hrr
      have hsp : inodeOfSpec s = (List.replicate 18 0, 5) := by rw [HSPEC.out, if_pos (.inr hrr)]
      have HSP := Lib.hid hsp
      clear hsp hrr
      go_wp2_with fail
      go_region_held3 (fun w' => w'.cell? ⟨g, 0, none⟩ = some (.int .i64 y)) (first | go_keep | (rw [hb2.cell (by simp <;> omega)]; assumption))
        ((go_at_call 45; refine (Noughts_any 376 (by omega) (by omega) _).mono ?_; rw [show strOfNums (List.replicate (376 : Int).toNat 0) = z from HZZ.out.symm]; rintro e w6 ⟨rfl, hb2⟩))
      have BX := Lib.hid ((hb2.block w.heap.size (blk_lt HB0.out)).trans HB0.out)
      have BB := Lib.hid (HBB.out.trans ((bdrewN (Below.refl _ _) 1).mono HBB.out.size |>.trans (hb2.mono HBB.out.size)))
      clear hb2 k0 hc
      go_wp2_with (refine wpList_store_row (by rfl) 50 _ _ (by rfl) w.heap.size (ints (List.replicate 18 0)).toArray (ints (List.replicate 18 0)).toArray 50 (by rfl) (by rfl) BX.out rfl infoInode (ints_oneCell _) ?_; intro W1 hW1 hK1; have HW1 := Lib.hid hW1; have HK1 := Lib.hid hK1; clear hW1 hK1)
      refine bodyPost_row_tmp rfl w.heap.size 50 (ints (List.replicate 18 0)).toArray (0, 0) _ (by rfl) HW1.out Try.underlying50 rfl infoInode rfl ?_
      rw [HSP.out]
      exact ⟨rfl, BB.out.trans (HK1.out.below BB.out.size (by intro i hi; omega))⟩
    · have hrt : restSpec s 72 = true := by simpa using hrr
      have hc : (x.toList == z.toList) = true := by rw [HR.out.mp hrt]; simp
      have hsp : inodeOfSpec s = (fl, 0) := by
        rw [HSPEC.out, if_neg]
        rintro (h | h)
        · exact h3 h
        · exact hrr h
      have HSP := Lib.hid hsp
      clear hsp hrr hrt
      go_wp2_with fail
      go_region_held3 (fun w' => w'.cell? ⟨g, 0, none⟩ = some (.int .i64 y)) (first | go_keep | (rw [hb2.cell (by simp <;> omega)]; assumption))
        ((go_at_call 45; refine (Noughts_any 376 (by omega) (by omega) _).mono ?_; rw [show strOfNums (List.replicate (376 : Int).toNat 0) = z from HZZ.out.symm]; rintro e w6 ⟨rfl, hb2⟩))
      have BX := Lib.hid ((hb2.block w.heap.size (blk_lt HB0.out)).trans HB0.out)
      have BB := Lib.hid (HBB.out.trans ((bdrewN (Below.refl _ _) 1).mono HBB.out.size |>.trans (hb2.mono HBB.out.size)))
      have HC6 := Lib.hid (show ∀ j, j < 18 → w6.cell? ⟨g, j, none⟩ = some (.int .i64 (fl.getD j 0)) from fun j hj => (hb2.cell (p := ⟨g, j, none⟩) hg).trans (HC.out j hj))
      have hg6 : g < w6.heap.size := Nat.lt_of_lt_of_le hg hb2.size
      clear hb2 k0 hc HC HBB HB0
      have c0 := HC6.out 0 (by omega)
      rw [← HY.out] at c0
      obtain ⟨y1, hy⟩ : ∃ x, x = fl.getD 1 0 := ⟨_, rfl⟩
      have c1 := HC6.out 1 (by omega)
      rw [← hy] at c1
      have Y1 := Lib.hid hy
      clear hy
      obtain ⟨y2, hy⟩ : ∃ x, x = fl.getD 2 0 := ⟨_, rfl⟩
      have c2 := HC6.out 2 (by omega)
      rw [← hy] at c2
      have Y2 := Lib.hid hy
      clear hy
      obtain ⟨y3, hy⟩ : ∃ x, x = fl.getD 3 0 := ⟨_, rfl⟩
      have c3 := HC6.out 3 (by omega)
      rw [← hy] at c3
      have Y3 := Lib.hid hy
      clear hy
      obtain ⟨y16, hy⟩ : ∃ x, x = fl.getD 16 0 := ⟨_, rfl⟩
      have c16 := HC6.out 16 (by omega)
      rw [← hy] at c16
      have Y16 := Lib.hid hy
      clear hy
      obtain ⟨y17, hy⟩ : ∃ x, x = fl.getD 17 0 := ⟨_, rfl⟩
      have c17 := HC6.out 17 (by omega)
      rw [← hy] at c17
      have Y17 := Lib.hid hy
      clear hy
      have hgw6 : g ≠ w6.heap.size := Nat.ne_of_lt hg6
      go_wp2_with fail
      refine wp_region_held_drew (S := (fun w' => w'.cell? ⟨g, 0, none⟩ = some (.int .i64 y) ∧ w'.cell? ⟨g, 1, none⟩ = some (.int .i64 y1) ∧ w'.cell? ⟨g, 2, none⟩ = some (.int .i64 y2) ∧ w'.cell? ⟨g, 3, none⟩ = some (.int .i64 y3) ∧ w'.cell? ⟨g, 16, none⟩ = some (.int .i64 y16) ∧ w'.cell? ⟨g, 17, none⟩ = some (.int .i64 y17))) (by kernel_rfl) ?_ (fun hHeld => ?_)
      · (try dsimp only); first | exact ⟨(hK6.cell (p := ⟨g, 0, none⟩) (by simp; omega) (by simpa using hgw6)).trans (by go_simp), (hK6.cell (p := ⟨g, 1, none⟩) (by simp; omega) (by simpa using hgw6)).trans (by go_simp), (hK6.cell (p := ⟨g, 2, none⟩) (by simp; omega) (by simpa using hgw6)).trans (by go_simp), (hK6.cell (p := ⟨g, 3, none⟩) (by simp; omega) (by simpa using hgw6)).trans (by go_simp), (hK6.cell (p := ⟨g, 16, none⟩) (by simp; omega) (by simpa using hgw6)).trans (by go_simp), (hK6.cell (p := ⟨g, 17, none⟩) (by simp; omega) (by simpa using hgw6)).trans (by go_simp)⟩ | go_keep
      refine takeH (i := 0) (N := some 28) (v := ?_) rfl rfl (by kernel_rfl) (by kernel_rfl) (by kernel_rfl) (fun _ _ _ h => h) (Or.inl ⟨by rfl, ?_⟩) (by assumption) ?_
      rotate_left
      · intro w' hSw; (try dsimp only at hSw); go_simp; with_reducible rfl
      try simp only [Act.put, List.setIfInBounds_toArray, List.set_cons_zero, List.set_cons_succ]
      refine takeH (i := 1) (N := some 29) (v := ?_) rfl rfl (by kernel_rfl) (by kernel_rfl) (by kernel_rfl) (fun _ _ _ h => h) (Or.inl ⟨by rfl, ?_⟩) (by assumption) ?_
      rotate_left
      · intro w' hSw; (try dsimp only at hSw); go_simp; with_reducible rfl
      try simp only [Act.put, List.setIfInBounds_toArray, List.set_cons_zero, List.set_cons_succ]
      refine takeH (i := 2) (N := some 30) (v := ?_) rfl rfl (by kernel_rfl) (by kernel_rfl) (by kernel_rfl) (fun _ _ _ h => h) (Or.inl ⟨by rfl, ?_⟩) (by assumption) ?_
      rotate_left
      · intro w' hSw; (try dsimp only at hSw); go_simp; with_reducible rfl
      try simp only [Act.put, List.setIfInBounds_toArray, List.set_cons_zero, List.set_cons_succ]
      refine takeH (i := 3) (N := some 31) (v := ?_) rfl rfl (by kernel_rfl) (by kernel_rfl) (by kernel_rfl) (fun _ _ _ h => h) (Or.inl ⟨by rfl, ?_⟩) (by assumption) ?_
      rotate_left
      · intro w' hSw; (try dsimp only at hSw); go_simp; with_reducible rfl
      try simp only [Act.put, List.setIfInBounds_toArray, List.set_cons_zero, List.set_cons_succ]
      refine takeH (i := 4) (N := some 32) (v := ?_) rfl rfl (by kernel_rfl) (by kernel_rfl) (by kernel_rfl) (fun _ _ _ h => h) (Or.inl ⟨by rfl, ?_⟩) (by assumption) ?_
      rotate_left
      · intro w' hSw; (try dsimp only at hSw); go_simp; with_reducible rfl
      try simp only [Act.put, List.setIfInBounds_toArray, List.set_cons_zero, List.set_cons_succ]
      refine takeH (i := 5) (N := some 33) (v := ?_) rfl rfl (by kernel_rfl) (by kernel_rfl) (by kernel_rfl) (fun _ _ _ h => h) (Or.inl ⟨by rfl, ?_⟩) (by assumption) ?_
      rotate_left
      · intro w' hSw; (try dsimp only at hSw); go_simp; with_reducible rfl
      try simp only [Act.put, List.setIfInBounds_toArray, List.set_cons_zero, List.set_cons_succ]
      refine takeH (i := 6) (N := some 34) (v := ?_) rfl rfl (by kernel_rfl) (by kernel_rfl) (by kernel_rfl) (fun _ _ _ h => h) (Or.inl ⟨by rfl, ?_⟩) (by assumption) ?_
      rotate_left
      · intro w' hSw; (try dsimp only at hSw); go_simp; with_reducible rfl
      try simp only [Act.put, List.setIfInBounds_toArray, List.set_cons_zero, List.set_cons_succ]
      refine takeH (i := 7) (N := some 35) (v := ?_) rfl rfl (by kernel_rfl) (by kernel_rfl) (by kernel_rfl) (fun _ _ _ h => h) (Or.inl ⟨by rfl, ?_⟩) (by assumption) ?_
      rotate_left
      · intro w' hSw; (try dsimp only at hSw); go_simp; with_reducible rfl
      try simp only [Act.put, List.setIfInBounds_toArray, List.set_cons_zero, List.set_cons_succ]
      refine takeH (i := 8) (N := some 36) (v := ?_) rfl rfl (by kernel_rfl) (by kernel_rfl) (by kernel_rfl) (fun _ _ _ h => h) (Or.inl ⟨by rfl, ?_⟩) (by assumption) ?_
      rotate_left
      · intro w' hSw; (try dsimp only at hSw); go_simp; with_reducible rfl
      try simp only [Act.put, List.setIfInBounds_toArray, List.set_cons_zero, List.set_cons_succ]
      refine takeH (i := 9) (N := some 37) (v := ?_) rfl rfl (by kernel_rfl) (by kernel_rfl) (by kernel_rfl) (fun _ _ _ h => h) (Or.inl ⟨by rfl, ?_⟩) (by assumption) ?_
      rotate_left
      · intro w' hSw; (try dsimp only at hSw); go_simp; with_reducible rfl
      try simp only [Act.put, List.setIfInBounds_toArray, List.set_cons_zero, List.set_cons_succ]
      refine takeH (i := 10) (N := some 38) (v := ?_) rfl rfl (by kernel_rfl) (by kernel_rfl) (by kernel_rfl) (fun _ _ _ h => h) (Or.inl ⟨by rfl, ?_⟩) (by assumption) ?_
      rotate_left
      · intro w' hSw; (try dsimp only at hSw); go_simp; with_reducible rfl
      try simp only [Act.put, List.setIfInBounds_toArray, List.set_cons_zero, List.set_cons_succ]
      refine takeH (i := 11) (N := some 39) (v := ?_) rfl rfl (by kernel_rfl) (by kernel_rfl) (by kernel_rfl) (fun _ _ _ h => h) (Or.inl ⟨by rfl, ?_⟩) (by assumption) ?_
      rotate_left
      · intro w' hSw; (try dsimp only at hSw); go_simp; with_reducible rfl
      try simp only [Act.put, List.setIfInBounds_toArray, List.set_cons_zero, List.set_cons_succ]
      refine takeH (i := 12) (N := some 40) (v := ?_) rfl rfl (by kernel_rfl) (by kernel_rfl) (by kernel_rfl) (fun _ _ _ h => h) (Or.inl ⟨by rfl, ?_⟩) (by assumption) ?_
      rotate_left
      · intro w' hSw; (try dsimp only at hSw); go_simp; with_reducible rfl
      try simp only [Act.put, List.setIfInBounds_toArray, List.set_cons_zero, List.set_cons_succ]
      refine takeH (i := 13) (N := some 41) (v := ?_) rfl rfl (by kernel_rfl) (by kernel_rfl) (by kernel_rfl) (fun _ _ _ h => h) (Or.inl ⟨by rfl, ?_⟩) (by assumption) ?_
      rotate_left
      · intro w' hSw; (try dsimp only at hSw); go_simp; with_reducible rfl
      try simp only [Act.put, List.setIfInBounds_toArray, List.set_cons_zero, List.set_cons_succ]
      refine takeH (i := 14) (N := some 42) (v := ?_) rfl rfl (by kernel_rfl) (by kernel_rfl) (by kernel_rfl) (fun _ _ _ h => h) (Or.inl ⟨by rfl, ?_⟩) (by assumption) ?_
      rotate_left
      · intro w' hSw; (try dsimp only at hSw); go_simp; with_reducible rfl
      try simp only [Act.put, List.setIfInBounds_toArray, List.set_cons_zero, List.set_cons_succ]
      refine takeH (i := 15) (N := some 43) (v := ?_) rfl rfl (by kernel_rfl) (by kernel_rfl) (by kernel_rfl) (fun _ _ _ h => h) (Or.inl ⟨by rfl, ?_⟩) (by assumption) ?_
      rotate_left
      · intro w' hSw; (try dsimp only at hSw); go_simp; with_reducible rfl
      try simp only [Act.put, List.setIfInBounds_toArray, List.set_cons_zero, List.set_cons_succ]
      refine takeH (i := 16) (N := some 44) (v := ?_) rfl rfl (by kernel_rfl) (by kernel_rfl) (by kernel_rfl) (fun _ _ _ h => h) (Or.inl ⟨by rfl, ?_⟩) (by assumption) ?_
      rotate_left
      · intro w' hSw; (try dsimp only at hSw); go_simp; with_reducible rfl
      try simp only [Act.put, List.setIfInBounds_toArray, List.set_cons_zero, List.set_cons_succ]
      refine takeH (i := 17) (N := some 45) (v := ?_) rfl rfl (by kernel_rfl) (by kernel_rfl) (by kernel_rfl) (fun _ _ _ h => h) (Or.inl ⟨by rfl, ?_⟩) (by assumption) ?_
      rotate_left
      · intro w' hSw; (try dsimp only at hSw); go_simp; with_reducible rfl
      try simp only [Act.put, List.setIfInBounds_toArray, List.set_cons_zero, List.set_cons_succ]
      refine takeH (i := 18) (N := some 46) (v := ?_) rfl rfl (by kernel_rfl) (by kernel_rfl) (by kernel_rfl) (fun _ _ _ h => h) (Or.inl ⟨by rfl, ?_⟩) (by assumption) ?_
      rotate_left
      · intro w' hSw; (try dsimp only at hSw); go_simp; with_reducible rfl
      try simp only [Act.put, List.setIfInBounds_toArray, List.set_cons_zero, List.set_cons_succ]
      refine wpAnyH_ready (rs := [19]) (by kernel_rfl) (by simp) ?_
      refine AllReadyH.cons rfl (fun K hK => ?_) ?_
      · go_simp
        refine hK.out _ _ ?_ (fun hHeld => ?_)
        · (try dsimp only); first | exact ⟨(hK6.cell (p := ⟨g, 0, none⟩) (by simp; omega) (by simpa using hgw6)).trans (by go_simp), (hK6.cell (p := ⟨g, 1, none⟩) (by simp; omega) (by simpa using hgw6)).trans (by go_simp), (hK6.cell (p := ⟨g, 2, none⟩) (by simp; omega) (by simpa using hgw6)).trans (by go_simp), (hK6.cell (p := ⟨g, 3, none⟩) (by simp; omega) (by simpa using hgw6)).trans (by go_simp), (hK6.cell (p := ⟨g, 16, none⟩) (by simp; omega) (by simpa using hgw6)).trans (by go_simp), (hK6.cell (p := ⟨g, 17, none⟩) (by simp; omega) (by simpa using hgw6)).trans (by go_simp)⟩ | go_keep
        clear hK K
        try simp only [Act.put, List.setIfInBounds_toArray, List.set_cons_zero, List.set_cons_succ]
        refine wpAnyH_ready (rs := [20]) (by kernel_rfl) (by simp) ?_
        refine AllReadyH.cons rfl (fun K hK => ?_) ?_
        · refine step_store_row (by rfl) 50 _ _ (by rfl) w6.heap.size #[.int .i64 y, .int .i64 y1, .int .i64 y2, .int .i64 y3, .int .i64 0, .int .i64 0, .int .i64 0, .int .i64 0, .int .i64 0, .int .i64 0, .int .i64 0, .int .i64 0, .int .i64 0, .int .i64 0, .int .i64 0, .int .i64 0, .int .i64 y16, .int .i64 y17] #[.int .i64 0, .int .i64 0, .int .i64 0, .int .i64 0, .int .i64 0, .int .i64 0, .int .i64 0, .int .i64 0, .int .i64 0, .int .i64 0, .int .i64 0, .int .i64 0, .int .i64 0, .int .i64 0, .int .i64 0, .int .i64 0, .int .i64 0, .int .i64 0] 50 (by rfl) (by rfl) (get_top rfl) rfl infoInode (by simp [Value.oneCell']) ?_; intro W6 hW6 hK6
          refine hK.out _ _ ?_ (fun hHeld => ?_)
          · (try dsimp only); first | exact ⟨(hK6.cell (p := ⟨g, 0, none⟩) (by simp; omega) (by simpa using hgw6)).trans (by go_simp), (hK6.cell (p := ⟨g, 1, none⟩) (by simp; omega) (by simpa using hgw6)).trans (by go_simp), (hK6.cell (p := ⟨g, 2, none⟩) (by simp; omega) (by simpa using hgw6)).trans (by go_simp), (hK6.cell (p := ⟨g, 3, none⟩) (by simp; omega) (by simpa using hgw6)).trans (by go_simp), (hK6.cell (p := ⟨g, 16, none⟩) (by simp; omega) (by simpa using hgw6)).trans (by go_simp), (hK6.cell (p := ⟨g, 17, none⟩) (by simp; omega) (by simpa using hgw6)).trans (by go_simp)⟩ | go_keep
          clear hK K
          try simp only [Act.put, List.setIfInBounds_toArray, List.set_cons_zero, List.set_cons_succ]
          refine wpAnyH_done (by kernel_rfl) ?_ _
          have HRI : RI w fl g w6.heap.size 0 W6 := by
            have hb7 : Below w.heap.size w W6 := (BB.out.alloc BB.out.size _).drew.trans (hK6.below (by have := BB.out.size; simp; omega) (by intro i hi he; have := BB.out.size; omega))
            refine ⟨hb7, ?_, ?_, fun j hj => ?_, Nat.lt_of_lt_of_le (blk_lt BX.out) (Nat.le_refl _), Nat.ne_of_lt hg6⟩
            · exact hK6.at_ (get_below BX.out) (by have := blk_lt BX.out; omega)
            · rw [hW6, inodeAt2_zero fl HLEN.out, ← HY.out, ← Y1.out, ← Y2.out, ← Y3.out, ← Y16.out, ← Y17.out]
            · rw [hK6.cell (p := ⟨g, j, none⟩) (by simp; omega) (by simpa using hgw6), ← HC6.out j hj]
              exact World.cell?_of_block (w := w6) (Below.heap_alloc w6 _ _ hg6)
          have HI := Lib.hid HRI
          clear HRI hW6 hK6 c0 c1 c2 c3 c16 c17 HC6 BX BB
          generalize w6.heap.size = G at *
          go_wp2_with fail
          go_loopw [7] (fun i wr => ∃ k : Nat, k ≤ 12 ∧ i = .int .i64 k ∧ RI w fl g G k wr) (fun i _ => 12 - (intOf i).toNat)
          case atStart => exact ⟨0, by omega, rfl, HI.out⟩
          case round =>
            obtain ⟨k, hk, rfl, hI⟩ := hrel
            have HI := Lib.hid hI
            clear hI
            by_cases hlt : k < 12
            · obtain ⟨x5, hx5⟩ : ∃ x, x = fl.getD (4 + k) 0 := ⟨_, rfl⟩
              have hc := HI.out.src (4 + k) (by omega)
              rw [← hx5] at hc
              obtain ⟨u, hu5⟩ : ∃ u, (inodeAt2 fl k)[4 + k]? = some u := ⟨_, Array.getElem?_eq_getElem (by rw [inodeAt2_size fl HLEN.out k hk]; omega)⟩
              have hd : wr.cell? ⟨G, 4 + k, none⟩ = some u := (blk_cell HI.out.blk (4 + k)).trans hu5
              have hf := blk_frozen HI.out.blk (4 + k)
              have hR := HI.out.put HLEN.out hlt
              rw [← hx5] at hR
              have HR2 := Lib.hid hR
              clear hR hx5 hu5
              go_wp2
              go_roundw
              case rel => exact ⟨k + 1, by omega, by go_num, HR2.out⟩
              case measure => simp [intOf]; omega
            · obtain rfl : k = 12 := by omega
              have hbG := HI.out.blk
              rw [inodeAt2_full] at hbG
              have BG := Lib.hid hbG
              have BX := Lib.hid HI.out.box
              have BEL := Lib.hid HI.out.bel
              have hz : (ints fl).toArray.size = (ints (List.replicate 18 0)).toArray.size := by simp [ints_length, HLEN.out]
              have hi : (Try.prog.info? 50).map (·.size) = some (ints fl).toArray.size := by rw [infoInode]; simp [ints_length, HLEN.out]
              have HZ := Lib.hid hz
              have HI18 := Lib.hid hi
              clear hz hi hbG
              go_wp2_with (first | (refine wpList_load_row (by rfl) 50 _ (by rfl) G (by rfl) 50 _ (0, 0) _ BG.out Try.underlying50 rfl HI18.out ?_) | (refine wpList_store_row (by rfl) 50 _ _ (by rfl) w.heap.size (ints fl).toArray (ints (List.replicate 18 0)).toArray 50 (by rfl) (by rfl) BX.out HZ.out HI18.out (ints_oneCell _) ?_; intro W1 hW1 hK1; have HW1 := Lib.hid hW1; have HK1 := Lib.hid hK1; clear hW1 hK1))
              refine bodyPost_row_tmp rfl w.heap.size 50 (ints fl).toArray (0, 0) _ (by rfl) HW1.out Try.underlying50 rfl HI18.out rfl ?_
              rw [HSP.out]
              exact ⟨rfl, BEL.out.trans (HK1.out.below BEL.out.size (by intro i hi; omega))⟩
        exact AllReadyH.nil
      exact AllReadyH.nil
theorem refInodeOf_any (s : ByteArray) (w : World) :
    Calls Try.prog 35 #[.string s] w fun e w' => e = .returned (.tuple #[.agg (ints (inodeOfSpec s).1).toArray, .int .i64 (inodeOfSpec s).2]) ∧ Below w.heap.size w w' := by
  by_cases h : s.size = 448
  · exact refInodeOf_ok s h w
  · exact refInodeOf_bad s h w
end Go.Proofs.Ytpbmgollolbgoaa.B
