/-
  pack.Super and the document's Super, walked.
-/
import Derived.Test.YtpbmgollolbgoaaRefHead
namespace Go.Proofs.Ytpbmgollolbgoaa.B
open Go.RowKit
set_option linter.unusedVariables false

theorem strCells_eq (s : ByteArray) : Lib.strCells s = nums (bytesOf s) := by rw [nums_bytesOf]; rfl
/-- A writer that was just made, behind what was handed in. -/
theorem At.plain (w : World) (o : Obj) : At w ((w.alloc o).alloc (.cells #[.slice none 0 0, .bool false] 62)) w.heap.size o (w.heap.size + 1) (.slice none 0 0) [] false := by
  refine ⟨get_below (get_top rfl), ⟨get_top (by simp), Row.nil _ _ _, by simp [Value.ownBlock]⟩, ((Below.refl _ w).alloc (Nat.le_refl _) _).alloc (by simp) _, by omega, by simp [Value.ownBlock], by omega, by simp [Value.ownBlock]⟩
def superFs (a0 a1 a2 a3 : Int) : List (Int × Nat) := [(a0, 6), (a1, 6), (a2, 6), (a3, 4)]
def superSpec (fs : List (Int × Nat)) (r : ByteArray) : ByteArray × Int :=
  if r.size ≠ 32 then (⟨#[]⟩, 1) else if good fs = true then (strOfNums (lay fs) ++ r ++ strOfNums (List.replicate 394 0), 0) else (⟨#[]⟩, 2)

set_option maxHeartbeats 1600000 in
theorem Super_any (a0 a1 a2 a3 : Int) (r : ByteArray) (hr : r.size ≤ 9223372036854775807) (m0 : -9223372036854775808 ≤ a0) (n0 : a0 ≤ 9223372036854775807) (m1 : -9223372036854775808 ≤ a1) (n1 : a1 ≤ 9223372036854775807) (m2 : -9223372036854775808 ≤ a2) (n2 : a2 ≤ 9223372036854775807) (m3 : -9223372036854775808 ≤ a3) (n3 : a3 ≤ 9223372036854775807) (w : World) :
    Calls Try.prog 28 #[.agg #[.int .i64 a0, .int .i64 a1, .int .i64 a2, .int .i64 a3, .string r]] w fun e w' => e = .returned (.tuple #[.string (superSpec (superFs a0 a1 a2 a3) r).1, .int .i64 (superSpec (superFs a0 a1 a2 a3) r).2]) ∧ Below w.heap.size w w' := by
  have hu := Try.underlying42
  by_cases hsz : r.size = 32
  case neg =>
    have hs : superSpec (superFs a0 a1 a2 a3) r = (⟨#[]⟩, 1) := by rw [superSpec, if_pos hsz]
    have HS := Lib.hid hs
    have hz : ((r.size : Int) != 32) = true := by simp; omega
    clear hs
    go_enter Try.func28, Try.ntmps28
    go_wp2
    go_ret2
    rw [HS.out]
    exact ⟨rfl, (Below.refl _ w).alloc (Nat.le_refl _) _⟩
  obtain ⟨i0, hi, hz0, hz1, hz2⟩ := info_parts infoByte
  have HI := Lib.hid hi
  have HZ0 := Lib.hid hz0
  have HZ1 := Lib.hid hz1
  have HZ2 := Lib.hid hz2
  clear hi hz0 hz1 hz2
  have hz : ((r.size : Int) != 32) = false := by simp; omega
  have hr32 : r.size ≤ 32 := by omega
  have HSZ := Lib.hid hsz
  clear hsz
  have h0 := At.plain w (.cells #[.int .i64 a0, .int .i64 a1, .int .i64 a2, .int .i64 a3, .string r] 42)
  have H0 := Lib.hid h0
  have L0 := Lib.hid (show ([] : List Int).length ≤ 0 by decide)
  clear h0
  go_enter Try.func28, Try.ntmps28
  go_wp2_with fail
  refine (put_any _ _ _ _ a0 6 _ H0.out.wr (Nat.le_trans L0.out (by omega)) (by omega) (by omega) (by omega) (by omega)).mono ?_
  rintro e u1 ⟨rfl, t1⟩
  obtain ⟨v1, x1, b1, h1, l1, ex1, eb1⟩ := H0.out.put L0.out t1
  have H1 := Lib.hid h1
  have L1 := Lib.hid l1
  have E1 := Lib.hid ex1
  have F1 := Lib.hid eb1
  have c1 := blk_cell h1.par 1
  clear t1 h1 l1 ex1 eb1
  go_wp2_with fail
  refine (put_any _ _ _ _ a1 6 _ H1.out.wr (Nat.le_trans L1.out (by omega)) (by omega) (by omega) (by omega) (by omega)).mono ?_
  rintro e u2 ⟨rfl, t2⟩
  obtain ⟨v2, x2, b2, h2, l2, ex2, eb2⟩ := H1.out.put L1.out t2
  have H2 := Lib.hid h2
  have L2 := Lib.hid l2
  have E2 := Lib.hid ex2
  have F2 := Lib.hid eb2
  have c2 := blk_cell h2.par 2
  clear t2 h2 l2 ex2 eb2 c1
  go_wp2_with fail
  refine (put_any _ _ _ _ a2 6 _ H2.out.wr (Nat.le_trans L2.out (by omega)) (by omega) (by omega) (by omega) (by omega)).mono ?_
  rintro e u3 ⟨rfl, t3⟩
  obtain ⟨v3, x3, b3, h3, l3, ex3, eb3⟩ := H2.out.put L2.out t3
  have H3 := Lib.hid h3
  have L3 := Lib.hid l3
  have E3 := Lib.hid ex3
  have F3 := Lib.hid eb3
  have c3 := blk_cell h3.par 3
  clear t3 h3 l3 ex3 eb3 c2
  go_wp2_with fail
  refine (put_any _ _ _ _ a3 4 _ H3.out.wr (Nat.le_trans L3.out (by omega)) (by omega) (by omega) (by omega) (by omega)).mono ?_
  rintro e u4 ⟨rfl, t4⟩
  obtain ⟨v4, x4, b4, h4, l4, ex4, eb4⟩ := H3.out.put L3.out t4
  have H4 := Lib.hid h4
  have L4 := Lib.hid l4
  have E4 := Lib.hid ex4
  have F4 := Lib.hid eb4
  clear t4 h4 l4 ex4 eb4 c3
  have ex : x4 = putsXs [] (superFs a0 a1 a2 a3) := by rw [E4.out, E3.out, E2.out, E1.out]; rfl
  have eb : b4 = !good (superFs a0 a1 a2 a3) := by rw [← putsBad_eq, F4.out, F3.out, F2.out, F1.out]; rfl
  by_cases hgood : good (superFs a0 a1 a2 a3) = true
  · have hs : superSpec (superFs a0 a1 a2 a3) r = (strOfNums (lay (superFs a0 a1 a2 a3)) ++ r ++ strOfNums (List.replicate 394 0), 0) := by rw [superSpec, if_neg (by simp [HSZ.out]), if_pos hgood]
    have hx : x4 = lay (superFs a0 a1 a2 a3) := by rw [ex, putsXs_good _ _ hgood]; rfl
    have hxl : x4.length = 22 := by rw [hx, lay_length]; rfl
    have hxl' : x4.length ≤ 22 := by omega
    rw [hgood] at eb
    obtain rfl : b4 = false := eb
    obtain ⟨z, hzz⟩ : ∃ z, z = strOfNums (List.replicate 394 (0 : Int)) := ⟨_, rfl⟩
    rw [← hzz] at hs
    have HZ := Lib.hid hzz
    have HS := Lib.hid hs
    have HX := Lib.hid hx
    have HXL := Lib.hid hxl
    obtain ⟨ao, cap, rfl, hcap⟩ := H4.out.wr.own.form
    have c0 := blk_cell H4.out.wr.blk 0
    have c1 := blk_cell H4.out.wr.blk 1
    have f0 := blk_frozen H4.out.wr.blk 0
    have cp := blk_cell H4.out.par 4
    have hgl := H4.out.wr.lt
    clear hs hx hxl ex hgood hzz
    go_wp2_with (at_builtin; go_must (refine wpList_append_row _ (by rfl) _ _ _ _ (by rfl) 5 i0 (.int .u8 0) 1 1 Try.underlying60 HI.out HZ0.out HZ1.out HZ2.out rfl (by omega) _ _ _ (by rfl) H4.out.wr.own _ (by rfl) r.size _ (Feeds.str Try.underlying9 r) (by unfold maxLen; omega) (by omega) u4.heap.size rfl ?_); intro ao2 cap2 u5 hown1 hgrow hat; have hcz := (hgrow.cell_far ⟨w.heap.size + 1, 0, none⟩ hgl H4.out.wr.ne).trans c0; have hfz := (hgrow.frozen_far ⟨w.heap.size + 1, 0, none⟩ hgl H4.out.wr.ne).trans f0; rw [strCells_eq] at hown1; have T5 := Lib.hid (step_to (ys := bytesOf r) H4.out.wr (Below.refl _ u4) (bytesOf_length r) hown1 hgrow hat); clear hgrow hown1 hat)
    obtain ⟨v6, h6⟩ := H4.out.step T5.out
    have H6 := Lib.hid h6
    clear h6
    have hlen : (x4 ++ bytesOf r).length = 54 := by rw [List.length_append, HXL.out, bytesOf_length, HSZ.out]
    have hlen' : (x4 ++ bytesOf r).length ≤ 1000000 := by omega
    have HLN := Lib.hid hlen
    clear hlen
    refine (full_any _ _ _ _ 448 _ H6.out.wr hlen' (by omega) (by omega)).mono ?_
    rintro e u9 ⟨rfl, t9⟩
    obtain ⟨v9, h9⟩ := H6.out.step t9
    have HB := Lib.hid h9.bel
    clear t9 h9
    rw [HLN.out, strOfNums_append, strOfNums_append, strOfNums_bytesOf, HX.out, show strOfNums (List.replicate ((448 : Int).toNat - 54) 0) = z from HZ.out.symm]
    go_wp2
    go_ret2
    rw [HS.out]
    exact ⟨rfl, HB.out⟩
  · have hs : superSpec (superFs a0 a1 a2 a3) r = (⟨#[]⟩, 2) := by rw [superSpec, if_neg (by simp [HSZ.out]), if_neg hgood]
    have hgf : good (superFs a0 a1 a2 a3) = false := by simpa using hgood
    rw [hgf] at eb
    obtain rfl : b4 = true := eb
    have HS := Lib.hid hs
    have c1 := blk_cell H4.out.wr.blk 1
    clear hs ex hgood hgf
    go_wp2
    go_ret2
    rw [HS.out]
    exact ⟨rfl, H4.out.bel⟩

set_option maxRecDepth 100000 in
set_option maxHeartbeats 1600000 in
theorem refSuper_any (a0 a1 a2 a3 : Int) (r : ByteArray) (hr : r.size ≤ 9223372036854775807) (hi : ∀ x ∈ [a0, a1, a2, a3], -9223372036854775808 ≤ x ∧ x ≤ 9223372036854775807) (w : World) :
    Calls Try.prog 29 #[.agg #[.int .i64 a0, .int .i64 a1, .int .i64 a2, .int .i64 a3, .string r]] w fun e w' => e = .returned (.tuple #[.string (superSpec (superFs a0 a1 a2 a3) r).1, .int .i64 (superSpec (superFs a0 a1 a2 a3) r).2]) ∧ Below w.heap.size w w' := by
  have hu := Try.underlying42
  have HR := Lib.hid hi
  clear hi
  by_cases hsz : r.size = 32
  case neg =>
    have hs : superSpec (superFs a0 a1 a2 a3) r = (⟨#[]⟩, 1) := by rw [superSpec, if_pos hsz]
    have HS := Lib.hid hs
    have hz : ((r.size : Int) != 32) = true := by simp; omega
    clear hs
    go_enter Try.func29, Try.ntmps29
    go_wp2
    go_ret2
    rw [HS.out]
    exact ⟨rfl, (Below.refl _ w).alloc (Nat.le_refl _) _⟩
  have hz : ((r.size : Int) != 32) = false := by simp; omega
  have hr32 : r.size ≤ 32 := by omega
  have HSZ := Lib.hid hsz
  clear hsz
  by_cases hgood : good (superFs a0 a1 a2 a3) = true
  · have hld : laidSpec (sides [a0, a1, a2, a3] [6, 6, 6, 4]) = (strOfNums (lay (superFs a0 a1 a2 a3)), true) := by
      rw [laidSpec, show sides [a0, a1, a2, a3] [6, 6, 6, 4] = superFs a0 a1 a2 a3 from rfl, if_pos hgood]
    have hs : superSpec (superFs a0 a1 a2 a3) r = (strOfNums (lay (superFs a0 a1 a2 a3)) ++ r ++ strOfNums (List.replicate 394 0), 0) := by rw [superSpec, if_neg (by simp [HSZ.out]), if_pos hgood]
    obtain ⟨x, hx⟩ : ∃ x, x = strOfNums (lay (superFs a0 a1 a2 a3)) := ⟨_, rfl⟩
    have hxs : x.size ≤ 22 := by rw [hx, strOfNums_size, lay_length]; simp [superFs]
    obtain ⟨z, hz⟩ : ∃ z, z = strOfNums (List.replicate 394 (0 : Int)) := ⟨_, rfl⟩
    have hzs : z.size ≤ 394 := by rw [hz, strOfNums_size, List.length_replicate]; omega
    rw [← hx] at hld hs
    rw [← hz] at hs
    have HZ := Lib.hid hz
    have HLD := Lib.hid hld
    have HS := Lib.hid hs
    clear hld hs hx hgood hz
    have q1 : (9223372036854775807 < x.size + r.size) = False := by simp; omega
    have q2 : (9223372036854775807 < x.size + r.size + z.size) = False := by simp; omega
    go_enter Try.func29, Try.ntmps29
    go_wp2_with fail
    refine (laid_any _ _ [a0, a1, a2, a3] [6, 6, 6, 4] _ (by repeat (first | refine Row.drew ?_ | exact Row.lit (get_top (by simp)) 4 rfl (by decide) | exact Row.lit (get_below (get_top (by simp))) 4 rfl (by decide))) (by repeat (first | refine Row.drew ?_ | exact Row.lit (get_top (by simp)) 4 rfl (by decide) | exact Row.lit (get_below (get_top (by simp))) 4 rfl (by decide))) rfl (by simp) HR.out (by decide)).mono ?_
    rw [HLD.out]
    rintro e w1 ⟨rfl, hb⟩
    have HB := Lib.hid hb
    have hblk : w1.heap[w.heap.size]? = some (.cells #[.int .i64 a0, .int .i64 a1, .int .i64 a2, .int .i64 a3, .string r] 42 (0, 0)) := (hb.block _ (by simp; omega)).trans (get_below (get_below (get_top rfl)))
    have cp := blk_cell hblk 4
    have hpl := blk_lt hblk
    clear hb hblk
    go_wp2_with fail
    go_region_held3 (fun w' => w'.cell? ⟨w.heap.size, 4, none⟩ = some (.string r)) (first | go_keep | (rw [hb2.cell (by simpa using hpl)]; assumption))
      ((go_at_call 45; refine (Noughts_any 394 (by omega) (by omega) _).mono ?_; rw [show strOfNums (List.replicate (394 : Int).toNat 0) = z from HZ.out.symm]; rintro e w2 ⟨rfl, hb2⟩))
    all_goals
      have HB2 := Lib.hid hb2
      clear hb2
      go_wp2
      go_ret2
      rw [HS.out]
      refine ⟨rfl, ?_⟩
      have hs1 := HB.out.size
      simp at hs1
      refine Below.trans ?_ (HB2.out.mono (by simp; omega))
      refine Below.drew (Below.trans ?_ (HB.out.mono (by simp; omega)))
      exact ((((Below.refl _ w).alloc (Nat.le_refl _) _).alloc (by simp) _).alloc (by simp; omega) _)
  · have hgf : good (superFs a0 a1 a2 a3) = false := by simpa using hgood
    have hld : laidSpec (sides [a0, a1, a2, a3] [6, 6, 6, 4]) = (⟨#[]⟩, false) := by
      rw [laidSpec, show sides [a0, a1, a2, a3] [6, 6, 6, 4] = superFs a0 a1 a2 a3 from rfl, hgf]
      rfl
    have hs : superSpec (superFs a0 a1 a2 a3) r = (⟨#[]⟩, 2) := by rw [superSpec, if_neg (by simp [HSZ.out]), if_neg hgood]
    have HLD := Lib.hid hld
    have HS := Lib.hid hs
    clear hld hs hgood hgf
    go_enter Try.func29, Try.ntmps29
    go_wp2_with fail
    refine (laid_any _ _ [a0, a1, a2, a3] [6, 6, 6, 4] _ (by repeat (first | refine Row.drew ?_ | exact Row.lit (get_top (by simp)) 4 rfl (by decide) | exact Row.lit (get_below (get_top (by simp))) 4 rfl (by decide))) (by repeat (first | refine Row.drew ?_ | exact Row.lit (get_top (by simp)) 4 rfl (by decide) | exact Row.lit (get_below (get_top (by simp))) 4 rfl (by decide))) rfl (by simp) HR.out (by decide)).mono ?_
    rw [HLD.out]
    rintro e w1 ⟨rfl, hb⟩
    have HB := Lib.hid hb
    clear hb
    go_wp2
    go_ret2
    rw [HS.out]
    refine ⟨rfl, Below.trans ?_ (HB.out.mono (by simp; omega))⟩
    exact ((((Below.refl _ w).alloc (Nat.le_refl _) _).alloc (by simp) _).alloc (by simp; omega) _)

end Go.Proofs.Ytpbmgollolbgoaa.B
