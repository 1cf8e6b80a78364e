/-
  pack.Entry and the document's Entry, walked.
-/
import Derived.Test.YtpbmgollolbgoaaSuper
namespace Go.Proofs.Ytpbmgollolbgoaa.B
open Go.RowKit
set_option linter.unusedVariables false

/-- A writer that begins with one byte. -/
theorem At.one (w : World) (o : Obj) (n : Int) : At w (((w.alloc o).alloc (.cells #[.int .u8 (n)] 5)).alloc (.cells #[.slice (some ⟨w.heap.size + 1, 0, none⟩) 1 1, .bool false] 62)) w.heap.size o (w.heap.size + 1 + 1) (.slice (some ⟨w.heap.size + 1, 0, none⟩) 1 1) [n] false := by
  refine ⟨get_below (get_below (get_top rfl)), ⟨get_top (by simp), Row.lit (get_below (get_top (by simp))) 1 rfl (by decide), by simp [Value.ownBlock]⟩, (((Below.refl _ w).alloc (Nat.le_refl _) _).alloc (by simp) _).alloc (by simp; omega) _, by omega, by simp [Value.ownBlock], by omega, by intro k hk; simp [Value.ownBlock] at hk; omega⟩
def entryFs (a1 a2 : Int) : List (Int × Nat) := [(a1, 4), (a2, 4)]
/-- An entry's bytes. -/
def entryXs (s : ByteArray) (a1 a2 : Int) : List Int := [(s.size : Int)] ++ bytesOf s ++ List.replicate (19 - s.size) 0 ++ lay (entryFs a1 a2)
def entrySpec (s : ByteArray) (a1 a2 : Int) : ByteArray × Int :=
  if 19 < s.size then (⟨#[]⟩, 4) else if s.size = 0 ∧ (a1 ≠ 0 ∨ a2 ≠ 0) then (⟨#[]⟩, 5) else if good (entryFs a1 a2) = true then (strOfNums (entryXs s a1 a2), 0) else (⟨#[]⟩, 2)
theorem empty_of_size {s : ByteArray} (h : s.size = 0) : s = ⟨#[]⟩ := by
  apply ByteArray.ext
  exact Array.eq_empty_of_size_eq_zero h

set_option maxHeartbeats 1600000 in
theorem Entry_refused (s : ByteArray) (a1 a2 : Int) (h : 19 < s.size ∨ (s.size = 0 ∧ (a1 ≠ 0 ∨ a2 ≠ 0))) (w : World) :
    Calls Try.prog 24 #[.agg #[.string s, .int .i64 a1, .int .i64 a2]] w fun e w' => e = .returned (.tuple #[.string (entrySpec s a1 a2).1, .int .i64 (entrySpec s a1 a2).2]) ∧ Below w.heap.size w w' := by
  have hu := Try.underlying34
  by_cases h19 : 19 < s.size
  · have hs : entrySpec s a1 a2 = (⟨#[]⟩, 4) := by rw [entrySpec, if_pos h19]
    have HS := Lib.hid hs
    clear hs h
    go_enter Try.func24, Try.ntmps24
    go_wp2
    go_ret2
    rw [HS.out]
    exact ⟨rfl, (Below.refl _ w).alloc (Nat.le_refl _) _⟩
  · obtain ⟨h0, h12⟩ := h.resolve_left h19
    have hs : entrySpec s a1 a2 = (⟨#[]⟩, 5) := by rw [entrySpec, if_neg h19, if_pos ⟨h0, h12⟩]
    obtain rfl := empty_of_size h0
    have HS := Lib.hid hs
    clear hs h h0 h19
    by_cases h1 : a1 = 0
    · have h2 : (a2 != 0) = true := by
        rcases h12 with h | h
        · exact absurd h1 h
        · simpa using h
      subst h1
      clear h12
      go_enter Try.func24, Try.ntmps24
      go_wp2
      go_ret2
      rw [HS.out]
      exact ⟨rfl, (Below.refl _ w).alloc (Nat.le_refl _) _⟩
    · have h2 : (a1 != 0) = true := by simpa using h1
      clear h12 h1
      go_enter Try.func24, Try.ntmps24
      go_wp2
      go_ret2
      rw [HS.out]
      exact ⟨rfl, (Below.refl _ w).alloc (Nat.le_refl _) _⟩


set_option maxHeartbeats 1600000 in
theorem Entry_some (s : ByteArray) (a1 a2 : Int) (h19 : ¬ 19 < s.size) (h0 : ¬ s.size = 0) (m1 : -9223372036854775808 ≤ a1) (n1 : a1 ≤ 9223372036854775807) (m2 : -9223372036854775808 ≤ a2) (n2 : a2 ≤ 9223372036854775807) (w : World) :
    Calls Try.prog 24 #[.agg #[.string s, .int .i64 a1, .int .i64 a2]] w fun e w' => e = .returned (.tuple #[.string (entrySpec s a1 a2).1, .int .i64 (entrySpec s a1 a2).2]) ∧ Below w.heap.size w w' := by
  have hu := Try.underlying34
  obtain ⟨i0, hi, hz0, hz1, hz2⟩ := info_parts infoByte
  have HI := Lib.hid hi
  have HZ0 := Lib.hid hz0
  have HZ1 := Lib.hid hz1
  have HZ2 := Lib.hid hz2
  clear hi hz0 hz1 hz2
  have he : ¬ s.toList = [] := by
    intro h
    rw [ByteArray.toList_eq] at h
    exact h0 (by rw [← bytesOf_length, bytesOf, h]; rfl)
  have hla := At.one w (.cells #[.string s, .int .i64 a1, .int .i64 a2] 34) (s.size : Int)
  have HA := Lib.hid hla
  have hcl := blk_cell hla.wr.blk 0
  have hfl := blk_frozen hla.wr.blk 0
  have hgl := hla.wr.lt
  have hl20 : 1 + s.size ≤ 20 := by omega
  clear hla
  go_enter Try.func24, Try.ntmps24
  go_wp2_with (at_builtin; go_must (refine wpList_append_row _ (by rfl) _ _ _ _ (by rfl) 5 i0 (.int .u8 0) 1 1 Try.underlying60 HI.out HZ0.out HZ1.out HZ2.out rfl (by omega) _ _ _ (by rfl) HA.out.wr.own _ (by rfl) s.size _ (Feeds.str Try.underlying9 s) (by unfold maxLen; simp; omega) (by simp; omega) (w.heap.size + 1 + 1 + 1) (by simp) ?_); intro ao2 cap2 u5 hown1 hgrow hat; have hcz := (hgrow.cell_far ⟨w.heap.size + 1 + 1, 0, none⟩ hgl HA.out.wr.ne).trans hcl; have hfz := (hgrow.frozen_far ⟨w.heap.size + 1 + 1, 0, none⟩ hgl HA.out.wr.ne).trans hfl)
  have hst := step_to (ys := bytesOf s) HA.out.wr (Below.refl _ _) (bytesOf_length s) (by rw [strCells_eq] at hown1; exact hown1) hgrow (by simpa using hat)
  obtain ⟨v6, h6⟩ := HA.out.step hst
  have H6 := Lib.hid h6
  clear h6 hst hgrow hown1 hat hcz hfz hcl hfl
  go_loopg [34] (19 - s.size) (fun j p wr => ∃ k v, j + k = 19 - s.size ∧ At w wr w.heap.size (.cells #[.string s, .int .i64 a1, .int .i64 a2] 34) (w.heap.size + 1 + 1) v ([(s.size : Int)] ++ bytesOf s ++ List.replicate k 0) false)
  case atStart => exact ⟨0, v6, rfl, by rw [show List.replicate 0 (0 : Int) = [] from rfl, List.append_nil]; exact H6.out⟩
  case round =>
    obtain ⟨k, v', hk, hW⟩ := hrel
    obtain ⟨ys, hys⟩ : ∃ ys, ys = [(s.size : Int)] ++ bytesOf s ++ List.replicate k (0 : Int) := ⟨_, rfl⟩
    rw [← hys] at hW
    have hlen : ys.length = 1 + s.size + k := by rw [hys]; simp [bytesOf_length]; omega
    obtain ⟨ao, cap, rfl, hcap⟩ := hW.wr.own.form
    have hc := blk_cell hW.wr.blk 0
    have hf := blk_frozen hW.wr.blk 0
    have hl := hW.wr.lt
    have HW := Lib.hid hW
    have HL := Lib.hid hlen
    have HY := Lib.hid hys
    by_cases hlt : s.size + k < 19
    · have ht : (ys.length : Int) < 20 := by rw [hlen]; omega
      have hlq : ys.length ≤ 2000000 := by rw [hlen]; omega
      clear hW hlen hys
      go_wp2_with (at_builtin; go_must (refine wpList_append_row _ (by rfl) _ _ _ _ (by rfl) 5 i0 (.int .u8 0) 1 1 Try.underlying60 HI.out HZ0.out HZ1.out HZ2.out rfl (by omega) _ _ _ (by rfl) (HW.out.wr.own.alloc _) _ (by rfl) 1 [.int .u8 0] (Feeds.slice Try.underlying60 ⟨wr.heap.size, 0, none⟩ 1 1 _ rfl (by simp [Value.oneCell']) (World.news_of_block (cs := #[.int .u8 0]) (t := 5) (fr := (0, 0)) (heap_alloc_new wr _))) (by unfold maxLen; omega) (by omega) (wr.heap.size + 1) (by simp) ?_); intro ao2 cap2 w1 hown1 hgrow hat; have hcz := (hgrow.cell_far ⟨w.heap.size + 1 + 1, 0, none⟩ (by simp; omega) HW.out.wr.ne).trans ((World.cell?_of_block (w := wr) (Below.heap_alloc wr _ _ hl)).trans hc); have hfz := (hgrow.frozen_far ⟨w.heap.size + 1 + 1, 0, none⟩ (by simp; omega) HW.out.wr.ne).trans ((World.frozen?_of_block (w := wr) (Below.heap_alloc wr _ _ hl)).trans hf); have HS := Lib.hid (step_to (ys := [0]) (m := 1) HW.out.wr ((Below.refl _ wr).alloc (Nat.le_refl _) _) rfl (by simpa [nums] using hown1) hgrow (by simpa using hat)); clear hgrow hown1 hat)
      have hyk : ys ++ [0] = [(s.size : Int)] ++ bytesOf s ++ List.replicate (k + 1) 0 := by rw [HY.out, List.append_assoc _ (List.replicate k (0 : Int)), List.replicate_succ']
      obtain ⟨v7, h7⟩ := HW.out.step HS.out
      rw [hyk] at h7
      have H7 := Lib.hid h7
      clear h7 HS hyk
      go_roundg (gk - 1)
      case measure => omega
      case rel => exact ⟨k + 1, v7, by omega, H7.out⟩
    · have ht : ¬ (ys.length : Int) < 20 := by rw [hlen]; omega
      have hlq : ys.length ≤ 20 := by rw [hlen]; omega
      have hkw : k = 19 - s.size := by omega
      have hyy : ys = [(s.size : Int)] ++ bytesOf s ++ List.replicate (19 - s.size) 0 := by rw [hys, hkw]
      have HYY := Lib.hid hyy
      have H0 := HW
      have L0 := Lib.hid hlq
      have c0 := blk_cell HW.out.par 1
      clear hW hlen hys hkw hyy hlq
      go_wp2_with fail
      refine (put_any _ _ _ _ a1 4 _ H0.out.wr (Nat.le_trans L0.out (by omega)) (by omega) (by omega) (by omega) (by omega)).mono ?_
      rintro e u1 ⟨rfl, t1⟩
      obtain ⟨v1, x1, b1, h1, l1, ex1, eb1⟩ := H0.out.put L0.out t1
      have H1 := Lib.hid h1
      have L1 := Lib.hid l1
      have E1 := Lib.hid ex1
      have F1 := Lib.hid eb1
      have c1 := blk_cell h1.par 2
      clear t1 h1 l1 ex1 eb1
      go_wp2_with fail
      refine (put_any _ _ _ _ a2 4 _ H1.out.wr (Nat.le_trans L1.out (by omega)) (by omega) (by omega) (by omega) (by omega)).mono ?_
      rintro e u2 ⟨rfl, t2⟩
      obtain ⟨v2, x2, b2, h2, l2, ex2, eb2⟩ := H1.out.put L1.out t2
      have H2 := Lib.hid h2
      have L2 := Lib.hid l2
      have E2 := Lib.hid ex2
      have F2 := Lib.hid eb2
      clear t2 h2 l2 ex2 eb2 c1
      have ex : x2 = putsXs ys (entryFs a1 a2) := by rw [E2.out, E1.out]; rfl
      have eb : b2 = !good (entryFs a1 a2) := by rw [← putsBad_eq, F2.out, F1.out]; rfl
      by_cases hgood : good (entryFs a1 a2) = true
      · have hs : entrySpec s a1 a2 = (strOfNums (entryXs s a1 a2), 0) := by rw [entrySpec, if_neg (by omega), if_neg (by exact fun h => h0 h.1), if_pos hgood]
        have hx : x2 = entryXs s a1 a2 := by rw [ex, putsXs_good _ _ hgood, HYY.out]; rfl
        rw [hgood] at eb
        obtain rfl : b2 = false := eb
        have HS := Lib.hid hs
        have HX := Lib.hid hx
        obtain ⟨ao3, cap3, rfl, hcap3⟩ := H2.out.wr.own.form
        have c1 := blk_cell H2.out.wr.blk 0
        have c2 := blk_cell H2.out.wr.blk 1
        have hcs := row_string (P := Try.prog) Try.underlying60 Try.underlying5 Try.underlying9 H2.out.wr.own
        clear hs hx ex hgood
        go_wp2
        go_ret2
        rw [HS.out, HX.out]
        exact ⟨rfl, H2.out.bel⟩
      · have hs : entrySpec s a1 a2 = (⟨#[]⟩, 2) := by rw [entrySpec, if_neg (by omega), if_neg (by exact fun h => h0 h.1), if_neg hgood]
        have hgf : good (entryFs a1 a2) = false := by simpa using hgood
        rw [hgf] at eb
        obtain rfl : b2 = true := eb
        have HS := Lib.hid hs
        have c2 := blk_cell H2.out.wr.blk 1
        clear hs ex hgood hgf
        go_wp2
        go_ret2
        rw [HS.out]
        exact ⟨rfl, H2.out.bel⟩

set_option maxHeartbeats 1600000 in
theorem Entry_none  (w : World) :
    Calls Try.prog 24 #[.agg #[.string (⟨#[]⟩ : ByteArray), .int .i64 0, .int .i64 0]] w fun e w' => e = .returned (.tuple #[.string (entrySpec (⟨#[]⟩ : ByteArray) 0 0).1, .int .i64 (entrySpec (⟨#[]⟩ : ByteArray) 0 0).2]) ∧ Below w.heap.size w w' := by
  have hu := Try.underlying34
  obtain ⟨i0, hi, hz0, hz1, hz2⟩ := info_parts infoByte
  have HI := Lib.hid hi
  have HZ0 := Lib.hid hz0
  have HZ1 := Lib.hid hz1
  have HZ2 := Lib.hid hz2
  clear hi hz0 hz1 hz2
  have h00 : (⟨#[]⟩ : ByteArray).size = 0 := rfl
  have hla := At.one w (.cells #[.string (⟨#[]⟩ : ByteArray), .int .i64 0, .int .i64 0] 34) ((⟨#[]⟩ : ByteArray).size : Int)
  have HA := Lib.hid hla
  have hcl := blk_cell hla.wr.blk 0
  have hfl := blk_frozen hla.wr.blk 0
  have hgl := hla.wr.lt
  have hl20 : 1 + (⟨#[]⟩ : ByteArray).size ≤ 20 := by omega
  clear hla
  go_enter Try.func24, Try.ntmps24
  go_wp2_with (at_builtin; go_must (refine wpList_append_row _ (by rfl) _ _ _ _ (by rfl) 5 i0 (.int .u8 0) 1 1 Try.underlying60 HI.out HZ0.out HZ1.out HZ2.out rfl (by omega) _ _ _ (by rfl) HA.out.wr.own _ (by rfl) (⟨#[]⟩ : ByteArray).size _ (Feeds.str Try.underlying9 (⟨#[]⟩ : ByteArray)) (by unfold maxLen; simp; omega) (by simp; omega) (w.heap.size + 1 + 1 + 1) (by simp) ?_); intro ao2 cap2 u5 hown1 hgrow hat; have hcz := (hgrow.cell_far ⟨w.heap.size + 1 + 1, 0, none⟩ hgl HA.out.wr.ne).trans hcl; have hfz := (hgrow.frozen_far ⟨w.heap.size + 1 + 1, 0, none⟩ hgl HA.out.wr.ne).trans hfl)
  have hst := step_to (ys := bytesOf (⟨#[]⟩ : ByteArray)) HA.out.wr (Below.refl _ _) (bytesOf_length (⟨#[]⟩ : ByteArray)) (by rw [strCells_eq] at hown1; exact hown1) hgrow (by simpa using hat)
  obtain ⟨v6, h6⟩ := HA.out.step hst
  have H6 := Lib.hid h6
  clear h6 hst hgrow hown1 hat hcz hfz hcl hfl
  go_loopg [34] (19 - (⟨#[]⟩ : ByteArray).size) (fun j p wr => ∃ k v, j + k = 19 - (⟨#[]⟩ : ByteArray).size ∧ At w wr w.heap.size (.cells #[.string (⟨#[]⟩ : ByteArray), .int .i64 0, .int .i64 0] 34) (w.heap.size + 1 + 1) v ([((⟨#[]⟩ : ByteArray).size : Int)] ++ bytesOf (⟨#[]⟩ : ByteArray) ++ List.replicate k 0) false)
  case atStart => exact ⟨0, v6, rfl, by rw [show List.replicate 0 (0 : Int) = [] from rfl, List.append_nil]; exact H6.out⟩
  case round =>
    obtain ⟨k, v', hk, hW⟩ := hrel
    obtain ⟨ys, hys⟩ : ∃ ys, ys = [((⟨#[]⟩ : ByteArray).size : Int)] ++ bytesOf (⟨#[]⟩ : ByteArray) ++ List.replicate k (0 : Int) := ⟨_, rfl⟩
    rw [← hys] at hW
    have hlen : ys.length = 1 + (⟨#[]⟩ : ByteArray).size + k := by rw [hys]; simp [bytesOf_length]; omega
    obtain ⟨ao, cap, rfl, hcap⟩ := hW.wr.own.form
    have hc := blk_cell hW.wr.blk 0
    have hf := blk_frozen hW.wr.blk 0
    have hl := hW.wr.lt
    have HW := Lib.hid hW
    have HL := Lib.hid hlen
    have HY := Lib.hid hys
    by_cases hlt : (⟨#[]⟩ : ByteArray).size + k < 19
    · have ht : (ys.length : Int) < 20 := by rw [hlen]; omega
      have hlq : ys.length ≤ 2000000 := by rw [hlen]; omega
      clear hW hlen hys
      go_wp2_with (at_builtin; go_must (refine wpList_append_row _ (by rfl) _ _ _ _ (by rfl) 5 i0 (.int .u8 0) 1 1 Try.underlying60 HI.out HZ0.out HZ1.out HZ2.out rfl (by omega) _ _ _ (by rfl) (HW.out.wr.own.alloc _) _ (by rfl) 1 [.int .u8 0] (Feeds.slice Try.underlying60 ⟨wr.heap.size, 0, none⟩ 1 1 _ rfl (by simp [Value.oneCell']) (World.news_of_block (cs := #[.int .u8 0]) (t := 5) (fr := (0, 0)) (heap_alloc_new wr _))) (by unfold maxLen; omega) (by omega) (wr.heap.size + 1) (by simp) ?_); intro ao2 cap2 w1 hown1 hgrow hat; have hcz := (hgrow.cell_far ⟨w.heap.size + 1 + 1, 0, none⟩ (by simp; omega) HW.out.wr.ne).trans ((World.cell?_of_block (w := wr) (Below.heap_alloc wr _ _ hl)).trans hc); have hfz := (hgrow.frozen_far ⟨w.heap.size + 1 + 1, 0, none⟩ (by simp; omega) HW.out.wr.ne).trans ((World.frozen?_of_block (w := wr) (Below.heap_alloc wr _ _ hl)).trans hf); have HS := Lib.hid (step_to (ys := [0]) (m := 1) HW.out.wr ((Below.refl _ wr).alloc (Nat.le_refl _) _) rfl (by simpa [nums] using hown1) hgrow (by simpa using hat)); clear hgrow hown1 hat)
      have hyk : ys ++ [0] = [((⟨#[]⟩ : ByteArray).size : Int)] ++ bytesOf (⟨#[]⟩ : ByteArray) ++ List.replicate (k + 1) 0 := by rw [HY.out, List.append_assoc _ (List.replicate k (0 : Int)), List.replicate_succ']
      obtain ⟨v7, h7⟩ := HW.out.step HS.out
      rw [hyk] at h7
      have H7 := Lib.hid h7
      clear h7 HS hyk
      go_roundg (gk - 1)
      case measure => omega
      case rel => exact ⟨k + 1, v7, by omega, H7.out⟩
    · have ht : ¬ (ys.length : Int) < 20 := by rw [hlen]; omega
      have hlq : ys.length ≤ 20 := by rw [hlen]; omega
      have hkw : k = 19 - (⟨#[]⟩ : ByteArray).size := by omega
      have hyy : ys = [((⟨#[]⟩ : ByteArray).size : Int)] ++ bytesOf (⟨#[]⟩ : ByteArray) ++ List.replicate (19 - (⟨#[]⟩ : ByteArray).size) 0 := by rw [hys, hkw]
      have HYY := Lib.hid hyy
      have H0 := HW
      have L0 := Lib.hid hlq
      have c0 := blk_cell HW.out.par 1
      clear hW hlen hys hkw hyy hlq
      go_wp2_with fail
      refine (put_any _ _ _ _ 0 4 _ H0.out.wr (Nat.le_trans L0.out (by omega)) (by omega) (by omega) (by omega) (by omega)).mono ?_
      rintro e u1 ⟨rfl, t1⟩
      obtain ⟨v1, x1, b1, h1, l1, ex1, eb1⟩ := H0.out.put L0.out t1
      have H1 := Lib.hid h1
      have L1 := Lib.hid l1
      have E1 := Lib.hid ex1
      have F1 := Lib.hid eb1
      have c1 := blk_cell h1.par 2
      clear t1 h1 l1 ex1 eb1
      go_wp2_with fail
      refine (put_any _ _ _ _ 0 4 _ H1.out.wr (Nat.le_trans L1.out (by omega)) (by omega) (by omega) (by omega) (by omega)).mono ?_
      rintro e u2 ⟨rfl, t2⟩
      obtain ⟨v2, x2, b2, h2, l2, ex2, eb2⟩ := H1.out.put L1.out t2
      have H2 := Lib.hid h2
      have L2 := Lib.hid l2
      have E2 := Lib.hid ex2
      have F2 := Lib.hid eb2
      clear t2 h2 l2 ex2 eb2 c1
      have ex : x2 = putsXs ys (entryFs 0 0) := by rw [E2.out, E1.out]; rfl
      have eb : b2 = !good (entryFs 0 0) := by rw [← putsBad_eq, F2.out, F1.out]; rfl
      by_cases hgood : good (entryFs 0 0) = true
      · have hs : entrySpec (⟨#[]⟩ : ByteArray) 0 0 = (strOfNums (entryXs (⟨#[]⟩ : ByteArray) 0 0), 0) := by rw [entrySpec, if_neg (by omega), if_neg (by simp), if_pos hgood]
        have hx : x2 = entryXs (⟨#[]⟩ : ByteArray) 0 0 := by rw [ex, putsXs_good _ _ hgood, HYY.out]; rfl
        rw [hgood] at eb
        obtain rfl : b2 = false := eb
        have HS := Lib.hid hs
        have HX := Lib.hid hx
        obtain ⟨ao3, cap3, rfl, hcap3⟩ := H2.out.wr.own.form
        have c1 := blk_cell H2.out.wr.blk 0
        have c2 := blk_cell H2.out.wr.blk 1
        have hcs := row_string (P := Try.prog) Try.underlying60 Try.underlying5 Try.underlying9 H2.out.wr.own
        clear hs hx ex hgood
        go_wp2
        go_ret2
        rw [HS.out, HX.out]
        exact ⟨rfl, H2.out.bel⟩
      · have hs : entrySpec (⟨#[]⟩ : ByteArray) 0 0 = (⟨#[]⟩, 2) := by rw [entrySpec, if_neg (by omega), if_neg (by simp), if_neg hgood]
        have hgf : good (entryFs 0 0) = false := by simpa using hgood
        rw [hgf] at eb
        obtain rfl : b2 = true := eb
        have HS := Lib.hid hs
        have c2 := blk_cell H2.out.wr.blk 1
        clear hs ex hgood hgf
        go_wp2
        go_ret2
        rw [HS.out]
        exact ⟨rfl, H2.out.bel⟩

end Go.Proofs.Ytpbmgollolbgoaa.B
