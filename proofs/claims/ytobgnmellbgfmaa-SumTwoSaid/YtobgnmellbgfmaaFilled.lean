/-
  The document's filled (grapnelref02), walked: a text, filled up to whole blocks.
-/
import Derived.Test.YtobgnmellbgfmaaShaB
import Derived.Test.YtobgnmellbgfmaaBytes
namespace Go.Proofs.Ytobgnmellbgfmaa.B
open Go.RowKit
set_option linter.unusedVariables false

theorem gap_lt (n : Nat) : gap n < 64 := by unfold gap; omega
theorem gap_at (n : Nat) : (n + 1 + gap n) % 64 = 56 := by unfold gap; omega
theorem gap_before (n k : Nat) (h : k < gap n) : (n + 1 + k) % 64 ≠ 56 := by unfold gap at h; omega
theorem be8_take (n : Int) (k : Nat) (h : k < 8) : (be8 n).take (k + 1) = (be8 n).take k ++ [n / 2 ^ (56 - 8 * k) % 256] := by
  rw [List.take_add_one]
  congr 1
  rw [be8, List.getElem?_map, List.getElem?_range h]
  rfl

set_option maxHeartbeats 1600000 in
theorem filled_any (s : ByteArray) (hs : s.size ≤ 1000000) (w : World) :
    Calls Try.prog 26 #[.string s] w fun e w' => ∃ v, e = .returned v ∧ Loc w w' 5 1 v (fill (bytesOf s)).length (nums (fill (bytesOf s))) := by
  obtain ⟨i0, hi, hz0, hz1, hz2⟩ := info_parts infoByte
  have HI := Lib.hid hi
  have HZ0 := Lib.hid hz0
  have HZ1 := Lib.hid hz1
  have HZ2 := Lib.hid hz2
  clear hi hz0 hz1 hz2
  have hcv : (convert 9 40 (.string s)).run Try.prog w = .ok (.slice (some ⟨w.heap.size, 0, none⟩) s.size (grownCap w s.size 0 5)) (Lib.bytesWorld w 5 s) := Lib.run_convert_string_bytes (P := Try.prog) w 9 40 5 s Try.underlying9 Try.underlying40 Try.underlying5
  have hrow := Row.bytes w 5 s (by unfold maxLen; omega)
  rw [← nums_bytesOf] at hrow
  have hbel := bytes_below w 5 s
  have hlw := Lib.bytesWorld_size w 5 s
  generalize Lib.bytesWorld w 5 s = W0 at *
  generalize grownCap w s.size 0 5 = cap0 at *
  have hL0 : Loc w W0 5 1 (.slice (some ⟨w.heap.size, 0, none⟩) s.size cap0) s.size (nums (bytesOf s)) := ⟨hrow, hbel, fun g hg => by
    have : w.heap.size = g := by simpa [Value.ownBlock] using hg
    omega⟩
  have HL0 := Lib.hid hL0
  have hlt : w.heap.size < W0.heap.size := by omega
  clear hrow hbel hlw hL0
  go_enter Try.func26, Try.ntmps26
  go_wp2_with (at_builtin; go_must (refine wpList_append_row _ (by rfl) _ _ _ _ (by rfl) 5 i0 (.int .u8 0) 1 1 Try.underlying40 HI.out HZ0.out HZ1.out HZ2.out rfl (by omega) _ _ _ (by rfl) (HL0.out.row.alloc _) _ (by rfl) 1 [.int .u8 128] (Feeds.slice Try.underlying40 ⟨W0.heap.size, 0, none⟩ 1 1 _ rfl (by simp [Value.oneCell']) (World.news_of_block (cs := #[.int .u8 128]) (t := 5) (fr := (0, 0)) (heap_alloc_new W0 _))) (by unfold maxLen; omega) (by omega) (W0.heap.size + 1) (by simp) ?_); intro ao2 cap2 w1 hown1 hgrow hat)
  have hloc := HL0.out.app ((Below.refl _ W0).alloc (Nat.le_refl _) _) hown1 hgrow hat (by omega)
  rw [show nums (bytesOf s) ++ [.int .u8 128] = nums (bytesOf s ++ [128]) by rw [nums_append]; rfl] at hloc
  have HL := Lib.hid hloc
  clear hloc hown1 hgrow hat hcv HL0 hlt
  go_loopg [3] (gap s.size) (fun j b wr => ∃ (k : Nat) (v : Value), j + k = gap s.size ∧ b = v ∧ Loc w wr 5 1 v (s.size + 1 + k) (nums (bytesOf s ++ [128] ++ List.replicate k 0)))
  case atStart => exact ⟨0, _, rfl, rfl, by simpa using HL.out⟩
  case round =>
    obtain ⟨k, v, hk, rfl, hA⟩ := hrel
    obtain ⟨m, hm⟩ : ∃ m, m = s.size + 1 + k := ⟨_, rfl⟩
    rw [← hm] at hA
    have hg := gap_lt s.size
    have hm1 : m ≤ 1000100 := by omega
    obtain ⟨ao, cap, rfl, hcap⟩ := hA.row.form
    by_cases hlt : k < gap s.size
    · have hne := gap_before s.size k hlt
      rw [← hm] at hne
      have ht : ((m : Int) % 64 != 56) = true := by simp; omega
      have HA := Lib.hid hA
      have HM := Lib.hid hm
      clear hA hm hne
      go_wp2_with (at_builtin; go_must (refine wpList_append_row _ (by rfl) _ _ _ _ (by rfl) 5 i0 (.int .u8 0) 1 1 Try.underlying40 HI.out HZ0.out HZ1.out HZ2.out rfl (by omega) _ _ _ (by rfl) (HA.out.row.alloc _) _ (by rfl) 1 [.int .u8 0] (Feeds.slice Try.underlying40 ⟨wr.heap.size, 0, none⟩ 1 1 _ rfl (by simp [Value.oneCell']) (World.news_of_block (cs := #[.int .u8 0]) (t := 5) (fr := (0, 0)) (heap_alloc_new wr _))) (by unfold maxLen; omega) (by omega) (wr.heap.size + 1) (by simp) ?_); intro ao3 cap3 w3 hown3 hgrow3 hat3)
      have hloc := HA.out.app ((Below.refl _ wr).alloc (Nat.le_refl _) _) hown3 hgrow3 hat3 (by omega)
      rw [show nums (bytesOf s ++ [128] ++ List.replicate k 0) ++ [.int .u8 0] = nums (bytesOf s ++ [128] ++ List.replicate (k + 1) 0) by rw [List.replicate_succ', ← List.append_assoc, nums_append _ [0]]; rfl, show m + 1 = s.size + 1 + (k + 1) by rw [HM.out]; omega] at hloc
      have HS := Lib.hid hloc
      have e1 : m + 1 = s.size + 1 + (k + 1) := by rw [HM.out]; omega
      clear hloc hown3 hgrow3 hat3
      go_roundg (gk - 1)
      case measure => omega
      case rel => exact ⟨k + 1, _, by omega, by rw [e1], HS.out⟩
    · obtain rfl : k = gap s.size := by omega
      have hga := gap_at s.size
      rw [← hm] at hga
      have ht : ((m : Int) % 64 != 56) = false := by simp; omega
      have HA := Lib.hid hA
      have HM := Lib.hid hm
      obtain ⟨B, hB⟩ : ∃ B : Int, B = 8 * (s.size : Int) := ⟨_, rfl⟩
      have hB0 : 0 ≤ B := by omega
      have hB1 : B ≤ 8000000 := by omega
      have HBB := Lib.hid hB
      have hB' := hB.symm
      clear hA hm hga hlt hk hB
      go_wp2
      obtain ⟨ys, hys⟩ : ∃ ys, ys = bytesOf s ++ [128] ++ List.replicate (gap s.size) 0 := ⟨_, rfl⟩
      have hA2 := HA.out
      rw [← hys] at hA2
      have HA2 := Lib.hid hA2
      have HYS := Lib.hid hys
      clear HA hA2 hys
      go_loopg [3, 5] 8 (fun j b sh wr => ∃ (k : Nat) (v : Value), j + k = 8 ∧ b = v ∧ sh = .int .i64 (56 - 8 * (k : Int)) ∧ Loc w wr 5 1 v (m + k) (nums (ys ++ (be8 B).take k)))
      case atStart => exact ⟨0, _, rfl, rfl, rfl, by simpa using HA2.out⟩
      case round =>
        obtain ⟨k, v, hk, rfl, rfl, hA⟩ := hrel
        obtain ⟨n, hn⟩ : ∃ n, n = m + k := ⟨_, rfl⟩
        rw [← hn] at hA
        have hn1 : n ≤ 1000200 := by omega
        obtain ⟨sh, hsh⟩ : ∃ sh : Int, sh = 56 - 8 * (k : Int) := ⟨_, rfl⟩
        rw [← hsh]
        obtain ⟨ao, cap, rfl, hcap⟩ := hA.row.form
        have HA := Lib.hid hA
        have HN := Lib.hid hn
        by_cases hlt : k < 8
        · have h0 : 0 ≤ sh := by omega
          have h56 : sh ≤ 56 := by omega
          have hmin : sh.toNat = 56 - 8 * k := by omega
          have HSH := Lib.hid hsh
          have HK := Lib.hid hlt
          have HMIN := Lib.hid hmin
          obtain ⟨y, hy⟩ : ∃ y, y = B / 2 ^ sh.toNat := ⟨_, rfl⟩
          have hy' := hy.symm
          have HY := Lib.hid hy
          clear hA hn hsh hlt hmin hy
          go_wp2_with (at_builtin; go_must (refine wpList_append_row _ (by rfl) _ _ _ _ (by rfl) 5 i0 (.int .u8 0) 1 1 Try.underlying40 HI.out HZ0.out HZ1.out HZ2.out rfl (by omega) _ _ _ (by rfl) (HA.out.row.alloc _) _ (by rfl) 1 [.int .u8 (y % 256)] (Feeds.slice Try.underlying40 ⟨wr.heap.size, 0, none⟩ 1 1 _ rfl (by simp [Value.oneCell']) (World.news_of_block (cs := #[.int .u8 (y % 256)]) (t := 5) (fr := (0, 0)) (heap_alloc_new wr _))) (by unfold maxLen; omega) (by omega) (wr.heap.size + 1) (by simp) ?_); intro ao4 cap4 w4 hown4 hgrow4 hat4)
          have hloc := HA.out.app ((Below.refl _ wr).alloc (Nat.le_refl _) _) hown4 hgrow4 hat4 (by omega)
          rw [show nums (ys ++ (be8 B).take k) ++ [.int .u8 (y % 256)] = nums (ys ++ (be8 B).take (k + 1)) by rw [be8_take B k HK.out, ← List.append_assoc, nums_append _ [_], HY.out, HMIN.out]; rfl, show n + 1 = m + (k + 1) by rw [HN.out]; omega] at hloc
          have HS := Lib.hid hloc
          have e1 : n + 1 = m + (k + 1) := by rw [HN.out]; omega
          have e2 : sh - 8 = 56 - 8 * ((k + 1 : Nat) : Int) := by rw [HSH.out]; omega
          clear hloc hown4 hgrow4 hat4 hy'
          go_roundg (gk - 1)
          case measure => omega
          case rel => exact ⟨k + 1, _, by omega, by rw [e1], by rw [e2], HS.out⟩
        · obtain rfl : k = 8 := by omega
          have h0 : sh < 0 := by omega
          clear hA hn hsh hlt
          go_wp2
          go_ret
          have hfin := HA.out
          have hl : (be8 B).length = 8 := by simp [be8]
          rw [List.take_of_length_le (by omega), HYS.out] at hfin
          have hfl : fill (bytesOf s) = bytesOf s ++ [128] ++ List.replicate (gap s.size) 0 ++ be8 B := by rw [fill, bytesOf_length, HBB.out]
          have hn8 : n = (fill (bytesOf s)).length := by
            rw [hfl]
            have := HN.out
            have := HM.out
            simp [bytesOf_length, hl]
            omega
          refine ⟨_, rfl, ?_⟩
          rw [← hfl] at hfin
          rw [← hn8]
          exact hfin
end Go.Proofs.Ytobgnmellbgfmaa.B
