/-
  The document's inodeWidths and Inode, walked.
-/
import Derived.Test.YtpbmgollolbgoaaInode
import Derived.Test.YtpbmgollolbgoaaRefRead
namespace Go.Proofs.Ytpbmgollolbgoaa.B
open Go.RowKit
set_option linter.unusedVariables false

def inodeWs : List Int := [2, 4, 6, 4, 4, 4, 4, 4, 4, 4, 4, 4, 4, 4, 4, 4, 4, 4]
theorem inodeWs_take (k : Nat) (h : k < 14) : inodeWs.take (4 + k + 1) = inodeWs.take (4 + k) ++ [4] := by
  rw [take_more _ _ (by simp [inodeWs]; omega)]
  congr 2
  match k, h with
  | 0, _ | 1, _ | 2, _ | 3, _ | 4, _ | 5, _ | 6, _ | 7, _ | 8, _ | 9, _ | 10, _ | 11, _ | 12, _ | 13, _ => rfl
set_option maxHeartbeats 1600000 in
theorem inodeWidths_any (w : World) : Calls Try.prog 52 #[] w fun e w' => ∃ v, e = .returned v ∧ Loc w w' 3 1 v 18 (ints inodeWs) := by
  obtain ⟨i0, hi, hz0, hz1, hz2⟩ := info_parts infoInt
  have HI := Lib.hid hi
  have HZ0 := Lib.hid hz0
  have HZ1 := Lib.hid hz1
  have HZ2 := Lib.hid hz2
  clear hi hz0 hz1 hz2
  have hL0 : Loc w (w.alloc (.cells #[.int .i64 2, .int .i64 4, .int .i64 6, .int .i64 4] 3)) 3 1 (.slice (some ⟨w.heap.size, 0, none⟩) 4 4) 4 (ints [2, 4, 6, 4]) :=
    ⟨Row.lit (get_top rfl) 4 rfl (by unfold maxLen; omega), (Below.refl _ w).alloc (Nat.le_refl _) _, fun g hg => by cases hg; exact Nat.le_refl _⟩
  have HL0 := Lib.hid hL0
  clear hL0
  go_enter Try.func52, Try.ntmps52
  go_wp2
  go_loopg [1, 2] 14 (fun j b i wr => ∃ (k : Nat) (v : Value), j + k = 14 ∧ i = .int .i64 k ∧ b = v ∧ Aside (Loc w wr 3 1 v (4 + k) (ints (inodeWs.take (4 + k)))))
  case atStart => exact ⟨0, _, rfl, rfl, rfl, HL0.out⟩
  case round =>
    obtain ⟨k, v, hk, rfl, rfl, hA⟩ := hrel
    by_cases hlt : k < 14
    · have hnx : ints (inodeWs.take (4 + k + 1)) = ints (inodeWs.take (4 + k)) ++ [.int .i64 4] := by rw [inodeWs_take k hlt]; simp [ints]
      have HNX := Lib.hid hnx
      clear hnx
      go_wp2_with (at_builtin; go_must (refine wpList_append_row _ (by rfl) _ _ _ _ (by rfl) 3 i0 (.int .i64 0) 1 8 Try.underlying71 HI.out HZ0.out HZ1.out HZ2.out rfl (by omega) _ _ _ (by rfl) (hA.out.row.alloc _) _ (by rfl) 1 [.int .i64 4] (Feeds.slice Try.underlying71 ⟨wr.heap.size, 0, none⟩ 1 1 _ rfl (by simp [Value.oneCell']) (World.news_of_block (cs := #[.int .i64 4]) (t := 3) (fr := (0, 0)) (heap_alloc_new wr _))) (by unfold maxLen; omega) (by omega) (wr.heap.size + 1) (by simp) ?_); intro ao2 cap2 w1 hown1 hgrow hat; have hloc := Lib.hid (hA.out.app ((Below.refl _ wr).alloc (Nat.le_refl _) _) hown1 hgrow hat (by omega)))
      go_roundg (gk - 1)
      case measure => omega
      case rel => exact ⟨k + 1, _, by omega, by go_num, rfl, by rw [show 4 + (k + 1) = 4 + k + 1 from rfl, HNX.out]; exact hloc.out⟩
    · obtain rfl : gk = 0 := by omega
      obtain rfl : k = 14 := by omega
      have HL := Lib.hid hA.out
      go_wp2
      go_ret
      exact ⟨_, rfl, HL.out⟩

set_option maxRecDepth 100000 in
set_option maxHeartbeats 3200000 in
theorem refInode_any (a0 a1 a2 a3 a4 a5 a6 a7 a8 a9 a10 a11 a12 a13 a14 a15 a16 a17 : Int) (hi : ∀ x ∈ [a0, a1, a2, a3, a4, a5, a6, a7, a8, a9, a10, a11, a12, a13, a14, a15, a16, a17], -9223372036854775808 ≤ x ∧ x ≤ 9223372036854775807) (w : World) :
    Calls Try.prog 33 #[.agg #[.int .i64 a0, .int .i64 a1, .int .i64 a2, .int .i64 a3, .int .i64 a4, .int .i64 a5, .int .i64 a6, .int .i64 a7, .int .i64 a8, .int .i64 a9, .int .i64 a10, .int .i64 a11, .int .i64 a12, .int .i64 a13, .int .i64 a14, .int .i64 a15, .int .i64 a16, .int .i64 a17]] w fun e w' => e = .returned (.tuple #[.string (inodeSpec a0 (inodeFs a0 a1 a2 a3 a4 a5 a6 a7 a8 a9 a10 a11 a12 a13 a14 a15 a16 a17)).1, .int .i64 (inodeSpec a0 (inodeFs a0 a1 a2 a3 a4 a5 a6 a7 a8 a9 a10 a11 a12 a13 a14 a15 a16 a17)).2]) ∧ Below w.heap.size w w' := by
  have hu := Try.underlying50
  have hua := Try.underlying48
  obtain ⟨i0, hi0, hz0, hz1, hz2⟩ := info_parts infoInt
  have HI := Lib.hid hi0
  have HZ0 := Lib.hid hz0
  have HZ1 := Lib.hid hz1
  have HZ2 := Lib.hid hz2
  clear hi0 hz0 hz1 hz2
  obtain ⟨l, hl⟩ : ∃ l : List Int, l = [a0, a1, a2, a3, a4, a5, a6, a7, a8, a9, a10, a11, a12, a13, a14, a15, a16, a17] := ⟨_, rfl⟩
  have hll : l.length = 18 := by rw [hl]; rfl
  have hblk0 : (w.alloc (.cells #[.int .i64 a0, .int .i64 a1, .int .i64 a2, .int .i64 a3, .int .i64 a4, .int .i64 a5, .int .i64 a6, .int .i64 a7, .int .i64 a8, .int .i64 a9, .int .i64 a10, .int .i64 a11, .int .i64 a12, .int .i64 a13, .int .i64 a14, .int .i64 a15, .int .i64 a16, .int .i64 a17] 50 (0, 0))).heap[w.heap.size]? = some (.cells #[.int .i64 a0, .int .i64 a1, .int .i64 a2, .int .i64 a3, .int .i64 a4, .int .i64 a5, .int .i64 a6, .int .i64 a7, .int .i64 a8, .int .i64 a9, .int .i64 a10, .int .i64 a11, .int .i64 a12, .int .i64 a13, .int .i64 a14, .int .i64 a15, .int .i64 a16, .int .i64 a17] 50 (0, 0)) := get_top rfl
  have hcl : ∀ k, k < 18 → (#[.int .i64 a0, .int .i64 a1, .int .i64 a2, .int .i64 a3, .int .i64 a4, .int .i64 a5, .int .i64 a6, .int .i64 a7, .int .i64 a8, .int .i64 a9, .int .i64 a10, .int .i64 a11, .int .i64 a12, .int .i64 a13, .int .i64 a14, .int .i64 a15, .int .i64 a16, .int .i64 a17] : Array Value)[k]? = some (.int .i64 (l.getD k 0)) := by
    intro k hk
    rw [hl]
    rcases (show k = 0 ∨ k = 1 ∨ k = 2 ∨ k = 3 ∨ k = 4 ∨ k = 5 ∨ k = 6 ∨ k = 7 ∨ k = 8 ∨ k = 9 ∨ k = 10 ∨ k = 11 ∨ k = 12 ∨ k = 13 ∨ k = 14 ∨ k = 15 ∨ k = 16 ∨ k = 17 by omega) with rfl | rfl | rfl | rfl | rfl | rfl | rfl | rfl | rfl | rfl | rfl | rfl | rfl | rfl | rfl | rfl | rfl | rfl <;> rfl
  have hL0 : Loc (w.alloc (.cells #[.int .i64 a0, .int .i64 a1, .int .i64 a2, .int .i64 a3, .int .i64 a4, .int .i64 a5, .int .i64 a6, .int .i64 a7, .int .i64 a8, .int .i64 a9, .int .i64 a10, .int .i64 a11, .int .i64 a12, .int .i64 a13, .int .i64 a14, .int .i64 a15, .int .i64 a16, .int .i64 a17] 50 (0, 0))) ((w.alloc (.cells #[.int .i64 a0, .int .i64 a1, .int .i64 a2, .int .i64 a3, .int .i64 a4, .int .i64 a5, .int .i64 a6, .int .i64 a7, .int .i64 a8, .int .i64 a9, .int .i64 a10, .int .i64 a11, .int .i64 a12, .int .i64 a13, .int .i64 a14, .int .i64 a15, .int .i64 a16, .int .i64 a17] 50 (0, 0))).alloc (.cells #[.int .i64 a0, .int .i64 a1, .int .i64 a2, .int .i64 a3] 3)) 3 1 (.slice (some ⟨w.heap.size + 1, 0, none⟩) 4 4) 4 (ints (l.take 4)) := by
    refine ⟨?_, (Below.refl _ _).alloc (Nat.le_refl _) _, fun g hg => by
      simp [Value.ownBlock] at hg
      simp
      omega⟩
    rw [hl]
    exact Row.lit (get_top (by simp)) 4 rfl (by unfold maxLen; omega)
  have hW0 : ∀ W, Below (w.alloc (.cells #[.int .i64 a0, .int .i64 a1, .int .i64 a2, .int .i64 a3, .int .i64 a4, .int .i64 a5, .int .i64 a6, .int .i64 a7, .int .i64 a8, .int .i64 a9, .int .i64 a10, .int .i64 a11, .int .i64 a12, .int .i64 a13, .int .i64 a14, .int .i64 a15, .int .i64 a16, .int .i64 a17] 50 (0, 0))).heap.size (w.alloc (.cells #[.int .i64 a0, .int .i64 a1, .int .i64 a2, .int .i64 a3, .int .i64 a4, .int .i64 a5, .int .i64 a6, .int .i64 a7, .int .i64 a8, .int .i64 a9, .int .i64 a10, .int .i64 a11, .int .i64 a12, .int .i64 a13, .int .i64 a14, .int .i64 a15, .int .i64 a16, .int .i64 a17] 50 (0, 0))) W → ∀ k, k < 18 → W.cell? ⟨w.heap.size, k, none⟩ = some (.int .i64 (l.getD k 0)) := by
    intro W hb k hk
    have h1 : W.heap[w.heap.size]? = some (.cells #[.int .i64 a0, .int .i64 a1, .int .i64 a2, .int .i64 a3, .int .i64 a4, .int .i64 a5, .int .i64 a6, .int .i64 a7, .int .i64 a8, .int .i64 a9, .int .i64 a10, .int .i64 a11, .int .i64 a12, .int .i64 a13, .int .i64 a14, .int .i64 a15, .int .i64 a16, .int .i64 a17] 50 (0, 0)) := (hb.block _ (by simp)).trans hblk0
    rw [blk_cell h1, hcl k hk]
  have HLL := Lib.hid hll
  have HL0 := Lib.hid hL0
  have HW0 := Lib.hid hW0
  have HEQ := Lib.hid hl
  have HR := Lib.hid hi
  clear hL0 hblk0 hcl hW0 hi hl
  go_enter Try.func33, Try.ntmps33
  go_wp2
  go_loopg [4, 5] 12 (fun j b i wr => ∃ (k : Nat) (v : Value), j + k = 12 ∧ i = .int .i64 k ∧ b = v ∧ Aside (True ∧ Loc (w.alloc (.cells #[.int .i64 a0, .int .i64 a1, .int .i64 a2, .int .i64 a3, .int .i64 a4, .int .i64 a5, .int .i64 a6, .int .i64 a7, .int .i64 a8, .int .i64 a9, .int .i64 a10, .int .i64 a11, .int .i64 a12, .int .i64 a13, .int .i64 a14, .int .i64 a15, .int .i64 a16, .int .i64 a17] 50 (0, 0))) wr 3 1 v (4 + k) (ints (l.take (4 + k)))))
  case atStart => exact ⟨0, _, rfl, rfl, rfl, trivial, HL0.out⟩
  case round =>
    obtain ⟨k, v, hk, rfl, rfl, hA⟩ := hrel
    by_cases hlt : k < 12
    · have hcell := HW0.out wr hA.out.2.below (4 + k) (by omega)
      have hpl : w.heap.size < wr.heap.size := by have := hA.out.2.below.size; simp at this; omega
      have hnx : ints (l.take (4 + k + 1)) = ints (l.take (4 + k)) ++ [.int .i64 (l.getD (4 + k) 0)] := by rw [take_more _ _ (by rw [HLL.out]; omega)]; simp [ints]
      obtain ⟨y, hy⟩ : ∃ y, y = l.getD (4 + k) 0 := ⟨_, rfl⟩
      rw [← hy] at hcell hnx
      have HNX := Lib.hid hnx
      have b1 : (0 : Int) ≤ (k : Int) := by omega
      have b2 : (k : Int) < 12 := by omega
      clear hnx hy
      go_wp2_with (at_builtin; go_must (refine wpList_append_row _ (by rfl) _ _ _ _ (by rfl) 3 i0 (.int .i64 0) 1 8 Try.underlying71 HI.out HZ0.out HZ1.out HZ2.out rfl (by omega) _ _ _ (by rfl) (hA.out.2.row.alloc _) _ (by rfl) 1 [.int .i64 y] (Feeds.slice Try.underlying71 ⟨wr.heap.size, 0, none⟩ 1 1 _ rfl (by simp [Value.oneCell']) (World.news_of_block (cs := #[.int .i64 y]) (t := 3) (fr := (0, 0)) (heap_alloc_new wr _))) (by unfold maxLen; omega) (by omega) (wr.heap.size + 1) (by simp) ?_); intro ao2 cap2 w1 hown1 hgrow hat; have hloc := Lib.hid (hA.out.2.app ((Below.refl _ wr).alloc (Nat.le_refl _) _) hown1 hgrow hat (by omega)))
      go_roundg (gk - 1)
      case measure => omega
      case rel => exact ⟨k + 1, _, by omega, by go_num, rfl, trivial, by rw [show 4 + (k + 1) = 4 + k + 1 from rfl, HNX.out]; exact hloc.out⟩
    · obtain rfl : gk = 0 := by omega
      have hk12 : k = 12 := by omega
      subst hk12
      have hc16 := HW0.out wr hA.out.2.below 16 (by omega)
      have hc17 := HW0.out wr hA.out.2.below 17 (by omega)
      have hpl : w.heap.size < wr.heap.size := by have := hA.out.2.below.size; simp at this; omega
      have hnx : ints l = ints (l.take 16) ++ [.int .i64 a16, .int .i64 a17] := by rw [HEQ.out]; rfl
      rw [show l.getD 16 0 = a16 by rw [HEQ.out]; rfl] at hc16
      rw [show l.getD 17 0 = a17 by rw [HEQ.out]; rfl] at hc17
      have HNX := Lib.hid hnx
      clear hnx
      go_wp2_with (at_builtin; go_must (refine wpList_append_row _ (by rfl) _ _ _ _ (by rfl) 3 i0 (.int .i64 0) 1 8 Try.underlying71 HI.out HZ0.out HZ1.out HZ2.out rfl (by omega) _ _ _ (by rfl) (hA.out.2.row.alloc _) _ (by rfl) 2 [.int .i64 a16, .int .i64 a17] (Feeds.slice Try.underlying71 ⟨wr.heap.size, 0, none⟩ 2 2 _ rfl (by simp [Value.oneCell']) (World.news_of_block (cs := #[.int .i64 a16, .int .i64 a17]) (t := 3) (fr := (0, 0)) (heap_alloc_new wr _))) (by unfold maxLen; omega) (by omega) (wr.heap.size + 1) (by simp) ?_); intro ao2 cap2 w1 hown1 hgrow hat; have hloc := Lib.hid (hA.out.2.app ((Below.refl _ wr).alloc (Nat.le_refl _) _) hown1 hgrow hat (by omega)))
      refine (inodeWidths_any _).mono ?_
      rintro e w2 ⟨vw, rfl, hLw⟩
      have hrow := (hloc.out.step hLw.below).row
      rw [← HNX.out] at hrow
      have hrow' : Row w2 3 1 (.slice ao2 18 cap2) l.length (ints l) := by rw [HLL.out]; exact hrow
      have hb2 := hloc.out.below.trans (hLw.below.mono hloc.out.below.size)
      have HR1 := Lib.hid hrow'
      have HR2 := Lib.hid (show Row w2 3 1 vw inodeWs.length (ints inodeWs) from hLw.row)
      have HB2 := Lib.hid hb2
      have HRL := Lib.hid (show ∀ x ∈ l, -9223372036854775808 ≤ x ∧ x ≤ 9223372036854775807 by rw [HEQ.out]; exact HR.out)
      clear hrow hrow' hb2 hLw
      go_wp2_with fail
      by_cases hgood : good (inodeFs a0 a1 a2 a3 a4 a5 a6 a7 a8 a9 a10 a11 a12 a13 a14 a15 a16 a17) = true
      · have hld : laidSpec (sides l inodeWs) = (strOfNums (lay (inodeFs a0 a1 a2 a3 a4 a5 a6 a7 a8 a9 a10 a11 a12 a13 a14 a15 a16 a17)), true) := by
          rw [HEQ.out, laidSpec, show sides [a0, a1, a2, a3, a4, a5, a6, a7, a8, a9, a10, a11, a12, a13, a14, a15, a16, a17] inodeWs = inodeFs a0 a1 a2 a3 a4 a5 a6 a7 a8 a9 a10 a11 a12 a13 a14 a15 a16 a17 from rfl, if_pos hgood]
        obtain ⟨x, hx⟩ : ∃ x, x = strOfNums (lay (inodeFs a0 a1 a2 a3 a4 a5 a6 a7 a8 a9 a10 a11 a12 a13 a14 a15 a16 a17)) := ⟨_, rfl⟩
        have hxs : x.size = 72 := by rw [hx, strOfNums_size, lay_length]; rfl
        rw [← hx] at hld
        refine (laid_any _ _ l inodeWs _ HR1.out HR2.out (by rw [HLL.out]; rfl) (by rw [HLL.out]; decide) HRL.out (by decide)).mono ?_
        rw [hld]
        rintro e w3 ⟨rfl, hb3⟩
        have hb3' := HB2.out.trans (hb3.mono HB2.out.size)
        have hc0 := HW0.out w3 hb3' 0 (by omega)
        rw [show l.getD 0 0 = a0 by rw [HEQ.out]; rfl] at hc0
        have hpl3 : w.heap.size < w3.heap.size := by have := hb3'.size; simp at this; omega
        have HB3 := Lib.hid hb3'
        by_cases hk3 : 3 < a0
        · have hs : inodeSpec a0 (inodeFs a0 a1 a2 a3 a4 a5 a6 a7 a8 a9 a10 a11 a12 a13 a14 a15 a16 a17) = (⟨#[]⟩, 2) := by rw [inodeSpec, if_neg (by omega)]
          have HS := Lib.hid hs
          clear hs hb3 hb3' hld hx hgood hA hc16 hc17 hloc
          go_wp2
          go_ret2
          rw [HS.out]
          exact ⟨rfl, ((Below.refl _ w).alloc (Nat.le_refl _) _).trans (HB3.out.mono (by simp))⟩
        · have hs : inodeSpec a0 (inodeFs a0 a1 a2 a3 a4 a5 a6 a7 a8 a9 a10 a11 a12 a13 a14 a15 a16 a17) = (x ++ strOfNums (List.replicate 376 0), 0) := by rw [inodeSpec, if_pos ⟨by omega, hgood⟩, ← hx]
          obtain ⟨z, hzz⟩ : ∃ z, z = strOfNums (List.replicate 376 (0 : Int)) := ⟨_, rfl⟩
          have hzs : z.size = 376 := by rw [hzz, strOfNums_size, List.length_replicate]
          rw [← hzz] at hs
          have HS := Lib.hid hs
          have HZ := Lib.hid hzz
          have q1 : (9223372036854775807 < x.size + z.size) = False := by simp; omega
          clear hs hb3 hb3' hld hx hgood hA hc16 hc17 hloc hzz
          go_wp2_with fail
          refine (Noughts_any 376 (by omega) (by omega) _).mono ?_
          rw [show strOfNums (List.replicate (376 : Int).toNat 0) = z from HZ.out.symm]
          rintro e w4 ⟨rfl, hb4⟩
          have HB4 := Lib.hid hb4
          clear hb4
          go_wp2
          go_ret2
          rw [HS.out]
          exact ⟨rfl, ((Below.refl _ w).alloc (Nat.le_refl _) _).trans ((HB3.out.trans (HB4.out.mono HB3.out.size)).mono (by simp))⟩
      · have hld : laidSpec (sides l inodeWs) = (⟨#[]⟩, false) := by
          rw [HEQ.out, laidSpec, show sides [a0, a1, a2, a3, a4, a5, a6, a7, a8, a9, a10, a11, a12, a13, a14, a15, a16, a17] inodeWs = inodeFs a0 a1 a2 a3 a4 a5 a6 a7 a8 a9 a10 a11 a12 a13 a14 a15 a16 a17 from rfl, if_neg hgood]
        have hs : inodeSpec a0 (inodeFs a0 a1 a2 a3 a4 a5 a6 a7 a8 a9 a10 a11 a12 a13 a14 a15 a16 a17) = (⟨#[]⟩, 2) := by rw [inodeSpec, if_neg (fun h => hgood h.2)]
        refine (laid_any _ _ l inodeWs _ HR1.out HR2.out (by rw [HLL.out]; rfl) (by rw [HLL.out]; decide) HRL.out (by decide)).mono ?_
        rw [hld]
        rintro e w3 ⟨rfl, hb3⟩
        have HB3 := Lib.hid (HB2.out.trans (hb3.mono HB2.out.size))
        have HS := Lib.hid hs
        clear hs hb3 hld hgood hA hc16 hc17 hloc
        go_wp2
        go_ret2
        rw [HS.out]
        exact ⟨rfl, ((Below.refl _ w).alloc (Nat.le_refl _) _).trans (HB3.out.mono (by simp))⟩
end Go.Proofs.Ytpbmgollolbgoaa.B
