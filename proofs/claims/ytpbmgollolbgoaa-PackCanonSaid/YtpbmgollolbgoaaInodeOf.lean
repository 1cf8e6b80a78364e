/-
  pack.InodeOf, walked: eighteen numbers, twelve of them read in a loop into the array.
-/
import Derived.Test.YtpbmgollolbgoaaRest
import Derived.Test.YtpbmgollolbgoaaRefInode
import Derived.Test.YtpbmgollolbgoaaRefRead
import Derived.Test.YtpbmgollolbgoaaBlocks
namespace Go.Proofs.Ytpbmgollolbgoaa.B
open Go.RowKit
set_option linter.unusedVariables false

/-- The eighteen numbers of an inode's bytes. -/
def inodeNums (s : ByteArray) : List Int := numsAt s 0 inodeWs
theorem inodeNums_length (s : ByteArray) : (inodeNums s).length = 18 := by rw [inodeNums, numsAt_length]; rfl
/-- What a block's body says: the numbers and the error. -/
def inodeOfSpec (s : ByteArray) : List Int × Int :=
  if 448 < s.size then (List.replicate 18 0, 4) else if s.size < 448 then (List.replicate 18 0, 3)
  else if 3 < num s 0 2 ∨ restSpec s 72 = false then (List.replicate 18 0, 5)
  else (inodeNums s, 0)

/-- The cells when 4 + k of the numbers are there. -/
def inodeAt (fl : List Int) (k : Nat) : Array Value := (ints (fl.take (4 + k) ++ List.replicate (14 - k) 0)).toArray
theorem inodeAt_size (fl : List Int) (hl : fl.length = 18) (k : Nat) (hk : k ≤ 14) : (inodeAt fl k).size = 18 := by
  simp [inodeAt, ints, hl]
  omega
theorem inodeAt_cell (fl : List Int) (hl : fl.length = 18) (k : Nat) (hk : k < 14) : (inodeAt fl k)[4 + k]? = some (.int .i64 0) := by
  simp only [inodeAt, ints, List.getElem?_toArray, List.getElem?_map]
  rw [List.getElem?_append_right (by simp; omega)]
  simp [hl]
  rw [List.getElem?_replicate]
  simp
  omega
theorem inodeAt_set (fl : List Int) (hl : fl.length = 18) (k : Nat) (hk : k < 14) : (inodeAt fl k).setIfInBounds (4 + k) (.int .i64 (fl.getD (4 + k) 0)) = inodeAt fl (k + 1) := by
  simp only [inodeAt, ints, List.setIfInBounds_toArray]
  congr 1
  rw [show (Value.int .i64 (fl.getD (4 + k) 0)) = (fun x => Value.int .i64 x) (fl.getD (4 + k) 0) from rfl, ← List.map_set]
  congr 1
  have h1 : (fl.take (4 + k)).length = 4 + k := by simp; omega
  rw [List.set_append_right _ _ (by omega), h1, Nat.sub_self, show 14 - k = (14 - (k + 1)) + 1 by omega, List.replicate_succ, List.set_cons_zero]
  rw [show 4 + (k + 1) = (4 + k) + 1 by omega, List.take_add_one, List.getElem?_eq_getElem (by omega : 4 + k < fl.length)]
  simp [List.getD, List.getElem?_eq_getElem (by omega : 4 + k < fl.length)]
  rw [← List.take_append_getElem (by omega : 4 + k < fl.length), List.append_assoc]
  rfl
theorem inodeAt_full (fl : List Int) (hl : fl.length = 18) : inodeAt fl 14 = (ints fl).toArray := by
  rw [inodeAt, List.take_of_length_le (by omega)]
  simp
theorem inodeAt_first (fl : List Int) (hl : fl.length = 18) (k : Nat) : (inodeAt fl k)[0]? = some (.int .i64 (fl.getD 0 0)) := by
  match fl, hl with
  | x :: r, _ =>
    rw [inodeAt, show 4 + k = (3 + k) + 1 by omega]
    simp [ints, List.getD]

theorem inodeAt_zero (s : ByteArray) : inodeAt (inodeNums s) 0 = #[.int .i64 (num s 0 2), .int .i64 (num s 2 4), .int .i64 (num s 6 6), .int .i64 (num s 12 4), .int .i64 0, .int .i64 0, .int .i64 0, .int .i64 0, .int .i64 0, .int .i64 0, .int .i64 0, .int .i64 0, .int .i64 0, .int .i64 0, .int .i64 0, .int .i64 0, .int .i64 0, .int .i64 0] := by
  simp [inodeAt, inodeNums, inodeWs, numsAt, ints, List.replicate]
theorem inodeNums_first (s : ByteArray) : (inodeNums s).getD 0 0 = num s 0 2 := by
  simp [inodeNums, inodeWs, numsAt]
theorem inodeNums_get (s : ByteArray) (k : Nat) (hk : k < 14) : num s (16 + 4 * k) 4 = (inodeNums s).getD (4 + k) 0 := by
  have h : k = 0 ∨ k = 1 ∨ k = 2 ∨ k = 3 ∨ k = 4 ∨ k = 5 ∨ k = 6 ∨ k = 7 ∨ k = 8 ∨ k = 9 ∨ k = 10 ∨ k = 11 ∨ k = 12 ∨ k = 13 := by omega
  rcases h with rfl | rfl | rfl | rfl | rfl | rfl | rfl | rfl | rfl | rfl | rfl | rfl | rfl | rfl <;> simp [inodeNums, inodeWs, numsAt]
/-- A reader with an inode begun: block g holds 4 + k of the numbers. -/
structure RdI (w0 : World) (s : ByteArray) (p : Nat) (fl : List Int) (g k : Nat) (W : World) : Prop where
  rd : Rd w0 [.cells (ints (List.replicate 18 0)).toArray 50 (0, 0)] s p W
  blk : W.heap[g]? = some (.cells (inodeAt fl k) 50 (0, 0))
  gt : w0.heap.size + 1 < g
theorem RdI.step {w0 W : World} {s : ByteArray} {p : Nat} {fl : List Int} {g k : Nat} (h : RdI w0 s p fl g k W) (x : Int) (q : Nat) (hq : (p : Int) + x = q) (n : Nat) :
    RdI w0 s q fl g k ((W.setCell ⟨w0.heap.size + 1, 1, none⟩ (.int .i64 (p + x))).drewN n) :=
  ⟨h.rd.step x q hq n, (Below.heap_setCell W _ _ _ (by have := h.gt; simp; omega)).trans h.blk, h.gt⟩
theorem RdI.put {w0 W : World} {s : ByteArray} {p : Nat} {fl : List Int} {g k : Nat} (h : RdI w0 s p fl g k W) (hl : fl.length = 18) (hk : k < 14) :
    RdI w0 s p fl g (k + 1) (W.setCell ⟨g, 4 + k, none⟩ (.int .i64 (fl.getD (4 + k) 0))) := by
  have hg := h.gt
  refine ⟨⟨h.rd.bel.setCell (by simp; omega) _, fun i o hi => ?_, ?_⟩, ?_, hg⟩
  · rw [← h.rd.box i o hi]
    have hlt : i < 1 := by simpa using (List.getElem?_eq_some_iff.mp hi).1
    exact Below.heap_setCell W _ _ _ (by simp; omega)
  · exact (Below.heap_setCell W _ _ _ (by simp; omega)).trans h.rd.cu
  · rw [blk_set h.blk, inodeAt_set fl hl k hk]

theorem infoInode : (Try.prog.info? 50).map (·.size) = some 18 := by kernel_rfl
theorem ints_oneCell (xs : List Int) : ∀ v ∈ ints xs, v.oneCell' = true := by
  intro v hv
  simp only [ints, List.mem_map] at hv
  obtain ⟨x, _, rfl⟩ := hv
  rfl

set_option maxRecDepth 100000 in
set_option maxHeartbeats 3200000 in
theorem InodeOf_bad (s : ByteArray) (hb : ¬ s.size = 448) (w : World) :
    Calls Try.prog 34 #[.string s] w fun e w' => e = .returned (.tuple #[.agg (ints (inodeOfSpec s).1).toArray, .int .i64 (inodeOfSpec s).2]) ∧ Below w.heap.size w w' := by
  have hu := Try.underlying50
  by_cases hlong : 448 < s.size
  · have h : inodeOfSpec s = (List.replicate 18 0, 4) := by rw [inodeOfSpec, if_pos hlong]
    have H := Lib.hid h
    clear h
    have hz := heap_alloc_new w (.cells (ints (List.replicate 18 0)).toArray 50 (0, 0))
    have HZ := Lib.hid hz
    clear hz
    go_enter Try.func34, Try.ntmps34
    go_wp2_with (refine wpList_store_row (by rfl) 50 _ _ (by rfl) w.heap.size (ints (List.replicate 18 0)).toArray (ints (List.replicate 18 0)).toArray 50 (by rfl) (by rfl) HZ.out rfl infoInode (ints_oneCell _) ?_; intro W1 hW1 hK1; have HW1 := Lib.hid hW1; have HK1 := Lib.hid hK1; clear hW1 hK1)
    refine bodyPost_row_tmp rfl w.heap.size 50 (ints (List.replicate 18 0)).toArray (0, 0) _ (by rfl) HW1.out Try.underlying50 rfl infoInode rfl ?_
    rw [H.out]
    exact ⟨rfl, ((Below.refl _ w).alloc (Nat.le_refl _) _).trans (HK1.out.below (by simp) (by intro i hi; omega))⟩
  by_cases hless : s.size < 448
  · have h : inodeOfSpec s = (List.replicate 18 0, 3) := by rw [inodeOfSpec, if_neg hlong, if_pos hless]
    have H := Lib.hid h
    clear h
    have hz := heap_alloc_new w (.cells (ints (List.replicate 18 0)).toArray 50 (0, 0))
    have HZ := Lib.hid hz
    clear hz
    go_enter Try.func34, Try.ntmps34
    go_wp2_with (refine wpList_store_row (by rfl) 50 _ _ (by rfl) w.heap.size (ints (List.replicate 18 0)).toArray (ints (List.replicate 18 0)).toArray 50 (by rfl) (by rfl) HZ.out rfl infoInode (ints_oneCell _) ?_; intro W1 hW1 hK1; have HW1 := Lib.hid hW1; have HK1 := Lib.hid hK1; clear hW1 hK1)
    refine bodyPost_row_tmp rfl w.heap.size 50 (ints (List.replicate 18 0)).toArray (0, 0) _ (by rfl) HW1.out Try.underlying50 rfl infoInode rfl ?_
    rw [H.out]
    exact ⟨rfl, ((Below.refl _ w).alloc (Nat.le_refl _) _).trans (HK1.out.below (by simp) (by intro i hi; omega))⟩
  omega

set_option maxRecDepth 100000 in
set_option maxHeartbeats 3200000 in
theorem InodeOf_ok (s : ByteArray) (hsz : s.size = 448) (w : World) :
    Calls Try.prog 34 #[.string s] w fun e w' => e = .returned (.tuple #[.agg (ints (inodeOfSpec s).1).toArray, .int .i64 (inodeOfSpec s).2]) ∧ Below w.heap.size w w' := by
  have hu := Try.underlying50
  have hua := Try.underlying48
  have hlong : ¬ 448 < s.size := by omega
  have hless : ¬ s.size < 448 := by omega
  have hspec : inodeOfSpec s = if 3 < num s 0 2 ∨ restSpec s 72 = false then (List.replicate 18 0, 5) else (inodeNums s, 0) := by rw [inodeOfSpec, if_neg hlong, if_neg hless]
  have HSPEC := Lib.hid hspec
  have HSZ := Lib.hid hsz
  clear hspec hlong hless
  go_enter Try.func34, Try.ntmps34
  go_wp2_with fail
  have R0 := Rd.made1 w (.cells (ints (List.replicate 18 0)).toArray 50 (0, 0)) s
  refine (take_ok (w.heap.size + 1) s 0 2 _ R0.cu (by omega) (by omega) (by omega) (by omega)).mono ?_
  rintro e w1 ⟨rfl, nd, hw⟩
  have R1' := hw ▸ R0.step 2 2 rfl nd
  have RH := Lib.hid R1'
  clear R0 R1' hw
  go_wp2_with fail
  have R0 := RH.out
  clear RH
  refine (take_ok (w.heap.size + 1) s 2 4 _ R0.cu (by omega) (by omega) (by omega) (by omega)).mono ?_
  rintro e w2 ⟨rfl, nd, hw⟩
  have R1' := hw ▸ R0.step 4 6 rfl nd
  have RH := Lib.hid R1'
  clear R0 R1' hw
  go_wp2_with fail
  have R0 := RH.out
  clear RH
  refine (take_ok (w.heap.size + 1) s 6 6 _ R0.cu (by omega) (by omega) (by omega) (by omega)).mono ?_
  rintro e w3 ⟨rfl, nd, hw⟩
  have R1' := hw ▸ R0.step 6 12 rfl nd
  have RH := Lib.hid R1'
  clear R0 R1' hw
  go_wp2_with fail
  have R0 := RH.out
  clear RH
  refine (take_ok (w.heap.size + 1) s 12 4 _ R0.cu (by omega) (by omega) (by omega) (by omega)).mono ?_
  rintro e w4 ⟨rfl, nd, hw⟩
  have R1' := hw ▸ R0.step 4 16 rfl nd
  have RH := Lib.hid R1'
  clear R0 R1' hw
  go_wp2_with fail
  have R0 := RH.out
  clear RH
  obtain ⟨fl, hfl⟩ : ∃ fl, fl = inodeNums s := ⟨_, rfl⟩
  have hf0 : num s 0 2 = fl.getD 0 0 := by rw [hfl, inodeNums_first]
  have hlen : fl.length = 18 := by rw [hfl, inodeNums_length]
  have hblk : (w4.alloc (.cells #[.int .i64 (num s 0 2), .int .i64 (num s 2 4), .int .i64 (num s 6 6), .int .i64 (num s 12 4), .int .i64 0, .int .i64 0, .int .i64 0, .int .i64 0, .int .i64 0, .int .i64 0, .int .i64 0, .int .i64 0, .int .i64 0, .int .i64 0, .int .i64 0, .int .i64 0, .int .i64 0, .int .i64 0] 50 (0, 0))).heap[w4.heap.size]? = some (.cells (inodeAt fl 0) 50 (0, 0)) := by
    rw [get_top rfl, hfl, inodeAt_zero]
  have h4 : w.heap.size + 1 < w4.heap.size := blk_lt R0.cu
  have RI : RdI w s 16 fl w4.heap.size 0 (w4.alloc (.cells #[.int .i64 (num s 0 2), .int .i64 (num s 2 4), .int .i64 (num s 6 6), .int .i64 (num s 12 4), .int .i64 0, .int .i64 0, .int .i64 0, .int .i64 0, .int .i64 0, .int .i64 0, .int .i64 0, .int .i64 0, .int .i64 0, .int .i64 0, .int .i64 0, .int .i64 0, .int .i64 0, .int .i64 0] 50 (0, 0))) := ⟨R0.alloc _, hblk, h4⟩
  have HI := Lib.hid RI
  have HFL := Lib.hid hfl
  have HF0 := Lib.hid hf0
  have HLEN := Lib.hid hlen
  clear R0 RI hblk hfl hf0 hlen
  generalize w4.heap.size = g at *
  go_loopw [22] (fun i wr => ∃ k : Nat, k ≤ 12 ∧ i = .int .i64 k ∧ RdI w s (16 + 4 * k) fl g k wr) (fun i _ => 12 - (intOf i).toNat)
  case atStart => exact ⟨0, by omega, rfl, HI.out⟩
  case round =>
    obtain ⟨k, hk, rfl, hI⟩ := hrel
    have HI := Lib.hid hI
    clear hI
    by_cases hlt : k < 12
    · obtain ⟨x, hx⟩ : ∃ x, x = fl.getD (4 + k) 0 := ⟨_, rfl⟩
      have hn : num s (16 + 4 * k) (4 : Int).toNat = x := by rw [hx, HFL.out]; exact inodeNums_get s k (by omega)
      have HX := Lib.hid hx
      clear hx
      go_wp2_with fail
      refine (take_ok (w.heap.size + 1) s (16 + 4 * k) 4 _ HI.out.rd.cu (by omega) (by omega) (by omega) (by omega)).mono ?_
      rw [hn]
      rintro e w5 ⟨rfl, nd, hw⟩
      have R1 := hw ▸ HI.out.step 4 (16 + 4 * (k + 1)) (by omega) nd
      have hc : w5.cell? ⟨g, 4 + k, none⟩ = some (.int .i64 0) := (blk_cell R1.blk (4 + k)).trans (inodeAt_cell fl HLEN.out k (by omega))
      have hf := blk_frozen R1.blk (4 + k)
      have R2 := R1.put HLEN.out (by omega)
      rw [← HX.out] at R2
      have HR := Lib.hid R2
      clear R1 R2 hw hn
      go_wp2
      go_roundw
      case rel => exact ⟨k + 1, by omega, by go_num, HR.out⟩
      case measure => simp [intOf]; omega
    · obtain rfl : k = 12 := by omega
      clear hlt hk
      obtain ⟨x1, hx⟩ : ∃ x, x = fl.getD 16 0 := ⟨_, rfl⟩
      have hn : num s 64 (4 : Int).toNat = x1 := by rw [hx, HFL.out]; exact inodeNums_get s 12 (by omega)
      have HX := Lib.hid hx
      clear hx
      go_wp2_with fail
      refine (take_ok (w.heap.size + 1) s 64 4 _ HI.out.rd.cu (by omega) (by omega) (by omega) (by omega)).mono ?_
      rw [hn]
      rintro e u1 ⟨rfl, nd, hw⟩
      have R1 := hw ▸ HI.out.step 4 68 (by omega) nd
      have hc : u1.cell? ⟨g, 16, none⟩ = some (.int .i64 0) := (blk_cell R1.blk 16).trans (inodeAt_cell fl HLEN.out 12 (by omega))
      have hf := blk_frozen R1.blk 16
      have hgl := blk_lt R1.blk
      have R2 : RdI w s 68 fl g 13 (u1.setCell ⟨g, 16, none⟩ (.int .i64 x1)) := HX.out ▸ R1.put HLEN.out (by omega)
      have J1 := Lib.hid R2
      clear R1 R2 hw hn HX
      obtain ⟨x2, hx⟩ : ∃ x, x = fl.getD 17 0 := ⟨_, rfl⟩
      have hn : num s 68 (4 : Int).toNat = x2 := by rw [hx, HFL.out]; exact inodeNums_get s 13 (by omega)
      have HX := Lib.hid hx
      clear hx
      go_wp2_with fail
      refine (take_ok (w.heap.size + 1) s 68 4 _ J1.out.rd.cu (by omega) (by omega) (by omega) (by omega)).mono ?_
      rw [hn]
      rintro e u2 ⟨rfl, nd, hw⟩
      have R1 := hw ▸ J1.out.step 4 72 (by omega) nd
      have hc : u2.cell? ⟨g, 17, none⟩ = some (.int .i64 0) := (blk_cell R1.blk 17).trans (inodeAt_cell fl HLEN.out 13 (by omega))
      have hf := blk_frozen R1.blk 17
      have hgl := blk_lt R1.blk
      have R2 : RdI w s 72 fl g 14 (u2.setCell ⟨g, 17, none⟩ (.int .i64 x2)) := HX.out ▸ R1.put HLEN.out (by omega)
      have J2 := Lib.hid R2
      clear R1 R2 hw hn HX
      have hblk := J2.out.blk
      rw [inodeAt_full fl HLEN.out] at hblk
      have h0c : (u2.setCell ⟨g, 17, none⟩ (.int .i64 x2)).cell? ⟨g, 0, none⟩ = some (.int .i64 (fl.getD 0 0)) := (blk_cell J2.out.blk 0).trans (inodeAt_first fl HLEN.out 14)
      obtain ⟨y, hy⟩ : ∃ y, y = fl.getD 0 0 := ⟨_, rfl⟩
      rw [← hy] at h0c
      have HY := Lib.hid hy
      have HB := Lib.hid hblk
      have HC := Lib.hid h0c
      clear hblk h0c hy
      by_cases h3 : 3 < y
      · have hsp : inodeOfSpec s = (List.replicate 18 0, 5) := by rw [HSPEC.out, if_pos (.inl (by rw [HF0.out, ← HY.out]; exact h3))]
        have HSP := Lib.hid hsp
        clear hsp
        have h0c := HC.out
        have BX := Lib.hid (J2.out.rd.box 0 _ rfl)
        go_wp2_with (first | (refine wpList_store_row (by rfl) 50 _ _ (by rfl) w.heap.size (ints (List.replicate 18 0)).toArray (ints (List.replicate 18 0)).toArray 50 (by rfl) (by rfl) BX.out rfl infoInode (ints_oneCell _) ?_; intro W1 hW1 hK1; have HW1 := Lib.hid hW1; have HK1 := Lib.hid hK1; clear hW1 hK1))
        refine bodyPost_row_tmp rfl w.heap.size 50 (ints (List.replicate 18 0)).toArray (0, 0) _ (by rfl) HW1.out Try.underlying50 rfl infoInode rfl ?_
        rw [HSP.out]
        exact ⟨rfl, J2.out.rd.bel.trans (HK1.out.below J2.out.rd.bel.size (by intro i hi; omega))⟩
      · have h0c := HC.out
        go_wp2_with fail
        refine (rest_any (w.heap.size + 1) s 72 _ J2.out.rd.cu (by omega) (by omega)).mono ?_
        rintro e u3 ⟨rfl, hb⟩
        have hbx : u3.heap[w.heap.size]? = some (.cells (ints (List.replicate 18 0)).toArray 50 (0, 0)) := (hb.block _ (by have := blk_lt (J2.out.rd.box 0 _ rfl); omega)).trans (J2.out.rd.box 0 _ rfl)
        have hbg : u3.heap[g]? = some (.cells (ints fl).toArray 50 (0, 0)) := (hb.block _ (blk_lt HB.out)).trans HB.out
        have hbel : Below w.heap.size w u3 := J2.out.rd.bel.trans (hb.mono J2.out.rd.bel.size)
        have BX := Lib.hid hbx
        have BG := Lib.hid hbg
        have BEL := Lib.hid hbel
        clear hbx hbg hbel hb h0c
        by_cases hr : restSpec s 72 = false
        · have hsp : inodeOfSpec s = (List.replicate 18 0, 5) := by rw [HSPEC.out, if_pos (.inr hr)]
          have HSP := Lib.hid hsp
          clear hsp
          rw [hr]
          clear hr
          go_wp2_with (first | (refine wpList_store_row (by rfl) 50 _ _ (by rfl) w.heap.size (ints (List.replicate 18 0)).toArray (ints (List.replicate 18 0)).toArray 50 (by rfl) (by rfl) BX.out rfl infoInode (ints_oneCell _) ?_; intro W1 hW1 hK1; have HW1 := Lib.hid hW1; have HK1 := Lib.hid hK1; clear hW1 hK1))
          refine bodyPost_row_tmp rfl w.heap.size 50 (ints (List.replicate 18 0)).toArray (0, 0) _ (by rfl) HW1.out Try.underlying50 rfl infoInode rfl ?_
          rw [HSP.out]
          exact ⟨rfl, BEL.out.trans (HK1.out.below BEL.out.size (by intro i hi; omega))⟩
        · have hsp : inodeOfSpec s = (fl, 0) := by
            rw [HSPEC.out, if_neg, HFL.out]
            rintro (h | h)
            · rw [HF0.out, ← HY.out] at h; omega
            · exact hr h
          have HSP := Lib.hid hsp
          have hr2 : restSpec s 72 = true := by simpa using hr
          clear hsp
          rw [hr2]
          clear hr hr2
          have hz : (ints fl).toArray.size = (ints (List.replicate 18 0)).toArray.size := by simp [ints_length, HLEN.out]
          have hi : (Try.prog.info? 50).map (·.size) = some (ints fl).toArray.size := by rw [infoInode]; simp [ints_length, HLEN.out]
          have HZ := Lib.hid hz
          have HI18 := Lib.hid hi
          clear hz hi
          go_wp2_with (first | (refine wpList_load_row (by rfl) 50 _ (by rfl) g (by rfl) 50 _ (0, 0) _ BG.out Try.underlying50 rfl HI18.out ?_) | (refine wpList_store_row (by rfl) 50 _ _ (by rfl) w.heap.size (ints fl).toArray (ints (List.replicate 18 0)).toArray 50 (by rfl) (by rfl) BX.out HZ.out HI18.out (ints_oneCell _) ?_; intro W1 hW1 hK1; have HW1 := Lib.hid hW1; have HK1 := Lib.hid hK1; clear hW1 hK1))
          refine bodyPost_row_tmp rfl w.heap.size 50 (ints fl).toArray (0, 0) _ (by rfl) HW1.out Try.underlying50 rfl HI18.out rfl ?_
          rw [HSP.out]
          exact ⟨rfl, BEL.out.trans (HK1.out.below BEL.out.size (by intro i hi; omega))⟩

theorem InodeOf_any (s : ByteArray) (w : World) :
    Calls Try.prog 34 #[.string s] w fun e w' => e = .returned (.tuple #[.agg (ints (inodeOfSpec s).1).toArray, .int .i64 (inodeOfSpec s).2]) ∧ Below w.heap.size w w' := by
  by_cases h : s.size = 448
  · exact InodeOf_ok s h w
  · exact InodeOf_bad s h w
end Go.Proofs.Ytpbmgollolbgoaa.B
