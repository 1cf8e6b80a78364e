/-
  SumParts, SumTwo: the laws' walks.
-/
import Derived.Test.YtobgnmellbgfmaaSumAwake
import Derived.Test.YtobgnmellbgfmaaStrRow
namespace Go.Proofs.Ytobgnmellbgfmaa.B
open Go.RowKit
set_option linter.unusedVariables false

theorem bytesOf_app (a b : ByteArray) : bytesOf (a ++ b) = bytesOf a ++ bytesOf b := by simp [bytesOf]
/-- What the first k parts come to, cut to n bytes in all. -/
def partsAll (n : Nat) (ss : List ByteArray) : Nat → ByteArray
  | 0 => ⟨#[]⟩
  | k + 1 => partsAll n ss k ++ cutS (ss.getD k ByteArray.empty) (n - (partsAll n ss k).size)
theorem partsAll_size (n : Nat) (ss : List ByteArray) : ∀ k, (partsAll n ss k).size ≤ n
  | 0 => Nat.zero_le _
  | k + 1 => by
    have h1 := partsAll_size n ss k
    have h2 := cutS_size (ss.getD k ByteArray.empty) (n - (partsAll n ss k).size)
    rw [partsAll, ByteArray.size_append]
    omega

set_option maxRecDepth 100000 in
set_option maxHeartbeats 1600000 in
theorem SumParts_walk (v : Value) (ss : List ByteArray) (w : World) (hr : F.StrRow w v ss) :
    Calls Try.prog 4 #[v] w fun e w' => e = .returned (.bool true) ∧ Below w.heap.size w w' := by
  obtain ⟨ao, cap, rfl, hc1, hc2⟩ := hr.form
  have HR := Lib.hid hr
  have hlm : (ss.length : Int) ≤ 9223372036854775807 := by unfold maxLen at hc2; omega
  clear hr
  obtain ⟨L, hL⟩ : ∃ L, L = ss.length := ⟨_, rfl⟩
  rw [← hL] at hlm hc1 hc2
  rw [← hL]
  have HL := Lib.hid hL
  clear hL
  go_enter Try.func4, Try.ntmps4
  go_wp2_with fail
  refine (new_any w).mono ?_
  rintro e W1 ⟨rfl, hm1, hb1⟩
  have HM := Lib.hid hm1
  have HB := Lib.hid hb1
  clear hm1 hb1
  go_wp2_with fail
  go_loopg [4, 5] L (fun j a i wr => ∃ (k : Nat), j + k = L ∧ k ≤ 30 ∧ a = .string (partsAll 4096 ss k) ∧ i = .int .i64 (k : Int) ∧ Mx wr w.heap.size (bytesOf (partsAll 4096 ss k)) ∧ Below w.heap.size w wr)
  case atStart => exact ⟨0, rfl, by omega, rfl, rfl, HM.out, HB.out⟩
  case round =>
    clear HM HB
    obtain ⟨k, hk, hk30, rfl, rfl, hm, hb⟩ := hrel
    have hA := partsAll_size 4096 ss k
    by_cases hlt : k < L ∧ k < 30
    · obtain ⟨hl1, hl2⟩ := hlt
      have hkl : k < ss.length := by rw [← HL.out]; exact hl1
      have hr := HR.out
      rw [← HL.out] at hr
      obtain ⟨g, o, rfl, hg, hcell, hsz⟩ := hr.get hkl
      have hcw := (hb.cell (p := ⟨g, o + k, none⟩) hg).trans hcell
      have hnx : partsAll 4096 ss (k + 1) = partsAll 4096 ss k ++ cutS ss[k] (4096 - (partsAll 4096 ss k).size) := by
        rw [partsAll, List.getD, List.getElem?_eq_getElem hkl]
        rfl
      have hA1 := partsAll_size 4096 ss (k + 1)
      obtain ⟨S, hS⟩ : ∃ S, S = ss[k] := ⟨_, rfl⟩
      rw [← hS] at hcw hnx hsz
      obtain ⟨A, hAA⟩ : ∃ A, A = partsAll 4096 ss k := ⟨_, rfl⟩
      rw [← hAA] at hA hnx hm
      rw [← hAA]
      obtain ⟨q, hq⟩ : ∃ q, q = 4096 - A.size := ⟨_, rfl⟩
      have hq2 : (4096 : Int) - (A.size : Int) = (q : Int) := by omega
      have hq3 : q ≤ 4096 := by omega
      have hs3 : S.size ≤ 9223372036854775807 := by unfold maxLen at hsz; exact hsz
      have hcs := cutS_size S q
      rw [← hq] at hnx
      have HNX := Lib.hid hnx
      have HM := Lib.hid hm
      have HB := Lib.hid hb
      have HA1 := Lib.hid hA1
      have hd1 : (k : Int) < (L : Int) := by omega
      have hd2 : (k : Int) < 30 := by omega
      have hd0 : (0 : Int) ≤ (k : Int) := by omega
      clear hcell hnx hS hAA hq hm hb hr hg hsz hA1
      go_wp2_with fail
      refine (cut_any S q (by omega) hs3 _).mono ?_
      rintro e W0 ⟨rfl, rfl⟩
      obtain ⟨C, hC⟩ : ∃ C, C = cutS S q := ⟨_, rfl⟩
      rw [← hC] at hcs HNX
      rw [← hC]
      have HF := Lib.hid (feed_any w.heap.size C (bytesOf A) wr HM.out (by rw [bytesOf_length]; omega))
      have hz1 : ¬ 9223372036854775807 < A.size + C.size := by omega
      clear hC hcw hq2
      go_wp2_with fail
      refine HF.out.mono ?_
      rintro e W2 ⟨rfl, hm2, hk2⟩
      rw [← bytesOf_app, ← HNX.out] at hm2
      have HM2 := Lib.hid hm2
      have HB2 := Lib.hid (HB.out.trans (hk2.below HB.out.size (by intro i hi; omega)))
      have hnx := HNX.out.symm
      clear hm2 hk2 HF HM HB
      go_wp2_with fail
      refine (told_any w.heap.size _ W2 HM2.out (by rw [bytesOf_length]; have := HA1.out; omega)).mono ?_
      rintro e W3 ⟨rfl, hb3⟩
      have HM3 := Lib.hid (HM2.out.below hb3 HM2.out.lt)
      have HB3 := Lib.hid (HB2.out.trans (hb3.mono HB2.out.size))
      clear hb3 HM2 HB2
      go_wp2_with fail
      refine (refSum_any _ (by have := HA1.out; omega) W3).mono ?_
      rintro e W4 ⟨rfl, hb4⟩
      have HM4 := Lib.hid (HM3.out.below hb4 HM3.out.lt)
      have HB4 := Lib.hid (HB3.out.trans (hb4.mono HB3.out.size))
      clear hb4 HM3 HB3
      go_wp2_with fail
      refine (told_any w.heap.size _ W4 HM4.out (by rw [bytesOf_length]; have := HA1.out; omega)).mono ?_
      rintro e W5 ⟨rfl, hb5⟩
      have HM5 := Lib.hid (HM4.out.below hb5 HM4.out.lt)
      have HB5 := Lib.hid (HB4.out.trans (hb5.mono HB4.out.size))
      clear hb5 HM4 HB4
      go_wp2_with fail
      go_roundg (gk - 1)
      case measure => omega
      case rel => exact ⟨k + 1, by omega, by omega, rfl, by go_num, HM5.out, HB5.out⟩
    · have hd : ¬ ((k : Int) < (L : Int)) ∨ ¬ ((k : Int) < 30) := by omega
      obtain ⟨A, hAA⟩ : ∃ A, A = partsAll 4096 ss k := ⟨_, rfl⟩
      rw [← hAA] at hA hm
      rw [← hAA]
      have HM := Lib.hid hm
      have HB := Lib.hid hb
      clear hm hb hAA hlt
      by_cases hd1 : (k : Int) < (L : Int)
      · have hd2 : ¬ ((k : Int) < 30) := by omega
        clear hd
        go_wp2_with fail
        refine (told_any w.heap.size _ wr HM.out (by rw [bytesOf_length]; omega)).mono ?_
        rintro e W3 ⟨rfl, hb3⟩
        have HB3 := Lib.hid (HB.out.trans (hb3.mono HB.out.size))
        clear hb3
        go_wp2_with fail
        refine (sum_any A (by omega) _).mono ?_
        rintro e W4 ⟨rfl, hb4⟩
        have HB4 := Lib.hid (HB3.out.trans (hb4.mono HB3.out.size))
        clear hb4
        go_wp2_with fail
        refine (awake_any _).mono ?_
        rintro e W5 ⟨rfl, hb5⟩
        have HB5 := Lib.hid (HB4.out.trans (hb5.mono HB4.out.size))
        clear hb5
        go_wp2
        go_ret
        exact ⟨rfl, HB5.out⟩
      · clear hd
        go_wp2_with fail
        refine (told_any w.heap.size _ wr HM.out (by rw [bytesOf_length]; omega)).mono ?_
        rintro e W3 ⟨rfl, hb3⟩
        have HB3 := Lib.hid (HB.out.trans (hb3.mono HB.out.size))
        clear hb3
        go_wp2_with fail
        refine (sum_any A (by omega) _).mono ?_
        rintro e W4 ⟨rfl, hb4⟩
        have HB4 := Lib.hid (HB3.out.trans (hb4.mono HB3.out.size))
        clear hb4
        go_wp2_with fail
        refine (awake_any _).mono ?_
        rintro e W5 ⟨rfl, hb5⟩
        have HB5 := Lib.hid (HB4.out.trans (hb5.mono HB4.out.size))
        clear hb5
        go_wp2
        go_ret
        exact ⟨rfl, HB5.out⟩
/- The texts that two lists come to: the walk. -/

set_option maxRecDepth 100000 in
set_option maxHeartbeats 3200000 in
theorem SumTwo_walk (v u : Value) (sa sb : List ByteArray) (w : World) (hra : F.StrRow w v sa) (hrb : F.StrRow w u sb) :
    Calls Try.prog 5 #[v, u] w fun e w' => e = .returned (.bool true) ∧ Below w.heap.size w w' := by
  obtain ⟨ao, cap, rfl, hc1, hc2⟩ := hra.form
  obtain ⟨bo, cbp, rfl, hd1, hd2⟩ := hrb.form
  have HRA := Lib.hid hra
  have HRB := Lib.hid hrb
  have hlm : (sa.length : Int) ≤ 9223372036854775807 := by unfold maxLen at hc2; omega
  have hln : (sb.length : Int) ≤ 9223372036854775807 := by unfold maxLen at hd2; omega
  clear hra hrb
  obtain ⟨La, hLa⟩ : ∃ L, L = sa.length := ⟨_, rfl⟩
  obtain ⟨Lb, hLb⟩ : ∃ L, L = sb.length := ⟨_, rfl⟩
  rw [← hLa] at hlm
  rw [← hLb] at hln
  rw [← hLa, ← hLb]
  have HLA := Lib.hid hLa
  have HLB := Lib.hid hLb
  clear hLa hLb hc1 hc2 hd1 hd2
  go_enter Try.func5, Try.ntmps5
  go_wp2_with fail
  refine (new_any w).mono ?_
  rintro e W1 ⟨rfl, hm1, hb1⟩
  have HM := Lib.hid hm1
  have HB := Lib.hid hb1
  clear hm1 hb1
  go_wp2_with fail
  refine (new_any W1).mono ?_
  rintro e W2 ⟨rfl, hm2, hb2⟩
  have HM1 := Lib.hid (HM.out.below hb2 HM.out.lt)
  have HM2 := Lib.hid hm2
  have HG1 := Lib.hid (show w.heap.size < W1.heap.size from HM.out.lt)
  have HB2 := Lib.hid (HB.out.trans (hb2.mono HB.out.size))
  obtain ⟨ga, hga⟩ : ∃ g, g = w.heap.size := ⟨_, rfl⟩
  obtain ⟨gb, hgb⟩ : ∃ g, g = W1.heap.size := ⟨_, rfl⟩
  rw [← hga] at HM1 HG1
  rw [← hgb] at HM2 HG1
  rw [← hgb, ← hga]
  have HG := Lib.hid HG1.out
  have HG0 := Lib.hid (show w.heap.size ≤ ga by omega)
  clear hm2 hb2 HM HB hga hgb HG1
  go_wp2_with fail
  go_loopg [7, 8, 9] 20 (fun j a b i wr => ∃ (k : Nat), j + k = 20 ∧ a = .string (partsAll 2048 sa (min k La)) ∧ b = .string (partsAll 2048 sb (min k Lb)) ∧ i = .int .i64 (k : Int) ∧ Mx wr ga (bytesOf (partsAll 2048 sa (min k La))) ∧ Mx wr gb (bytesOf (partsAll 2048 sb (min k Lb))) ∧ Below w.heap.size w wr)
  case atStart => exact ⟨0, rfl, by rw [Nat.zero_min]; rfl, by rw [Nat.zero_min]; rfl, rfl, by rw [Nat.zero_min]; exact HM1.out, by rw [Nat.zero_min]; exact HM2.out, HB2.out⟩
  case round =>
    clear HM1 HM2 HB2
    obtain ⟨k, hk, rfl, rfl, rfl, hma, hmb, hbe⟩ := hrel
    have HMA := Lib.hid hma
    have HMB := Lib.hid hmb
    have HBE := Lib.hid hbe
    clear hma hmb hbe
    by_cases hk20 : k < 20
    · have hk2 : (k : Int) < 20 := by omega
      by_cases hA : k < La
      · have hr := HRA.out
        rw [← HLA.out] at hr
        obtain ⟨g, o, rfl, hg, hcell, hsz⟩ := hr.get (i := k) (by rw [← HLA.out]; exact hA)
        have hcw := (HBE.out.cell (p := ⟨g, o + k, none⟩) hg).trans hcell
        have hnx : partsAll 2048 sa (min (k + 1) La) = partsAll 2048 sa (min k La) ++ cutS sa[k] (2048 - (partsAll 2048 sa (min k La)).size) := by
          rw [Nat.min_eq_left (show k + 1 ≤ La by omega), Nat.min_eq_left (show k ≤ La by omega), partsAll, List.getD, List.getElem?_eq_getElem (by rw [← HLA.out]; exact hA)]
          rfl
        have hA1 := partsAll_size 2048 sa (min (k + 1) La)
        have hAs := partsAll_size 2048 sa (min k La)
        obtain ⟨S, hS⟩ : ∃ S, S = sa[k]'(by rw [← HLA.out]; exact hA) := ⟨_, rfl⟩
        rw [← hS] at hcw hnx hsz
        obtain ⟨A, hAA⟩ : ∃ A, A = partsAll 2048 sa (min k La) := ⟨_, rfl⟩
        rw [← hAA] at hAs hnx
        have hm := HMA.out
        rw [← hAA] at hm
        rw [← hAA]
        obtain ⟨q, hq⟩ : ∃ q, q = 2048 - A.size := ⟨_, rfl⟩
        have hq2 : (2048 : Int) - (A.size : Int) = (q : Int) := by omega
        have hq3 : q ≤ 2048 := by omega
        have hs3 : S.size ≤ 9223372036854775807 := by unfold maxLen at hsz; exact hsz
        have hcs := cutS_size S q
        rw [← hq] at hnx
        have HNX := Lib.hid hnx
        have HM := Lib.hid hm
        have HA1 := Lib.hid hA1
        have hd1 : (k : Int) < (La : Int) := by omega
        have hd0 : (0 : Int) ≤ (k : Int) := by omega
        clear hcell hnx hS hAA hq hm hr hg hsz hA1 HMA
        go_wp2_with fail
        refine (cut_any S q (by omega) hs3 _).mono ?_
        rintro e W0 ⟨rfl, rfl⟩
        obtain ⟨C, hC⟩ : ∃ C, C = cutS S q := ⟨_, rfl⟩
        rw [← hC] at hcs HNX
        rw [← hC]
        have HF := Lib.hid (feed_any ga C (bytesOf A) _ HM.out (by rw [bytesOf_length]; omega))
        have hz1 : ¬ 9223372036854775807 < A.size + C.size := by omega
        clear hC hcw hq2
        go_wp2_with fail
        refine HF.out.mono ?_
        rintro e W2 ⟨rfl, hm2, hk2⟩
        rw [← bytesOf_app, ← HNX.out] at hm2
        have HMA := Lib.hid hm2
        have HMB := Lib.hid (HMB.out.kept hk2 (by have := HG.out; omega))
        have HBE := Lib.hid (HBE.out.trans (hk2.below HBE.out.size (by intro i hi; have := HG.out; have := HG0.out; omega)))
        have hnx := HNX.out.symm
        clear hm2 hk2 HF HM hAs hq3 hs3 hcs hd1 hd0
        by_cases hB : k < Lb
        · have hr := HRB.out
          rw [← HLB.out] at hr
          obtain ⟨g, o, rfl, hg, hcell, hsz⟩ := hr.get (i := k) (by rw [← HLB.out]; exact hB)
          have hcw := (HBE.out.cell (p := ⟨g, o + k, none⟩) hg).trans hcell
          have hnx : partsAll 2048 sb (min (k + 1) Lb) = partsAll 2048 sb (min k Lb) ++ cutS sb[k] (2048 - (partsAll 2048 sb (min k Lb)).size) := by
            rw [Nat.min_eq_left (show k + 1 ≤ Lb by omega), Nat.min_eq_left (show k ≤ Lb by omega), partsAll, List.getD, List.getElem?_eq_getElem (by rw [← HLB.out]; exact hB)]
            rfl
          have hA1 := partsAll_size 2048 sb (min (k + 1) Lb)
          have hAs := partsAll_size 2048 sb (min k Lb)
          obtain ⟨S, hS⟩ : ∃ S, S = sb[k]'(by rw [← HLB.out]; exact hB) := ⟨_, rfl⟩
          rw [← hS] at hcw hnx hsz
          obtain ⟨B, hAA⟩ : ∃ A, A = partsAll 2048 sb (min k Lb) := ⟨_, rfl⟩
          rw [← hAA] at hAs hnx
          have hm := HMB.out
          rw [← hAA] at hm
          rw [← hAA]
          obtain ⟨q, hq⟩ : ∃ q, q = 2048 - B.size := ⟨_, rfl⟩
          have hq2 : (2048 : Int) - (B.size : Int) = (q : Int) := by omega
          have hq3 : q ≤ 2048 := by omega
          have hs3 : S.size ≤ 9223372036854775807 := by unfold maxLen at hsz; exact hsz
          have hcs := cutS_size S q
          rw [← hq] at hnx
          have HNX := Lib.hid hnx
          have HM := Lib.hid hm
          have HA1 := Lib.hid hA1
          have hd1 : (k : Int) < (Lb : Int) := by omega
          have hd0 : (0 : Int) ≤ (k : Int) := by omega
          clear hcell hnx hS hAA hq hm hr hg hsz hA1 HMB
          go_wp2_with fail
          refine (cut_any S q (by omega) hs3 _).mono ?_
          rintro e W0 ⟨rfl, rfl⟩
          obtain ⟨C, hC⟩ : ∃ C, C = cutS S q := ⟨_, rfl⟩
          rw [← hC] at hcs HNX
          rw [← hC]
          have HF := Lib.hid (feed_any gb C (bytesOf B) _ HM.out (by rw [bytesOf_length]; omega))
          have hz1 : ¬ 9223372036854775807 < B.size + C.size := by omega
          clear hC hcw hq2
          go_wp2_with fail
          refine HF.out.mono ?_
          rintro e W3 ⟨rfl, hm2, hk2⟩
          rw [← bytesOf_app, ← HNX.out] at hm2
          have HMB := Lib.hid hm2
          have HMA := Lib.hid (HMA.out.kept hk2 (by have := HG.out; omega))
          have HBE := Lib.hid (HBE.out.trans (hk2.below HBE.out.size (by intro i hi; have := HG.out; have := HG0.out; omega)))
          have hnx := HNX.out.symm
          clear hm2 hk2 HF HM hAs hq3 hs3 hcs hd1 hd0
          go_wp2_with fail
          go_roundg (gk - 1)
          case measure => omega
          case rel => exact ⟨k + 1, by omega, rfl, rfl, by go_num, HMA.out, HMB.out, HBE.out⟩
        · have hnx : partsAll 2048 sb (min k Lb) = partsAll 2048 sb (min (k + 1) Lb) := by rw [Nat.min_eq_right (show Lb ≤ k by omega), Nat.min_eq_right (show Lb ≤ k + 1 by omega)]
          have hm := HMB.out
          rw [hnx] at hm
          rw [hnx]
          have HMB := Lib.hid hm
          clear hm hnx
          have hd3 : ¬ ((k : Int) < (Lb : Int)) := by omega
          go_wp2_with fail
          go_roundg (gk - 1)
          case measure => omega
          case rel => exact ⟨k + 1, by omega, rfl, rfl, by go_num, HMA.out, HMB.out, HBE.out⟩
      · have hnx : partsAll 2048 sa (min k La) = partsAll 2048 sa (min (k + 1) La) := by rw [Nat.min_eq_right (show La ≤ k by omega), Nat.min_eq_right (show La ≤ k + 1 by omega)]
        have hm := HMA.out
        rw [hnx] at hm
        rw [hnx]
        have HMA := Lib.hid hm
        clear hm hnx
        have hd2 : ¬ ((k : Int) < (La : Int)) := by omega
        by_cases hB : k < Lb
        · have hr := HRB.out
          rw [← HLB.out] at hr
          obtain ⟨g, o, rfl, hg, hcell, hsz⟩ := hr.get (i := k) (by rw [← HLB.out]; exact hB)
          have hcw := (HBE.out.cell (p := ⟨g, o + k, none⟩) hg).trans hcell
          have hnx : partsAll 2048 sb (min (k + 1) Lb) = partsAll 2048 sb (min k Lb) ++ cutS sb[k] (2048 - (partsAll 2048 sb (min k Lb)).size) := by
            rw [Nat.min_eq_left (show k + 1 ≤ Lb by omega), Nat.min_eq_left (show k ≤ Lb by omega), partsAll, List.getD, List.getElem?_eq_getElem (by rw [← HLB.out]; exact hB)]
            rfl
          have hA1 := partsAll_size 2048 sb (min (k + 1) Lb)
          have hAs := partsAll_size 2048 sb (min k Lb)
          obtain ⟨S, hS⟩ : ∃ S, S = sb[k]'(by rw [← HLB.out]; exact hB) := ⟨_, rfl⟩
          rw [← hS] at hcw hnx hsz
          obtain ⟨B, hAA⟩ : ∃ A, A = partsAll 2048 sb (min k Lb) := ⟨_, rfl⟩
          rw [← hAA] at hAs hnx
          have hm := HMB.out
          rw [← hAA] at hm
          rw [← hAA]
          obtain ⟨q, hq⟩ : ∃ q, q = 2048 - B.size := ⟨_, rfl⟩
          have hq2 : (2048 : Int) - (B.size : Int) = (q : Int) := by omega
          have hq3 : q ≤ 2048 := by omega
          have hs3 : S.size ≤ 9223372036854775807 := by unfold maxLen at hsz; exact hsz
          have hcs := cutS_size S q
          rw [← hq] at hnx
          have HNX := Lib.hid hnx
          have HM := Lib.hid hm
          have HA1 := Lib.hid hA1
          have hd1 : (k : Int) < (Lb : Int) := by omega
          have hd0 : (0 : Int) ≤ (k : Int) := by omega
          clear hcell hnx hS hAA hq hm hr hg hsz hA1 HMB
          go_wp2_with fail
          refine (cut_any S q (by omega) hs3 _).mono ?_
          rintro e W0 ⟨rfl, rfl⟩
          obtain ⟨C, hC⟩ : ∃ C, C = cutS S q := ⟨_, rfl⟩
          rw [← hC] at hcs HNX
          rw [← hC]
          have HF := Lib.hid (feed_any gb C (bytesOf B) _ HM.out (by rw [bytesOf_length]; omega))
          have hz1 : ¬ 9223372036854775807 < B.size + C.size := by omega
          clear hC hcw hq2
          go_wp2_with fail
          refine HF.out.mono ?_
          rintro e W3 ⟨rfl, hm2, hk2⟩
          rw [← bytesOf_app, ← HNX.out] at hm2
          have HMB := Lib.hid hm2
          have HMA := Lib.hid (HMA.out.kept hk2 (by have := HG.out; omega))
          have HBE := Lib.hid (HBE.out.trans (hk2.below HBE.out.size (by intro i hi; have := HG.out; have := HG0.out; omega)))
          have hnx := HNX.out.symm
          clear hm2 hk2 HF HM hAs hq3 hs3 hcs hd1 hd0
          go_wp2_with fail
          go_roundg (gk - 1)
          case measure => omega
          case rel => exact ⟨k + 1, by omega, rfl, rfl, by go_num, HMA.out, HMB.out, HBE.out⟩
        · have hnx : partsAll 2048 sb (min k Lb) = partsAll 2048 sb (min (k + 1) Lb) := by rw [Nat.min_eq_right (show Lb ≤ k by omega), Nat.min_eq_right (show Lb ≤ k + 1 by omega)]
          have hm := HMB.out
          rw [hnx] at hm
          rw [hnx]
          have HMB := Lib.hid hm
          clear hm hnx
          have hd3 : ¬ ((k : Int) < (Lb : Int)) := by omega
          go_wp2_with fail
          go_roundg (gk - 1)
          case measure => omega
          case rel => exact ⟨k + 1, by omega, rfl, rfl, by go_num, HMA.out, HMB.out, HBE.out⟩
    · obtain rfl : k = 20 := by omega
      have hA := partsAll_size 2048 sa (min 20 La)
      have hB := partsAll_size 2048 sb (min 20 Lb)
      obtain ⟨A, hAA⟩ : ∃ A, A = partsAll 2048 sa (min 20 La) := ⟨_, rfl⟩
      obtain ⟨B, hBB⟩ : ∃ A, A = partsAll 2048 sb (min 20 Lb) := ⟨_, rfl⟩
      rw [← hAA] at hA HMA
      rw [← hBB] at hB HMB
      rw [← hAA, ← hBB]
      clear hAA hBB hk hk20
      go_wp2_with fail
      refine (told_any ga _ _ HMA.out (by rw [bytesOf_length]; omega)).mono ?_
      rintro e W3 ⟨rfl, hb3⟩
      have HB3 := Lib.hid (HBE.out.trans (hb3.mono HBE.out.size))
      have HM3 := Lib.hid (HMB.out.below hb3 HMB.out.lt)
      clear hb3
      go_wp2_with fail
      refine (refSum_any A (by omega) _).mono ?_
      rintro e W4 ⟨rfl, hb4⟩
      have HB4 := Lib.hid (HB3.out.trans (hb4.mono HB3.out.size))
      have HM4 := Lib.hid (HM3.out.below hb4 HM3.out.lt)
      clear hb4
      go_wp2_with fail
      refine (told_any gb _ _ HM4.out (by rw [bytesOf_length]; omega)).mono ?_
      rintro e W5 ⟨rfl, hb5⟩
      have HB5 := Lib.hid (HB4.out.trans (hb5.mono HB4.out.size))
      clear hb5
      go_wp2_with fail
      refine (refSum_any B (by omega) _).mono ?_
      rintro e W6 ⟨rfl, hb6⟩
      have HB6 := Lib.hid (HB5.out.trans (hb6.mono HB5.out.size))
      clear hb6
      go_wp2_with fail
      refine (awake_any _).mono ?_
      rintro e W7 ⟨rfl, hb7⟩
      have HB7 := Lib.hid (HB6.out.trans (hb7.mono HB6.out.size))
      clear hb7
      go_wp2
      go_ret
      exact ⟨rfl, HB7.out⟩
end Go.Proofs.Ytobgnmellbgfmaa.B
namespace Go.Proofs.Ytobgnmellbgfmaa.R
open Go.RowKit
theorem SumParts (v : Value) (w : World) (h : F.ShOk w 8 (.rows [.str]) v) :
    Calls Try.prog 4 #[v] w fun e w' => e = .returned (.bool true) ∧ Below w.heap.size w w' := by
  obtain ⟨ss, hs⟩ := F.strRow_of h
  exact B.SumParts_walk v ss w hs
theorem SumTwo (v u : Value) (w : World) (h : F.ShOk w 8 (.rows [.str]) v) (h2 : F.ShOk w 8 (.rows [.str]) u) :
    Calls Try.prog 5 #[v, u] w fun e w' => e = .returned (.bool true) ∧ Below w.heap.size w w' := by
  obtain ⟨ss, hs⟩ := F.strRow_of h
  obtain ⟨st, ht⟩ := F.strRow_of h2
  exact B.SumTwo_walk v u ss st w hs ht
end Go.Proofs.Ytobgnmellbgfmaa.R
