/-
  The laws of layer 2 that speak of sums: chapter 2's example; cut; SumSums, SumNobody.
-/
import Derived.Test.YtobgnmellbgfmaaSum
import Derived.Test.YtobgnmellbgfmaaRefSum
namespace Go.Proofs.Ytobgnmellbgfmaa.B
open Go.RowKit
set_option linter.unusedVariables false

def abcSum : ByteArray := ⟨#[0xba, 0x78, 0x16, 0xbf, 0x8f, 0x01, 0xcf, 0xea, 0x41, 0x41, 0x40, 0xde, 0x5d, 0xae, 0x22, 0x23, 0xb0, 0x03, 0x61, 0xa3, 0x96, 0x17, 0x7a, 0x9c, 0xb4, 0x10, 0xff, 0x61, 0xf2, 0x00, 0x15, 0xad]⟩
theorem abcSum_eq : strOfNums (sha (bytesOf ⟨#[97, 98, 99]⟩)) = abcSum := by
  have h : sha [97, 98, 99] = bytesOf abcSum := by decide +kernel
  rw [show bytesOf ⟨#[97, 98, 99]⟩ = [97, 98, 99] from rfl, h, strOfNums_bytesOf]
theorem awake_any (w : World) : Calls Try.prog 15 #[] w fun e w' => e = .returned (.bool true) ∧ Below w.heap.size w w' := by
  have z : abcSum.size = 32 := rfl
  have a : abcSum.extract 0 4 = ⟨#[186, 120, 22, 191]⟩ := by decide +kernel
  have b : abcSum.extract 28 32 = ⟨#[242, 0, 21, 173]⟩ := by decide +kernel
  have Z := Lib.hid z
  have A := Lib.hid a
  have B := Lib.hid b
  clear z a b
  go_enter Try.func15, Try.ntmps15
  go_wp2_with fail
  refine (sum_any ⟨#[97, 98, 99]⟩ (by decide) w).mono ?_
  rw [abcSum_eq]
  rintro e W1 ⟨rfl, hb1⟩
  have HB1 := Lib.hid hb1
  clear hb1
  obtain ⟨S, hS⟩ : ∃ S, S = abcSum := ⟨_, rfl⟩
  rw [← hS] at Z A B
  rw [← hS]
  clear hS
  have z := Z.out
  have a := A.out
  have b := B.out
  have z4 : (4 : Nat) ≤ S.size := by omega
  have z28 : (28 : Nat) ≤ S.size := by omega
  go_wp2_with fail
  go_ret
  exact ⟨rfl, HB1.out⟩
/-- A text, or its first bytes. -/
def cutS (s : ByteArray) (n : Nat) : ByteArray := if n < s.size then s.extract 0 n else s
theorem cutS_size (s : ByteArray) (n : Nat) : (cutS s n).size ≤ n := by
  unfold cutS
  split
  · rw [ByteArray.size_extract]; omega
  · omega
theorem cut_any (s : ByteArray) (n : Nat) (hn : n ≤ 9000000000000000000) (hs : s.size ≤ 9223372036854775807) (w : World) : Calls Try.prog 12 #[.string s, .int .i64 n] w fun e w' => e = .returned (.string (cutS s n)) ∧ w = w' := by
  by_cases h : n < s.size
  · have hc : cutS s n = s.extract 0 n := by rw [cutS, if_pos h]
    have HC := Lib.hid hc
    clear hc
    have i1 : (n : Int) < (s.size : Int) := by omega
    have i2 : (n : Int) ≤ (s.size : Int) := by omega
    have i3 : (0 : Int) ≤ (n : Int) := by omega
    go_enter Try.func12, Try.ntmps12
    go_wp2
    go_ret
    exact ⟨by rw [HC.out]; rfl, rfl⟩
  · have hc : cutS s n = s := by rw [cutS, if_neg h]
    have HC := Lib.hid hc
    clear hc
    have i1 : ¬ ((n : Int) < (s.size : Int)) := by omega
    go_enter Try.func12, Try.ntmps12
    go_wp2
    go_ret
    exact ⟨by rw [HC.out]; rfl, rfl⟩
theorem SumSums_walk (s : ByteArray) (hs : s.size ≤ 140737488351232) (w : World) :
    Calls Try.prog 3 #[.string s] w fun e w' => e = .returned (.bool true) ∧ Below w.heap.size w w' := by
  have hz := cutS_size s 65536
  go_enter Try.func3, Try.ntmps3
  go_wp2_with fail
  refine (cut_any s 65536 (by omega) (by omega) _).mono ?_
  rintro e W0 ⟨rfl, rfl⟩
  obtain ⟨c, hc⟩ : ∃ c, c = cutS s 65536 := ⟨_, rfl⟩
  rw [← hc] at hz
  rw [← hc]
  clear hc
  go_wp2_with fail
  refine (sum_any c (by omega) _).mono ?_
  rintro e W1 ⟨rfl, hb1⟩
  have HB1 := Lib.hid hb1
  clear hb1
  go_wp2_with fail
  refine (refSum_any c (by omega) _).mono ?_
  rintro e W2 ⟨rfl, hb2⟩
  have HB2 := Lib.hid (HB1.out.trans (hb2.mono HB1.out.size))
  clear hb2
  go_wp2_with fail
  refine (awake_any _).mono ?_
  rintro e W3 ⟨rfl, hb3⟩
  have HB3 := Lib.hid (HB2.out.trans (hb3.mono HB2.out.size))
  clear hb3
  go_wp2
  go_ret
  exact ⟨rfl, HB3.out⟩

/-! ### A mix that New did not give -/
theorem feed_nil (s : ByteArray) (w : World) : Calls Try.prog 17 #[.pointer none, .string s] w fun e w' => e = .returned (.tuple #[]) ∧ w = w' := by
  go_enter Try.func17, Try.ntmps17
  go_wp2
  exact bodyPost_ret (results_none rfl _ _ _) rfl ⟨rfl, rfl⟩
theorem feed_zero (g : Nat) (s : ByteArray) (w : World) (h : w.cell? ⟨g, 74, none⟩ = some (.bool false)) : Calls Try.prog 17 #[.pointer (some ⟨g, 0, none⟩), .string s] w fun e w' => e = .returned (.tuple #[]) ∧ w = w' := by
  go_enter Try.func17, Try.ntmps17
  go_wp2
  exact bodyPost_ret (results_none rfl _ _ _) rfl ⟨rfl, rfl⟩
theorem told_nil (w : World) : Calls Try.prog 18 #[.pointer none] w fun e w' => e = .returned (.string ⟨#[]⟩) ∧ w = w' := by
  go_enter Try.func18, Try.ntmps18
  go_wp2
  go_ret
  exact ⟨rfl, rfl⟩
theorem told_zero (g : Nat) (w : World) (h : w.cell? ⟨g, 74, none⟩ = some (.bool false)) : Calls Try.prog 18 #[.pointer (some ⟨g, 0, none⟩)] w fun e w' => e = .returned (.string ⟨#[]⟩) ∧ w = w' := by
  go_enter Try.func18, Try.ntmps18
  go_wp2
  go_ret
  exact ⟨rfl, rfl⟩
theorem SumNobody_walk (s : ByteArray) (hs : s.size ≤ 140737488351232) (w : World) :
    Calls Try.prog 6 #[.string s] w fun e w' => e = .returned (.bool true) ∧ Below w.heap.size w w' := by
  have hc : (w.alloc (.cells mix0.toArray 38 (0, 0))).cell? ⟨w.heap.size, 74, none⟩ = some (.bool false) := (blk_cell (get_top rfl) 74).trans rfl
  have HF := Lib.hid (feed_zero w.heap.size s _ hc)
  have HT := Lib.hid (told_zero w.heap.size _ hc)
  clear hc
  go_enter Try.func6, Try.ntmps6
  go_wp2_with (first | (refine wpList_alloc_known (by rfl) 38 (by rfl) mix0.toArray (mix0_zero _) ?_) | (go_at_call 17; ((with_reducible refine (feed_nil _ _).mono ?_); rintro e w' ⟨rfl, rfl⟩)) | (go_at_call 17; ((with_reducible refine HF.out.mono ?_); rintro e w' ⟨rfl, rfl⟩)) | (go_at_call 18; ((with_reducible refine (told_nil _).mono ?_); rintro e w' ⟨rfl, rfl⟩)) | (go_at_call 18; ((with_reducible refine HT.out.mono ?_); rintro e w' ⟨rfl, rfl⟩)))
  refine (awake_any _).mono ?_
  rintro e W3 ⟨rfl, hb3⟩
  have HB3 := Lib.hid (((Below.refl _ w).alloc (Nat.le_refl _) _).trans (hb3.mono (by simp)))
  clear hb3
  go_wp2
  go_ret
  exact ⟨rfl, HB3.out⟩
end Go.Proofs.Ytobgnmellbgfmaa.B
