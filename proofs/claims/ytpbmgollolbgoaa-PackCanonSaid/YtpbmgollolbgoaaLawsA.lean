/-
  PackPuts, PackGets, PackPads, PackBack: the laws' walks, out of the contracts of Put and Get on both sides.
-/
import Derived.Test.YtpbmgollolbgoaaRefPut
import Derived.Test.YtpbmgollolbgoaaPad
namespace Go.Proofs.Ytpbmgollolbgoaa.B
open Go.RowKit
set_option linter.unusedVariables false

theorem awake_any (w : World) : Calls Try.prog 19 #[] w fun e w' => e = .returned (.bool true) ∧ Below w.heap.size w w' := by
  have p1 : putSpec 300 2 = (⟨#[44, 1]⟩, 0) := by decide +kernel
  have g1 : getSpec ⟨#[44, 1]⟩ 0 2 = (300, 0) := by decide +kernel
  have P1 := Lib.hid p1
  have G1 := Lib.hid g1
  clear p1 g1
  go_enter Try.func19, Try.ntmps19
  go_wp2_with fail
  refine (Put_any 300 2 (by omega) (by omega) _).mono ?_
  rw [P1.out]
  rintro e w1 ⟨rfl, hb1⟩
  have HB1 := Lib.hid hb1
  clear hb1
  go_wp2_with fail
  refine (Get_any ⟨#[44, 1]⟩ 0 2 (by decide) _).mono ?_
  rw [G1.out]
  rintro e w2 ⟨rfl, hb2⟩
  have HB2 := Lib.hid hb2
  clear hb2
  go_wp2
  go_ret
  exact ⟨rfl, HB1.out.trans (HB2.out.mono HB1.out.size)⟩

theorem PackPuts_walk (n width : Int) (hn : -9223372036854775808 ≤ n) (hn2 : n ≤ 9223372036854775807) (w : World) :
    Calls Try.prog 3 #[.int .i64 n, .int .i64 width] w fun e w' => e = .returned (.bool true) ∧ Below w.heap.size w w' := by
  go_enter Try.func3, Try.ntmps3
  go_wp2_with fail
  refine (Put_any n width hn hn2 _).mono ?_
  rintro e w1 ⟨rfl, hb1⟩
  have HB1 := Lib.hid hb1
  clear hb1
  go_wp2_with fail
  refine (refPut_any n width hn2 _).mono ?_
  rintro e w2 ⟨rfl, hb2⟩
  have HB2 := Lib.hid hb2
  clear hb2
  go_wp2_with fail
  refine (awake_any _).mono ?_
  rintro e w3 ⟨rfl, hb3⟩
  have HB3 := Lib.hid hb3
  clear hb3
  go_wp2
  go_ret
  exact ⟨rfl, (HB1.out.trans (HB2.out.mono HB1.out.size)).trans (HB3.out.mono (Nat.le_trans HB1.out.size HB2.out.size))⟩

theorem PackGets_walk (s : ByteArray) (p width : Int) (hs : s.size ≤ 140737488351232) (w : World) :
    Calls Try.prog 4 #[.string s, .int .i64 p, .int .i64 width] w fun e w' => e = .returned (.bool true) ∧ Below w.heap.size w w' := by
  go_enter Try.func4, Try.ntmps4
  go_wp2_with fail
  refine (Get_any s p width (by omega) _).mono ?_
  rintro e w1 ⟨rfl, hb1⟩
  have HB1 := Lib.hid hb1
  clear hb1
  go_wp2_with fail
  refine (refGet_any s p width (by omega) _).mono ?_
  rintro e w2 ⟨rfl, rfl⟩
  go_wp2_with fail
  refine (awake_any _).mono ?_
  rintro e w3 ⟨rfl, hb3⟩
  have HB3 := Lib.hid hb3
  clear hb3
  go_wp2
  go_ret
  exact ⟨rfl, HB1.out.trans (HB3.out.mono HB1.out.size)⟩

theorem PackPads_walk (s : ByteArray) (n : Int) (hs : s.size ≤ 140737488351232) (w : World) :
    Calls Try.prog 6 #[.string s, .int .i64 n] w fun e w' => e = .returned (.bool true) ∧ Below w.heap.size w w' := by
  go_enter Try.func6, Try.ntmps6
  go_wp2_with fail
  refine (Pad_any s n hs _).mono ?_
  rintro e w1 ⟨rfl, hb1⟩
  have HB1 := Lib.hid hb1
  clear hb1
  go_wp2_with fail
  refine (refPad_any s n hs _).mono ?_
  rintro e w2 ⟨rfl, hb2⟩
  have HB2 := Lib.hid hb2
  clear hb2
  go_wp2_with fail
  refine (awake_any _).mono ?_
  rintro e w3 ⟨rfl, hb3⟩
  have HB3 := Lib.hid hb3
  clear hb3
  go_wp2
  go_ret
  exact ⟨rfl, (HB1.out.trans (HB2.out.mono HB1.out.size)).trans (HB3.out.mono (Nat.le_trans HB1.out.size HB2.out.size))⟩

/-! ### A number that has room is read again -/
theorem byteAt_list (s : ByteArray) (i : Nat) : byteAt s i = ((s.data.toList.getD i 0).toNat : Int) := by
  unfold byteAt
  have hsz : s.data.toList.length = s.size := by rw [Array.length_toList]; rfl
  split
  · rename_i h
    rw [List.getD, List.getElem?_eq_getElem (by omega)]
    simp
    rfl
  · rename_i h
    rw [List.getD, List.getElem?_eq_none (by omega)]
    rfl
theorem byteAt_mid (a b : ByteArray) (xs : List Int) (hx : ∀ x ∈ xs, 0 ≤ x ∧ x < 256) (i : Nat) (hi : i < xs.length) : byteAt (a ++ strOfNums xs ++ b) (a.size + i) = xs.getD i 0 := by
  have hsz : a.data.toList.length = a.size := by rw [Array.length_toList]; rfl
  have hm := hx _ (List.getElem_mem hi)
  rw [byteAt_list]
  simp only [ByteArray.data_append, Array.toList_append, strOfNums_data, List.append_assoc]
  rw [List.getD, List.getD, List.getElem?_append_right (by omega), hsz, Nat.add_sub_cancel_left, List.getElem?_append_left (by simpa using hi), List.getElem?_map, List.getElem?_eq_getElem hi]
  simp
  omega
theorem mod_pow_succ (n : Int) (h : 0 ≤ n) (k : Nat) : n % 2 ^ (8 * (k + 1)) = n % 2 ^ (8 * k) + (n / 2 ^ (8 * k)) % 256 * 2 ^ (8 * k) := by
  obtain ⟨m, rfl⟩ := Int.eq_ofNat_of_zero_le h
  have := Nat.mod_mul (x := m) (a := 2 ^ (8 * k)) (b := 256)
  have h3 : ((2 : Int) ^ (8 * k)) = ((2 ^ (8 * k) : Nat) : Int) := (Int.natCast_pow 2 (8 * k)).symm
  have h2 : (2 : Int) ^ (8 * (k + 1)) = ((2 ^ (8 * k) * 256 : Nat) : Int) := by
    rw [show 8 * (k + 1) = 8 * k + 8 by omega, Int.pow_add, Int.natCast_mul, h3]
    rfl
  rw [h2, h3, ← Int.natCast_emod, this, ← Int.natCast_emod, ← Int.natCast_ediv, show (256 : Int) = ((256 : Nat) : Int) from rfl, ← Int.natCast_emod, ← Int.natCast_mul, ← Int.natCast_add, Nat.mul_comm (m / 2 ^ (8 * k) % 256)]
theorem num_back (a b : ByteArray) (n : Int) (h : 0 ≤ n) (k : Nat) : ∀ j, j ≤ k → num (a ++ strOfNums (le n k) ++ b) a.size j = n % 2 ^ (8 * j)
  | 0, _ => by simp [num]
  | j + 1, hj => by
    rw [num, num_back a b n h k j (by omega), mod_pow_succ n h j]
    congr 2
    rw [byteAt_mid a b (le n k) (by
      intro x hx
      simp only [le, List.mem_map] at hx
      obtain ⟨i, _, rfl⟩ := hx
      omega) j (by rw [le_length]; omega)]
    simp [le, List.getD, show j < k by omega]

theorem fits_mod {n : Int} {k : Nat} (h : fits n k = true) : 0 ≤ n ∧ n % 2 ^ (8 * k) = n := by
  simp only [fits, Bool.and_eq_true, decide_eq_true_eq, beq_iff_eq] at h
  refine ⟨h.1, ?_⟩
  have := Int.emod_add_mul_ediv n (2 ^ (8 * k))
  rw [h.2] at this
  omega
theorem PackBack_walk (n width : Int) (a b : ByteArray) (hn : -9223372036854775808 ≤ n) (hn2 : n ≤ 9223372036854775807) (ha0 : a.size ≤ 140737488351232) (hb0 : b.size ≤ 140737488351232) (w : World) :
    Calls Try.prog 5 #[.int .i64 n, .int .i64 width, .string a, .string b] w fun e w' => e = .returned (.bool true) ∧ Below w.heap.size w w' := by
  by_cases ha : 4096 < a.size
  · go_enter Try.func5, Try.ntmps5
    go_wp2
    go_ret
    exact ⟨rfl, Below.refl _ _⟩
  by_cases hb : 4096 < b.size
  · go_enter Try.func5, Try.ntmps5
    go_wp2
    go_ret
    exact ⟨rfl, Below.refl _ _⟩
  by_cases hw : width < 1 ∨ 6 < width
  · have hp : putSpec n width = (⟨#[]⟩, 1) := by rw [putSpec, if_pos hw]
    have HP := Lib.hid hp
    clear hp hw
    go_enter Try.func5, Try.ntmps5
    go_wp2_with fail
    refine (Put_any n width hn hn2 _).mono ?_
    rw [HP.out]
    rintro e w1 ⟨rfl, hb1⟩
    have HB1 := Lib.hid hb1
    clear hb1
    go_wp2_with fail
    refine (awake_any _).mono ?_
    rintro e w3 ⟨rfl, hb3⟩
    have HB3 := Lib.hid hb3
    clear hb3
    go_wp2
    go_ret
    exact ⟨rfl, HB1.out.trans (HB3.out.mono HB1.out.size)⟩
  by_cases hf : fits n width.toNat = true
  · have hp : putSpec n width = (strOfNums (le n width.toNat), 0) := by rw [putSpec, if_neg hw, if_pos hf]
    have hsz : (strOfNums (le n width.toNat)).size = width.toNat := by rw [strOfNums_size, le_length]
    have hg : getSpec (a ++ strOfNums (le n width.toNat) ++ b) (a.size : Int) width = (n, 0) := by
      rw [getSpec, if_neg hw, if_neg (by rw [ByteArray.size_append, ByteArray.size_append, hsz]; omega)]
      have h := fits_mod hf
      rw [show (a.size : Int).toNat = a.size from Int.toNat_natCast _, num_back a b n h.1 width.toNat width.toNat (Nat.le_refl _), h.2]
    have htot : (a ++ strOfNums (le n width.toNat) ++ b).size ≤ 9223372036854775807 := by rw [ByteArray.size_append, ByteArray.size_append, hsz]; omega
    obtain ⟨x, hx⟩ : ∃ x, x = strOfNums (le n width.toNat) := ⟨_, rfl⟩
    rw [← hx] at hp hsz hg htot
    have hx6 : x.size ≤ 6 := by omega
    have hxw : (x.size : Int) = width := by omega
    have HP := Lib.hid hp
    have HG := Lib.hid hg
    have HT := Lib.hid htot
    have HX := Lib.hid hxw
    clear hp hw hf hg htot hx hsz hxw
    have hbb : (((x.size : Int) == width)) = true := by rw [HX.out]; simp
    go_enter Try.func5, Try.ntmps5
    go_wp2_with fail
    refine (Put_any n width hn hn2 _).mono ?_
    rw [HP.out]
    rintro e w1 ⟨rfl, hb1⟩
    have HB1 := Lib.hid hb1
    clear hb1
    go_wp2_with fail
    refine (Get_any _ _ width HT.out _).mono ?_
    rw [HG.out]
    rintro e w2 ⟨rfl, hb2⟩
    have HB2 := Lib.hid hb2
    clear hb2
    go_wp2_with fail
    refine (awake_any _).mono ?_
    rintro e w3 ⟨rfl, hb3⟩
    have HB3 := Lib.hid hb3
    clear hb3
    go_wp2
    go_ret
    exact ⟨rfl, (HB1.out.trans (HB2.out.mono HB1.out.size)).trans (HB3.out.mono (Nat.le_trans HB1.out.size HB2.out.size))⟩
  · have hp : putSpec n width = (⟨#[]⟩, 2) := by rw [putSpec, if_neg hw, if_neg hf]
    have HP := Lib.hid hp
    clear hp hw hf
    go_enter Try.func5, Try.ntmps5
    go_wp2_with fail
    refine (Put_any n width hn hn2 _).mono ?_
    rw [HP.out]
    rintro e w1 ⟨rfl, hb1⟩
    have HB1 := Lib.hid hb1
    clear hb1
    go_wp2_with fail
    refine (awake_any _).mono ?_
    rintro e w3 ⟨rfl, hb3⟩
    have HB3 := Lib.hid hb3
    clear hb3
    go_wp2
    go_ret
    exact ⟨rfl, HB1.out.trans (HB3.out.mono HB1.out.size)⟩

end Go.Proofs.Ytpbmgollolbgoaa.B
