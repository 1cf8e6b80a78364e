/-
  A number that has room is read again.
-/
import Derived.Test.YthobfbiobnmceaaRepOf
namespace Go.Proofs.Ythobfbiobnmceaa.B
open Go.RowKit
set_option linter.unusedVariables false

/-! ### A number that has room is read again -/
theorem byteAt_list (s : ByteArray) (i : Nat) : byteAt s i = ((s.data.toList.getD i 0).toNat : Int) := by
  unfold byteAt
  have hsz : s.data.toList.length = s.size := by rw [Array.length_toList]; rfl
  split
  · rename_i h
    rw [List.getD, List.getElem?_eq_getElem (by omega)]
    simp
    rfl
  · rename_i h
    rw [List.getD, List.getElem?_eq_none (by omega)]
    rfl
theorem byteAt_mid (a b : ByteArray) (xs : List Int) (hx : ∀ x ∈ xs, 0 ≤ x ∧ x < 256) (i : Nat) (hi : i < xs.length) : byteAt (a ++ strOfNums xs ++ b) (a.size + i) = xs.getD i 0 := by
  have hsz : a.data.toList.length = a.size := by rw [Array.length_toList]; rfl
  have hm := hx _ (List.getElem_mem hi)
  rw [byteAt_list]
  simp only [ByteArray.data_append, Array.toList_append, strOfNums_data, List.append_assoc]
  rw [List.getD, List.getD, List.getElem?_append_right (by omega), hsz, Nat.add_sub_cancel_left, List.getElem?_append_left (by simpa using hi), List.getElem?_map, List.getElem?_eq_getElem hi]
  simp
  omega
theorem mod_pow_succ (n : Int) (h : 0 ≤ n) (k : Nat) : n % 2 ^ (8 * (k + 1)) = n % 2 ^ (8 * k) + (n / 2 ^ (8 * k)) % 256 * 2 ^ (8 * k) := by
  obtain ⟨m, rfl⟩ := Int.eq_ofNat_of_zero_le h
  have := Nat.mod_mul (x := m) (a := 2 ^ (8 * k)) (b := 256)
  have h3 : ((2 : Int) ^ (8 * k)) = ((2 ^ (8 * k) : Nat) : Int) := (Int.natCast_pow 2 (8 * k)).symm
  have h2 : (2 : Int) ^ (8 * (k + 1)) = ((2 ^ (8 * k) * 256 : Nat) : Int) := by
    rw [show 8 * (k + 1) = 8 * k + 8 by omega, Int.pow_add, Int.natCast_mul, h3]
    rfl
  rw [h2, h3, ← Int.natCast_emod, this, ← Int.natCast_emod, ← Int.natCast_ediv, show (256 : Int) = ((256 : Nat) : Int) from rfl, ← Int.natCast_emod, ← Int.natCast_mul, ← Int.natCast_add, Nat.mul_comm (m / 2 ^ (8 * k) % 256)]
theorem num_back (a b : ByteArray) (n : Int) (h : 0 ≤ n) (k : Nat) : ∀ j, j ≤ k → num (a ++ strOfNums (le n k) ++ b) a.size j = n % 2 ^ (8 * j)
  | 0, _ => by simp [num]
  | j + 1, hj => by
    rw [num, num_back a b n h k j (by omega), mod_pow_succ n h j]
    congr 2
    rw [byteAt_mid a b (le n k) (by
      intro x hx
      simp only [le, List.mem_map] at hx
      obtain ⟨i, _, rfl⟩ := hx
      omega) j (by rw [le_length]; omega)]
    simp [le, List.getD, show j < k by omega]

theorem fits_mod {n : Int} {k : Nat} (h : fits n k = true) : 0 ≤ n ∧ n % 2 ^ (8 * k) = n := by
  simp only [fits, Bool.and_eq_true, decide_eq_true_eq, beq_iff_eq] at h
  refine ⟨h.1, ?_⟩
  have := Int.emod_add_mul_ediv n (2 ^ (8 * k))
  rw [h.2] at this
  omega
end Go.Proofs.Ythobfbiobnmceaa.B
