/-
  Bytes that are read as a report are just that report's bytes: the plain law.
-/
import Derived.Test.YthobfbiobnmceaaRepBack
import Derived.Test.YthobfbiobnmceaaRefPut
namespace Go.Proofs.Ythobfbiobnmceaa.B
open Go.RowKit
set_option linter.unusedVariables false

theorem div_next (n : Int) (i : Nat) : n / 256 / 2 ^ (8 * i) = n / 2 ^ (8 * (i + 1)) := by
  rw [Int.ediv_ediv_of_nonneg (by decide), show 8 * (i + 1) = 8 * i + 8 by omega, Int.pow_add, Int.mul_comm]
  rfl
theorem le_cons (n : Int) (k : Nat) : le n (k + 1) = (n % 256) :: le (n / 256) k := by
  simp only [le, List.range_succ_eq_map, List.map_cons, List.map_map]
  congr 1
  · simp
  · apply List.map_congr_left
    intro i _
    simp only [Function.comp_apply]
    rw [div_next]
theorem bytesOf_get (s : ByteArray) (p : Nat) (h : p < s.size) : (bytesOf s)[p]? = some (byteAt s p) := by
  simp [bytesOf, byteAt, h]
  rfl
theorem drop_bytes (s : ByteArray) (p : Nat) (h : p < s.size) : (bytesOf s).drop p = byteAt s p :: (bytesOf s).drop (p + 1) := by
  have hl : p < (bytesOf s).length := by rw [bytesOf_length]; exact h
  rw [List.drop_eq_getElem_cons hl]
  congr 1
  have := bytesOf_get s p h
  rw [List.getElem?_eq_getElem hl] at this
  exact Option.some.inj this
theorem le_num (s : ByteArray) : ∀ (k p : Nat), p + k ≤ s.size → le (num s p k) k = ((bytesOf s).drop p).take k
  | 0, p, _ => by simp [le]
  | k + 1, p, h => by
    have hb := byteAt_range s p
    rw [num_cons, le_cons, drop_bytes s p (by omega), List.take_succ_cons, ← le_num s k (p + 1) (by omega)]
    congr 1
    · omega
    · congr 1
      omega
theorem fits_num (s : ByteArray) (p k : Nat) : fits (num s p k) k = true := by
  have h := num_range s p k
  simp only [fits, Bool.and_eq_true, decide_eq_true_eq, beq_iff_eq]
  exact ⟨h.1, Int.ediv_eq_zero_of_lt h.1 h.2⟩
theorem put_num (s : ByteArray) (p w : Nat) (h1 : 1 ≤ w) (h6 : w ≤ 6) (hp : p + w ≤ s.size) : putSpec (num s p w) w = (s.extract p (p + w), 0) := by
  rw [putSpec, if_neg (by omega), if_pos (by simpa using fits_num s p w), Int.toNat_natCast, le_num s w p hp]
  have := strOfNums_bytesOf (s.extract p (p + w))
  rw [bytesOf_extract, Nat.add_sub_cancel_left] at this
  rw [this]
def numPs (s : ByteArray) : Nat → List Nat → List (Int × Int)
  | _, [] => []
  | p, w :: r => (num s p w, (w : Int)) :: numPs s (p + w) r
theorem fields_nums (s : ByteArray) : ∀ (ws : List Nat) (p : Nat) (t : ByteArray), (∀ w ∈ ws, 1 ≤ w ∧ w ≤ 6) → p + ws.sum ≤ s.size → fieldsSpec (numPs s p ws) t = (t ++ s.extract p (p + ws.sum), 0)
  | [], p, t, _, _ => by
    have e : s.extract p (p + 0) = ⟨#[]⟩ := by apply ByteArray.ext; simp
    simp only [numPs, fieldsSpec, List.sum_nil, e]
    congr 1
    apply ByteArray.ext; simp
  | w :: r, p, t, hw, hp => by
    have h1 := hw w (by simp)
    rw [List.sum_cons] at hp
    have hput := put_num s p w h1.1 h1.2 (by omega)
    simp only [numPs, fieldsSpec, hput, if_true]
    rw [fields_nums s r (p + w) _ (fun x hx => hw x (by simp [hx])) (by omega), List.sum_cons, ByteArray.append_assoc, ByteArray.extract_append_extract]
    congr 2
    · congr 1 <;> omega
theorem body_nums (s : ByteArray) : ∀ (j i : Nat) (t : ByteArray), 20 + 14 * (i + j) ≤ s.size → bodyB ((List.range' i j).map fun i => fndAt s (20 + 14 * i)) t = (t ++ s.extract (20 + 14 * i) (20 + 14 * (i + j)), 0)
  | 0, i, t, _ => by
    have e : s.extract (20 + 14 * i) (20 + 14 * (i + 0)) = ⟨#[]⟩ := by apply ByteArray.ext; simp
    rw [e]
    simp only [List.range'_zero, List.map_nil, bodyB]
    congr 1
    apply ByteArray.ext; simp
  | j + 1, i, t, h => by
    have hf : fieldsSpec (fndPs (fndAt s (20 + 14 * i))) t = (t ++ s.extract (20 + 14 * i) (20 + 14 * i + 14), 0) := by
      have hp : fndPs (fndAt s (20 + 14 * i)) = numPs s (20 + 14 * i) [2, 4, 4, 4] := rfl
      rw [hp, fields_nums s [2, 4, 4, 4] (20 + 14 * i) t (by intro w hw; simp at hw; omega) (by show 20 + 14 * i + 14 ≤ _; omega)]
      rfl
    rw [List.range'_succ, List.map_cons, bodyB, hf]
    simp only [if_true]
    rw [body_nums s j (i + 1) _ (by omega), ByteArray.append_assoc, show 20 + 14 * (i + 1) = 20 + 14 * i + 14 by omega, ByteArray.extract_append_extract]
    congr 2
    · congr 1 <;> omega
theorem repOf_forth (s : ByteArray) (h : (repOf s).e = 0) : repBytes (repOf s).a0 (repOf s).a1 (repOf s).a2 (repOf s).l = (s, 0) := by
  have hn3 := (num_range s 16 4).1
  unfold repOf at h ⊢
  split at h
  · cases h
  · rename_i h20
    split at h
    · cases h
    · rename_i hA
      split at h
      · cases h
      · rename_i hB
        split at h
        · rename_i hr
          rw [if_neg h20, if_neg hA, if_neg hB, if_pos hr]
          obtain ⟨n, hn⟩ : ∃ n, n = (s.size - 20) / 14 := ⟨_, rfl⟩
          rw [← hn] at hA hr ⊢
          have hsz : s.size = 20 + 14 * n := by omega
          have hnum : num s 16 4 = (n : Int) := by omega
          have hh : fieldsSpec (headPs (num s 0 6) (num s 6 6) (num s 12 4) ((fndsOf s n).length : Int)) ⟨#[]⟩ = (s.extract 0 20, 0) := by
            rw [fndsOf_length, ← hnum]
            have hp : headPs (num s 0 6) (num s 6 6) (num s 12 4) (num s 16 4) = numPs s 0 [6, 6, 4, 4] := rfl
            rw [hp, fields_nums s [6, 6, 4, 4] 0 ⟨#[]⟩ (by intro w hw; simp at hw; omega) (by show 0 + 20 ≤ _; omega)]
            congr 1
          simp only
          rw [repBytes, if_pos hr, hh]
          simp only [if_true]
          have hb := body_nums s n 0 (s.extract 0 20) (by omega)
          rw [show (List.range' 0 n).map (fun i => fndAt s (20 + 14 * i)) = fndsOf s n by rw [fndsOf, List.range_eq_range']] at hb
          rw [hb, ByteArray.extract_append_extract]
          congr 1
          rw [show min 0 (20 + 14 * 0) = 0 by omega, show max 20 (20 + 14 * (0 + n)) = s.size by omega]
          apply ByteArray.ext; simp
        · cases h
end Go.Proofs.Ythobfbiobnmceaa.B
