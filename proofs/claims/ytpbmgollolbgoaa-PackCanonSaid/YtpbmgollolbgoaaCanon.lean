/-
  Records read and laid again, in plain lists: whatever bytes are read as a record are just that record's bytes.
-/
import Derived.Test.YtpbmgollolbgoaaRefInodeOf
import Derived.Test.YtpbmgollolbgoaaHeadOf
import Derived.Test.YtpbmgollolbgoaaRefSuperOf
import Derived.Lib.Strings
namespace Go.Proofs.Ytpbmgollolbgoaa.B
open Go.RowKit
set_option linter.unusedVariables false

theorem div_next (n : Int) (i : Nat) : n / 256 / 2 ^ (8 * i) = n / 2 ^ (8 * (i + 1)) := by
  rw [Int.ediv_ediv_of_nonneg (by decide), show 8 * (i + 1) = 8 * i + 8 by omega, Int.pow_add, Int.mul_comm]
  rfl
theorem le_cons (n : Int) (k : Nat) : le n (k + 1) = (n % 256) :: le (n / 256) k := by
  simp only [le, List.range_succ_eq_map, List.map_cons, List.map_map]
  congr 1
  · simp
  · apply List.map_congr_left
    intro i _
    simp only [Function.comp_apply]
    rw [div_next]
theorem bytesOf_get (s : ByteArray) (p : Nat) (h : p < s.size) : (bytesOf s)[p]? = some (byteAt s p) := by
  simp [bytesOf, byteAt, h]
  rfl
theorem drop_bytes (s : ByteArray) (p : Nat) (h : p < s.size) : (bytesOf s).drop p = byteAt s p :: (bytesOf s).drop (p + 1) := by
  have hl : p < (bytesOf s).length := by rw [bytesOf_length]; exact h
  rw [List.drop_eq_getElem_cons hl]
  congr 1
  have := bytesOf_get s p h
  rw [List.getElem?_eq_getElem hl] at this
  exact Option.some.inj this
theorem le_num (s : ByteArray) : ∀ (k p : Nat), p + k ≤ s.size → le (num s p k) k = ((bytesOf s).drop p).take k
  | 0, p, _ => by simp [le]
  | k + 1, p, h => by
    have hb := byteAt_range s p
    rw [num_cons, le_cons, drop_bytes s p (by omega), List.take_succ_cons, ← le_num s k (p + 1) (by omega)]
    congr 1
    · omega
    · congr 1
      omega
theorem bytesOf_extract (s : ByteArray) (a b : Nat) : bytesOf (s.extract a b) = ((bytesOf s).drop a).take (b - a) := by
  simp only [bytesOf, Lib.extract_data, List.map_take, List.map_drop]
theorem fits_num (s : ByteArray) (p k : Nat) : fits (num s p k) k = true := by
  have h := num_range s p k
  simp only [fits, Bool.and_eq_true, decide_eq_true_eq, beq_iff_eq]
  exact ⟨h.1, Int.ediv_eq_zero_of_lt h.1 h.2⟩
theorem good_nums (s : ByteArray) : ∀ (ws : List Int) (p : Nat), good (sides (numsAt s p ws) ws) = true
  | [], _ => rfl
  | x :: r, p => by
    have := good_nums s r (p + x.toNat)
    simp only [good, sides, numsAt, List.zip_cons_cons, List.map_cons, List.all_cons, Bool.and_eq_true] at this ⊢
    exact ⟨fits_num s p _, this⟩
theorem lay_nums (s : ByteArray) : ∀ (ws : List Int) (p : Nat), p + lens ws ≤ s.size → lay (sides (numsAt s p ws) ws) = ((bytesOf s).drop p).take (lens ws)
  | [], p, _ => by simp [lay, sides, numsAt, lens]
  | x :: r, p, h => by
    rw [lens_cons] at h
    have ih := lay_nums s r (p + x.toNat) (by omega)
    rw [lens_cons, List.take_add, List.drop_drop, ← ih]
    simp only [lay, sides, numsAt, List.zip_cons_cons, List.map_cons, List.flatMap_cons]
    rw [le_num s _ p (by omega)]
theorem str_inj {s : ByteArray} {xs : List Int} (h : bytesOf s = xs) : strOfNums xs = s := by rw [← h, strOfNums_bytesOf]
theorem bytes_three (s : ByteArray) (a b : Nat) (hab : a ≤ b) : bytesOf s = (bytesOf s).take a ++ ((bytesOf s).drop a).take (b - a) ++ (bytesOf s).drop b := by
  rw [List.append_assoc, show (bytesOf s).drop b = ((bytesOf s).drop a).drop (b - a) by rw [List.drop_drop]; congr 1; omega, List.take_append_drop, List.take_append_drop]
theorem bytesOf_strOf0 (n : Nat) : bytesOf (strOfNums (List.replicate n 0)) = List.replicate n 0 := bytesOf_strOfNums _ (by
  intro x hx
  rw [List.mem_replicate] at hx
  omega)

/-! ### The four records -/
theorem head_canon (s : ByteArray) (h : (headOfSpec s).2 = 0) : headSpec (sides (headOfSpec s).1 [6, 4, 2, 4, 4, 4, 6, 6]) = (s, 0) := by
  unfold headOfSpec at h ⊢
  by_cases h1 : 48 < s.size
  · rw [if_pos h1] at h; cases h
  by_cases h2 : s.size < 48
  · rw [if_neg h1, if_pos h2] at h; cases h
  rw [if_neg h1, if_neg h2] at h ⊢
  by_cases h3 : s.extract 40 48 ≠ ⟨#[0, 0, 0, 0, 0, 0, 0, 0]⟩ ∨ s.extract 0 4 ≠ ⟨#[71, 82, 80, 78]⟩
  · rw [if_pos h3] at h; cases h
  rw [if_neg h3]
  have e1 : s.extract 40 48 = ⟨#[0, 0, 0, 0, 0, 0, 0, 0]⟩ := Classical.byContradiction fun h => h3 (.inl h)
  have e2 : s.extract 0 4 = ⟨#[71, 82, 80, 78]⟩ := Classical.byContradiction fun h => h3 (.inr h)
  have hl : (bytesOf s).length = 48 := by rw [bytesOf_length]; omega
  have b1 := congrArg bytesOf e1
  have b2 := congrArg bytesOf e2
  rw [bytesOf_extract] at b1 b2
  show headSpec (sides (numsAt s 4 [6, 4, 2, 4, 4, 4, 6, 6]) [6, 4, 2, 4, 4, 4, 6, 6]) = _
  rw [headSpec, if_pos (good_nums s _ _), lay_nums s _ _ (by rw [show lens [6, 4, 2, 4, 4, 4, 6, 6] = 36 from rfl]; omega)]
  congr 1
  apply str_inj
  refine (bytes_three s 4 40 (by omega)).trans ?_
  congr 1
  · congr 1
  · rw [List.take_of_length_le (by simp [hl])] at b1
    simpa [bytesOf, List.replicate] using b1

theorem inode_canon (s : ByteArray) (h : (inodeOfSpec s).2 = 0) : inodeSpec ((inodeOfSpec s).1.getD 0 0) (sides (inodeOfSpec s).1 inodeWs) = (s, 0) := by
  unfold inodeOfSpec at h ⊢
  by_cases h1 : 448 < s.size
  · rw [if_pos h1] at h; cases h
  by_cases h2 : s.size < 448
  · rw [if_neg h1, if_pos h2] at h; cases h
  rw [if_neg h1, if_neg h2] at h ⊢
  by_cases h3 : 3 < num s 0 2 ∨ restSpec s 72 = false
  · rw [if_pos h3] at h; cases h
  rw [if_neg h3]
  have e1 : restSpec s 72 = true := by
    cases hr : restSpec s 72
    · exact absurd (Or.inr hr) h3
    · rfl
  have e2 := (rest_zero s 72 (by omega)).1 e1
  have e3 : s.size = 448 := by omega
  rw [e3] at e2
  have b1 := congrArg bytesOf e2
  rw [bytesOf_extract, bytesOf_strOf0] at b1
  have hl : (bytesOf s).length = 448 := by rw [bytesOf_length]; omega
  rw [List.take_of_length_le (by simp [hl])] at b1
  show inodeSpec ((inodeNums s).getD 0 0) (sides (numsAt s 0 inodeWs) inodeWs) = _
  rw [inodeNums_first, inodeSpec, if_pos ⟨by omega, good_nums s _ _⟩, lay_nums s _ _ (by rw [show lens inodeWs = 72 from rfl]; omega), ← strOfNums_append]
  congr 1
  apply str_inj
  rw [show lens inodeWs = 72 from rfl, List.drop_zero, ← b1, List.take_append_drop]

theorem super_canon (s : ByteArray) (h : (superOfSpec s).2.2 = 0) : superSpec (sides (superOfSpec s).1 [6, 6, 6, 4]) (superOfSpec s).2.1 = (s, 0) := by
  unfold superOfSpec at h ⊢
  by_cases h1 : 448 < s.size
  · rw [if_pos h1] at h; cases h
  by_cases h2 : s.size < 448
  · rw [if_neg h1, if_pos h2] at h; cases h
  rw [if_neg h1, if_neg h2] at h ⊢
  by_cases h3 : restSpec s 54 = false
  · rw [if_pos h3] at h; cases h
  rw [if_neg h3]
  have e1 : restSpec s 54 = true := by simpa using h3
  have e2 := (rest_zero s 54 (by omega)).1 e1
  have e3 : s.size = 448 := by omega
  rw [e3] at e2
  have b1 := congrArg bytesOf e2
  rw [bytesOf_extract, bytesOf_strOf0] at b1
  have hl : (bytesOf s).length = 448 := by rw [bytesOf_length]; omega
  rw [List.take_of_length_le (by simp [hl])] at b1
  have hn : [num s 0 6, num s 6 6, num s 12 6, num s 18 4] = numsAt s 0 [6, 6, 6, 4] := by simp [numsAt]
  simp only []
  rw [hn]
  have hr : (s.extract 22 54).size = 32 := by rw [ByteArray.size_extract]; omega
  rw [superSpec, if_neg (by omega), if_pos (good_nums s _ _), lay_nums s _ _ (by rw [show lens [6, 6, 6, 4] = 22 from rfl]; omega)]
  refine congrArg (fun x => (x, (0 : Int))) ?_
  rw [← strOfNums_bytesOf (s.extract 22 54), ← strOfNums_append, ← strOfNums_append, bytesOf_extract]
  apply str_inj
  refine (bytes_three s 22 54 (by omega)).trans ?_
  rw [show lens [6, 6, 6, 4] = 22 from rfl, List.drop_zero, b1]

theorem entry_canon (s : ByteArray) (h : (entryOfSpec s).2.2.2 = 0) : entrySpec (entryOfSpec s).1 (entryOfSpec s).2.1 (entryOfSpec s).2.2.1 = (s, 0) := by
  unfold entryOfSpec at h ⊢
  by_cases h1 : 28 < s.size
  · rw [if_pos h1] at h; cases h
  by_cases h2 : s.size < 28
  · rw [if_neg h1, if_pos h2] at h; cases h
  rw [if_neg h1, if_neg h2] at h ⊢
  obtain ⟨n, hn⟩ : ∃ n, n = (num s 0 1).toNat := ⟨_, rfl⟩
  rw [← hn] at h ⊢
  by_cases h3 : 19 < n
  · rw [if_pos h3] at h; cases h
  rw [if_neg h3] at h ⊢
  by_cases h4 : allZero (s.extract (1 + n) 20) = false ∨ (n = 0 ∧ (num s 20 4 ≠ 0 ∨ num s 24 4 ≠ 0))
  · rw [if_pos h4] at h; cases h
  rw [if_neg h4]
  have e1 : allZero (s.extract (1 + n) 20) = true := by
    cases hr : allZero (s.extract (1 + n) 20)
    · exact absurd (Or.inl hr) h4
    · rfl
  have e2 := (allZero_iff _).1 e1
  have hz : (s.extract (1 + n) 20).size = 19 - n := by rw [ByteArray.size_extract]; omega
  rw [hz] at e2
  have b1 := congrArg bytesOf e2
  rw [bytesOf_extract, bytesOf_strOf0] at b1
  have hl : (bytesOf s).length = 28 := by rw [bytesOf_length]; omega
  have hsz : (s.extract 1 (1 + n)).size = n := by rw [ByteArray.size_extract]; omega
  have hg : good (entryFs (num s 20 4) (num s 24 4)) = true := good_nums s [4, 4] 20
  have hlay : lay (entryFs (num s 20 4) (num s 24 4)) = ((bytesOf s).drop 20).take 8 := lay_nums s [4, 4] 20 (by rw [show lens [4, 4] = 8 from rfl]; omega)
  show entrySpec (s.extract 1 (1 + n)) (num s 20 4) (num s 24 4) = _
  rw [entrySpec, if_neg (by omega), if_neg (by rw [hsz]; exact fun h => h4 (.inr h)), if_pos hg]
  congr 1
  apply str_inj
  have hb := byteAt_range s 0
  have h0 : byteAt s 0 = (n : Int) := by
    have : num s 0 1 = byteAt s 0 := by simp [num]
    rw [hn, this]; omega
  rw [entryXs, hsz, hlay, bytesOf_extract, List.take_of_length_le (by simp [hl] : ((bytesOf s).drop 20).length ≤ 8)]
  have t1 : bytesOf s = byteAt s 0 :: (bytesOf s).drop 1 := by simpa using drop_bytes s 0 (by omega)
  have t2 := List.take_append_drop (1 + n - 1) ((bytesOf s).drop 1)
  have t3 := List.take_append_drop (20 - (1 + n)) ((bytesOf s).drop (1 + n))
  rw [List.drop_drop] at t2 t3
  rw [show 1 + (1 + n - 1) = 1 + n by omega] at t2
  rw [show 1 + n + (20 - (1 + n)) = 20 by omega, b1] at t3
  rw [List.append_assoc, t3, List.append_assoc, t2, ← h0]
  exact t1
end Go.Proofs.Ytpbmgollolbgoaa.B
