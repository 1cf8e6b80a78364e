/-
  HKDF's expansion and PBKDF2 in plain lists of numbers; what is told of fewer bytes is the beginning of what is told of more.
-/
import Derived.Test.YtobgnmellbgfmaaPads
namespace Go.Proofs.Ytobgnmellbgfmaa.B
open Go.RowKit
set_option linter.unusedVariables false

/-- The texts of HKDF, one by one, and all of them. -/
def expT (K I : List Int) : Nat → List Int
  | 0 => []
  | i + 1 => hmac K (expT K I i ++ I ++ [((i : Int) + 1) % 256])
def expB (K I : List Int) : Nat → List Int
  | 0 => []
  | i + 1 => expB K I i ++ expT K I (i + 1)
/-- PBKDF2's texts: of block i the one behind j rounds more; their sum; all blocks. -/
def strU (K S : List Int) (i : Nat) : Nat → List Int
  | 0 => hmac K (S ++ be4 i)
  | j + 1 => hmac K (strU K S i j)
def strX (K S : List Int) (i : Nat) : Nat → List Int
  | 0 => strU K S i 0
  | j + 1 => List.zipWith xr (strX K S i j) (strU K S i (j + 1))
def strB (K S : List Int) (r : Nat) : Nat → List Int
  | 0 => []
  | i + 1 => strB K S r i ++ strX K S (i + 1) (r - 1)
theorem expT_b (K I : List Int) : ∀ i, Bs (expT K I i)
  | 0 => fun x hx => by cases hx
  | i + 1 => hmac_b _ _
theorem expT_length (K I : List Int) (i : Nat) : (expT K I (i + 1)).length = 32 := hmac_length _ _
theorem expT_small (K I : List Int) : ∀ i, (expT K I i).length ≤ 32
  | 0 => by simp [expT]
  | i + 1 => by rw [expT_length]; exact Nat.le_refl _
theorem expB_length (K I : List Int) : ∀ i, (expB K I i).length = 32 * i
  | 0 => rfl
  | i + 1 => by rw [expB, List.length_append, expB_length K I i, expT_length]; omega
theorem expB_b (K I : List Int) : ∀ i, Bs (expB K I i)
  | 0 => fun x hx => by cases hx
  | i + 1 => (expB_b K I i).append (expT_b K I _)
theorem strU_b (K S : List Int) (i : Nat) : ∀ j, Bs (strU K S i j)
  | 0 => hmac_b _ _
  | j + 1 => hmac_b _ _
theorem strU_length (K S : List Int) (i : Nat) : ∀ j, (strU K S i j).length = 32
  | 0 => hmac_length _ _
  | j + 1 => hmac_length _ _
theorem strX_length (K S : List Int) (i : Nat) : ∀ j, (strX K S i j).length = 32
  | 0 => strU_length K S i 0
  | j + 1 => by rw [strX, List.length_zipWith, strX_length K S i j, strU_length]; rfl
theorem zip_b {a b : List Int} (ha : Bs a) (hb : Bs b) : Bs (List.zipWith xr a b) := by
  intro x hx
  obtain ⟨i, hi, rfl⟩ := List.mem_iff_getElem.1 hx
  rw [List.getElem_zipWith]
  exact xr_b (ha _ (List.getElem_mem _)) (hb _ (List.getElem_mem _))
theorem strX_b (K S : List Int) (i : Nat) : ∀ j, Bs (strX K S i j)
  | 0 => strU_b K S i 0
  | j + 1 => zip_b (strX_b K S i j) (strU_b K S i _)
theorem strB_length (K S : List Int) (r : Nat) : ∀ i, (strB K S r i).length = 32 * i
  | 0 => rfl
  | i + 1 => by rw [strB, List.length_append, strB_length K S r i, strX_length]; omega
theorem strB_b (K S : List Int) (r : Nat) : ∀ i, Bs (strB K S r i)
  | 0 => fun x hx => by cases hx
  | i + 1 => (strB_b K S r i).append (strX_b K S _ _)
theorem expB_prefix (K I : List Int) (i : Nat) : ∀ d, (expB K I (i + d)).take (32 * i) = expB K I i
  | 0 => by rw [Nat.add_zero, List.take_of_length_le (by rw [expB_length]; exact Nat.le_refl _)]
  | d + 1 => by rw [← Nat.add_assoc, expB, List.take_append_of_le_length (by rw [expB_length]; omega), expB_prefix K I i d]
theorem strB_prefix (K S : List Int) (r i : Nat) : ∀ d, (strB K S r (i + d)).take (32 * i) = strB K S r i
  | 0 => by rw [Nat.add_zero, List.take_of_length_le (by rw [strB_length]; exact Nat.le_refl _)]
  | d + 1 => by rw [← Nat.add_assoc, strB, List.take_append_of_le_length (by rw [strB_length]; omega), strB_prefix K S r i d]
/-- What Expand answers. -/
def expandSpec (key info : ByteArray) (n : Int) : ByteArray × Int :=
  if n < 0 ∨ 8160 < n then (⟨#[]⟩, 1) else (strOfNums ((expB (bytesOf key) (bytesOf info) ((n.toNat + 31) / 32)).take n.toNat), 0)
/-- What Stretch answers. -/
def stretchSpec (pass salt : ByteArray) (rounds n : Int) : ByteArray × Int :=
  if rounds < 1 ∨ 1000 < rounds ∨ n < 0 ∨ 1024 < n then (⟨#[]⟩, 1) else (strOfNums ((strB (bytesOf pass) (bytesOf salt) rounds.toNat ((n.toNat + 31) / 32)).take n.toNat), 0)
theorem take_prefix {f : Nat → List Int} (hl : ∀ i, (f i).length = 32 * i) (hp : ∀ i d, (f (i + d)).take (32 * i) = f i) {n m : Nat} (h : n ≤ m) : (f ((m + 31) / 32)).take n = (f ((n + 31) / 32)).take n := by
  obtain ⟨d, hd⟩ : ∃ d, (m + 31) / 32 = (n + 31) / 32 + d := ⟨(m + 31) / 32 - (n + 31) / 32, by omega⟩
  rw [hd, ← hp ((n + 31) / 32) d, List.take_take, Nat.min_eq_left (by omega)]
end Go.Proofs.Ytobgnmellbgfmaa.B
