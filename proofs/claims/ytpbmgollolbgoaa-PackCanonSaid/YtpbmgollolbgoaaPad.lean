/-
  pack.Pad and the document's Pad and Noughts, walked.
-/
import Derived.Test.YtpbmgollolbgoaaPut
import Derived.Lib.AppendStr
namespace Go.Proofs.Ytpbmgollolbgoaa.B
open Go.RowKit
set_option linter.unusedVariables false

/-- A text's bytes as numbers. -/
def bytesOf (s : ByteArray) : List Int := s.data.toList.map fun b => (b.toNat : Int)
theorem bytesOf_length (s : ByteArray) : (bytesOf s).length = s.size := by rw [bytesOf, List.length_map, Array.length_toList]; rfl
theorem nums_bytesOf (s : ByteArray) : nums (bytesOf s) = s.data.toList.map fun b => Value.int .u8 b.toNat := by simp [nums, bytesOf]
theorem strOfNums_bytesOf (s : ByteArray) : strOfNums (bytesOf s) = s := by
  have : (List.map ((fun n => UInt8.ofNat n.toNat) ∘ fun b => ((b : UInt8).toNat : Int)) s.data.toList) = s.data.toList := by
    conv => rhs; rw [← List.map_id s.data.toList]
    refine List.map_congr_left fun b _ => ?_
    simp
  unfold strOfNums bytesOf
  rw [List.map_map, this]
theorem strOfNums_append (xs ys : List Int) : strOfNums (xs ++ ys) = strOfNums xs ++ strOfNums ys := by
  apply ByteArray.ext
  simp [strOfNums]

/-- What Pad answers. -/
def padSpec (s : ByteArray) (n : Int) : ByteArray × Int :=
  if n < 0 ∨ 4096 < n then (⟨#[]⟩, 1) else if n < s.size then (⟨#[]⟩, 4) else (s ++ strOfNums (List.replicate (n.toNat - s.size) 0), 0)

theorem bytes_below (w : World) (e : TypeId) (s : ByteArray) : Below w.heap.size w (Lib.bytesWorld w e s) := by
  refine ⟨?_, ?_, ?_, by rw [Lib.bytesWorld_size]; omega, fun k hk => Lib.bytesWorld_at_old w e s k hk⟩ <;> simp [Lib.bytesWorld, World.freeze] <;> rfl

/-- A writer that begins with a text's bytes. -/
theorem Wr.bytes (w : World) (s : ByteArray) (hs : s.size ≤ maxLen) :
    Wr ((Lib.bytesWorld w 5 s).alloc (.cells #[.slice (some ⟨w.heap.size, 0, none⟩) s.size (grownCap w s.size 0 5), .bool false] 62)) (w.heap.size + 1)
      (.slice (some ⟨w.heap.size, 0, none⟩) s.size (grownCap w s.size 0 5)) (bytesOf s) false := by
  have hrow := Row.bytes w 5 s hs
  rw [← nums_bytesOf, ← bytesOf_length s] at hrow
  refine ⟨?_, ?_, by simp [Value.ownBlock]⟩
  · have := heap_alloc_new (Lib.bytesWorld w 5 s) (.cells #[.slice (some ⟨w.heap.size, 0, none⟩) s.size (grownCap w s.size 0 5), .bool false] 62)
    rwa [Lib.bytesWorld_size] at this
  · rw [← bytesOf_length s] at *
    exact hrow.alloc _

theorem Pad_ok (s : ByteArray) (n : Int) (h0 : ¬ n < 0) (h4 : ¬ 4096 < n) (hl : ¬ n < s.size) (w : World) :
    Calls Try.prog 22 #[.string s, .int .i64 n] w fun e w' => e = .returned (.tuple #[.string (s ++ strOfNums (List.replicate (n.toNat - s.size) 0)), .int .i64 0]) ∧ Below w.heap.size w w' := by
  have hcv := Lib.run_convert_string_bytes (P := Try.prog) w 9 60 5 s Try.underlying9 Try.underlying60 Try.underlying5
  have hsz := Lib.bytesWorld_size w 5 s
  have hsm : s.size ≤ maxLen := by unfold maxLen; omega
  have HW := Lib.hid (Wr.bytes w s hsm)
  have hlb : (bytesOf s).length ≤ 1000000 := by rw [bytesOf_length]; omega
  go_enter Try.func22, Try.ntmps22
  go_wp2_with fail
  refine (full_any _ _ _ _ n _ HW.out hlb h0 (by omega)).mono ?_
  rintro e w1 ⟨rfl, v', hW, hK, hv⟩
  have hB : Below w.heap.size w w1 := by
    refine ((bytes_below w 5 s).alloc (by rw [hsz]; omega) _).trans (hK.below (by simp; omega) ?_)
    intro i hi hs
    simp [Value.ownBlock] at hs
    omega
  have HB := Lib.hid hB
  clear hK hW hv hB
  rw [strOfNums_append, strOfNums_bytesOf, bytesOf_length]
  go_wp2
  go_ret2
  exact ⟨rfl, HB.out⟩

theorem Pad_any (s : ByteArray) (n : Int) (hs : s.size ≤ 140737488351232) (w : World) :
    Calls Try.prog 22 #[.string s, .int .i64 n] w fun e w' => e = .returned (.tuple #[.string (padSpec s n).1, .int .i64 (padSpec s n).2]) ∧ Below w.heap.size w w' := by
  by_cases h0 : n < 0
  · have h : padSpec s n = (⟨#[]⟩, 1) := by rw [padSpec, if_pos (.inl h0)]
    have H := Lib.hid h
    clear h
    go_enter Try.func22, Try.ntmps22
    go_wp2
    go_ret2
    rw [H.out]
    exact ⟨rfl, Below.refl _ _⟩
  by_cases h4 : 4096 < n
  · have h : padSpec s n = (⟨#[]⟩, 1) := by rw [padSpec, if_pos (.inr h4)]
    have H := Lib.hid h
    clear h
    go_enter Try.func22, Try.ntmps22
    go_wp2
    go_ret2
    rw [H.out]
    exact ⟨rfl, Below.refl _ _⟩
  by_cases hl : n < s.size
  · have h : padSpec s n = (⟨#[]⟩, 4) := by rw [padSpec, if_neg (by omega), if_pos hl]
    have H := Lib.hid h
    clear h
    go_enter Try.func22, Try.ntmps22
    go_wp2
    go_ret2
    rw [H.out]
    exact ⟨rfl, Below.refl _ _⟩
  have h : padSpec s n = (s ++ strOfNums (List.replicate (n.toNat - s.size) 0), 0) := by rw [padSpec, if_neg (by omega), if_neg hl]
  rw [h]
  exact Pad_ok s n h0 h4 hl w

theorem noughts_row {w : World} {e : TypeId} {v : Value} {k : Nat} (h : w.ownsRow 0 e 1 v k (madeCells (Value.int .u8 0).cells (k * 1)).toList) : Row w e 1 v k (nums (List.replicate k 0)) := by
  have h2 := Row.of_own h
  rw [Nat.mul_one, show (Value.int .u8 0).cells = #[.int .u8 0] from rfl, toList_madeCells_one] at h2
  simpa [nums] using h2

theorem Noughts_any (n : Int) (h0 : 0 ≤ n) (hn : n ≤ 1000000) (w : World) :
    Calls Try.prog 45 #[.int .i64 n] w fun e w' => e = .returned (.string (strOfNums (List.replicate n.toNat 0))) ∧ Below w.heap.size w w' := by
  obtain ⟨i0, hi, hz0, hz1, hz2⟩ := info_parts infoByte
  have HI := Lib.hid hi
  have HZ0 := Lib.hid hz0
  have HZ1 := Lib.hid hz1
  have HZ2 := Lib.hid hz2
  clear hi hz0 hz1 hz2
  obtain ⟨k, rfl⟩ := Int.eq_ofNat_of_zero_le h0
  go_enter Try.func45, Try.ntmps45
  go_wp2_with (at_make; go_must (refine wpList_make_full _ (by rfl) _ _ _ (by rfl) 0 5 i0 (.int .u8 0) 1 Try.underlying60 HI.out HZ0.out HZ1.out .i64 .i64 _ _ k (by rfl) (by rfl) rfl rfl (by rw [HZ2.out]; omega) (by unfold maxLen; omega) (Nat.zero_le _) ?_); intro w1 hown hgrow; have hcs := row_string (P := Try.prog) Try.underlying60 Try.underlying5 Try.underlying9 (noughts_row hown); have HG := Lib.hid hgrow; clear hown hgrow)
  go_ret
  exact ⟨by simp, (Below.refl _ w).grown HG.out (Nat.le_refl _) (by simp)⟩
theorem refPad_any (s : ByteArray) (n : Int) (hs : s.size ≤ 140737488351232) (w : World) :
    Calls Try.prog 23 #[.string s, .int .i64 n] w fun e w' => e = .returned (.tuple #[.string (padSpec s n).1, .int .i64 (padSpec s n).2]) ∧ Below w.heap.size w w' := by
  by_cases h0 : n < 0
  · have h : padSpec s n = (⟨#[]⟩, 1) := by rw [padSpec, if_pos (.inl h0)]
    have H := Lib.hid h
    clear h
    go_enter Try.func23, Try.ntmps23
    go_wp2
    go_ret2
    rw [H.out]
    exact ⟨rfl, Below.refl _ _⟩
  by_cases h4 : 4096 < n
  · have h : padSpec s n = (⟨#[]⟩, 1) := by rw [padSpec, if_pos (.inr h4)]
    have H := Lib.hid h
    clear h
    go_enter Try.func23, Try.ntmps23
    go_wp2
    go_ret2
    rw [H.out]
    exact ⟨rfl, Below.refl _ _⟩
  by_cases hl : n < s.size
  · have h : padSpec s n = (⟨#[]⟩, 4) := by rw [padSpec, if_neg (by omega), if_pos hl]
    have H := Lib.hid h
    clear h
    go_enter Try.func23, Try.ntmps23
    go_wp2
    go_ret2
    rw [H.out]
    exact ⟨rfl, Below.refl _ _⟩
  have h : padSpec s n = (s ++ strOfNums (List.replicate (n.toNat - s.size) 0), 0) := by rw [padSpec, if_neg (by omega), if_neg hl]
  have hq : ((n - (s.size : Int))).toNat = n.toNat - s.size := by omega
  have hz : (strOfNums (List.replicate (n.toNat - s.size) (0 : Int))).size ≤ 4096 := by rw [strOfNums_size, List.length_replicate]; omega
  have H := Lib.hid h
  clear h
  go_enter Try.func23, Try.ntmps23
  go_wp2_with fail
  refine (Noughts_any _ (by omega) (by omega) _).mono ?_
  rintro e w1 ⟨rfl, hb⟩
  rw [hq]
  have HB := Lib.hid hb
  clear hb
  go_wp2
  go_ret2
  rw [H.out]
  exact ⟨rfl, HB.out⟩

end Go.Proofs.Ytpbmgollolbgoaa.B
