/-
  PadE: what is wanted of Base, Bytes, Writer, Put, Cursor, Get, RefPut, Pad.
-/
import Derived.WalkKit
import Derived.WalkSpells
import Derived.WalkLawsBesides
import Derived.KernelRfl
import Derived.Lib.Hide
import Derived.Lib.ConvBytes
import Derived.Lib.AppendStr
import Derived.Deep.RegionHeld3
import Derived.Deep.RegionLaw
import Derived.ArgAppend
import Derived.Deep.LoopGhost
import Derived.Deep.QuietTactic
import Derived.BigQuiet
import Derived.Outline
import Derived.Deep.AppendLies
import Derived.Test.YthobfbiobnmceaaProg
import Derived.Lib.Strings
import Derived.Recover
import Derived.Test.YthobfbiobnmceaaBase
import Derived.Test.YthobfbiobnmceaaBytes
import Derived.Test.YthobfbiobnmceaaWriter
import Derived.Test.YthobfbiobnmceaaPut
import Derived.Test.YthobfbiobnmceaaCursor
import Derived.Test.YthobfbiobnmceaaGet
import Derived.Test.YthobfbiobnmceaaRefPut
set_option linter.unusedVariables false
set_option linter.unusedSimpArgs false
namespace Go.Proofs.Ythobfbiobnmceaa.B
open Go.RowKit
set_option linter.unusedVariables false
end Go.Proofs.Ythobfbiobnmceaa.B
namespace Go.Proofs.Ythobfbiobnmceaa.B
open Go.RowKit
set_option linter.unusedVariables false
end Go.Proofs.Ythobfbiobnmceaa.B
namespace Go.Proofs.Ythobfbiobnmceaa.B
open Go.RowKit
set_option linter.unusedVariables false
end Go.Proofs.Ythobfbiobnmceaa.B
namespace Go.Proofs.Ythobfbiobnmceaa.B
open Go.RowKit
set_option linter.unusedVariables false
/-- What Pad answers. -/
def padSpec (s : ByteArray) (n : Int) : ByteArray × Int :=
  if n < 0 ∨ 4096 < n then (⟨#[]⟩, 1) else if n < s.size then (⟨#[]⟩, 4) else (s ++ strOfNums (List.replicate (n.toNat - s.size) 0), 0)
/-- A writer that begins with a text's bytes. -/
theorem Wr.bytes (w : World) (s : ByteArray) (hs : s.size ≤ maxLen) :
    Wr ((Lib.bytesWorld w 5 s).alloc (.cells #[.slice (some ⟨w.heap.size, 0, none⟩) s.size (grownCap w s.size 0 5), .bool false] 120)) (w.heap.size + 1)
      (.slice (some ⟨w.heap.size, 0, none⟩) s.size (grownCap w s.size 0 5)) (bytesOf s) false := by
  have hrow := Row.bytes w 5 s hs
  rw [← nums_bytesOf, ← bytesOf_length s] at hrow
  refine ⟨?_, ?_, by simp [Value.ownBlock]⟩
  · have := heap_alloc_new (Lib.bytesWorld w 5 s) (.cells #[.slice (some ⟨w.heap.size, 0, none⟩) s.size (grownCap w s.size 0 5), .bool false] 120)
    rwa [Lib.bytesWorld_size] at this
  · rw [← bytesOf_length s] at *
    exact hrow.alloc _
set_option maxRecDepth 100000 in
theorem Pad_ok (s : ByteArray) (n : Int) (h0 : ¬ n < 0) (h4 : ¬ 4096 < n) (hl : ¬ n < s.size) (w : World) :
    Calls Try.prog 64 #[.string s, .int .i64 n] w fun e w' => e = .returned (.tuple #[.string (s ++ strOfNums (List.replicate (n.toNat - s.size) 0)), .int .i64 0]) ∧ Below w.heap.size w w' := by
  have hcv := Lib.run_convert_string_bytes (P := Try.prog) w 9 50 5 s Try.underlying9 Try.underlying50 Try.underlying5
  have hsz := Lib.bytesWorld_size w 5 s
  have hsm : s.size ≤ maxLen := by unfold maxLen; omega
  have HW := Lib.hid (Wr.bytes w s hsm)
  have hlb : (bytesOf s).length ≤ 1000000 := by rw [bytesOf_length]; omega
  go_enter Try.func64, Try.ntmps64
  go_wp2_with fail
  refine (full_any _ _ _ _ n _ HW.out hlb h0 (by omega)).mono ?_
  rintro e w1 ⟨rfl, v', hW, hK, hv⟩
  have hB : Below w.heap.size w w1 := by
    refine ((bytes_below w 5 s).alloc (by rw [hsz]; omega) _).trans (hK.below (by simp; omega) ?_)
    intro i hi hs
    simp [Value.ownBlock] at hs
    omega
  have HB := Lib.hid hB
  clear hK hW hv hB
  rw [strOfNums_append, strOfNums_bytesOf, bytesOf_length]
  go_wp2
  go_ret2
  exact ⟨rfl, HB.out⟩
set_option maxRecDepth 100000 in
theorem Pad_any (s : ByteArray) (n : Int) (hs : s.size ≤ 140737488351232) (w : World) :
    Calls Try.prog 64 #[.string s, .int .i64 n] w fun e w' => e = .returned (.tuple #[.string (padSpec s n).1, .int .i64 (padSpec s n).2]) ∧ Below w.heap.size w w' := by
  by_cases h0 : n < 0
  · have h : padSpec s n = (⟨#[]⟩, 1) := by rw [padSpec, if_pos (.inl h0)]
    have H := Lib.hid h
    clear h
    go_enter Try.func64, Try.ntmps64
    go_wp2
    go_ret2
    rw [H.out]
    exact ⟨rfl, Below.refl _ _⟩
  by_cases h4 : 4096 < n
  · have h : padSpec s n = (⟨#[]⟩, 1) := by rw [padSpec, if_pos (.inr h4)]
    have H := Lib.hid h
    clear h
    go_enter Try.func64, Try.ntmps64
    go_wp2
    go_ret2
    rw [H.out]
    exact ⟨rfl, Below.refl _ _⟩
  by_cases hl : n < s.size
  · have h : padSpec s n = (⟨#[]⟩, 4) := by rw [padSpec, if_neg (by omega), if_pos hl]
    have H := Lib.hid h
    clear h
    go_enter Try.func64, Try.ntmps64
    go_wp2
    go_ret2
    rw [H.out]
    exact ⟨rfl, Below.refl _ _⟩
  have h : padSpec s n = (s ++ strOfNums (List.replicate (n.toNat - s.size) 0), 0) := by rw [padSpec, if_neg (by omega), if_neg hl]
  rw [h]
  exact Pad_ok s n h0 h4 hl w
theorem noughts_row {w : World} {e : TypeId} {v : Value} {k : Nat} (h : w.ownsRow 0 e 1 v k (madeCells (Value.int .u8 0).cells (k * 1)).toList) : Row w e 1 v k (nums (List.replicate k 0)) := by
  have h2 := Row.of_own h
  rw [Nat.mul_one, show (Value.int .u8 0).cells = #[.int .u8 0] from rfl, toList_madeCells_one] at h2
  simpa [nums] using h2
set_option maxRecDepth 100000 in
theorem Noughts_any (n : Int) (h0 : 0 ≤ n) (hn : n ≤ 1000000) (w : World) :
    Calls Try.prog 60 #[.int .i64 n] w fun e w' => e = .returned (.string (strOfNums (List.replicate n.toNat 0))) ∧ Below w.heap.size w w' := by
  obtain ⟨i0, hi, hz0, hz1, hz2⟩ := info_parts infoByte
  have HI := Lib.hid hi
  have HZ0 := Lib.hid hz0
  have HZ1 := Lib.hid hz1
  have HZ2 := Lib.hid hz2
  clear hi hz0 hz1 hz2
  obtain ⟨k, rfl⟩ := Int.eq_ofNat_of_zero_le h0
  go_enter Try.func60, Try.ntmps60
  go_wp2_with (at_make; go_must (refine wpList_make_full _ (by rfl) _ _ _ (by rfl) 0 5 i0 (.int .u8 0) 1 Try.underlying50 HI.out HZ0.out HZ1.out .i64 .i64 _ _ k (by rfl) (by rfl) rfl rfl (by rw [HZ2.out]; omega) (by unfold maxLen; omega) (Nat.zero_le _) ?_); intro w1 hown hgrow; have hcs := row_string (P := Try.prog) Try.underlying50 Try.underlying5 Try.underlying9 (noughts_row hown); have HG := Lib.hid hgrow; clear hown hgrow)
  go_ret
  exact ⟨by simp, (Below.refl _ w).grown HG.out (Nat.le_refl _) (by simp)⟩
end Go.Proofs.Ythobfbiobnmceaa.B
