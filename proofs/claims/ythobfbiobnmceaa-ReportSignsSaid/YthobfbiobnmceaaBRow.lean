/-
  A []byte that []byte(s) made, its bytes, and what is read of it.
-/
import Derived.Test.YthobfbiobnmceaaVaultS
import Derived.Test.YthobfbiobnmceaaRefOf
import Derived.Test.YthobfbiobnmceaaRepSame
import Derived.Test.YthobfbiobnmceaaRepLawsE
namespace Go.Proofs.Ythobfbiobnmceaa.B
open Go.RowKit
set_option linter.unusedVariables false
set_option linter.unusedSimpArgs false

/-- Block g holds the bytes of s. -/
structure BRow (W : World) (g : Nat) (s : ByteArray) : Prop where
  blk : ∃ cs fr, W.heap[g]? = some (.cells cs 5 fr)
  at_ : ∀ j, j < s.size → W.cell? ⟨g, j, none⟩ = some (.int .u8 ((bytesOf s).getD j 0))
theorem BRow.lt {W : World} {g : Nat} {s : ByteArray} (h : BRow W g s) : g < W.heap.size := by
  obtain ⟨cs, fr, h⟩ := h.blk
  exact blk_lt h
theorem BRow.below {W W' : World} {g : Nat} {s : ByteArray} (h : BRow W g s) (hb : Below W.heap.size W W') : BRow W' g s :=
  ⟨by obtain ⟨cs, fr, hc⟩ := h.blk; exact ⟨cs, fr, (hb.block g (blk_lt hc)).trans hc⟩, fun j hj => (hb.cell (p := ⟨g, j, none⟩) h.lt).trans (h.at_ j hj)⟩
theorem BRow.conv {W : World} {g : Nat} {s : ByteArray} (h : BRow W g s) (off n cap : Nat) (hn : off + n ≤ s.size) :
    (convert 50 9 (.slice (some ⟨g, off, none⟩) n cap)).run Try.prog W = .ok (.string (s.extract off (off + n))) W := by
  have hl : (bytesOf (s.extract off (off + n))).length = n := by
    rw [bytesOf_length, ByteArray.size_extract]
    omega
  have := run_convert_bytes_arg (P := Try.prog) W 50 5 Try.underlying50 Try.underlying5 g off n cap (bytesOf (s.extract off (off + n))) hl (fun i hi => by
    rw [h.at_ (off + i) (by omega)]
    congr 2
    rw [bytesOf_extract]
    simp only [List.getD_eq_getElem?_getD]
    rw [List.getElem?_take, if_pos (by omega), List.getElem?_drop]) 9 Try.underlying9
  rw [strOfNums_bytesOf] at this
  exact this
theorem BRow.made (W : World) (s : ByteArray) : BRow (Lib.bytesWorld W 5 s) W.heap.size s :=
  ⟨⟨_, _, Lib.bytesWorld_at_new W _ s⟩, fun j hj => by
    rw [Lib.bytesWorld_cell W _ s j hj]
    have hj2 : j < s.data.size := hj
    simp [bytesOf, List.getD_eq_getElem?_getD, Array.getElem?_eq_getElem hj2]⟩
theorem bytes_frozen (W : World) (s : ByteArray) (j : Nat) (hj : j < s.size) : (Lib.bytesWorld W 5 s).frozen? ⟨W.heap.size, j, none⟩ = false := by
  have hge := grownCap_ge W s.size 0 5
  have hsz : (Lib.bytesCells W 5 s).size = grownCap W s.size 0 5 := by
    have : s.data.size = s.size := rfl
    simp [Lib.bytesCells, this]; omega
  simp [World.frozen?, Lib.bytesWorld_at_new, hsz]
  omega
/-- One byte changed. -/
def setB (s : ByteArray) (j : Nat) (x : Int) : ByteArray := strOfNums ((bytesOf s).set j x)
theorem setB_size (s : ByteArray) (j : Nat) (x : Int) : (setB s j x).size = s.size := by rw [setB, strOfNums_size, List.length_set, bytesOf_length]
theorem BRow.set {W : World} {g : Nat} {s : ByteArray} (h : BRow W g s) (j : Nat) (hj : j < s.size) (x : Int) (hx : 0 ≤ x ∧ x < 256) : BRow (W.setCell ⟨g, j, none⟩ (.int .u8 x)) g (setB s j x) := by
  have hb : bytesOf (setB s j x) = (bytesOf s).set j x := bytesOf_strOfNums _ (fun y hy => by
    rcases List.mem_or_eq_of_mem_set hy with h1 | h1
    · simp only [bytesOf, List.mem_map] at h1
      obtain ⟨b, _, rfl⟩ := h1
      have := UInt8.toNat_lt b
      omega
    · rw [h1]; exact hx)
  obtain ⟨cs, fr, hc⟩ := h.blk
  have hset := blk_set hc j (.int .u8 x)
  refine ⟨⟨_, _, hset⟩, fun i hi => ?_⟩
  rw [setB_size] at hi
  rw [hb, blk_cell hset]
  have hci := h.at_ i hi
  rw [blk_cell hc] at hci
  have hl := bytesOf_length s
  simp only [List.getD_eq_getElem?_getD] at hci ⊢
  rw [List.getElem?_set]
  have hlt : i < cs.size := by
    rcases Nat.lt_or_ge i cs.size with h1 | h1
    · exact h1
    · rw [Array.getElem?_eq_none h1] at hci; cases hci
  by_cases he : j = i
  · subst he
    rw [if_pos rfl, if_pos (by omega)]
    simp [hlt]
  · rw [if_neg he, Array.getElem?_setIfInBounds, if_neg he]
    exact hci
end Go.Proofs.Ythobfbiobnmceaa.B
