/-
  (*pack.cursor).rest, walked.
-/
import Derived.Test.YtpbmgollolbgoaaReads
import Derived.BigRegion
namespace Go.Proofs.Ytpbmgollolbgoaa.B
open Go.RowKit
set_option linter.unusedVariables false

/-- Are all bytes from a place on 0? -/
def restSpec (s : ByteArray) (p : Nat) : Bool := (bytesOf (s.extract p s.size)).all (· == 0)

set_option maxHeartbeats 1600000 in
theorem rest_any (c : Nat) (s : ByteArray) (p : Nat) (w : World) (h : Cu w c s p) (hs : s.size ≤ 9223372036854775807) (hp : p ≤ s.size) :
    Calls Try.prog 53 #[.pointer (some ⟨c, 0, none⟩)] w fun e w' => e = .returned (.bool (restSpec s p)) ∧ Below w.heap.size w w' := by
  have hc0 := blk_cell h 0
  have hc1 := blk_cell h 1
  have hl := blk_lt h
  have q1 : (0 : Int) ≤ (p : Int) := by omega
  have q2 : (p : Int) ≤ (s.size : Int) := by omega
  obtain ⟨x, hx⟩ : ∃ x, x = s.extract p s.size := ⟨_, rfl⟩
  have hxs : x.size ≤ maxLen := by rw [hx, ByteArray.size_extract]; unfold maxLen; omega
  have hxm : x.size ≤ 9223372036854775807 := by unfold maxLen at hxs; omega
  have hcv : ∀ W, (convert 9 60 (.string x)).run Try.prog W = .ok (.slice (some ⟨W.heap.size, 0, none⟩) x.size (grownCap W x.size 0 5)) (Lib.bytesWorld W 5 x) := fun W => Lib.run_convert_string_bytes (P := Try.prog) W 9 60 5 x Try.underlying9 Try.underlying60 Try.underlying5
  rw [restSpec, ← hx]
  have hx' := hx.symm
  have HX := Lib.hid hx
  clear hx h
  obtain ⟨ys, hys⟩ : ∃ ys, ys = bytesOf x := ⟨_, rfl⟩
  rw [← hys]
  have HYS := Lib.hid hys
  clear hys
  go_enter Try.func53, Try.ntmps53
  go_wp2
  go_region
  have hrow := Row.bytes w.drew 5 x hxs
  rw [← nums_bytesOf] at hrow
  have hbel : Below w.heap.size w (Lib.bytesWorld w.drew 5 x) := (Below.refl _ w).drew.trans (bytes_below w.drew _ x)
  have hcap : x.size ≤ grownCap w.drew x.size 0 5 := by have := grownCap_ge w.drew x.size 0 5; omega
  have hlt := hbel.size
  have hnw : w.heap.size < (Lib.bytesWorld w.drew 5 x).heap.size := by rw [Lib.bytesWorld_size]; simp
  generalize Lib.bytesWorld w.drew 5 x = W at *
  generalize grownCap w.drew x.size 0 5 = cap at *
  have hlen : (bytesOf x).length = x.size := bytesOf_length x
  have hys := HYS.out
  rw [← hys] at hrow hlen
  have hyr : ∀ y ∈ ys, 0 ≤ y ∧ y < 256 := by
    intro y hy
    rw [hys] at hy
    simp only [bytesOf, List.mem_map] at hy
    obtain ⟨b, _, rfl⟩ := hy
    have := UInt8.toNat_lt b
    omega
  have HR := Lib.hid hrow
  have HB := Lib.hid hbel
  have HY := Lib.hid hyr
  have HLN := Lib.hid hlen
  clear hrow hbel hyr hys hlen hc0 hc1 hcv hx' HX
  go_wp2
  go_loopg [16] x.size (fun j i wr => ∃ k : Nat, j + k = x.size ∧ i = .int .i64 k ∧ Aside ((ys.take k).all (· == 0) = true ∧ Below W.heap.size W wr))
  case atStart => exact ⟨0, rfl, rfl, by simp, Below.refl _ _⟩
  case round =>
    obtain ⟨k, hk, rfl, hA⟩ := hrel
    by_cases hlt' : k < x.size
    · have hcell : wr.cell? ⟨w.heap.size, k, none⟩ = some (.int .u8 (ys.getD k 0)) := by
        rw [hA.out.2.cell (p := ⟨w.heap.size, k, none⟩) hnw]
        exact HR.out.cells k _ (by simp [nums, List.getD, List.getElem?_eq_getElem (show k < ys.length by rw [HLN.out]; exact hlt')])
      have htk : ys.take (k + 1) = ys.take k ++ [ys.getD k 0] := by
        have hh : k < ys.length := by rw [HLN.out]; exact hlt'
        rw [List.take_add_one, List.getElem?_eq_getElem hh]
        simp [List.getD, List.getElem?_eq_getElem hh]
      have l2 := Nat.lt_of_lt_of_le hnw hA.out.2.size
      obtain ⟨y, hy⟩ : ∃ y, y = ys.getD k 0 := ⟨_, rfl⟩
      rw [← hy] at hcell htk
      have b1 : (0 : Int) ≤ (k : Int) := by omega
      have b2 : (k : Int) < (x.size : Int) := by omega
      have HTK := Lib.hid htk
      by_cases hz : y = 0
      · have hzb : (y != 0) = false := by simp [hz]
        clear htk hy
        go_wp2
        go_roundg (gk - 1)
        case measure => omega
        case rel => exact ⟨k + 1, by omega, by go_num, by rw [HTK.out, List.all_append, hA.out.1]; simp [hz], hA.out.2⟩
      · have hzb : (y != 0) = true := by simp [hz]
        have hr : ys.all (· == 0) = false := by
          rw [List.all_eq_false]
          refine ⟨y, ?_, by simp [hz]⟩
          rw [hy]
          simp [List.getD, List.getElem?_eq_getElem (show k < ys.length by rw [HLN.out]; exact hlt')]
        have HRR := Lib.hid hr
        clear htk hy hr
        go_wp2
        go_ret
        rw [HRR.out]
        exact ⟨rfl, HB.out.trans (hA.out.2.mono HB.out.size)⟩
    · obtain rfl : gk = 0 := by omega
      have hr : ys.all (· == 0) = true := by
        have h := hA.out.1
        rwa [List.take_of_length_le (by rw [HLN.out]; omega)] at h
      have HRR := Lib.hid hr
      clear hr
      go_wp2
      go_ret
      rw [HRR.out]
      exact ⟨rfl, HB.out.trans (hA.out.2.mono HB.out.size)⟩
end Go.Proofs.Ytpbmgollolbgoaa.B
