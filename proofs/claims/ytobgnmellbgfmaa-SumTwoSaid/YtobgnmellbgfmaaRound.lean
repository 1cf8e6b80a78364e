/-
  A round's two sums as the program reckons them, on words.
-/
import Derived.Test.YtobgnmellbgfmaaShaB
namespace Go.Proofs.Ytobgnmellbgfmaa.B
open Go.RowKit
set_option linter.unusedVariables false

theorem not_u32 {x : Int} (h : W32 x) : bits .xor .u32 4294967295 x = 4294967295 - x := by
  obtain ⟨n, rfl, hn⟩ := nat_of h
  have h1 := bits_xor_nat .u32 32 (by decide) wraps_u32 4294967295 n (by decide) hn
  rw [show ((4294967295 : Nat) : Int) = 4294967295 from rfl] at h1
  rw [h1]
  have h2 : (BitVec.allOnes 32 ^^^ BitVec.ofNat 32 n).toNat = 2 ^ 32 - 1 - n := by
    rw [BitVec.allOnes_xor, BitVec.toNat_not, BitVec.toNat_ofNat, Nat.mod_eq_of_lt hn]
  rw [BitVec.toNat_xor, BitVec.toNat_allOnes, BitVec.toNat_ofNat, Nat.mod_eq_of_lt hn] at h2
  rw [show (4294967295 : Nat) = 2 ^ 32 - 1 from rfl, h2]
  omega
theorem tSum32 {x4 x5 x6 x7 k v : Int} (h4 : W32 x4) (h5 : W32 x5) (h6 : W32 x6) (h7 : W32 x7) (hk : W32 k) (hv : W32 v) :
    ∃ y1 y2 s1 y3 y4 y5 y6 : Int, bits .xor .u32 (rr x4 6) (rr x4 11) = y1 ∧ bits .xor .u32 y1 (rr x4 25) = y2 ∧ IntKind.u32.wrap (x7 + y2) = s1 ∧ bits .and .u32 x4 x5 = y3 ∧ bits .xor .u32 IntKind.u32.max x4 = y4 ∧ bits .and .u32 y4 x6 = y5 ∧ bits .xor .u32 y3 y5 = y6 ∧
      (s1 + y6 + k + v) % 4294967296 = (x7 + bs1 x4 + chs x4 x5 x6 + k + v) % 4294967296 := by
  have c4 : W32 (4294967295 - x4) := by unfold W32 at *; omega
  refine ⟨_, _, _, _, _, _, _, rfl, rfl, rfl, rfl, rfl, rfl, rfl, ?_⟩
  rw [xor_u32 (rr_w h4 (by omega)) (rr_w h4 (by omega)), xor_u32 (xr_w (rr_w h4 (by omega)) (rr_w h4 (by omega))) (rr_w h4 (by omega)), and_u32 h4 h5, show IntKind.u32.max = 4294967295 from rfl, not_u32 h4, and_u32 c4 h6, xor_u32 (an_w h4 h5) (an_w c4 h6)]
  rw [show xr (xr (rr x4 6) (rr x4 11)) (rr x4 25) = bs1 x4 from rfl, show xr (an x4 x5) (an (4294967295 - x4) x6) = chs x4 x5 x6 from rfl]
  generalize bs1 x4 = p
  generalize chs x4 x5 x6 = q
  rw [IntKind.wrap_u32]
  omega
theorem uSum32 {x0 x1 x2 : Int} (h0 : W32 x0) (h1 : W32 x1) (h2 : W32 x2) :
    ∃ y1 y2 y3 y4 y5 y6 y7 u : Int, bits .xor .u32 (rr x0 2) (rr x0 13) = y1 ∧ bits .xor .u32 y1 (rr x0 22) = y2 ∧ bits .and .u32 x0 x1 = y3 ∧ bits .and .u32 x0 x2 = y4 ∧ bits .xor .u32 y3 y4 = y5 ∧ bits .and .u32 x1 x2 = y6 ∧ bits .xor .u32 y5 y6 = y7 ∧ IntKind.u32.wrap (y2 + y7) = u ∧
      u = (bs0 x0 + mjs x0 x1 x2) % 4294967296 := by
  refine ⟨_, _, _, _, _, _, _, _, rfl, rfl, rfl, rfl, rfl, rfl, rfl, rfl, ?_⟩
  rw [xor_u32 (rr_w h0 (by omega)) (rr_w h0 (by omega)), xor_u32 (xr_w (rr_w h0 (by omega)) (rr_w h0 (by omega))) (rr_w h0 (by omega)), and_u32 h0 h1, and_u32 h0 h2, and_u32 h1 h2, xor_u32 (an_w h0 h1) (an_w h0 h2), xor_u32 (xr_w (an_w h0 h1) (an_w h0 h2)) (an_w h1 h2)]
  rw [show xr (xr (rr x0 2) (rr x0 13)) (rr x0 22) = bs0 x0 from rfl, show xr (xr (an x0 x1) (an x0 x2)) (an x1 x2) = mjs x0 x1 x2 from rfl, IntKind.wrap_u32]
end Go.Proofs.Ytobgnmellbgfmaa.B
