/-
  The cursor of layer 1, (*pack.cursor).take, .text and .rest, walked.
-/
import Derived.Test.YthobfbiobnmceaaProg
import Derived.Test.YthobfbiobnmceaaBase
namespace Go.Proofs.Ythobfbiobnmceaa.B
open Go.RowKit
set_option linter.unusedVariables false

/-- A cursor: block c holds the text s and the place at. -/
def Cu (w : World) (c : Nat) (s : ByteArray) (p : Nat) : Prop := w.heap[c]? = some (.cells #[.string s, .int .i64 p] 102 (0, 0))

/-- The byte at a place. -/
def byteAt (s : ByteArray) (i : Nat) : Int := if h : i < s.size then ((s[i]'h).toNat : Int) else 0
theorem byteAt_of (s : ByteArray) (i : Nat) (h : i < s.size) : ((s[i]'h).toNat : Int) = byteAt s i := by simp [byteAt, h]
/-- The number of k bytes from a place on, the lowest first. -/
def num (s : ByteArray) (p : Nat) : Nat → Int
  | 0 => 0
  | k + 1 => num s p k + byteAt s (p + k) * 2 ^ (8 * k)

theorem byteAt_range (s : ByteArray) (i : Nat) : 0 ≤ byteAt s i ∧ byteAt s i ≤ 255 := by
  unfold byteAt
  split
  · rename_i h
    have := UInt8.toNat_lt (s[i]'h)
    omega
  · omega
theorem num_range (s : ByteArray) (p : Nat) : ∀ k, 0 ≤ num s p k ∧ num s p k < 2 ^ (8 * k)
  | 0 => by simp [num]
  | k + 1 => by
    obtain ⟨h1, h2⟩ := num_range s p k
    obtain ⟨h3, h4⟩ := byteAt_range s (p + k)
    have hp : (0 : Int) < 2 ^ (8 * k) := Int.pow_pos (by decide)
    have h5 : byteAt s (p + k) * 2 ^ (8 * k) ≤ 255 * 2 ^ (8 * k) := Int.mul_le_mul_of_nonneg_right h4 (by omega)
    have h6 : 0 ≤ byteAt s (p + k) * 2 ^ (8 * k) := Int.mul_nonneg h3 (by omega)
    have h7 : (2 : Int) ^ (8 * (k + 1)) = 256 * 2 ^ (8 * k) := by rw [show 8 * (k + 1) = 8 + 8 * k by omega, Int.pow_add]; rfl
    rw [num, h7]
    omega
theorem two_le {a b : Nat} (h : a ≤ b) : (2 : Int) ^ a ≤ 2 ^ b := by exact_mod_cast Nat.pow_le_pow_right (by decide : 0 < 2) h
theorem or_low (j i : Nat) (hj : j ≤ 63) (x y : Int) (hx₀ : 0 ≤ x) (hx : x % 2 ^ i = 0) (hx₁ : x < 2 ^ j) (hy₀ : 0 ≤ y) (hy : y < 2 ^ i) (hy₁ : y < 2 ^ j) : bits .or .i64 y x = y + x := by
  have hk : ∀ n : Int, 0 ≤ n → n < 2 ^ j → IntKind.i64.wrap n = n := fun n h0 h1 => by
    have h2 : (2 : Int) ^ j ≤ 2 ^ 63 := two_le hj
    rw [IntKind.wrap_i64]
    have h3 : (2 : Int) ^ 63 = 9223372036854775808 := rfl
    omega
  have h := bits_join .i64 j (by simp [IntKind.bits]; omega) hk i x y hx₀ hx hx₁ hy₀ hy hy₁
  obtain ⟨a, rfl⟩ := Int.eq_ofNat_of_zero_le hx₀
  obtain ⟨b, rfl⟩ := Int.eq_ofNat_of_zero_le hy₀
  have ha : a < 2 ^ j := by exact_mod_cast hx₁
  have hb : b < 2 ^ j := by exact_mod_cast hy₁
  rw [(bits_nat .i64 j (by simp [IntKind.bits]; omega) hk a b ha hb).2] at h
  rw [(bits_nat .i64 j (by simp [IntKind.bits]; omega) hk b a hb ha).2, Nat.or_comm, h]
  omega
theorem num_or (s : ByteArray) (p k : Nat) (hk : k ≤ 5) (h : p + k < s.size) : bits .or .i64 (num s p k) (wrap64 (wrap64 ((s[p + k]'h).toNat : Int) * 2 ^ (8 * k))) = num s p (k + 1) := by
  obtain ⟨h1, h2⟩ := num_range s p k
  obtain ⟨h3, h4⟩ := byteAt_range s (p + k)
  have hp : (0 : Int) < 2 ^ (8 * k) := Int.pow_pos (by decide)
  have hq : (2 : Int) ^ (8 * k) ≤ 2 ^ 40 := two_le (by omega)
  have hq2 : (2 : Int) ^ 40 = 1099511627776 := rfl
  have h5 : byteAt s (p + k) * 2 ^ (8 * k) ≤ 255 * 2 ^ (8 * k) := Int.mul_le_mul_of_nonneg_right h4 (by omega)
  have h6 : 0 ≤ byteAt s (p + k) * 2 ^ (8 * k) := Int.mul_nonneg h3 (by omega)
  rw [byteAt_of]
  have e1 : wrap64 (byteAt s (p + k)) = byteAt s (p + k) := by unfold wrap64; omega
  rw [e1]
  have e2 : wrap64 (byteAt s (p + k) * 2 ^ (8 * k)) = byteAt s (p + k) * 2 ^ (8 * k) := by unfold wrap64; omega
  rw [e2, or_low 48 (8 * k) (by decide) _ _ h6 (by simp) (by omega) h1 h2 (by omega)]
  rfl

set_option maxRecDepth 100000 in
theorem take_short (c : Nat) (s : ByteArray) (p : Nat) (width : Int) (w : World) (h : Cu w c s p) (hs : s.size ≤ 9223372036854775807) (hp : p ≤ s.size) (hw : (s.size : Int) - p < width) :
    Calls Try.prog 49 #[.pointer (some ⟨c, 0, none⟩), .int .i64 width] w fun e w' => e = .panicked [{ v := .iface 123 (.agg #[]), recovered := false }] ∧ ∃ n, w.drewN n = w' := by
  have hc0 := blk_cell h 0
  have hc1 := blk_cell h 1
  have hf1 := blk_frozen h 1
  have hl := blk_lt h
  clear h
  go_enter Try.func49, Try.ntmps49
  go_wp2
  go_quiet (fail)
  go_wp2
  exact ⟨rfl, rfl, _, rfl⟩

set_option maxRecDepth 100000 in
theorem take_ok (c : Nat) (s : ByteArray) (p : Nat) (width : Int) (w : World) (h : Cu w c s p) (hs : s.size ≤ 9223372036854775807) (h0 : 0 ≤ width) (h6 : width ≤ 6) (hw : (p : Int) + width ≤ s.size) :
    Calls Try.prog 49 #[.pointer (some ⟨c, 0, none⟩), .int .i64 width] w fun e w' => e = .returned (.int .i64 (num s p width.toNat)) ∧ ∃ n, (w.setCell ⟨c, 1, none⟩ (.int .i64 (p + width))).drewN n = w' := by
  have hc0 := blk_cell h 0
  have hc1 := blk_cell h 1
  have hf1 := blk_frozen h 1
  have hl := blk_lt h
  clear h
  go_enter Try.func49, Try.ntmps49
  go_wp2
  go_quiet (fail)
  go_wp2
  go_loopw [5, 22] (fun t i wr => ∃ k : Nat, (k : Int) ≤ width ∧ i = .int .i64 k ∧ t = .int .i64 (num s p k) ∧ ∃ n, w.drewN n = wr) (fun _ i _ => width.toNat - (intOf i).toNat)
  case atStart => exact ⟨0, h0, rfl, rfl, _, rfl⟩
  case round =>
    obtain ⟨k, hk, rfl, rfl, nd, rfl⟩ := hrel
    by_cases hlt : (k : Int) < width
    · have e1 : IntKind.i64.wrap ((p : Int) + (k : Int)) = (p : Int) + (k : Int) := IntWalk.i64_in _ (by omega)
      have e2 : (0 : Int) ≤ (p : Int) + (k : Int) := by omega
      have e3 : (p : Int) + (k : Int) < (s.size : Int) := by omega
      have e4 : ((p : Int) + (k : Int)).toNat = p + k := by omega
      have e5 : p + k < s.size := by omega
      have hw8 : IntKind.i64.wrap (8 * (k : Int)) = 8 * (k : Int) := IntWalk.i64_in _ (by omega)
      have hp8 : (0 : Int) ≤ 8 * (k : Int) := by omega
      have ht8 : (8 * (k : Int)).toNat = 8 * k := by omega
      have hm8 : min (8 * k) 64 = 8 * k := by omega
      go_wp2
      go_quiet (fail)
      go_wp2
      go_roundw
      case rel => exact ⟨k + 1, by omega, by go_num, by rw [num_or s p k (by omega) e5], _, rfl⟩
      case measure => simp [intOf]; omega
    · have e1 : IntKind.i64.wrap ((p : Int) + width) = (p : Int) + width := IntWalk.i64_in _ (by omega)
      go_wp2
      obtain rfl : k = width.toNat := by omega
      go_ret
      exact ⟨rfl, nd, rfl⟩
end Go.Proofs.Ythobfbiobnmceaa.B
