/-
  box.Same, walked: it tells whether two texts are one.
-/
import Derived.Test.YthobfbiobnmceaaSumHA
namespace Go.Proofs.Ythobfbiobnmceaa.B
open Go.RowKit
set_option linter.unusedVariables false
set_option linter.unusedSimpArgs false

theorem acc_byte (d x y : Int) (hd : 0 ≤ d ∧ d ≤ 255) (hx : 0 ≤ x ∧ x ≤ 255) (hy : 0 ≤ y ∧ y ≤ 255) :
    (0 ≤ bits .or .u8 d (bits .xor .u8 x y) ∧ bits .or .u8 d (bits .xor .u8 x y) ≤ 255) ∧ (bits .or .u8 d (bits .xor .u8 x y) = 0 ↔ d = 0 ∧ x = y) := by
  obtain ⟨a, rfl⟩ := Int.eq_ofNat_of_zero_le hd.1
  obtain ⟨b, rfl⟩ := Int.eq_ofNat_of_zero_le hx.1
  obtain ⟨c, rfl⟩ := Int.eq_ofNat_of_zero_le hy.1
  have hk : ∀ n : Int, 0 ≤ n → n < 2 ^ 8 → IntKind.u8.wrap n = n := fun n h0 h1 => by rw [IntKind.wrap_u8]; omega
  have ha : a < 2 ^ 8 := by have := hd.2; omega
  have hb : b < 2 ^ 8 := by have := hx.2; omega
  have hc : c < 2 ^ 8 := by have := hy.2; omega
  have hx2 := Nat.xor_lt_two_pow hb hc
  rw [bits_xor_nat .u8 8 (by decide) hk b c hb hc, (bits_nat .u8 8 (by decide) hk a (b ^^^ c) ha hx2).2]
  have ho := Nat.or_lt_two_pow ha hx2
  refine ⟨⟨by omega, by omega⟩, ?_⟩
  have e : ((a ||| (b ^^^ c) : Nat) : Int) = 0 ↔ (a ||| (b ^^^ c)) = 0 := by omega
  have e2 : b ^^^ c = 0 ↔ b = c := ⟨fun h => by
    have h2 : (b ^^^ c) ^^^ c = 0 ^^^ c := by rw [h]
    rwa [Nat.xor_assoc, Nat.xor_self, Nat.xor_zero, Nat.zero_xor] at h2, fun h => by rw [h, Nat.xor_self]⟩
  rw [e, Nat.or_eq_zero_iff, e2]
  omega
/-- The first k bytes of two texts are one. -/
def upTo (a b : ByteArray) (k : Nat) : Prop := ∀ i, i < k → byteAt a i = byteAt b i
theorem upTo_all {a b : ByteArray} (h : a.size = b.size) : upTo a b a.size ↔ a = b := by
  constructor
  · intro hu
    apply ByteArray.ext
    apply Array.ext h
    intro i h1 h2
    have h3 := hu i h1
    rw [← byteAt_of a i h1, ← byteAt_of b i h2] at h3
    have h4 : a[i] = b[i] := UInt8.toNat_inj.1 (by omega)
    exact h4
  · rintro rfl i _
    rfl
set_option maxRecDepth 100000 in
theorem boxSame_any (a b : ByteArray) (hs : a.size ≤ 1000000000) (w : World) :
    Calls Try.prog 66 #[.string a, .string b] w fun e w' => e = .returned (.bool (decide (a = b))) ∧ Below w.heap.size w w' := by
  by_cases hz : a.size = b.size
  · have hz2 : ((a.size : Int) != (b.size : Int)) = false := by simp [hz]
    obtain ⟨R, hR⟩ : ∃ R, R = decide (a = b) := ⟨_, rfl⟩
    have hU := upTo_all hz
    rw [← hR]
    have HU := Lib.hid hU
    have HZ := Lib.hid hz
    have HR := Lib.hid hR
    clear hU hz hR
    go_enter Try.func66, Try.ntmps66
    go_wp2_with fail
    go_loopg [5, 14] a.size (fun j d i wr => ∃ (k : Nat) (x : Int), j + k = a.size ∧ i = .int .i64 (k : Int) ∧ d = .int .u8 x ∧ (0 ≤ x ∧ x ≤ 255) ∧ (x = 0 ↔ upTo a b k) ∧ Below w.heap.size w wr)
    case atStart => exact ⟨0, 0, by omega, rfl, rfl, ⟨by omega, by omega⟩, ⟨fun _ i hi => absurd hi (by omega), fun _ => rfl⟩, Below.refl _ _⟩
    case round =>
      obtain ⟨k, x, hk, rfl, rfl, hx, hu, hb⟩ := hrel
      by_cases hlt : k < a.size
      · obtain ⟨j, rfl⟩ : ∃ j, gk = j + 1 := ⟨gk - 1, by omega⟩
        have hltb : k < b.size := by rw [← HZ.out]; exact hlt
        have hra := byteAt_range a k
        have hrb := byteAt_range b k
        have hea := byteAt_of a k hlt
        have heb := byteAt_of b k hltb
        have hacc := acc_byte x (byteAt a k) (byteAt b k) hx hra hrb
        have hnx : bits .or .u8 x (bits .xor .u8 (byteAt a k) (byteAt b k)) = 0 ↔ upTo a b (k + 1) := by
          rw [hacc.2, hu]
          constructor
          · rintro ⟨h1, h2⟩ i hi
            by_cases he : i = k
            · rw [he]; exact h2
            · exact h1 i (by omega)
          · intro h
            exact ⟨fun i hi => h i (by omega), h k (by omega)⟩
        have HNX := Lib.hid hnx
        have HAC := Lib.hid hacc.1
        have HB := Lib.hid hb
        have hjk : j + (k + 1) = a.size := by omega
        have u0 : (0 : Int) ≤ (k : Int) := by omega
        have u1 : (k : Int) < (a.size : Int) := by omega
        have u2 : (k : Int) < (b.size : Int) := by omega
        clear hnx hacc hb hk hu
        go_wp2_with fail
        go_quiet (fail)
        go_wp2_with fail
        go_roundg j
        case measure => omega
        case rel => exact ⟨k + 1, _, hjk, by go_num, rfl, HAC.out, HNX.out, bdrewN HB.out _⟩
      · obtain rfl : gk = 0 := by omega
        obtain rfl : k = a.size := by omega
        have HB := Lib.hid hb
        have hux : decide (x = 0) = R := by rw [HR.out]; exact decide_eq_decide.2 (hu.trans HU.out)
        have HX := Lib.hid hux
        clear hb hu hux hk
        go_wp2_with fail
        go_ret
        exact ⟨by rw [← HX.out]; rfl, HB.out⟩
  · have hz2 : ((a.size : Int) != (b.size : Int)) = true := by simp; omega
    have e : decide (a = b) = false := decide_eq_false (fun h => hz (by rw [h]))
    rw [e]
    go_enter Try.func66, Try.ntmps66
    go_wp2_with fail
    go_ret
    exact ⟨rfl, Below.refl _ _⟩
end Go.Proofs.Ythobfbiobnmceaa.B
