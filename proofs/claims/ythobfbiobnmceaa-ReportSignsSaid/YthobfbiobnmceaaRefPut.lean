/-
  The document's Put and Get (grapnelref01), walked: they answer what pack's do.
-/
import Derived.Test.YthobfbiobnmceaaPut
import Derived.Test.YthobfbiobnmceaaGet
namespace Go.Proofs.Ythobfbiobnmceaa.B
open Go.RowKit
set_option linter.unusedVariables false

theorem div_step (n : Int) (k : Nat) : n / 2 ^ (8 * k) / 256 = n / 2 ^ (8 * (k + 1)) := by
  rw [Int.ediv_ediv_of_nonneg (by exact_mod_cast Nat.zero_le _), show 8 * (k + 1) = 8 * k + 8 by omega, Int.pow_add]
  rfl
theorem div_pow_nonneg {n : Int} (h : 0 ≤ n) (k : Nat) : 0 ≤ n / 2 ^ (8 * k) := Int.ediv_nonneg h (by exact_mod_cast Nat.zero_le _)
theorem div_pow_le {n : Int} (h : 0 ≤ n) (k : Nat) : n / 2 ^ (8 * k) ≤ n := Int.ediv_le_self _ h

set_option maxRecDepth 100000 in
theorem refPut_loop (n width : Int) (hn : 0 ≤ n) (hn2 : n ≤ 9223372036854775807) (h0 : 1 ≤ width) (h6 : width ≤ 6) (w : World) :
    Calls Try.prog 46 #[.int .i64 n, .int .i64 width] w fun e w' => e = .returned (.tuple #[.string (putSpec n width).1, .int .i64 (putSpec n width).2]) ∧ Below w.heap.size w w' := by
  obtain ⟨i0, hi, hz0, hz1, hz2⟩ := info_parts infoByte
  have HI := Lib.hid hi
  have HZ0 := Lib.hid hz0
  have HZ1 := Lib.hid hz1
  have HZ2 := Lib.hid hz2
  clear hi hz0 hz1 hz2
  go_enter Try.func46, Try.ntmps46
  go_wp2
  go_loopg [0, 6, 7] width.toNat (fun j q b i wr => ∃ (k : Nat) (v : Value), (j : Int) + k = width ∧ q = .int .i64 (n / 2 ^ (8 * k)) ∧ i = .int .i64 k ∧ b = v ∧ Loc w wr 5 1 v k (nums (le n k)))
  case atStart => exact ⟨0, .slice none 0 0, by omega, by simp, rfl, rfl, Loc.nil (Below.refl _ _) _ _⟩
  case round =>
    obtain ⟨k, v, hk, rfl, rfl, rfl, hA⟩ := hrel
    have hq0 := div_pow_nonneg hn k
    have hq1 := div_pow_le hn k
    have hkb : k ≤ 6 := by omega
    by_cases hlt : (k : Int) < width
    · obtain ⟨q, hq⟩ : ∃ q, q = n / 2 ^ (8 * k) := ⟨_, rfl⟩
      rw [← hq]
      rw [← hq] at hq0 hq1
      have HQ := Lib.hid hq
      clear hq
      go_wp2_with (at_builtin; go_must (refine wpList_append_row _ (by rfl) _ _ _ _ (by rfl) 5 i0 (.int .u8 0) 1 1 Try.underlying50 HI.out HZ0.out HZ1.out HZ2.out rfl (by omega) _ _ _ (by rfl) (hA.row.alloc _) _ (by rfl) 1 [.int .u8 (q % 256)] (Feeds.slice Try.underlying50 ⟨wr.heap.size, 0, none⟩ 1 1 _ rfl (by simp [Value.oneCell']) (World.news_of_block (cs := #[.int .u8 (q % 256)]) (t := 5) (fr := (0, 0)) (heap_alloc_new wr _))) (by unfold maxLen; omega) (by omega) (wr.heap.size + 1) (by simp) ?_); intro ao2 cap2 w1 hown1 hgrow hat)
      have hloc := hA.app ((Below.refl _ wr).alloc (Nat.le_refl _) _) hown1 hgrow hat (by omega)
      have hL : nums (le n k) ++ [.int .u8 (q % 256)] = nums (le n (k + 1)) := by rw [le_succ, nums_append, HQ.out]; rfl
      have hQ : q / 256 = n / 2 ^ (8 * (k + 1)) := by rw [HQ.out, div_step]
      rw [hL] at hloc
      go_roundg (gk - 1)
      case measure => omega
      case rel => exact ⟨k + 1, _, by omega, by rw [hQ], by go_num, rfl, hloc⟩
    · obtain rfl : gk = 0 := by omega
      have hkw : width.toNat = k := by omega
      have hs : putSpec n width = if fits n k = true then (strOfNums (le n k), 0) else (⟨#[]⟩, 2) := by rw [putSpec, if_neg (by omega), hkw]
      by_cases hf : fits n k = true
      · have hz : n / 2 ^ (8 * k) = 0 := by simpa [fits, hn] using hf
        rw [if_pos hf] at hs
        have HS := Lib.hid hs
        have hcs := row_string (P := Try.prog) Try.underlying50 Try.underlying5 Try.underlying9 hA.row
        rw [hz]
        clear hs hf hkw
        go_wp2
        go_ret2
        rw [HS.out]
        exact ⟨rfl, hA.below⟩
      · have hz : 0 < n / 2 ^ (8 * k) := by
          rcases Int.lt_or_eq_of_le hq0 with h | h
          · exact h
          · exact absurd (by simp [fits, hn, ← h]) hf
        rw [if_neg hf] at hs
        have HS := Lib.hid hs
        clear hs hf hkw
        go_wp2
        go_ret2
        rw [HS.out]
        exact ⟨rfl, hA.below⟩
set_option maxRecDepth 100000 in
theorem refPut_any (n width : Int) (hn2 : n ≤ 9223372036854775807) (w : World) :
    Calls Try.prog 46 #[.int .i64 n, .int .i64 width] w fun e w' => e = .returned (.tuple #[.string (putSpec n width).1, .int .i64 (putSpec n width).2]) ∧ Below w.heap.size w w' := by
  by_cases h1 : width < 1
  · have hs : putSpec n width = (⟨#[]⟩, 1) := by simp [putSpec, h1]
    have HS := Lib.hid hs
    clear hs
    go_enter Try.func46, Try.ntmps46
    go_wp2
    go_ret2
    rw [HS.out]
    exact ⟨rfl, Below.refl _ _⟩
  by_cases h6 : 6 < width
  · have hs : putSpec n width = (⟨#[]⟩, 1) := by simp [putSpec, h6]
    have HS := Lib.hid hs
    clear hs
    go_enter Try.func46, Try.ntmps46
    go_wp2
    go_ret2
    rw [HS.out]
    exact ⟨rfl, Below.refl _ _⟩
  by_cases hn : n < 0
  · have hs : putSpec n width = (⟨#[]⟩, 2) := by
      rw [putSpec, if_neg (by omega), if_neg]
      simp [fits]
      omega
    have HS := Lib.hid hs
    clear hs
    go_enter Try.func46, Try.ntmps46
    go_wp2
    go_ret2
    rw [HS.out]
    exact ⟨rfl, Below.refl _ _⟩
  exact refPut_loop n width (by omega) hn2 (by omega) (by omega) w

theorem num_cons (s : ByteArray) (p : Nat) : ∀ k, num s p (k + 1) = byteAt s p + num s (p + 1) k * 256
  | 0 => by simp [num]
  | k + 1 => by
    rw [num, num_cons s p k, num, show p + 1 + k = p + (k + 1) by omega, show 8 * (k + 1) = 8 * k + 8 by omega, Int.pow_add, Int.add_mul]
    have : byteAt s (p + (k + 1)) * (2 ^ (8 * k) * 2 ^ 8) = byteAt s (p + (k + 1)) * 2 ^ (8 * k) * 256 := by rw [Int.mul_assoc]; rfl
    omega

set_option maxRecDepth 100000 in
theorem refGet_loop (s : ByteArray) (p : Nat) (width : Int) (hs : s.size ≤ 9223372036854775807) (h1 : ¬ width < 1) (h6 : ¬ 6 < width) (hw : (p : Int) + width ≤ s.size) (w : World) :
    Calls Try.prog 32 #[.string s, .int .i64 p, .int .i64 width] w fun e w' => e = .returned (.tuple #[.int .i64 (num s p width.toNat), .int .i64 0]) ∧ w = w' := by
  have e0 : ¬ (s.size : Int) < (p : Int) := by omega
  have e1 : ¬ (s.size : Int) - (p : Int) < width := by omega
  go_enter Try.func32, Try.ntmps32
  go_wp2
  go_loop [8, 9] (fun t i => ∃ k : Nat, (k : Int) ≤ width ∧ i = .int .i64 ((k : Int) - 1) ∧ t = .int .i64 (num s (p + k) (width.toNat - k))) (fun _ i => (intOf i + 1).toNat)
  case atStart => exact ⟨width.toNat, by omega, by rw [show ((width.toNat : Nat) : Int) = width by omega], by simp [num]⟩
  case round =>
    obtain ⟨k, hk, rfl, rfl⟩ := hrel
    cases k with
    | zero =>
      go_wp2
      go_ret2
      exact ⟨by simp, rfl⟩
    | succ k =>
      have hnum := num_cons s (p + k) (width.toNat - (k + 1))
      have hb := num_range s (p + (k + 1)) (width.toNat - (k + 1))
      have hp40 : (2 : Int) ^ (8 * (width.toNat - (k + 1))) ≤ 2 ^ 40 := two_le (by omega)
      have hp41 : (2 : Int) ^ 40 = 1099511627776 := rfl
      rw [hp41] at hp40
      have hb1 := hb.1
      have hb2 : num s (p + (k + 1)) (width.toNat - (k + 1)) < 1099511627776 := by omega
      obtain ⟨q, hq⟩ : ∃ q, q = num s (p + (k + 1)) (width.toNat - (k + 1)) := ⟨_, rfl⟩
      rw [show p + k + 1 = p + (k + 1) by omega, ← hq, show width.toNat - (k + 1) + 1 = width.toNat - k by omega] at hnum
      rw [← hq] at hb1 hb2 ⊢
      have HN := Lib.hid hnum
      have hx : p + k < s.size := by omega
      have hx2 : (p : Int) + (k : Int) < (s.size : Int) := by omega
      have hbr := byteAt_range s (p + k)
      have hbe := byteAt_of s (p + k) hx
      clear hnum hb hp40 hp41 hq
      rw [show ((k + 1 : Nat) : Int) - 1 = (k : Int) by omega]
      go_wp2
      exact ⟨⟨k, by omega, rfl, by rw [HN.out, Int.add_comm]⟩, by simp [intOf]⟩

set_option maxRecDepth 100000 in
theorem refGet_any (s : ByteArray) (p : Int) (width : Int) (hs : s.size ≤ 9223372036854775807) (w : World) :
    Calls Try.prog 32 #[.string s, .int .i64 p, .int .i64 width] w fun e w' => e = .returned (.tuple #[.int .i64 (getSpec s p width).1, .int .i64 (getSpec s p width).2]) ∧ w = w' := by
  by_cases h1 : width < 1
  · have h : getSpec s p width = (0, 1) := by simp [getSpec, h1]
    have H := Lib.hid h
    clear h
    go_enter Try.func32, Try.ntmps32
    go_wp2
    go_ret2
    rw [H.out]
    exact ⟨rfl, rfl⟩
  by_cases h6 : 6 < width
  · have h : getSpec s p width = (0, 1) := by simp [getSpec, h6]
    have H := Lib.hid h
    clear h
    go_enter Try.func32, Try.ntmps32
    go_wp2
    go_ret2
    rw [H.out]
    exact ⟨rfl, rfl⟩
  by_cases h0 : p < 0
  · have h : getSpec s p width = (0, 3) := by rw [getSpec, if_neg (by omega), if_pos (.inl h0)]
    have H := Lib.hid h
    clear h
    go_enter Try.func32, Try.ntmps32
    go_wp2
    go_ret2
    rw [H.out]
    exact ⟨rfl, rfl⟩
  by_cases hl : (s.size : Int) < p
  · have h : getSpec s p width = (0, 3) := by rw [getSpec, if_neg (by omega), if_pos (.inr (by omega))]
    have H := Lib.hid h
    clear h
    go_enter Try.func32, Try.ntmps32
    go_wp2
    go_ret2
    rw [H.out]
    exact ⟨rfl, rfl⟩
  obtain ⟨q, rfl⟩ := Int.eq_ofNat_of_zero_le (by omega : 0 ≤ p)
  by_cases hw : (s.size : Int) - q < width
  · have h : getSpec s q width = (0, 3) := by rw [getSpec, if_neg (by omega), if_pos (.inr hw)]
    have H := Lib.hid h
    clear h
    have e0 : ¬ (s.size : Int) < (q : Int) := by omega
    go_enter Try.func32, Try.ntmps32
    go_wp2
    go_ret2
    rw [H.out]
    exact ⟨rfl, rfl⟩
  · have h : getSpec s q width = (num s q width.toNat, 0) := by rw [getSpec, if_neg (by omega), if_neg (by omega)]; rfl
    rw [h]
    exact refGet_loop s q width hs h1 h6 (by omega) w

end Go.Proofs.Ythobfbiobnmceaa.B
