/-
  The document's Get (the print's functions), as a plain law.
-/
import Derived.Test.YthobfbiobnmceaaPReportReadsx4
import Derived.Test.YthobfbiobnmceaaPReportReadsx5
import Derived.Test.YthobfbiobnmceaaRepOf
import Derived.Test.YthobfbiobnmceaaRefPut
namespace Go.Proofs.Ythobfbiobnmceaa.PReportReads
open Go.RowKit Go.Proofs.Ythobfbiobnmceaa.B
open Go.Proofs.YthobfbiobnmceaaW.PrintWords Go.Proofs.YthobfbiobnmceaaW.PrintLast Go.Proofs.YthobfbiobnmceaaW.PrintMore
set_option linter.unusedVariables false
set_option linter.unusedSimpArgs false

theorem bt_byteAt (s : ByteArray) (i : Nat) (h : i < s.size) : bt s (i : Int) = byteAt s i := by
  unfold bt byteAt
  simp [h]
theorem num_le48 (s : ByteArray) (p k : Nat) (hk : k ≤ 5) : 0 ≤ num s p k ∧ num s p k ≤ 1099511627775 := by
  have h := num_range s p k
  have h2 : (2 : Int) ^ (8 * k) ≤ 2 ^ (8 * 5) := two_le (by omega)
  have h3 : (2 : Int) ^ (8 * 5) = 1099511627776 := rfl
  omega
theorem get_l0 (s : ByteArray) (p w : Nat) (h6 : w ≤ 6) (hp : p + w ≤ s.size) (hs : s.size ≤ 10000000) (K : Nat) : ∀ k, k ≤ w →
    grapnelref01_Get.l0 (k + 1 + K) s p (num s (p + k) (w - k)) ((k : Int) - 1) = some (num s p w, 0)
  | 0, _ => by
    rw [show 0 + 1 + K = K + 1 by omega, grapnelref01_Get.l0, if_neg (by omega)]
    simp
  | k + 1, hk => by
    have hb := byteAt_range s (p + k)
    have hn := num_le48 s (p + (k + 1)) (w - (k + 1)) (by omega)
    have e1 : wrap64 ((p : Int) + (((k + 1 : Nat) : Int) - 1)) = ((p + k : Nat) : Int) := by
      rw [IntWalk.wrap64_in _ ⟨by omega, by omega⟩]
      omega
    have e2 : wrap64 ((((k + 1 : Nat) : Int) - 1) - 1) = (k : Int) - 1 := by
      rw [IntWalk.wrap64_in _ ⟨by omega, by omega⟩]
      omega
    have e3 : num s (p + k) (w - k) = byteAt s (p + k) + num s (p + (k + 1)) (w - (k + 1)) * 256 := by
      rw [show w - k = (w - (k + 1)) + 1 by omega, num_cons, show p + k + 1 = p + (k + 1) by omega]
    rw [show k + 1 + 1 + K = (k + 1 + K) + 1 by omega, grapnelref01_Get.l0, if_pos (by omega), e1, if_pos (by omega), if_pos (by omega), bt_byteAt s (p + k) (by omega), e2,
      IntWalk.wrap64_in (byteAt s (p + k)) ⟨by omega, by omega⟩, IntWalk.wrap64_in (num s (p + (k + 1)) (w - (k + 1)) * 256) ⟨by omega, by omega⟩, IntWalk.wrap64_in _ ⟨by omega, by omega⟩,
      show num s (p + (k + 1)) (w - (k + 1)) * 256 + byteAt s (p + k) = num s (p + k) (w - k) by rw [e3]; omega]
    exact get_l0 s p w h6 hp hs K k (by omega)
theorem Get_plain (s : ByteArray) (p w : Nat) (h1 : 1 ≤ w) (h6 : w ≤ 6) (hp : p + w ≤ s.size) (hs : s.size ≤ 10000000) (K : Nat) : grapnelref01_Get.f (K + 10) s (p : Int) (w : Int) = some (num s p w, 0) := by
  rw [grapnelref01_Get.f, if_neg (by omega), show K + 10 = (K + 8) + 1 + 1 by omega, grapnelref01_Get.j0, decide_eq_false (by omega), if_neg (by simp), if_neg (by omega), if_neg (by omega), IntWalk.wrap64_in _ ⟨by omega, by omega⟩, decide_eq_false (by omega), grapnelref01_Get.j1, if_neg (by simp), IntWalk.wrap64_in _ ⟨by omega, by omega⟩]
  have h := get_l0 s p w h6 hp hs (K + 7 - w) w (Nat.le_refl _)
  rw [show w + 1 + (K + 7 - w) = K + 8 by omega, Nat.sub_self] at h
  exact h
end Go.Proofs.Ythobfbiobnmceaa.PReportReads
