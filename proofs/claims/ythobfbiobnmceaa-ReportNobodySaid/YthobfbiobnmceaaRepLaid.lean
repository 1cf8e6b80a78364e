/-
  The document's laid numbers (the print's functions), as plain laws.
-/
import Derived.Test.YthobfbiobnmceaaPReportBytesx5
import Derived.Test.YthobfbiobnmceaaRepBytes
namespace Go.Proofs.Ythobfbiobnmceaa.B
open Go.RowKit
open Go.Proofs.Ythobfbiobnmceaa.PReportBytes Go.Proofs.YthobfbiobnmceaaW.PrintWords Go.Proofs.YthobfbiobnmceaaW.PrintLast Go.Proofs.YthobfbiobnmceaaW.PrintMore
set_option linter.unusedVariables false
set_option linter.unusedSimpArgs false

theorem Put_l0 (n w : Int) (h0 : 0 ≤ n) (hn : n ≤ 9223372036854775807) (h1 : 1 ≤ w) (h6 : w ≤ 6) (K : Nat) : ∀ (j i : Nat), (j : Int) + i = w →
    grapnelref01_Put.l0 (j + 1 + K) (n / 2 ^ (8 * i)) w (le n i) i = some (if n / 2 ^ (8 * w.toNat) > 0 then (⟨#[]⟩, 2) else (strOfNums (le n w.toNat), 0))
  | 0, i, h => by
    have hw : w.toNat = i := by omega
    rw [show 0 + 1 + K = K + 1 by omega, grapnelref01_Put.l0, if_neg (by omega), hw]
    split <;> rfl
  | j + 1, i, h => by
    have hd : 0 ≤ n / 2 ^ (8 * i) := Int.ediv_nonneg h0 (Int.pow_nonneg (by omega))
    have hle : n / 2 ^ (8 * i) ≤ n := Int.ediv_le_self _ h0
    rw [show j + 1 + 1 + K = (j + 1 + K) + 1 by omega, grapnelref01_Put.l0, if_pos (by omega), if_pos (by rw [le_length]; omega)]
    rw [Int.tdiv_eq_ediv_of_nonneg hd, Int.tmod_eq_emod_of_nonneg hd]
    have e1 : n / 2 ^ (8 * i) / 256 = n / 2 ^ (8 * (i + 1)) := by
      rw [Int.ediv_ediv_of_nonneg (Int.pow_nonneg (by omega)), show 8 * (i + 1) = 8 * i + 8 by omega, Int.pow_add]
      rfl
    have e2 : le n i ++ [n / 2 ^ (8 * i) % 256 % 256] = le n (i + 1) := by
      rw [Int.emod_emod_of_dvd _ (Int.dvd_refl _)]
      simp [le, List.range_succ]
    have hle2 : n / 2 ^ (8 * i) / 256 ≤ n / 2 ^ (8 * i) := Int.ediv_le_self _ hd
    have hd2 : 0 ≤ n / 2 ^ (8 * i) / 256 := Int.ediv_nonneg hd (by omega)
    rw [IntWalk.wrap64_in _ ⟨by omega, by omega⟩, IntWalk.wrap64_in _ ⟨by omega, by omega⟩, e1, e2, show (i : Int) + 1 = ((i + 1 : Nat) : Int) by omega]
    exact Put_l0 n w h0 hn h1 h6 K j (i + 1) (by omega)
theorem Put_plain (n w : Int) (hn : n ≤ 9223372036854775807) (h1 : 1 ≤ w) (h6 : w ≤ 6) (K : Nat) : grapnelref01_Put.f (K + 10) n w = some (putSpec n w) := by
  rw [grapnelref01_Put.f, if_neg (by omega), show K + 10 = (K + 9) + 1 by omega, grapnelref01_Put.j0, decide_eq_false (by omega), if_neg (by simp), putSpec]
  by_cases hneg : n < 0
  · rw [if_pos hneg, if_neg (by omega), if_neg (by simp [fits]; omega)]
  · rw [if_neg hneg, if_neg (by omega)]
    have h := Put_l0 n w (by omega) hn h1 h6 (K + 8 - w.toNat) w.toNat 0 (by omega)
    rw [show w.toNat + 1 + (K + 8 - w.toNat) = K + 9 by omega] at h
    simp only [Nat.mul_zero, Int.pow_zero, Int.ediv_one] at h
    rw [show le n 0 = [] by simp [le]] at h
    have hc : ((0 : Nat) : Int) = 0 := rfl
    rw [hc] at h
    rw [h]
    have hd : 0 ≤ n / 2 ^ (8 * w.toNat) := Int.ediv_nonneg (by omega) (Int.pow_nonneg (by omega))
    by_cases hz : n / 2 ^ (8 * w.toNat) = 0
    · rw [if_neg (by omega), if_pos (by simp [fits, hz]; omega)]
    · rw [if_pos (by omega), if_neg (by simp [fits, hz])]

theorem app_nil (s : ByteArray) : s ++ (⟨#[]⟩ : ByteArray) = s := by apply ByteArray.ext; simp
/-- The document's laid: numbers, each in its width. -/
def laidB : List (Int × Int) → ByteArray → ByteArray × Bool
  | [], s => (s, true)
  | p :: r, s => if (putSpec p.1 p.2).2 = 0 then laidB r (s ++ (putSpec p.1 p.2).1) else (⟨#[]⟩, false)
theorem laid_four (p0 p1 p2 p3 q0 q1 q2 q3 : Int) (K : Nat) (h0 : p0 ≤ 9223372036854775807) (h1 : p1 ≤ 9223372036854775807) (h2 : p2 ≤ 9223372036854775807) (h3 : p3 ≤ 9223372036854775807)
    (g0 : 1 ≤ q0 ∧ q0 ≤ 6) (g1 : 1 ≤ q1 ∧ q1 ≤ 6) (g2 : 1 ≤ q2 ∧ q2 ≤ 6) (g3 : 1 ≤ q3 ∧ q3 ≤ 6) :
    grapnelref16_laid.f (K + 20) [p0, p1, p2, p3] [q0, q1, q2, q3] = some (laidB [(p0, q0), (p1, q1), (p2, q2), (p3, q3)] ⟨#[]⟩) := by
  have z := fun n w => putSpec_size n w
  have step : ∀ (m : Nat) (i : Nat) (p q : Int) (r : List (Int × Int)) (s : ByteArray), p ≤ 9223372036854775807 → 1 ≤ q → q ≤ 6 → i < 4 → s.size ≤ 1000 → rd [p0, p1, p2, p3] (i : Int) = p → rd [q0, q1, q2, q3] (i : Int) = q →
      (∀ t, t.size ≤ s.size + 6 → grapnelref16_laid.l0 (m + 10) [p0, p1, p2, p3] [q0, q1, q2, q3] t ((i + 1 : Nat) : Int) = some (laidB r t)) → grapnelref16_laid.l0 (m + 11) [p0, p1, p2, p3] [q0, q1, q2, q3] s (i : Int) = some (laidB ((p, q) :: r) s) := by
    intro m i p q r s hp hq1 hq6 hi hs e1 e2 h
    rw [show m + 11 = (m + 10) + 1 by omega, grapnelref16_laid.l0, if_pos (by simp; omega), if_pos (by omega), if_pos (by simp; omega), e1, e2, Put_plain p q hp hq1 hq6 m]
    have hz := z p q
    simp only [Option.bind_some, laidB]
    split
    · rw [if_pos (by omega), IntWalk.wrap64_in _ ⟨by omega, by omega⟩, show (i : Int) + 1 = ((i + 1 : Nat) : Int) by omega]
      exact h _ (by rw [ByteArray.size_append]; omega)
    · rfl
  have hz : (⟨#[]⟩ : ByteArray).size = 0 := rfl
  rw [grapnelref16_laid.f]
  refine step (K + 9) 0 p0 q0 _ _ h0 g0.1 g0.2 (by omega) (by omega) rfl rfl fun t0 ht0 => ?_
  refine step (K + 8) 1 p1 q1 _ _ h1 g1.1 g1.2 (by omega) (by omega) rfl rfl fun t1 ht1 => ?_
  refine step (K + 7) 2 p2 q2 _ _ h2 g2.1 g2.2 (by omega) (by omega) rfl rfl fun t2 ht2 => ?_
  refine step (K + 6) 3 p3 q3 _ _ h3 g3.1 g3.2 (by omega) (by omega) rfl rfl fun t3 ht3 => ?_
  rw [show K + 6 + 10 = (K + 15) + 1 by omega, grapnelref16_laid.l0, if_neg (by simp)]
  rfl
/-- The program's fields, by the document's laid. -/
theorem fields_laid : ∀ (ps : List (Int × Int)) (s t : ByteArray), ((laidB ps t).2 = true ↔ (fieldsSpec ps s).2 = 0) ∧ ((laidB ps t).2 = true → ∃ u, (laidB ps t).1 = t ++ u ∧ (fieldsSpec ps s).1 = s ++ u)
  | [], s, t => ⟨by simp [laidB, fieldsSpec], fun _ => ⟨⟨#[]⟩, (app_nil t).symm, (app_nil s).symm⟩⟩
  | p :: r, s, t => by
    simp only [laidB, fieldsSpec]
    by_cases h : (putSpec p.1 p.2).2 = 0
    · rw [if_pos h, if_pos h]
      have := fields_laid r (s ++ (putSpec p.1 p.2).1) (t ++ (putSpec p.1 p.2).1)
      refine ⟨this.1, fun h2 => ?_⟩
      obtain ⟨u, h3, h4⟩ := this.2 h2
      exact ⟨(putSpec p.1 p.2).1 ++ u, by rw [h3, ByteArray.append_assoc], by rw [h4, ByteArray.append_assoc]⟩
    · rw [if_neg h, if_neg h]
      exact ⟨by simp [h], by simp⟩
theorem fields_bad : ∀ (ps : List (Int × Int)) (s : ByteArray), (∀ p ∈ ps, 1 ≤ p.2 ∧ p.2 ≤ 6) → (fieldsSpec ps s).2 = 0 ∨ (fieldsSpec ps s).2 = 2
  | [], s, _ => .inl rfl
  | p :: r, s, h => by
    simp only [fieldsSpec]
    split
    · exact fields_bad r _ (fun q hq => h q (by simp [hq]))
    · rename_i hb
      refine .inr ?_
      have := h p (by simp)
      unfold putSpec at hb ⊢
      rw [if_neg (by omega)] at hb ⊢
      split
      · rename_i hf
        rw [if_pos hf] at hb
        exact absurd rfl hb
      · rfl
end Go.Proofs.Ythobfbiobnmceaa.B
