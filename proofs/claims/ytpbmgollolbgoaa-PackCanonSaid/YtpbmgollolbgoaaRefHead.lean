/-
  The document's Head and Super (grapnelref01), walked: they answer what pack's do.
-/
import Derived.Test.YtpbmgollolbgoaaLaid
namespace Go.Proofs.Ytpbmgollolbgoaa.B
open Go.RowKit
set_option linter.unusedVariables false

theorem headWidths_any (w : World) : Calls Try.prog 47 #[] w fun e w' =>
    e = .returned (.slice (some ⟨w.heap.size, 0, none⟩) 8 8) ∧ w.alloc (.cells #[.int .i64 6, .int .i64 4, .int .i64 2, .int .i64 4, .int .i64 4, .int .i64 4, .int .i64 6, .int .i64 6] 3) = w' := by
  go_enter Try.func47, Try.ntmps47
  go_wp2
  go_ret
  exact ⟨rfl, rfl⟩

set_option maxRecDepth 100000 in
set_option maxHeartbeats 1600000 in
theorem refHead_any (a0 a1 a2 a3 a4 a5 a6 a7 : Int) (hr : ∀ x ∈ [a0, a1, a2, a3, a4, a5, a6, a7], -9223372036854775808 ≤ x ∧ x ≤ 9223372036854775807) (w : World) :
    Calls Try.prog 27 #[.agg #[.int .i64 a0, .int .i64 a1, .int .i64 a2, .int .i64 a3, .int .i64 a4, .int .i64 a5, .int .i64 a6, .int .i64 a7]] w fun e w' =>
      e = .returned (.tuple #[.string (headSpec (headFs a0 a1 a2 a3 a4 a5 a6 a7)).1, .int .i64 (headSpec (headFs a0 a1 a2 a3 a4 a5 a6 a7)).2]) ∧ Below w.heap.size w w' := by
  have hu := Try.underlying38
  have HR := Lib.hid hr
  clear hr
  by_cases hgood : good (headFs a0 a1 a2 a3 a4 a5 a6 a7) = true
  · have hld : laidSpec (sides [a0, a1, a2, a3, a4, a5, a6, a7] [6, 4, 2, 4, 4, 4, 6, 6]) = (strOfNums (lay (headFs a0 a1 a2 a3 a4 a5 a6 a7)), true) := by
      rw [laidSpec, show sides [a0, a1, a2, a3, a4, a5, a6, a7] [6, 4, 2, 4, 4, 4, 6, 6] = headFs a0 a1 a2 a3 a4 a5 a6 a7 from rfl, if_pos hgood]
    have hs : headSpec (headFs a0 a1 a2 a3 a4 a5 a6 a7) = (⟨#[71, 82, 80, 78]⟩ ++ strOfNums (lay (headFs a0 a1 a2 a3 a4 a5 a6 a7)) ++ strOfNums (List.replicate 8 0), 0) := by
      rw [headSpec, if_pos hgood, strOfNums_append, strOfNums_append]
      rfl
    obtain ⟨x, hx⟩ : ∃ x, x = strOfNums (lay (headFs a0 a1 a2 a3 a4 a5 a6 a7)) := ⟨_, rfl⟩
    have hxs : x.size = 36 := by rw [hx, strOfNums_size, lay_length]; rfl
    have hxs' : x.size ≤ 36 := by omega
    obtain ⟨z, hz⟩ : ∃ z, z = strOfNums (List.replicate 8 (0 : Int)) := ⟨_, rfl⟩
    have hzs : z.size ≤ 8 := by rw [hz, strOfNums_size]; decide
    rw [← hx] at hld hs
    rw [← hz] at hs
    have HZ := Lib.hid hz
    have HLD := Lib.hid hld
    have HS := Lib.hid hs
    clear hld hs hx hxs hgood hz
    go_enter Try.func27, Try.ntmps27
    go_wp2_with fail
    go_region_held3 (fun w' => w'.cell? ⟨w.heap.size, 0, none⟩ = some (.int .i64 a0) ∧ w'.cell? ⟨w.heap.size, 1, none⟩ = some (.int .i64 a1) ∧ w'.cell? ⟨w.heap.size, 2, none⟩ = some (.int .i64 a2) ∧ w'.cell? ⟨w.heap.size, 3, none⟩ = some (.int .i64 a3) ∧ w'.cell? ⟨w.heap.size, 4, none⟩ = some (.int .i64 a4) ∧ w'.cell? ⟨w.heap.size, 5, none⟩ = some (.int .i64 a5) ∧ w'.cell? ⟨w.heap.size, 6, none⟩ = some (.int .i64 a6) ∧ w'.cell? ⟨w.heap.size, 7, none⟩ = some (.int .i64 a7))
      (first | go_keep | (simp [go_sem, World.cell?_alloc_past]; done) | (refine ⟨?_, ?_, ?_, ?_, ?_, ?_, ?_, ?_⟩ <;> (rw [hb.cell (by simp; omega)]; simp [go_sem, World.cell?_alloc_past])))
      (first | (go_at_call 47; refine (headWidths_any _).mono ?_; rintro e w1 ⟨rfl, rfl⟩) | (go_at_call 46; refine (laid_any _ _ [a0, a1, a2, a3, a4, a5, a6, a7] [6, 4, 2, 4, 4, 4, 6, 6] _ (by repeat (first | refine Row.drew ?_ | exact Row.lit (get_top (by simp)) 8 rfl (by decide) | exact Row.lit (get_below (get_top (by simp))) 8 rfl (by decide))) (by repeat (first | refine Row.drew ?_ | exact Row.lit (get_top (by simp)) 8 rfl (by decide) | exact Row.lit (get_below (get_top (by simp))) 8 rfl (by decide))) rfl (by simp) HR.out (by decide)).mono ?_; rw [HLD.out]; rintro e w1 ⟨rfl, hb⟩))
    all_goals
      have HB := Lib.hid hb
      clear hb
      go_wp2_with fail
      refine (Noughts_any 8 (by omega) (by omega) _).mono ?_
      rintro e w2 ⟨rfl, hb2⟩
      rw [show strOfNums (List.replicate (8 : Int).toNat 0) = z from HZ.out.symm]
      have HB2 := Lib.hid hb2
      clear hb2
      go_wp2
      go_ret2
      rw [HS.out]
      refine ⟨rfl, ?_⟩
      have hs1 := HB.out.size
      simp at hs1
      refine Below.trans ?_ (HB2.out.mono (by omega))
      refine Below.trans ?_ (HB.out.mono (by simp; omega))
      exact Below.drew ((((Below.refl _ w).alloc (Nat.le_refl _) _).alloc (by simp) _).alloc (by simp; omega) _)
  · have hgf : good (headFs a0 a1 a2 a3 a4 a5 a6 a7) = false := by simpa using hgood
    have hld : laidSpec (sides [a0, a1, a2, a3, a4, a5, a6, a7] [6, 4, 2, 4, 4, 4, 6, 6]) = (⟨#[]⟩, false) := by
      rw [laidSpec, show sides [a0, a1, a2, a3, a4, a5, a6, a7] [6, 4, 2, 4, 4, 4, 6, 6] = headFs a0 a1 a2 a3 a4 a5 a6 a7 from rfl, hgf]
      rfl
    have hs : headSpec (headFs a0 a1 a2 a3 a4 a5 a6 a7) = (⟨#[]⟩, 2) := by rw [headSpec, if_neg hgood]
    have HLD := Lib.hid hld
    have HS := Lib.hid hs
    clear hld hs hgood hgf
    go_enter Try.func27, Try.ntmps27
    go_wp2_with fail
    go_region_held3 (fun w' => w'.cell? ⟨w.heap.size, 0, none⟩ = some (.int .i64 a0) ∧ w'.cell? ⟨w.heap.size, 1, none⟩ = some (.int .i64 a1) ∧ w'.cell? ⟨w.heap.size, 2, none⟩ = some (.int .i64 a2) ∧ w'.cell? ⟨w.heap.size, 3, none⟩ = some (.int .i64 a3) ∧ w'.cell? ⟨w.heap.size, 4, none⟩ = some (.int .i64 a4) ∧ w'.cell? ⟨w.heap.size, 5, none⟩ = some (.int .i64 a5) ∧ w'.cell? ⟨w.heap.size, 6, none⟩ = some (.int .i64 a6) ∧ w'.cell? ⟨w.heap.size, 7, none⟩ = some (.int .i64 a7))
      (first | go_keep | (simp [go_sem, World.cell?_alloc_past]; done) | (refine ⟨?_, ?_, ?_, ?_, ?_, ?_, ?_, ?_⟩ <;> (rw [hb.cell (by simp; omega)]; simp [go_sem, World.cell?_alloc_past])))
      (first | (go_at_call 47; refine (headWidths_any _).mono ?_; rintro e w1 ⟨rfl, rfl⟩) | (go_at_call 46; refine (laid_any _ _ [a0, a1, a2, a3, a4, a5, a6, a7] [6, 4, 2, 4, 4, 4, 6, 6] _ (by repeat (first | refine Row.drew ?_ | exact Row.lit (get_top (by simp)) 8 rfl (by decide) | exact Row.lit (get_below (get_top (by simp))) 8 rfl (by decide))) (by repeat (first | refine Row.drew ?_ | exact Row.lit (get_top (by simp)) 8 rfl (by decide) | exact Row.lit (get_below (get_top (by simp))) 8 rfl (by decide))) rfl (by simp) HR.out (by decide)).mono ?_; rw [HLD.out]; rintro e w1 ⟨rfl, hb⟩))
    all_goals
      have HB := Lib.hid hb
      clear hb
      go_wp2
      go_ret2
      rw [HS.out]
      refine ⟨rfl, ?_⟩
      refine Below.trans ?_ (HB.out.mono (by simp; omega))
      exact Below.drew ((((Below.refl _ w).alloc (Nat.le_refl _) _).alloc (by simp) _).alloc (by simp; omega) _)

end Go.Proofs.Ytpbmgollolbgoaa.B
