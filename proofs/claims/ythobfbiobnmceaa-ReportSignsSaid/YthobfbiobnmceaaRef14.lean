/-
  The document's ahead, Sort and Rises, walked by hand.
-/
import Derived.Test.YthobfbiobnmceaaFndSort
import Derived.Test.YthobfbiobnmceaaRepOf
import Derived.Deep.RegionHeld3
namespace Go.Proofs.Ythobfbiobnmceaa.B
open Go.RowKit
set_option linter.unusedVariables false
set_option linter.unusedSimpArgs false

theorem ahead_if (f g : Four) : ahead f g = (if f.a = g.a then if f.b = g.b then if f.c = g.c then if f.d = g.d then false else decide (f.d < g.d) else decide (f.c < g.c) else decide (f.b < g.b) else decide (f.a < g.a)) := rfl
set_option maxRecDepth 100000 in
theorem refAhead_any (f g : Four) (w : World) :
    Calls Try.prog 63 #[.agg #[.int .i64 f.a, .int .i64 f.b, .int .i64 f.c, .int .i64 f.d], .agg #[.int .i64 g.a, .int .i64 g.b, .int .i64 g.c, .int .i64 g.d]] w fun e w' => e = .returned (.bool (ahead f g)) ∧ Below w.heap.size w w' := by
  have hu54 := Try.underlying54
  have hA := ahead_if f g
  obtain ⟨A, hAA⟩ : ∃ A, A = ahead f g := ⟨_, rfl⟩
  rw [← hAA] at hA ⊢
  have HB := Lib.hid (((Below.refl _ w).alloc (Nat.le_refl _) (.cells #[.int .i64 f.a, .int .i64 f.b, .int .i64 f.c, .int .i64 f.d] 54 (0, 0))).alloc (by simp) (.cells #[.int .i64 g.a, .int .i64 g.b, .int .i64 g.c, .int .i64 g.d] 54 (0, 0)))
  obtain ⟨a0, h0⟩ : ∃ x, x = f.a := ⟨_, rfl⟩
  obtain ⟨a1, h1⟩ : ∃ x, x = f.b := ⟨_, rfl⟩
  obtain ⟨a2, h2⟩ : ∃ x, x = f.c := ⟨_, rfl⟩
  obtain ⟨a3, h3⟩ : ∃ x, x = f.d := ⟨_, rfl⟩
  obtain ⟨b0, k0⟩ : ∃ x, x = g.a := ⟨_, rfl⟩
  obtain ⟨b1, k1⟩ : ∃ x, x = g.b := ⟨_, rfl⟩
  obtain ⟨b2, k2⟩ : ∃ x, x = g.c := ⟨_, rfl⟩
  obtain ⟨b3, k3⟩ : ∃ x, x = g.d := ⟨_, rfl⟩
  rw [← h0, ← h1, ← h2, ← h3, ← k0, ← k1, ← k2, ← k3] at hA HB ⊢
  clear h0 h1 h2 h3 k0 k1 k2 k3 hAA
  by_cases e0 : a0 = b0
  · rw [if_pos e0] at hA
    subst e0
    have n0 : (a0 != a0) = false := by simp
    by_cases e1 : a1 = b1
    · rw [if_pos e1] at hA
      subst e1
      have n1 : (a1 != a1) = false := by simp
      by_cases e2 : a2 = b2
      · rw [if_pos e2] at hA
        subst e2
        have n2 : (a2 != a2) = false := by simp
        have hA2 : A = decide (a3 < b3) := by
          rw [hA]
          by_cases e3 : a3 = b3
          · rw [if_pos e3, e3]; simp
          · rw [if_neg e3]
        have HA := Lib.hid hA2
        clear hA hA2
        go_enter Try.func63, Try.ntmps63
        go_wp2_with fail
        go_ret
        rw [HA.out]
        exact ⟨rfl, HB.out⟩
      · rw [if_neg e2] at hA
        have n2 : (a2 != b2) = true := by simpa using e2
        have HA := Lib.hid hA
        clear hA
        go_enter Try.func63, Try.ntmps63
        go_wp2_with fail
        go_ret
        rw [HA.out]
        exact ⟨rfl, HB.out⟩
    · rw [if_neg e1] at hA
      have n1 : (a1 != b1) = true := by simpa using e1
      have HA := Lib.hid hA
      clear hA
      go_enter Try.func63, Try.ntmps63
      go_wp2_with fail
      go_ret
      rw [HA.out]
      exact ⟨rfl, HB.out⟩
  · rw [if_neg e0] at hA
    have n0 : (a0 != b0) = true := by simpa using e0
    have HA := Lib.hid hA
    clear hA
    go_enter Try.func63, Try.ntmps63
    go_wp2_with fail
    go_ret
    rw [HA.out]
    exact ⟨rfl, HB.out⟩
theorem ne_fnd (f g : Four) (W : World) : (binOp .neq 54 (.agg #[.int .i64 f.a, .int .i64 f.b, .int .i64 f.c, .int .i64 f.d]) (.agg #[.int .i64 g.a, .int .i64 g.b, .int .i64 g.c, .int .i64 g.d])).run Try.prog W = .ok (.bool (!one f g)) W := by
  have hu := Try.underlying54
  have hi := Try.underlying3
  unfold one
  by_cases e0 : f.a = g.a
  · by_cases e1 : f.b = g.b
    · by_cases e2 : f.c = g.c
      · by_cases e3 : f.d = g.d
        · simp [go_sem, e0, e1, e2, e3]
        · simp [go_sem, e0, e1, e2, e3]
      · simp [go_sem, e0, e1, e2]
    · simp [go_sem, e0, e1]
  · simp [go_sem, e0]
end Go.Proofs.Ythobfbiobnmceaa.B
