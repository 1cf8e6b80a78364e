/-
  PackUnlike: the law's walk.
-/
import Derived.Test.YtpbmgollolbgoaaEntryAny
import Derived.Test.YtpbmgollolbgoaaEqs
namespace Go.Proofs.Ytpbmgollolbgoaa.B
open Go.RowKit
set_option linter.unusedVariables false

set_option maxHeartbeats 3200000 in
theorem PackUnlike_walk (a0 a1 a2 a3 a4 a5 a6 a7 b0 b1 b2 b3 b4 b5 b6 b7 x1 x2 y1 y2 : Int) (s t : ByteArray) (hA : ∀ x ∈ [a0, a1, a2, a3, a4, a5, a6, a7], -9223372036854775808 ≤ x ∧ x ≤ 9223372036854775807) (hB : ∀ x ∈ [b0, b1, b2, b3, b4, b5, b6, b7], -9223372036854775808 ≤ x ∧ x ≤ 9223372036854775807) (hC : ∀ x ∈ [x1, x2, y1, y2], -9223372036854775808 ≤ x ∧ x ≤ 9223372036854775807) (w : World) :
    Calls Try.prog 15 #[.agg #[.int .i64 a0, .int .i64 a1, .int .i64 a2, .int .i64 a3, .int .i64 a4, .int .i64 a5, .int .i64 a6, .int .i64 a7], .agg #[.int .i64 b0, .int .i64 b1, .int .i64 b2, .int .i64 b3, .int .i64 b4, .int .i64 b5, .int .i64 b6, .int .i64 b7], .agg #[.string s, .int .i64 x1, .int .i64 x2], .agg #[.string t, .int .i64 y1, .int .i64 y2]] w fun e w' => e = .returned (.bool true) ∧ Below w.heap.size w w' := by
  have hu := Try.underlying38
  have hu' := Try.underlying34
  have r0 := hA a0 (by simp)
  have r1 := hA a1 (by simp)
  have r2 := hA a2 (by simp)
  have r3 := hA a3 (by simp)
  have r4 := hA a4 (by simp)
  have r5 := hA a5 (by simp)
  have r6 := hA a6 (by simp)
  have r7 := hA a7 (by simp)
  have t0 := hB b0 (by simp)
  have t1 := hB b1 (by simp)
  have t2 := hB b2 (by simp)
  have t3 := hB b3 (by simp)
  have t4 := hB b4 (by simp)
  have t5 := hB b5 (by simp)
  have t6 := hB b6 (by simp)
  have t7 := hB b7 (by simp)
  have u0 := hC x1 (by simp)
  have u1 := hC x2 (by simp)
  have u2 := hC y1 (by simp)
  have u3 := hC y2 (by simp)
  have HA := Lib.hid (Head_any a0 a1 a2 a3 a4 a5 a6 a7 r0.1 r0.2 r1.1 r1.2 r2.1 r2.2 r3.1 r3.2 r4.1 r4.2 r5.1 r5.2 r6.1 r6.2 r7.1 r7.2)
  have HB := Lib.hid (Head_any b0 b1 b2 b3 b4 b5 b6 b7 t0.1 t0.2 t1.1 t1.2 t2.1 t2.2 t3.1 t3.2 t4.1 t4.2 t5.1 t5.2 t6.1 t6.2 t7.1 t7.2)
  have HX := Lib.hid (Entry_any s x1 x2 u0.1 u0.2 u1.1 u1.2)
  have HY := Lib.hid (Entry_any t y1 y2 u2.1 u2.2 u3.1 u3.2)
  clear hA hB hC r0 t0 r1 t1 r2 t2 r3 t3 r4 t4 r5 t5 r6 t6 r7 t7 u0 u1 u2 u3
  have hab : (headSpec (headFs a0 a1 a2 a3 a4 a5 a6 a7)).2 = 0 → (headSpec (headFs b0 b1 b2 b3 b4 b5 b6 b7)).2 = 0 → ((headSpec (headFs a0 a1 a2 a3 a4 a5 a6 a7)).1 = (headSpec (headFs b0 b1 b2 b3 b4 b5 b6 b7)).1 ↔ (a0 = b0 ∧ a1 = b1 ∧ a2 = b2 ∧ a3 = b3 ∧ a4 = b4 ∧ a5 = b5 ∧ a6 = b6 ∧ a7 = b7)) := fun h1 h2 => ⟨fun h => by
      have := headSpec_inj (fs := headFs a0 a1 a2 a3 a4 a5 a6 a7) (gs := headFs b0 b1 b2 b3 b4 b5 b6 b7) rfl h1 h2 h
      simpa only [headFs, List.cons.injEq, Prod.mk.injEq, and_true] using this, by rintro ⟨rfl, rfl, rfl, rfl, rfl, rfl, rfl, rfl⟩; rfl⟩
  have hxy : (entrySpec s x1 x2).2 = 0 → (entrySpec t y1 y2).2 = 0 → ((entrySpec s x1 x2).1 = (entrySpec t y1 y2).1 ↔ (s = t ∧ x1 = y1 ∧ x2 = y2)) := fun h1 h2 => ⟨entrySpec_inj h1 h2, by rintro ⟨rfl, rfl, rfl⟩; rfl⟩
  obtain ⟨qa, hqa⟩ : ∃ q, q = headSpec (headFs a0 a1 a2 a3 a4 a5 a6 a7) := ⟨_, rfl⟩
  obtain ⟨qb, hqb⟩ : ∃ q, q = headSpec (headFs b0 b1 b2 b3 b4 b5 b6 b7) := ⟨_, rfl⟩
  obtain ⟨qx, hqx⟩ : ∃ q, q = entrySpec s x1 x2 := ⟨_, rfl⟩
  obtain ⟨qy, hqy⟩ : ∃ q, q = entrySpec t y1 y2 := ⟨_, rfl⟩
  rw [← hqa, ← hqb] at hab
  rw [← hqx, ← hqy] at hxy
  rw [← hqa] at HA
  rw [← hqb] at HB
  rw [← hqx] at HX
  rw [← hqy] at HY
  have HAB := Lib.hid hab
  have HXY := Lib.hid hxy
  clear hab hxy hqa hqb hqx hqy
  obtain ⟨W0, hW0⟩ : ∃ W, W = ((((w.alloc (.cells #[.int .i64 a0, .int .i64 a1, .int .i64 a2, .int .i64 a3, .int .i64 a4, .int .i64 a5, .int .i64 a6, .int .i64 a7] 38 (0, 0))).alloc (.cells #[.int .i64 b0, .int .i64 b1, .int .i64 b2, .int .i64 b3, .int .i64 b4, .int .i64 b5, .int .i64 b6, .int .i64 b7] 38 (0, 0))).alloc (.cells #[.string s, .int .i64 x1, .int .i64 x2] 34 (0, 0))).alloc (.cells #[.string t, .int .i64 y1, .int .i64 y2] 34 (0, 0))) := ⟨_, rfl⟩
  have hL0 : Below w.heap.size w W0 := by
    rw [hW0]
    exact (((((Below.refl _ w).alloc (Nat.le_refl _) _).alloc (by simp) _).alloc (by simp; omega) _).alloc (by simp; omega) _)
  have hS0 : W0.heap.size = w.heap.size + 4 := by rw [hW0]; simp
  have hk0 : W0.heap[w.heap.size]? = some (.cells #[.int .i64 a0, .int .i64 a1, .int .i64 a2, .int .i64 a3, .int .i64 a4, .int .i64 a5, .int .i64 a6, .int .i64 a7] 38 (0, 0)) := by rw [hW0]; exact get_below (get_below (get_below (get_top (by simp))))
  have hk1 : W0.heap[w.heap.size + 1]? = some (.cells #[.int .i64 b0, .int .i64 b1, .int .i64 b2, .int .i64 b3, .int .i64 b4, .int .i64 b5, .int .i64 b6, .int .i64 b7] 38 (0, 0)) := by rw [hW0]; exact get_below (get_below (get_top (by simp)))
  have hk2 : W0.heap[w.heap.size + 1 + 1]? = some (.cells #[.string s, .int .i64 x1, .int .i64 x2] 34 (0, 0)) := by rw [hW0]; exact get_below (get_top (by simp))
  have hk3 : W0.heap[w.heap.size + 1 + 1 + 1]? = some (.cells #[.string t, .int .i64 y1, .int .i64 y2] 34 (0, 0)) := by rw [hW0]; exact get_top (by simp)
  have K0 := Lib.hid hk0
  have K1 := Lib.hid hk1
  have K2 := Lib.hid hk2
  have K3 := Lib.hid hk3
  have L0 := Lib.hid hL0
  have S0 := Lib.hid hS0
  have E0 := Lib.hid hW0
  clear hk0 hk1 hk2 hk3 hL0 hS0 hW0
  go_enter Try.func15, Try.ntmps15
  go_wp2_with fail
  rw [← E0.out]
  refine (HA.out _).mono ?_
  rintro e w1 ⟨rfl, hb0⟩
  have hC : Below W0.heap.size W0 w1 := hb0
  have C1 := Lib.hid hC
  have hk1 : w1.heap[w.heap.size + 1]? = some (.cells #[.int .i64 b0, .int .i64 b1, .int .i64 b2, .int .i64 b3, .int .i64 b4, .int .i64 b5, .int .i64 b6, .int .i64 b7] 38 (0, 0)) := (hC.block _ (by rw [S0.out]; omega)).trans K1.out
  have k1c0 := blk_cell hk1 0
  have k1c1 := blk_cell hk1 1
  have k1c2 := blk_cell hk1 2
  have k1c3 := blk_cell hk1 3
  have k1c4 := blk_cell hk1 4
  have k1c5 := blk_cell hk1 5
  have k1c6 := blk_cell hk1 6
  have k1c7 := blk_cell hk1 7
  clear hk1
  clear hb0 hC
  go_wp2_with fail
  clear k1c0 k1c1 k1c2 k1c3 k1c4 k1c5 k1c6 k1c7
  refine (HB.out _).mono ?_
  rintro e w2 ⟨rfl, hb1⟩
  have hC : Below W0.heap.size W0 w2 := C1.out.trans (hb1.mono C1.out.size)
  have C2 := Lib.hid hC
  have hk2 : w2.heap[w.heap.size + 1 + 1]? = some (.cells #[.string s, .int .i64 x1, .int .i64 x2] 34 (0, 0)) := (hC.block _ (by rw [S0.out]; omega)).trans K2.out
  have k2c0 := blk_cell hk2 0
  have k2c1 := blk_cell hk2 1
  have k2c2 := blk_cell hk2 2
  clear hk2
  clear hb1 hC
  go_wp2_with fail
  clear k2c0 k2c1 k2c2
  refine (HX.out _).mono ?_
  rintro e w3 ⟨rfl, hb2⟩
  have hC : Below W0.heap.size W0 w3 := C2.out.trans (hb2.mono C2.out.size)
  have C3 := Lib.hid hC
  have hk3 : w3.heap[w.heap.size + 1 + 1 + 1]? = some (.cells #[.string t, .int .i64 y1, .int .i64 y2] 34 (0, 0)) := (hC.block _ (by rw [S0.out]; omega)).trans K3.out
  have k3c0 := blk_cell hk3 0
  have k3c1 := blk_cell hk3 1
  have k3c2 := blk_cell hk3 2
  clear hk3
  clear hb2 hC
  go_wp2_with fail
  clear k3c0 k3c1 k3c2
  refine (HY.out _).mono ?_
  rintro e w4 ⟨rfl, hb3⟩
  have hC : Below W0.heap.size W0 w4 := C3.out.trans (hb3.mono C3.out.size)
  have C4 := Lib.hid hC
  have hk0 : w4.heap[w.heap.size]? = some (.cells #[.int .i64 a0, .int .i64 a1, .int .i64 a2, .int .i64 a3, .int .i64 a4, .int .i64 a5, .int .i64 a6, .int .i64 a7] 38 (0, 0)) := (hC.block _ (by rw [S0.out]; omega)).trans K0.out
  have k0c0 := blk_cell hk0 0
  have k0c1 := blk_cell hk0 1
  have k0c2 := blk_cell hk0 2
  have k0c3 := blk_cell hk0 3
  have k0c4 := blk_cell hk0 4
  have k0c5 := blk_cell hk0 5
  have k0c6 := blk_cell hk0 6
  have k0c7 := blk_cell hk0 7
  clear hk0
  have hk1 : w4.heap[w.heap.size + 1]? = some (.cells #[.int .i64 b0, .int .i64 b1, .int .i64 b2, .int .i64 b3, .int .i64 b4, .int .i64 b5, .int .i64 b6, .int .i64 b7] 38 (0, 0)) := (hC.block _ (by rw [S0.out]; omega)).trans K1.out
  have k1c0 := blk_cell hk1 0
  have k1c1 := blk_cell hk1 1
  have k1c2 := blk_cell hk1 2
  have k1c3 := blk_cell hk1 3
  have k1c4 := blk_cell hk1 4
  have k1c5 := blk_cell hk1 5
  have k1c6 := blk_cell hk1 6
  have k1c7 := blk_cell hk1 7
  clear hk1
  have hk2 : w4.heap[w.heap.size + 1 + 1]? = some (.cells #[.string s, .int .i64 x1, .int .i64 x2] 34 (0, 0)) := (hC.block _ (by rw [S0.out]; omega)).trans K2.out
  have k2c0 := blk_cell hk2 0
  have k2c1 := blk_cell hk2 1
  have k2c2 := blk_cell hk2 2
  clear hk2
  have hk3 : w4.heap[w.heap.size + 1 + 1 + 1]? = some (.cells #[.string t, .int .i64 y1, .int .i64 y2] 34 (0, 0)) := (hC.block _ (by rw [S0.out]; omega)).trans K3.out
  have k3c0 := blk_cell hk3 0
  have k3c1 := blk_cell hk3 1
  have k3c2 := blk_cell hk3 2
  clear hk3
  clear hb3 hC
  obtain ⟨c, hc1, hc2⟩ : ∃ c : Bool, (∀ W : World, (binOp .eql 38 (.agg #[.int .i64 a0, .int .i64 a1, .int .i64 a2, .int .i64 a3, .int .i64 a4, .int .i64 a5, .int .i64 a6, .int .i64 a7]) (.agg #[.int .i64 b0, .int .i64 b1, .int .i64 b2, .int .i64 b3, .int .i64 b4, .int .i64 b5, .int .i64 b6, .int .i64 b7])).run Try.prog W = .ok (.bool c) W) ∧ (qa.2 = 0 → qb.2 = 0 → (qa.1.toList == qb.1.toList) = c) :=
    ⟨_, fun W => eq_head _ _ _ _ _ _ _ _ _ _ _ _ _ _ _ _ W, fun h1 h2 => by
      refine Bool.eq_iff_iff.mpr ?_
      rw [beq_iff_eq, decide_eq_true_iff, toList_eq]
      exact HAB.out h1 h2⟩
  obtain ⟨d, hd1, hd2⟩ : ∃ c : Bool, (∀ W : World, (binOp .eql 34 (.agg #[.string s, .int .i64 x1, .int .i64 x2]) (.agg #[.string t, .int .i64 y1, .int .i64 y2])).run Try.prog W = .ok (.bool c) W) ∧ (qx.2 = 0 → qy.2 = 0 → (qx.1.toList == qy.1.toList) = c) :=
    ⟨_, fun W => eq_entry _ _ _ _ _ _ W, fun h1 h2 => by
      refine Bool.eq_iff_iff.mpr ?_
      rw [beq_iff_eq, decide_eq_true_iff, toList_eq]
      exact HXY.out h1 h2⟩
  have fin : ∀ w5, Below w4.heap.size w4 w5 → Below w.heap.size w w5 := fun w5 h5 => L0.out.trans ((C4.out.mono (by rw [S0.out]; omega)).trans (h5.mono (by have := C4.out.size; rw [S0.out] at this; omega)))
  have FIN := Lib.hid fin
  clear fin
  have hqa : (qa.2 != 0) = true ∨ (qa.2 != 0) = false := by cases (qa.2 != 0) <;> simp
  have hqb : (qb.2 != 0) = true ∨ (qb.2 != 0) = false := by cases (qb.2 != 0) <;> simp
  have hqx : (qx.2 != 0) = true ∨ (qx.2 != 0) = false := by cases (qx.2 != 0) <;> simp
  have hqy : (qy.2 != 0) = true ∨ (qy.2 != 0) = false := by cases (qy.2 != 0) <;> simp
  have HC2 := Lib.hid hc2
  have HD2 := Lib.hid hd2
  clear hc2 hd2
  rcases hqa with e1 | e1
  all_goals (try (rcases hqb with e2 | e2))
  all_goals (try (have hcc := HC2.out (by simpa using e1) (by simpa using e2)))
  all_goals rcases hqx with e3 | e3
  all_goals (try (rcases hqy with e4 | e4))
  all_goals (try (have hdd := HD2.out (by simpa using e3) (by simpa using e4)))
  all_goals
    go_wp2_with fail
    refine (awake_any _).mono ?_
    rintro e w5 ⟨rfl, hb5⟩
    have HB5 := Lib.hid hb5
    clear hb5
    go_wp2
    go_ret
    exact ⟨rfl, FIN.out _ HB5.out⟩
end Go.Proofs.Ytpbmgollolbgoaa.B
namespace Go.Proofs.Ytpbmgollolbgoaa.R
open Go.RowKit
theorem PackUnlike (va vb vx vy : List Value) (w : World) (hA : F.Fits [.int .i64, .int .i64, .int .i64, .int .i64, .int .i64, .int .i64, .int .i64, .int .i64] va) (hB : F.Fits [.int .i64, .int .i64, .int .i64, .int .i64, .int .i64, .int .i64, .int .i64, .int .i64] vb) (hX : F.Fits [.str, .int .i64, .int .i64] vx) (hY : F.Fits [.str, .int .i64, .int .i64] vy) :
    Calls Try.prog 15 #[.agg va.toArray, .agg vb.toArray, .agg vx.toArray, .agg vy.toArray] w fun e w' => e = .returned (.bool true) ∧ Below w.heap.size w w' := by
  obtain ⟨a0, r0, rfl, h0, f0⟩ := hA.int
  obtain ⟨a1, r1, rfl, h1, f1⟩ := f0.int
  obtain ⟨a2, r2, rfl, h2, f2⟩ := f1.int
  obtain ⟨a3, r3, rfl, h3, f3⟩ := f2.int
  obtain ⟨a4, r4, rfl, h4, f4⟩ := f3.int
  obtain ⟨a5, r5, rfl, h5, f5⟩ := f4.int
  obtain ⟨a6, r6, rfl, h6, f6⟩ := f5.int
  obtain ⟨a7, r7, rfl, h7, f7⟩ := f6.int
  obtain rfl := f7.nil
  obtain ⟨b0, s0, rfl, i0, g0⟩ := hB.int
  obtain ⟨b1, s1, rfl, i1, g1⟩ := g0.int
  obtain ⟨b2, s2, rfl, i2, g2⟩ := g1.int
  obtain ⟨b3, s3, rfl, i3, g3⟩ := g2.int
  obtain ⟨b4, s4, rfl, i4, g4⟩ := g3.int
  obtain ⟨b5, s5, rfl, i5, g5⟩ := g4.int
  obtain ⟨b6, s6, rfl, i6, g6⟩ := g5.int
  obtain ⟨b7, s7, rfl, i7, g7⟩ := g6.int
  obtain rfl := g7.nil
  obtain ⟨s, t0, rfl, j0, k0⟩ := hX.str
  obtain ⟨x1, t1, rfl, j1, k1⟩ := k0.int
  obtain ⟨x2, t2, rfl, j2, k2⟩ := k1.int
  obtain rfl := k2.nil
  obtain ⟨t, u0, rfl, l0, m0⟩ := hY.str
  obtain ⟨y1, u1, rfl, l1, m1⟩ := m0.int
  obtain ⟨y2, u2, rfl, l2, m2⟩ := m1.int
  obtain rfl := m2.nil
  refine B.PackUnlike_walk a0 a1 a2 a3 a4 a5 a6 a7 b0 b1 b2 b3 b4 b5 b6 b7 x1 x2 y1 y2 s t (fun x hx => ?_) (fun x hx => ?_) (fun x hx => ?_) w
  all_goals simp only [List.mem_cons, List.not_mem_nil, or_false] at hx
  · rcases hx with rfl | rfl | rfl | rfl | rfl | rfl | rfl | rfl <;> exact wf_64 (by assumption)
  · rcases hx with rfl | rfl | rfl | rfl | rfl | rfl | rfl | rfl <;> exact wf_64 (by assumption)
  · rcases hx with rfl | rfl | rfl | rfl <;> exact wf_64 (by assumption)
end Go.Proofs.Ytpbmgollolbgoaa.R
