/-
  The document's Same, walked: two reports that hold the same are one.
-/
import Derived.Test.YthobfbiobnmceaaFndRow
namespace Go.Proofs.Ythobfbiobnmceaa.B
open Go.RowKit
set_option linter.unusedVariables false
set_option linter.unusedSimpArgs false

structure SameI (w : World) (a0 a1 a2 : Int) (v1 v2 : Value) (l : List Four) (W : World) : Prop where
  bel : Below w.heap.size w W
  b1 : W.heap[w.heap.size]? = some (.cells #[.int .i64 a0, .int .i64 a1, .int .i64 a2, v1] 24 (0, 0))
  b2 : W.heap[w.heap.size + 1]? = some (.cells #[.int .i64 a0, .int .i64 a1, .int .i64 a2, v2] 24 (0, 0))
  r1 : FndRow W v1 l
  r2 : FndRow W v2 l
theorem eq_fnd (f : Four) (W : World) : (binOp .neq 54 (.agg #[.int .i64 f.a, .int .i64 f.b, .int .i64 f.c, .int .i64 f.d]) (.agg #[.int .i64 f.a, .int .i64 f.b, .int .i64 f.c, .int .i64 f.d])).run Try.prog W = .ok (.bool false) W := by
  have hu := Try.underlying54
  have hi := Try.underlying3
  simp [go_sem]
set_option maxRecDepth 100000 in
set_option maxHeartbeats 3200000 in
theorem same_any (a0 a1 a2 : Int) (v1 v2 : Value) (l : List Four) (w : World) (h1 : FndRow w v1 l) (h2 : FndRow w v2 l) (hsz : l.length ≤ 100000000000) :
    Calls Try.prog 17 #[.agg #[.int .i64 a0, .int .i64 a1, .int .i64 a2, v1], .agg #[.int .i64 a0, .int .i64 a1, .int .i64 a2, v2]] w fun e w' => e = .returned (.bool true) ∧ Below w.heap.size w w' := by
  obtain ⟨ao1, cap1, rfl, hc1, _⟩ := h1.form
  obtain ⟨ao2, cap2, rfl, hc2, _⟩ := h2.form
  have hu54 := Try.underlying54
  have hu24 := Try.underlying24
  obtain ⟨n, hn⟩ : ∃ n, n = l.length := ⟨_, rfl⟩
  rw [← hn] at hc1 hc2 hsz h1 h2
  rw [← hn]
  have HN := Lib.hid hn
  have H1 := Lib.hid h1
  have H2 := Lib.hid h2
  clear hn h1 h2
  have u9 : (n : Int) ≤ 100000000000 := by omega
  go_enter Try.func17, Try.ntmps17
  go_wp2_with fail
  have hI0 : SameI w a0 a1 a2 (.slice ao1 n cap1) (.slice ao2 n cap2) l ((w.alloc (.cells #[.int .i64 a0, .int .i64 a1, .int .i64 a2, .slice ao1 n cap1] 24 (0, 0))).alloc (.cells #[.int .i64 a0, .int .i64 a1, .int .i64 a2, .slice ao2 n cap2] 24 (0, 0))) :=
    have hb := ((Below.refl _ w).alloc (Nat.le_refl _) (.cells #[.int .i64 a0, .int .i64 a1, .int .i64 a2, .slice ao1 n cap1] 24 (0, 0))).alloc (by simp) (.cells #[.int .i64 a0, .int .i64 a1, .int .i64 a2, .slice ao2 n cap2] 24 (0, 0))
    ⟨hb, (Lib.alloc_old _ _ _ (by simp)).trans (get_top rfl), get_top (by simp), H1.out.below hb, H2.out.below hb⟩
  have HI0 := Lib.hid hI0
  generalize ((w.alloc (.cells #[.int .i64 a0, .int .i64 a1, .int .i64 a2, .slice ao1 n cap1] 24 (0, 0))).alloc (.cells #[.int .i64 a0, .int .i64 a1, .int .i64 a2, .slice ao2 n cap2] 24 (0, 0))) = W0 at HI0 ⊢
  clear H1 H2 hI0
  go_loopg [5] n (fun j i wr => ∃ k : Nat, j + k = n ∧ i = .int .i64 (k : Int) ∧ SameI w a0 a1 a2 (.slice ao1 n cap1) (.slice ao2 n cap2) l wr)
  case atStart => exact ⟨0, by omega, rfl, HI0.out⟩
  case round =>
    clear HI0
    obtain ⟨k, hk, rfl, hI⟩ := hrel
    have c3 := (blk_cell hI.b1 3).trans rfl
    have d3 := (blk_cell hI.b2 3).trans rfl
    by_cases hlt : k < n
    · obtain ⟨j, rfl⟩ : ∃ j, gk = j + 1 := ⟨gk - 1, by omega⟩
      obtain ⟨g, o, rfl, hg, _, hc⟩ := hI.r1.get (i := k) (by rw [← HN.out]; omega)
      obtain ⟨g2, o2, rfl, hg2, _, hc2⟩ := hI.r2.get (i := k) (by rw [← HN.out]; omega)
      have e1 := hc k (by rw [← HN.out]; omega)
      have e2 := hc2 k (by rw [← HN.out]; omega)
      obtain ⟨f, hf⟩ : ∃ f, f = l.getD k .zero := ⟨_, rfl⟩
      rw [← hf] at e1 e2
      have x0 : wr.cell? ⟨g, o + k * 4, none⟩ = some (.int .i64 f.a) := e1 0 _ rfl
      have x1 : wr.cell? ⟨g, o + k * 4 + 1, none⟩ = some (.int .i64 f.b) := e1 1 _ rfl
      have x2 : wr.cell? ⟨g, o + k * 4 + 2, none⟩ = some (.int .i64 f.c) := e1 2 _ rfl
      have x3 : wr.cell? ⟨g, o + k * 4 + 3, none⟩ = some (.int .i64 f.d) := e1 3 _ rfl
      have y0 : wr.cell? ⟨g2, o2 + k * 4, none⟩ = some (.int .i64 f.a) := e2 0 _ rfl
      have y1 : wr.cell? ⟨g2, o2 + k * 4 + 1, none⟩ = some (.int .i64 f.b) := e2 1 _ rfl
      have y2 : wr.cell? ⟨g2, o2 + k * 4 + 2, none⟩ = some (.int .i64 f.c) := e2 2 _ rfl
      have y3 : wr.cell? ⟨g2, o2 + k * 4 + 3, none⟩ = some (.int .i64 f.d) := e2 3 _ rfl
      have hE := eq_fnd f
      have HI := Lib.hid hI
      have u2 : (0 : Int) ≤ (k : Int) := by omega
      have u3 : (k : Int) < (n : Int) := by omega
      have hkj : j + (k + 1) = n := by omega
      have HKJ := Lib.hid hkj
      clear hI e1 e2 hc hc2 hf hk hkj hlt
      go_wp2_with fail
      go_quiet (fail)
      go_wp2_with fail
      go_roundg j
      case measure => omega
      case rel => exact ⟨k + 1, HKJ.out, by go_num, ⟨bdrewN HI.out.bel _, HI.out.b1, HI.out.b2, HI.out.r1, HI.out.r2⟩⟩
    · have HI := Lib.hid hI
      obtain rfl : gk = 0 := by omega
      obtain rfl : k = n := by omega
      clear hI
      go_wp2_with fail
      go_ret
      exact ⟨rfl, HI.out.bel⟩
end Go.Proofs.Ythobfbiobnmceaa.B
