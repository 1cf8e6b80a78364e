/-
  The laws' same, at two paths that are one; TreePaths.
-/
import Derived.Test.YtjoilobbopdcpaaRTreeD
namespace Go.Proofs.Ytjoilobbopdcpaa.B
open Go.RowKit
set_option linter.unusedVariables false
set_option linter.unusedSimpArgs false

set_option maxRecDepth 100000 in
set_option maxHeartbeats 3200000 in
theorem same_any (v1 v2 : Value) (path : List Stp) (hpl : path.length ≤ 1000) (w : World) (h1 : StepsAt w v1 path) (h2 : StepsAt w v2 path) :
    Calls Try.prog 25 #[v1, v2] w fun e w' => e = .returned (.bool true) ∧ Below w.heap.size w w' := by
  obtain ⟨ao1, cap1, rfl, hc1, hm1⟩ := h1.form
  obtain ⟨ao2, cap2, rfl, hc2, hm2⟩ := h2.form
  have hu := Try.underlying40
  have H1 := Lib.hid h1
  have H2 := Lib.hid h2
  obtain ⟨m, hm⟩ : ∃ m, m = path.length := ⟨_, rfl⟩
  rw [← hm] at H1 H2 hpl hc1 hc2 ⊢
  have HM := Lib.hid hm
  clear h1 h2 hm1 hm2 hm
  go_enter Try.func25, Try.ntmps25
  go_wp2_with fail
  go_loopg [5] m (fun j i wr => ∃ q : Nat, j + q = m ∧ i = .int .i64 (q : Int) ∧ Below w.heap.size w wr)
  case atStart => exact ⟨0, by omega, rfl, Below.refl _ _⟩
  case round =>
    obtain ⟨q, hk, rfl, hb⟩ := hrel
    by_cases hlt : q < m
    · obtain ⟨j, rfl⟩ : ∃ j, gk = j + 1 := ⟨gk - 1, by omega⟩
      have hlen : q < path.length := by rw [← HM.out]; exact hlt
      obtain ⟨g1, o1, s1, rfl, hg1, hw1, c1, c2, hs1⟩ := (H1.out.below hb).get (i := q) hlen
      obtain ⟨g2, o2, s2, rfl, hg2, hw2, d1, d2, hs2⟩ := (H2.out.below hb).get (i := q) hlen
      obtain ⟨x, hx⟩ : ∃ x, x = path[q] := ⟨_, rfl⟩
      rw [← hx] at hw1 hs1 c1 hs2 d1
      obtain ⟨A, hA⟩ : ∃ A, A = x.at' := ⟨_, rfl⟩
      rw [← hA] at c1 d1
      obtain ⟨as1, cs1, rfl, hcs1, hms1⟩ := hs1.form
      obtain ⟨as2, cs2, rfl, hcs2, hms2⟩ := hs2.form
      obtain ⟨L, hL⟩ : ∃ L, L = x.sides.length := ⟨_, rfl⟩
      rw [← hL] at hs1 hs2 c2 d2 hcs1 hcs2 hms1
      have HS1 := Lib.hid hs1
      have HS2 := Lib.hid hs2
      have HL := Lib.hid hL
      have HB := Lib.hid hb
      have hL63 : (L : Int) ≤ 9223372036854775807 := by unfold maxLen at hms1; omega
      have u2 : (0 : Int) ≤ (q : Int) := by omega
      have u3 : (q : Int) < (m : Int) := by omega
      have hkj : j + (q + 1) = m := by omega
      have HKJ := Lib.hid hkj
      have C := Lib.hid (And.intro c1 (And.intro c2 (And.intro d1 d2)))
      have G := Lib.hid (And.intro hg1 hg2)
      have hbA : (A != A) = false := by simp
      have hbL : ((L : Int) != (L : Int)) = false := by simp
      clear hs1 hs2 hb hkj hlt hk hw1 hw2 hA hL hx hms1 hms2
      clear hlen
      go_wp2_with fail
      go_quiet (fail)
      obtain ⟨W1, hW1⟩ : ∃ W, wr.drewN nq = W := ⟨_, rfl⟩
      have HB1 := Lib.hid (show Below wr.heap.size wr W1 by rw [← hW1]; exact bdrewN (Below.refl _ wr) nq)
      rw [hW1]
      clear hW1 c1 c2 d1 d2 hg1 hg2
      go_wp2_with fail
      obtain ⟨W6, rfl⟩ : ∃ W6, W6 = wr := ⟨_, rfl⟩
      go_loopg [6] L (fun j2 i wr => ∃ p : Nat, j2 + p = L ∧ i = .int .i64 (p : Int) ∧ Below W6.heap.size W6 wr)
      case atStart => exact ⟨0, by omega, rfl, HB1.out⟩
      case round =>
        obtain ⟨p, hkp, rfl, hb2⟩ := hrel
        have e2 := (hb2.cell (p := ⟨g1, o1 + q * 2 + 1, none⟩) G.out.1).trans C.out.2.1
        have f2 := (hb2.cell (p := ⟨g2, o2 + q * 2 + 1, none⟩) G.out.2).trans C.out.2.2.2
        by_cases hlp : p < L
        · obtain ⟨j2, rfl⟩ : ∃ j, gk = j + 1 := ⟨gk - 1, by omega⟩
          have hlen2 : p < x.sides.length := by rw [← HL.out]; exact hlp
          obtain ⟨gl1, oo1, he1, hgl1, x0⟩ := (HS1.out.below hb2).get (i := p) hlen2
          obtain ⟨gl2, oo2, he2, hgl2, y0⟩ := (HS2.out.below hb2).get (i := p) hlen2
          subst he1
          subst he2
          obtain ⟨f, hf⟩ : ∃ f, f = x.sides[p] := ⟨_, rfl⟩
          rw [← hf] at x0 y0
          have v2 : (0 : Int) ≤ (p : Int) := by omega
          have v3 : (p : Int) < (L : Int) := by omega
          have hkj : j2 + (p + 1) = L := by omega
          have HKJ2 := Lib.hid hkj
          have HB2 := Lib.hid hb2
          have hbe : (f.toList != f.toList) = false := by simp
          have hbe2 : (f.toList == f.toList) = true := by simp
          clear hb2 hkj hlp hkp hf
          clear hlen2
          go_wp2_with fail
          go_quiet (fail)
          have HB3 := Lib.hid (bdrewN HB2.out nq)
          generalize wr.drewN nq = W3 at HB3 ⊢
          go_wp2_with fail
          go_roundg j2
          case measure => omega
          case rel => exact ⟨p + 1, HKJ2.out, by go_num, HB3.out⟩
        · obtain rfl : gk = 0 := by omega
          obtain rfl : p = L := by omega
          have HB2 := Lib.hid (HB.out.trans (hb2.mono HB.out.size))
          clear hb2 hlp hkp
          go_wp2_with fail
          go_roundg j
          case measure => omega
          case rel => exact ⟨q + 1, HKJ.out, by go_num, HB2.out⟩
    · obtain rfl : gk = 0 := by omega
      obtain rfl : q = m := by omega
      have HB := Lib.hid hb
      clear hb hlt hk
      go_wp2_with fail
      go_ret
      exact ⟨rfl, HB.out⟩
end Go.Proofs.Ytjoilobbopdcpaa.B
