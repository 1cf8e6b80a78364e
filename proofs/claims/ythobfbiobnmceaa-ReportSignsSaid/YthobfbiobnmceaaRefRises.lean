/-
  The document's Rises, walked by hand.
-/
import Derived.Test.YthobfbiobnmceaaRefSort
namespace Go.Proofs.Ythobfbiobnmceaa.B
open Go.RowKit
set_option linter.unusedVariables false
set_option linter.unusedSimpArgs false

structure RiseI (w : World) (l S : List Four) (v v0 : Value) (W : World) : Prop where
  bel : Below w.heap.size w W
  r1 : FndRow W v S
  r0 : FndRow W v0 l
set_option maxRecDepth 100000 in
set_option maxHeartbeats 3200000 in
theorem Rises_any (v0 : Value) (l : List Four) (hl : l.length ≤ 1000) (w : World) (h : FndRow w v0 l) :
    Calls Try.prog 29 #[v0] w fun e w' => e = .returned (.bool (rises l)) ∧ Below w.heap.size w w' := by
  obtain ⟨ao0, cap0, rfl, hcap, hmax⟩ := h.form
  have hu54 := Try.underlying54
  have HS := Lib.hid (Sort_any _ l hl w h)
  obtain ⟨S, hS⟩ : ∃ S, S = sortL l [] := ⟨_, rfl⟩
  obtain ⟨R, hR⟩ : ∃ R, R = rises l := ⟨_, rfl⟩
  have hRS : R = true ↔ S = l := by rw [hR, hS]; exact (rises_sort l).symm
  rw [← hS] at HS
  rw [← hR]
  obtain ⟨n, hn⟩ : ∃ n, n = l.length := ⟨_, rfl⟩
  rw [← hn] at h hcap hl HS ⊢
  have HN := Lib.hid hn
  have H := Lib.hid h
  have HRS := Lib.hid hRS
  obtain ⟨m, hm⟩ : ∃ m, m = S.length := ⟨_, rfl⟩
  rw [← hm] at HS
  have HM := Lib.hid hm
  clear h hmax hn hS hR hRS hm
  by_cases hmn2 : m = n
  · subst hmn2
    have hz : ((m : Int) != (m : Int)) = false := by simp
    go_enter Try.func29, Try.ntmps29
    go_wp2_with (first | (go_at_call 45; refine HS.out.mono ?_; rintro e W1 ⟨v, m1, rfl, hm1, hL, hwf, hmn⟩; subst m1; obtain ⟨ao1, cap1, rfl, hcap1⟩ := hL.row.form) | fail)
    have HI := Lib.hid (show RiseI w l S (.slice ao1 m cap1) (.slice ao0 m cap0) W1 from ⟨hL.below, fndRow_row (by rw [← HM.out]; exact hL.row) hwf, H.out.below hL.below⟩)
    clear H HS hL hwf
    go_loopg [4] m (fun j i wr => ∃ k : Nat, j + k = m ∧ i = .int .i64 (k : Int) ∧ (R = true ↔ S.drop k = l.drop k) ∧ RiseI w l S (.slice ao1 m cap1) (.slice ao0 m cap0) wr)
    case atStart => exact ⟨0, by omega, rfl, by rw [List.drop_zero, List.drop_zero]; exact HRS.out, HI.out⟩
    case round =>
      clear HI HRS
      obtain ⟨k, hk, rfl, hrs, hI⟩ := hrel
      by_cases hlt : k < m
      · obtain ⟨j, rfl⟩ : ∃ j, gk = j + 1 := ⟨gk - 1, by omega⟩
        have kl : k < l.length := by rw [← HN.out]; exact hlt
        have kS : k < S.length := by rw [← HM.out]; exact hlt
        obtain ⟨g, o, rfl, hg, _, hc⟩ := hI.r1.get (i := k) kS
        obtain ⟨g2, o2, rfl, hg2, _, hc2⟩ := hI.r0.get (i := k) kl
        have e1 := hc k kS
        have e2 := hc2 k kl
        obtain ⟨y, hy⟩ : ∃ f, f = S.getD k .zero := ⟨_, rfl⟩
        obtain ⟨x, hx⟩ : ∃ f, f = l.getD k .zero := ⟨_, rfl⟩
        have hyd : S.drop k = y :: S.drop (k + 1) := by rw [List.drop_eq_getElem_cons kS, hy]; simp [List.getD, kS]
        have hxd : l.drop k = x :: l.drop (k + 1) := by rw [List.drop_eq_getElem_cons kl, hx]; simp [List.getD, kl]
        rw [← hy] at e1
        rw [← hx] at e2
        rw [hyd, hxd] at hrs
        have x0 : wr.cell? ⟨g, o + k * 4, none⟩ = some (.int .i64 y.a) := e1 0 _ rfl
        have x1 : wr.cell? ⟨g, o + k * 4 + 1, none⟩ = some (.int .i64 y.b) := e1 1 _ rfl
        have x2 : wr.cell? ⟨g, o + k * 4 + 2, none⟩ = some (.int .i64 y.c) := e1 2 _ rfl
        have x3 : wr.cell? ⟨g, o + k * 4 + 3, none⟩ = some (.int .i64 y.d) := e1 3 _ rfl
        have y0 : wr.cell? ⟨g2, o2 + k * 4, none⟩ = some (.int .i64 x.a) := e2 0 _ rfl
        have y1 : wr.cell? ⟨g2, o2 + k * 4 + 1, none⟩ = some (.int .i64 x.b) := e2 1 _ rfl
        have y2 : wr.cell? ⟨g2, o2 + k * 4 + 2, none⟩ = some (.int .i64 x.c) := e2 2 _ rfl
        have y3 : wr.cell? ⟨g2, o2 + k * 4 + 3, none⟩ = some (.int .i64 x.d) := e2 3 _ rfl
        have hE := ne_fnd y x
        obtain ⟨c, hcc⟩ : ∃ c, c = one y x := ⟨_, rfl⟩
        rw [← hcc] at hE
        have hone : c = true ↔ y = x := by rw [hcc]; exact one_iff y x
        have hnx : c = true → (R = true ↔ S.drop (k + 1) = l.drop (k + 1)) := fun h => by rw [hrs, hone.1 h]; simp
        have hnf : c = false → R = false := fun h => by
          cases R with
          | false => rfl
          | true => exact absurd (hone.2 (List.cons.inj (hrs.1 rfl)).1) (by simp [h])
        have HI := Lib.hid hI
        have u2 : (0 : Int) ≤ (k : Int) := by omega
        have u3 : (k : Int) < (m : Int) := by omega
        have hkj : j + (k + 1) = m := by omega
        have HKJ := Lib.hid hkj
        clear hI e1 e2 hc hc2 hy hx hyd hxd hk hkj hlt kl kS hrs hone hcc
        have HNX := Lib.hid hnx
        have HNF := Lib.hid hnf
        clear hnx hnf
        go_wp2_with fail
        go_quiet (fail)
        cases c with
        | true =>
          have hn1 := HNX.out rfl
          have HN1 := Lib.hid hn1
          clear hn1 HNX HNF
          go_wp2_with fail
          go_roundg j
          case measure => omega
          case rel => exact ⟨k + 1, HKJ.out, by go_num, HN1.out, ⟨bdrewN HI.out.bel _, HI.out.r1, HI.out.r0⟩⟩
        | false =>
          obtain rfl := HNF.out rfl
          clear HNX HNF
          go_wp2_with fail
          go_ret
          exact ⟨rfl, bdrewN HI.out.bel _⟩
      · obtain rfl : gk = 0 := by omega
        obtain rfl : k = m := by omega
        have hRt : R = true := hrs.2 (by rw [List.drop_of_length_le (by rw [← HM.out]; exact Nat.le_refl _), List.drop_of_length_le (by rw [← HN.out]; exact Nat.le_refl _)])
        subst hRt
        have HI := Lib.hid hI
        clear hI hrs hlt
        go_wp2_with fail
        go_ret
        exact ⟨rfl, HI.out.bel⟩
  · have hRf : R = false := by
      cases R with
      | false => rfl
      | true => exact absurd (HM.out.trans ((congrArg List.length (HRS.out.1 rfl)).trans HN.out.symm)) hmn2
    subst hRf
    have hz : ((m : Int) != (n : Int)) = true := by simp; omega
    clear HRS
    go_enter Try.func29, Try.ntmps29
    go_wp2_with (first | (go_at_call 45; refine HS.out.mono ?_; rintro e W1 ⟨v, m1, rfl, hm1, hL, hwf, hmn⟩; subst m1; obtain ⟨ao1, cap1, rfl, hcap1⟩ := hL.row.form) | fail)
    go_ret
    exact ⟨rfl, hL.below⟩
end Go.Proofs.Ythobfbiobnmceaa.B
