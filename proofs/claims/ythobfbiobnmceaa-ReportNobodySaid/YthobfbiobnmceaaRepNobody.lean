/-
  ReportNobody.
-/
import Derived.Test.YthobfbiobnmceaaRepSign
import Derived.Test.YthobfbiobnmceaaRepBytesP
namespace Go.Proofs.Ythobfbiobnmceaa.B
open Go.RowKit
set_option linter.unusedVariables false
set_option linter.unusedSimpArgs false

set_option maxRecDepth 100000 in
set_option maxHeartbeats 1600000 in
theorem reportNobody_walk (a0 a1 a2 : Int) (v : Value) (l : List Four) (s : ByteArray) (hs : s.size ≤ 140737488351232) (w : World) (h : FndRow w v l) (h0 : -9223372036854775808 ≤ a0 ∧ a0 ≤ 9223372036854775807) (h1 : -9223372036854775808 ≤ a1 ∧ a1 ≤ 9223372036854775807) (h2 : -9223372036854775808 ≤ a2 ∧ a2 ≤ 9223372036854775807) :
    Calls Try.prog 8 #[.agg #[.int .i64 a0, .int .i64 a1, .int .i64 a2, v], .string s] w fun e w' => e = .returned (.bool true) ∧ Below w.heap.size w w' := by
  obtain ⟨ao, cap, rfl, hcap, hmax⟩ := h.form
  have hu24 := Try.underlying24
  have H := Lib.hid h
  have H0 := Lib.hid h0
  have H1 := Lib.hid h1
  have H2 := Lib.hid h2
  clear h h0 h1 h2 hmax hcap
  go_enter Try.func8, Try.ntmps8
  go_wp2_with fail
  refine (few_any a0 a1 a2 _ l 50 (by omega) _ (H.out.below ((Below.refl _ w).alloc (Nat.le_refl _) _))).mono ?_
  rintro e W1 ⟨v', rfl, hf, hb1⟩
  have hr := hf w H.out
  have hlen : (l.take 50).length ≤ 50 := List.length_take_le _ _
  obtain ⟨m, hm⟩ : ∃ m, m = l.take 50 := ⟨_, rfl⟩
  rw [← hm] at hr hlen
  have hbx : W1.heap[w.heap.size]? = some (.cells #[.int .i64 a0, .int .i64 a1, .int .i64 a2, .slice ao l.length cap] 24 (0, 0)) := (hb1.block _ (by simp)).trans (get_top rfl)
  have hbel : Below w.heap.size w W1 := ((Below.refl _ w).alloc (Nat.le_refl _) _).trans (hb1.mono (by simp))
  obtain ⟨gx, hgx⟩ : ∃ g, g = w.heap.size := ⟨_, rfl⟩
  rw [← hgx] at hbx hbel ⊢
  have c0 := (blk_cell hbx 0).trans rfl
  have c1 := (blk_cell hbx 1).trans rfl
  have c2 := (blk_cell hbx 2).trans rfl
  have c3 := (blk_cell hbx 3).trans rfl
  have f0 := blk_frozen hbx 0
  have f1 := blk_frozen hbx 1
  have f2 := blk_frozen hbx 2
  have f3 := blk_frozen hbx 3
  obtain ⟨ao', cap', rfl, hcap', hmax'⟩ := hr.form
  have HB := Lib.hid hbel
  have HX := Lib.hid hbx
  have HR := Lib.hid hr
  have HGX := Lib.hid hgx
  clear hbel hbx hr hgx hf hb1 hm hmax' hcap'
  go_wp2_with fail
  have hx2 : ((((W1.setCell ⟨gx, 0, none⟩ (.int .i64 a0)).setCell ⟨gx, 1, none⟩ (.int .i64 a1)).setCell ⟨gx, 2, none⟩ (.int .i64 a2)).setCell ⟨gx, 3, none⟩ (.slice ao' m.length cap')).heap[gx]? = some (.cells #[.int .i64 a0, .int .i64 a1, .int .i64 a2, .slice ao' m.length cap'] 24 (0, 0)) :=
    (blk_set (blk_set (blk_set (blk_set HX.out 0 _) 1 _) 2 _) 3 _).trans rfl
  have hb2 : Below gx w ((((W1.setCell ⟨gx, 0, none⟩ (.int .i64 a0)).setCell ⟨gx, 1, none⟩ (.int .i64 a1)).setCell ⟨gx, 2, none⟩ (.int .i64 a2)).setCell ⟨gx, 3, none⟩ (.slice ao' m.length cap')) :=
    (((HB.out.setCell (Nat.le_refl _) _).setCell (Nat.le_refl _) _).setCell (Nat.le_refl _) _).setCell (Nat.le_refl _) _
  generalize ((((W1.setCell ⟨gx, 0, none⟩ (.int .i64 a0)).setCell ⟨gx, 1, none⟩ (.int .i64 a1)).setCell ⟨gx, 2, none⟩ (.int .i64 a2)).setCell ⟨gx, 3, none⟩ (.slice ao' m.length cap')) = W2 at hx2 hb2 ⊢
  have hr2 := HR.out.below (w1 := W2) (by rw [← HGX.out]; exact hb2)
  have HSG := Lib.hid (Sign_any none a0 a1 a2 _ m W2 hr2 (by omega) H0.out H1.out H2.out (fun m W w' => m = ⟨#[]⟩ ∧ w' = W) (fun _ W hb => (Mac_nil lab _ W).mono (fun e w' ⟨he, hw⟩ => ⟨_, he, by decide, rfl, hw⟩)))
  have HRB := Lib.hid (fun W (hb : Below gx w W) => PReportBytes.refBytes_any a0 a1 a2 _ m W (HR.out.below (w1 := W) (by rw [← HGX.out]; exact hb)) (by omega) (fun f hf => by have h := hr2.in64 f hf; exact ⟨(wfI h.1).2, (wfI h.2.1).2, (wfI h.2.2.1).2, (wfI h.2.2.2).2⟩) H0.out.2 H1.out.2 H2.out.2)
  have d0 := (blk_cell hx2 0).trans rfl
  have d1 := (blk_cell hx2 1).trans rfl
  have d2 := (blk_cell hx2 2).trans rfl
  have d3 := (blk_cell hx2 3).trans rfl
  have HB2 := Lib.hid hb2
  have HX2 := Lib.hid hx2
  obtain ⟨⟨S, st⟩, hS⟩ : ∃ q, q = repBytes a0 a1 a2 m := ⟨_, rfl⟩
  rw [← hS] at HSG HRB
  simp only at HSG HRB
  have HVF := Lib.hid (fun W => Verify_any none s hs false (by simp) W (fun _ W' hb => (Made_nil lab _ _ W').mono (fun e w' ⟨he, hw⟩ => ⟨he, by rw [hw]; exact Below.refl _ _⟩)))
  clear hr2 hb2 hx2 HX HB c0 c1 c2 c3 f0 f1 f2 f3 hS
  refine HSG.out.mono ?_
  rintro e W4 hpost
  have hq : ∃ e1 : Int, e = .returned (.tuple #[.string ⟨#[]⟩, .int .i64 e1]) ∧ Below W2.heap.size W2 W4 ∧ e1 = if st = 0 then 1 else st := by
    rcases hpost with ⟨h1, h2, h3⟩ | ⟨h1, W, m', h2, ⟨h3, h4⟩, h5⟩
    · exact ⟨st, h2, h3, by rw [if_neg h1]⟩
    · subst h3 h4
      exact ⟨1, h5, h2, by rw [if_pos h1]⟩
  obtain ⟨e1, rfl, hb4, he1⟩ := hq
  have hx4 := (hb4.block gx (blk_lt HX2.out)).trans HX2.out
  have HB4 := Lib.hid (HB2.out.trans (hb4.mono (by rw [HGX.out]; exact HB2.out.size)))
  have HX4 := Lib.hid hx4
  have HE1 := Lib.hid he1
  clear hpost d0 d1 d2 d3 hb4 hx4 HSG HX2 HB2 he1
  go_wp2_with fail
  refine (HVF.out W4).mono ?_
  rintro e W5 ⟨v5, rfl, hf5, hb5⟩
  obtain ⟨ao5, cap5, rfl, _⟩ := hf5.form
  obtain ⟨ve, hve⟩ : ∃ q, q = verifyOf s false := ⟨_, rfl⟩
  have hvc : (s.size < 16 ∧ ve.e = 3) ∨ (¬ s.size < 16 ∧ ve.e = 61) := by
    rw [hve, verifyOf]
    by_cases h16 : s.size < 16
    · rw [if_pos h16]; exact .inl ⟨h16, rfl⟩
    · rw [if_neg h16, if_neg (by simp)]; exact .inr ⟨h16, rfl⟩
  rw [← hve] at hf5 ⊢
  have hx5 := (hb5.block gx (blk_lt HX4.out)).trans HX4.out
  have HB5 := Lib.hid (HB4.out.trans (hb5.mono (by rw [HGX.out]; exact HB4.out.size)))
  have hal := HB5.out.alloc (by rw [HGX.out]; exact HB5.out.size) (.cells #[.int .i64 ve.a0, .int .i64 ve.a1, .int .i64 ve.a2, .slice ao5 ve.l.length cap5] 24 (0, 0))
  have hx6 := get_below (o := .cells #[.int .i64 ve.a0, .int .i64 ve.a1, .int .i64 ve.a2, .slice ao5 ve.l.length cap5] 24 (0, 0)) hx5
  have d0 := (blk_cell hx5 0).trans rfl
  have d1 := (blk_cell hx5 1).trans rfl
  have d2 := (blk_cell hx5 2).trans rfl
  have d3 := (blk_cell hx5 3).trans rfl
  have hgl := blk_lt hx5
  have HB6 := Lib.hid hal
  have HRB6 := Lib.hid (HRB.out _ hal)
  clear hf5 hb5 hx5 hal hx6 HB4 HX4 HVF hve HRB
  go_wp2_with fail
  refine HRB6.out.mono ?_
  rintro e W7 ⟨rfl, hb7⟩
  have HB7 := Lib.hid (HB6.out.trans (hb7.mono (by rw [HGX.out]; exact HB6.out.size)))
  clear hb7 HRB6 d0 d1 d2 d3 hgl
  have hE := HE1.out
  obtain ⟨vee, hvee⟩ : ∃ k, k = ve.e := ⟨_, rfl⟩
  rw [← hvee] at hvc ⊢
  clear hvee
  by_cases hst : st = 0
  · subst hst
    rw [if_pos rfl] at hE
    subst hE
    rcases hvc with ⟨h16, rfl⟩ | ⟨h16, rfl⟩
    · have z1 : (s.size : Int) < 16 := by omega
      clear h16
      go_wp2_with fail
      refine (repAwake_any _).mono ?_
      rintro e W9 ⟨rfl, hb5⟩
      have HB9 := Lib.hid (HB7.out.trans (hb5.mono (by rw [HGX.out]; exact HB7.out.size)))
      clear hb5
      go_wp2_with fail
      go_ret
      rw [← HGX.out]
      exact ⟨rfl, HB9.out⟩
    · have z1 : ¬ (s.size : Int) < 16 := by omega
      clear h16
      go_wp2_with fail
      refine (repAwake_any _).mono ?_
      rintro e W9 ⟨rfl, hb5⟩
      have HB9 := Lib.hid (HB7.out.trans (hb5.mono (by rw [HGX.out]; exact HB7.out.size)))
      clear hb5
      go_wp2_with fail
      go_ret
      rw [← HGX.out]
      exact ⟨rfl, HB9.out⟩
  · rw [if_neg hst] at hE
    subst hE
    have hne : (e1 != 0) = true := by simpa using hst
    rcases hvc with ⟨h16, rfl⟩ | ⟨h16, rfl⟩
    · have z1 : (s.size : Int) < 16 := by omega
      clear h16
      go_wp2_with fail
      refine (repAwake_any _).mono ?_
      rintro e W9 ⟨rfl, hb5⟩
      have HB9 := Lib.hid (HB7.out.trans (hb5.mono (by rw [HGX.out]; exact HB7.out.size)))
      clear hb5
      go_wp2_with fail
      go_ret
      rw [← HGX.out]
      exact ⟨rfl, HB9.out⟩
    · have z1 : ¬ (s.size : Int) < 16 := by omega
      clear h16
      go_wp2_with fail
      refine (repAwake_any _).mono ?_
      rintro e W9 ⟨rfl, hb5⟩
      have HB9 := Lib.hid (HB7.out.trans (hb5.mono (by rw [HGX.out]; exact HB7.out.size)))
      clear hb5
      go_wp2_with fail
      go_ret
      rw [← HGX.out]
      exact ⟨rfl, HB9.out⟩
end Go.Proofs.Ythobfbiobnmceaa.B
namespace Go.Proofs.Ythobfbiobnmceaa.R
open Go.RowKit
theorem rep_open2 {w : World} {cs : List Value} (h : F.FitsAt w 8 [.int .i64, .int .i64, .int .i64, .rows [.int .i64, .int .i64, .int .i64, .int .i64]] cs) :
    ∃ (a0 a1 a2 : Int) (v : Value) (l : List B.Four), cs = [.int .i64 a0, .int .i64 a1, .int .i64 a2, v] ∧ (-9223372036854775808 ≤ a0 ∧ a0 ≤ 9223372036854775807) ∧ (-9223372036854775808 ≤ a1 ∧ a1 ≤ 9223372036854775807) ∧ (-9223372036854775808 ≤ a2 ∧ a2 ≤ 9223372036854775807) ∧ B.FndRow w v l := by
  obtain ⟨hl, hc⟩ := h
  obtain ⟨c0, e0, a0, rfl, w0⟩ := hc 0 _ rfl
  obtain ⟨c1, e1, a1, rfl, w1⟩ := hc 1 _ rfl
  obtain ⟨c2, e2, a2, rfl, w2⟩ := hc 2 _ rfl
  obtain ⟨c3, e3, h3⟩ := hc 3 _ rfl
  obtain ⟨l, hr⟩ := B.fndRow_of h3
  match cs, hl, e0, e1, e2, e3 with
  | [x0, x1, x2, x3], _, e0, e1, e2, e3 =>
    simp at e0 e1 e2 e3
    subst e0 e1 e2 e3
    exact ⟨a0, a1, a2, _, l, rfl, B.wfI w0, B.wfI w1, B.wfI w2, hr⟩
theorem ReportNobody (cs : List Value) (a : ByteArray) (w : World) (h : F.FitsAt w 8 [.int .i64, .int .i64, .int .i64, .rows [.int .i64, .int .i64, .int .i64, .int .i64]] cs) (ha : a.size ≤ 140737488351232) :
    Calls Try.prog 8 #[.agg cs.toArray, .string a] w fun e w' => e = .returned (.bool true) ∧ Below w.heap.size w w' := by
  obtain ⟨a0, a1, a2, v, l, rfl, h0, h1, h2, hr⟩ := rep_open2 h
  exact B.reportNobody_walk a0 a1 a2 v l a ha w hr h0 h1 h2
end Go.Proofs.Ythobfbiobnmceaa.R
