/-
  ReportBack.
-/
import Derived.Test.YthobfbiobnmceaaRepForth
import Derived.Test.YthobfbiobnmceaaRepAwake
import Derived.Test.YthobfbiobnmceaaRepSame
namespace Go.Proofs.Ythobfbiobnmceaa.B
open Go.RowKit
set_option linter.unusedVariables false
set_option linter.unusedSimpArgs false

theorem bodyB_bad : ∀ (l : List Four) (s : ByteArray), (bodyB l s).2 ≠ 0 → (bodyB l s).1 = ⟨#[]⟩
  | [], s, h => absurd rfl h
  | f :: r, s, h => by
    unfold bodyB at h ⊢
    split at h
    · rename_i hc
      rw [if_pos hc]
      exact bodyB_bad r _ h
    · rename_i hc
      rw [if_neg hc]
theorem repBytes_bad {a0 a1 a2 : Int} {l : List Four} (h : (repBytes a0 a1 a2 l).2 ≠ 0) : (repBytes a0 a1 a2 l).1 = ⟨#[]⟩ := by
  unfold repBytes at h ⊢
  split at h
  · rename_i hc
    rw [if_pos hc]
    split at h
    · rename_i hd
      rw [if_pos hd]
      exact bodyB_bad _ _ h
    · rename_i hd
      rw [if_neg hd]
  · rename_i hc
    rw [if_neg hc]
theorem repBytes_size (a0 a1 a2 : Int) (l : List Four) : (repBytes a0 a1 a2 l).1.size ≤ 20 + 14 * l.length := by
  by_cases h : (repBytes a0 a1 a2 l).2 = 0
  · have := (rep_reads h).2.1
    omega
  · rw [repBytes_bad h]
    show 0 ≤ _
    omega
theorem repOf_small2 (s : ByteArray) (hs : s.size ≤ 3000) : (repOf s).l.length ≤ 100000 := by
  unfold repOf
  split
  · simp
  · split
    · simp
    · split
      · simp
      · split
        · simp only [fndsOf_length]; omega
        · simp
theorem repOf_in64 (s : ByteArray) : (-9223372036854775808 ≤ (repOf s).a0 ∧ (repOf s).a0 ≤ 9223372036854775807) ∧ (-9223372036854775808 ≤ (repOf s).a1 ∧ (repOf s).a1 ≤ 9223372036854775807) ∧ (-9223372036854775808 ≤ (repOf s).a2 ∧ (repOf s).a2 ≤ 9223372036854775807) := by
  have h0 := num_range s 0 6
  have h1 := num_range s 6 6
  have h2 := num_range s 12 4
  have h0' : num s 0 6 < 281474976710656 := h0.2
  have h1' : num s 6 6 < 281474976710656 := h1.2
  have h2' : num s 12 4 < 4294967296 := h2.2
  unfold repOf
  split
  · simp
  · split
    · simp
    · split
      · simp
      · split
        · simp only; omega
        · simp

set_option maxRecDepth 100000 in
set_option maxHeartbeats 1600000 in
theorem reportBack_cut (a0 a1 a2 : Int) (v : Value) (l : List Four) (s0 s : ByteArray) (hs : s.size ≤ 3000) (hc : s = if 3000 < s0.size then s0.extract 0 3000 else s0) (hs0 : s0.size ≤ 140737488351232) (w : World) (h : FndRow w v l) (h0 : -9223372036854775808 ≤ a0 ∧ a0 ≤ 9223372036854775807) (h1 : -9223372036854775808 ≤ a1 ∧ a1 ≤ 9223372036854775807) (h2 : -9223372036854775808 ≤ a2 ∧ a2 ≤ 9223372036854775807) :
    Calls Try.prog 5 #[.agg #[.int .i64 a0, .int .i64 a1, .int .i64 a2, v], .string s0] w fun e w' => e = .returned (.bool true) ∧ Below w.heap.size w w' := by
  obtain ⟨ao, cap, rfl, hcap, hmax⟩ := h.form
  have hu24 := Try.underlying24
  have H := Lib.hid h
  have H0 := Lib.hid h0
  have H1 := Lib.hid h1
  have H2 := Lib.hid h2
  have HC := Lib.hid hc
  have HS := Lib.hid hs
  clear h h0 h1 h2 hmax hcap hc hs
  go_enter Try.func5, Try.ntmps5
  go_wp2_with fail
  refine (few_any a0 a1 a2 _ l 200 (by omega) _ (H.out.below ((Below.refl _ w).alloc (Nat.le_refl _) _))).mono ?_
  rintro e W1 ⟨v', rfl, hf, hb1⟩
  have hr := hf w H.out
  have hlen : (l.take 200).length ≤ 200 := List.length_take_le _ _
  obtain ⟨m, hm⟩ : ∃ m, m = l.take 200 := ⟨_, rfl⟩
  rw [← hm] at hr hlen
  have hbx : W1.heap[w.heap.size]? = some (.cells #[.int .i64 a0, .int .i64 a1, .int .i64 a2, .slice ao l.length cap] 24 (0, 0)) := (hb1.block _ (by simp)).trans (get_top rfl)
  have hbel : Below w.heap.size w W1 := ((Below.refl _ w).alloc (Nat.le_refl _) _).trans (hb1.mono (by simp))
  obtain ⟨gx, hgx⟩ : ∃ g, g = w.heap.size := ⟨_, rfl⟩
  rw [← hgx] at hbx hbel ⊢
  have c0 := (blk_cell hbx 0).trans rfl
  have c1 := (blk_cell hbx 1).trans rfl
  have c2 := (blk_cell hbx 2).trans rfl
  have c3 := (blk_cell hbx 3).trans rfl
  have f0 := blk_frozen hbx 0
  have f1 := blk_frozen hbx 1
  have f2 := blk_frozen hbx 2
  have f3 := blk_frozen hbx 3
  obtain ⟨ao', cap', rfl, hcap', hmax'⟩ := hr.form
  have HB := Lib.hid hbel
  have HX := Lib.hid hbx
  have HR := Lib.hid hr
  have HGX := Lib.hid hgx
  clear hbel hbx hr hgx hf hb1 hm hmax' hcap'
  -- what the calls will say
  have HOF := Lib.hid (fun W => repOf_any (repBytes a0 a1 a2 m).1 (by have := repBytes_size a0 a1 a2 m; omega) W)
  have HOG := Lib.hid (fun W => repOf_any s (by have := HS.out; omega) W)
  have hback := fun h => repOf_back (a0 := a0) (a1 := a1) (a2 := a2) (l := m) h
  have hforth := repOf_forth s
  have hsm := repOf_small2 s HS.out
  have hin := repOf_in64 s
  obtain ⟨⟨c0', c1', c2', cl, g⟩, hR2⟩ : ∃ R, R = repOf s := ⟨_, rfl⟩
  obtain ⟨⟨S, st⟩, hS⟩ : ∃ q, q = repBytes a0 a1 a2 m := ⟨_, rfl⟩
  obtain ⟨⟨d0', d1', d2', dl, f⟩, hR1⟩ : ∃ R, R = repOf S := ⟨_, rfl⟩
  rw [← hS] at hback HOF
  simp only at HOF hback
  rw [← hR1] at HOF hback
  rw [← hR2] at HOG hforth hsm hin
  simp only at hforth hsm hin
  obtain ⟨⟨D, hd⟩, hD⟩ : ∃ q, q = repBytes c0' c1' c2' cl := ⟨_, rfl⟩
  rw [← hD] at hforth
  have HS1 := Lib.hid hS
  have HD := Lib.hid hD
  have HBACK := Lib.hid hback
  have HFORTH := Lib.hid hforth
  have HSM := Lib.hid hsm
  have HIN := Lib.hid hin
  clear hS hD hback hforth hsm hin hR1 hR2
  by_cases hbig : 3000 < s0.size
  · have hbig' : (3000 : Int) < (s0.size : Int) := by omega
    have hc' : s0.extract 0 3000 = s := by rw [HC.out, if_pos hbig]
    have HC' := Lib.hid hc'
    clear hc'
    go_wp2_with fail
    have hx2 : ((((W1.setCell ⟨gx, 0, none⟩ (.int .i64 a0)).setCell ⟨gx, 1, none⟩ (.int .i64 a1)).setCell ⟨gx, 2, none⟩ (.int .i64 a2)).setCell ⟨gx, 3, none⟩ (.slice ao' m.length cap')).heap[gx]? = some (.cells #[.int .i64 a0, .int .i64 a1, .int .i64 a2, .slice ao' m.length cap'] 24 (0, 0)) :=
      (blk_set (blk_set (blk_set (blk_set HX.out 0 _) 1 _) 2 _) 3 _).trans rfl
    have hb2 : Below gx w ((((W1.setCell ⟨gx, 0, none⟩ (.int .i64 a0)).setCell ⟨gx, 1, none⟩ (.int .i64 a1)).setCell ⟨gx, 2, none⟩ (.int .i64 a2)).setCell ⟨gx, 3, none⟩ (.slice ao' m.length cap')) :=
      (((HB.out.setCell (Nat.le_refl _) _).setCell (Nat.le_refl _) _).setCell (Nat.le_refl _) _).setCell (Nat.le_refl _) _
    generalize ((((W1.setCell ⟨gx, 0, none⟩ (.int .i64 a0)).setCell ⟨gx, 1, none⟩ (.int .i64 a1)).setCell ⟨gx, 2, none⟩ (.int .i64 a2)).setCell ⟨gx, 3, none⟩ (.slice ao' m.length cap')) = W2 at hx2 hb2 ⊢
    have hr2 := HR.out.below (w1 := W2) (by rw [← HGX.out]; exact hb2)
    refine (repBytes_any a0 a1 a2 _ m W2 hr2 (by omega) H0.out H1.out H2.out).mono ?_
    rintro e W3 ⟨rfl, hb3⟩
    rw [← HS1.out]
    have hx3 : W3.heap[gx]? = _ := (hb3.block gx (blk_lt hx2)).trans hx2
    have hbel3 : Below gx w W3 := hb2.trans (hb3.mono (by have := blk_lt hx2; omega))
    have HB3 := Lib.hid hbel3
    have HX3 := Lib.hid hx3
    have HR3 := Lib.hid (hr2.below hb3)
    simp only
    clear hbel3 hx3 hb3 hr2 hb2 hx2 HX HB c0 c1 c2 c3 f0 f1 f2 f3 HR H H0 H1 H2
    go_wp2_with fail
    refine (HOF.out _).mono ?_
    rintro e W4 ⟨v4, rfl, hr4, hb4⟩
    obtain ⟨ao4, cap4, rfl, hcap4, _⟩ := hr4.form
    have HX4 := Lib.hid ((hb4.block gx (blk_lt HX3.out)).trans HX3.out)
    have HB4 := Lib.hid (HB3.out.trans (hb4.mono (by have := blk_lt HX3.out; omega)))
    have HR4 := Lib.hid (HR3.out.below hb4)
    have HF4 := Lib.hid hr4
    clear hr4 hb4 HR3 HX3 HB3 HOF
    simp only
    go_wp2_with fail
    rw [HC'.out]
    refine (HOG.out _).mono ?_
    rintro e W5 ⟨v5, rfl, hr5, hb5⟩
    obtain ⟨ao5, cap5, rfl, hcap5, _⟩ := hr5.form
    simp only
    have hb45 : Below W4.heap.size W4 W5 := ((Below.refl _ W4).alloc (Nat.le_refl _) _).trans (hb5.mono (by simp))
    have HY5 := Lib.hid ((hb5.block W4.heap.size (by simp)).trans (get_top rfl))
    have HX5 := Lib.hid ((hb45.block gx (blk_lt HX4.out)).trans HX4.out)
    have HB5 := Lib.hid (HB4.out.trans (hb45.mono (by have := blk_lt HX4.out; omega)))
    have HR5 := Lib.hid (HR4.out.below hb45)
    have HF5 := Lib.hid (HF4.out.below hb45)
    have HG5 := Lib.hid hr5
    obtain ⟨g4, hg4⟩ : ∃ g, g = W4.heap.size := ⟨_, rfl⟩
    rw [← hg4] at HY5 ⊢
    clear hr5 hb5 hb45 HR4 HX4 HB4 HOG HF4 hg4
    go_wp2_with fail
    refine (repBytes_any c0' c1' c2' _ cl _ (HG5.out.below ((Below.refl _ _).alloc (Nat.le_refl _) _)) (by have := HSM.out; omega) HIN.out.1 HIN.out.2.1 HIN.out.2.2).mono ?_
    rintro e W6 ⟨rfl, hb6⟩
    rw [← HD.out]
    simp only
    have hb56 : Below W5.heap.size W5 W6 := ((Below.refl _ W5).alloc (Nat.le_refl _) _).trans (hb6.mono (by simp))
    have HZ6 := Lib.hid ((hb6.block W5.heap.size (by simp)).trans (get_top rfl))
    have HY6 := Lib.hid ((hb56.block g4 (blk_lt HY5.out)).trans HY5.out)
    have HX6 := Lib.hid ((hb56.block gx (blk_lt HX5.out)).trans HX5.out)
    have HB6 := Lib.hid (HB5.out.trans (hb56.mono (by have := blk_lt HX5.out; omega)))
    have HR6 := Lib.hid (HR5.out.below hb56)
    have HF6 := Lib.hid (HF5.out.below hb56)
    clear hb6 hb56 HR5 HX5 HY5 HB5 HF5 HG5
    have x0 := (blk_cell HX6.out 0).trans rfl
    have x1 := (blk_cell HX6.out 1).trans rfl
    have x2 := (blk_cell HX6.out 2).trans rfl
    have x3 := (blk_cell HX6.out 3).trans rfl
    have y0 := (blk_cell HY6.out 0).trans rfl
    have y1 := (blk_cell HY6.out 1).trans rfl
    have y2 := (blk_cell HY6.out 2).trans rfl
    have y3 := (blk_cell HY6.out 3).trans rfl
    by_cases hst : st = 0
    · subst hst
      obtain ⟨rfl, rfl, rfl, rfl, rfl⟩ := RepOut.mk.inj (HBACK.out rfl).symm
      by_cases hg0 : g = 0
      · subst hg0
        obtain ⟨rfl, rfl⟩ := Prod.mk.inj (HFORTH.out rfl).symm
        go_wp2_with fail
        refine (same_any a0 a1 a2 _ _ m _ HF6.out HR6.out (by omega)).mono ?_
        rintro e W7 ⟨rfl, hb7⟩
        have HB7 := Lib.hid (HB6.out.trans (hb7.mono (by have := blk_lt HX6.out; omega)))
        have hlt7 : gx ≤ W7.heap.size := Nat.le_trans (Nat.le_of_lt (blk_lt HX6.out)) hb7.size
        clear hb7 HB6 HX6 HY6 HZ6 HR6 HF6
        go_wp2_with fail
        refine (repAwake_any _).mono ?_
        rintro e W8 ⟨rfl, hb8⟩
        have HB8 := Lib.hid (HB7.out.trans (hb8.mono (by omega)))
        clear hb8 HB7
        go_wp2_with fail
        go_ret
        rw [← HGX.out]
        exact ⟨rfl, HB8.out⟩
      · go_wp2_with fail
        refine (same_any a0 a1 a2 _ _ m _ HF6.out HR6.out (by omega)).mono ?_
        rintro e W7 ⟨rfl, hb7⟩
        have HB7 := Lib.hid (HB6.out.trans (hb7.mono (by have := blk_lt HX6.out; omega)))
        have hlt7 : gx ≤ W7.heap.size := Nat.le_trans (Nat.le_of_lt (blk_lt HX6.out)) hb7.size
        clear hb7 HB6 HX6 HY6 HZ6 HR6 HF6
        go_wp2_with fail
        refine (repAwake_any _).mono ?_
        rintro e W8 ⟨rfl, hb8⟩
        have HB8 := Lib.hid (HB7.out.trans (hb8.mono (by omega)))
        clear hb8 HB7
        go_wp2_with fail
        go_ret
        rw [← HGX.out]
        exact ⟨rfl, HB8.out⟩
    · by_cases hg0 : g = 0
      · subst hg0
        obtain ⟨rfl, rfl⟩ := Prod.mk.inj (HFORTH.out rfl).symm
        have HB7 := HB6
        have hlt7 : gx ≤ W6.heap.size := Nat.le_of_lt (blk_lt HX6.out)
        clear HB6 HX6 HY6 HZ6 HR6 HF6
        go_wp2_with fail
        refine (repAwake_any _).mono ?_
        rintro e W8 ⟨rfl, hb8⟩
        have HB8 := Lib.hid (HB7.out.trans (hb8.mono (by omega)))
        clear hb8 HB7
        go_wp2_with fail
        go_ret
        rw [← HGX.out]
        exact ⟨rfl, HB8.out⟩
      · skip
        have HB7 := HB6
        have hlt7 : gx ≤ W6.heap.size := Nat.le_of_lt (blk_lt HX6.out)
        clear HB6 HX6 HY6 HZ6 HR6 HF6
        go_wp2_with fail
        refine (repAwake_any _).mono ?_
        rintro e W8 ⟨rfl, hb8⟩
        have HB8 := Lib.hid (HB7.out.trans (hb8.mono (by omega)))
        clear hb8 HB7
        go_wp2_with fail
        go_ret
        rw [← HGX.out]
        exact ⟨rfl, HB8.out⟩
  · have hbig' : ¬ (3000 : Int) < (s0.size : Int) := by omega
    obtain rfl : s = s0 := by rw [HC.out, if_neg hbig]
    have HC' := Lib.hid (rfl : s = s)
    go_wp2_with fail
    have hx2 : ((((W1.setCell ⟨gx, 0, none⟩ (.int .i64 a0)).setCell ⟨gx, 1, none⟩ (.int .i64 a1)).setCell ⟨gx, 2, none⟩ (.int .i64 a2)).setCell ⟨gx, 3, none⟩ (.slice ao' m.length cap')).heap[gx]? = some (.cells #[.int .i64 a0, .int .i64 a1, .int .i64 a2, .slice ao' m.length cap'] 24 (0, 0)) :=
      (blk_set (blk_set (blk_set (blk_set HX.out 0 _) 1 _) 2 _) 3 _).trans rfl
    have hb2 : Below gx w ((((W1.setCell ⟨gx, 0, none⟩ (.int .i64 a0)).setCell ⟨gx, 1, none⟩ (.int .i64 a1)).setCell ⟨gx, 2, none⟩ (.int .i64 a2)).setCell ⟨gx, 3, none⟩ (.slice ao' m.length cap')) :=
      (((HB.out.setCell (Nat.le_refl _) _).setCell (Nat.le_refl _) _).setCell (Nat.le_refl _) _).setCell (Nat.le_refl _) _
    generalize ((((W1.setCell ⟨gx, 0, none⟩ (.int .i64 a0)).setCell ⟨gx, 1, none⟩ (.int .i64 a1)).setCell ⟨gx, 2, none⟩ (.int .i64 a2)).setCell ⟨gx, 3, none⟩ (.slice ao' m.length cap')) = W2 at hx2 hb2 ⊢
    have hr2 := HR.out.below (w1 := W2) (by rw [← HGX.out]; exact hb2)
    refine (repBytes_any a0 a1 a2 _ m W2 hr2 (by omega) H0.out H1.out H2.out).mono ?_
    rintro e W3 ⟨rfl, hb3⟩
    rw [← HS1.out]
    have hx3 : W3.heap[gx]? = _ := (hb3.block gx (blk_lt hx2)).trans hx2
    have hbel3 : Below gx w W3 := hb2.trans (hb3.mono (by have := blk_lt hx2; omega))
    have HB3 := Lib.hid hbel3
    have HX3 := Lib.hid hx3
    have HR3 := Lib.hid (hr2.below hb3)
    simp only
    clear hbel3 hx3 hb3 hr2 hb2 hx2 HX HB c0 c1 c2 c3 f0 f1 f2 f3 HR H H0 H1 H2
    go_wp2_with fail
    refine (HOF.out _).mono ?_
    rintro e W4 ⟨v4, rfl, hr4, hb4⟩
    obtain ⟨ao4, cap4, rfl, hcap4, _⟩ := hr4.form
    have HX4 := Lib.hid ((hb4.block gx (blk_lt HX3.out)).trans HX3.out)
    have HB4 := Lib.hid (HB3.out.trans (hb4.mono (by have := blk_lt HX3.out; omega)))
    have HR4 := Lib.hid (HR3.out.below hb4)
    have HF4 := Lib.hid hr4
    clear hr4 hb4 HR3 HX3 HB3 HOF
    simp only
    go_wp2_with fail
    refine (HOG.out _).mono ?_
    rintro e W5 ⟨v5, rfl, hr5, hb5⟩
    obtain ⟨ao5, cap5, rfl, hcap5, _⟩ := hr5.form
    simp only
    have hb45 : Below W4.heap.size W4 W5 := ((Below.refl _ W4).alloc (Nat.le_refl _) _).trans (hb5.mono (by simp))
    have HY5 := Lib.hid ((hb5.block W4.heap.size (by simp)).trans (get_top rfl))
    have HX5 := Lib.hid ((hb45.block gx (blk_lt HX4.out)).trans HX4.out)
    have HB5 := Lib.hid (HB4.out.trans (hb45.mono (by have := blk_lt HX4.out; omega)))
    have HR5 := Lib.hid (HR4.out.below hb45)
    have HF5 := Lib.hid (HF4.out.below hb45)
    have HG5 := Lib.hid hr5
    obtain ⟨g4, hg4⟩ : ∃ g, g = W4.heap.size := ⟨_, rfl⟩
    rw [← hg4] at HY5 ⊢
    clear hr5 hb5 hb45 HR4 HX4 HB4 HOG HF4 hg4
    go_wp2_with fail
    refine (repBytes_any c0' c1' c2' _ cl _ (HG5.out.below ((Below.refl _ _).alloc (Nat.le_refl _) _)) (by have := HSM.out; omega) HIN.out.1 HIN.out.2.1 HIN.out.2.2).mono ?_
    rintro e W6 ⟨rfl, hb6⟩
    rw [← HD.out]
    simp only
    have hb56 : Below W5.heap.size W5 W6 := ((Below.refl _ W5).alloc (Nat.le_refl _) _).trans (hb6.mono (by simp))
    have HZ6 := Lib.hid ((hb6.block W5.heap.size (by simp)).trans (get_top rfl))
    have HY6 := Lib.hid ((hb56.block g4 (blk_lt HY5.out)).trans HY5.out)
    have HX6 := Lib.hid ((hb56.block gx (blk_lt HX5.out)).trans HX5.out)
    have HB6 := Lib.hid (HB5.out.trans (hb56.mono (by have := blk_lt HX5.out; omega)))
    have HR6 := Lib.hid (HR5.out.below hb56)
    have HF6 := Lib.hid (HF5.out.below hb56)
    clear hb6 hb56 HR5 HX5 HY5 HB5 HF5 HG5
    have x0 := (blk_cell HX6.out 0).trans rfl
    have x1 := (blk_cell HX6.out 1).trans rfl
    have x2 := (blk_cell HX6.out 2).trans rfl
    have x3 := (blk_cell HX6.out 3).trans rfl
    have y0 := (blk_cell HY6.out 0).trans rfl
    have y1 := (blk_cell HY6.out 1).trans rfl
    have y2 := (blk_cell HY6.out 2).trans rfl
    have y3 := (blk_cell HY6.out 3).trans rfl
    by_cases hst : st = 0
    · subst hst
      obtain ⟨rfl, rfl, rfl, rfl, rfl⟩ := RepOut.mk.inj (HBACK.out rfl).symm
      by_cases hg0 : g = 0
      · subst hg0
        obtain ⟨rfl, rfl⟩ := Prod.mk.inj (HFORTH.out rfl).symm
        go_wp2_with fail
        refine (same_any a0 a1 a2 _ _ m _ HF6.out HR6.out (by omega)).mono ?_
        rintro e W7 ⟨rfl, hb7⟩
        have HB7 := Lib.hid (HB6.out.trans (hb7.mono (by have := blk_lt HX6.out; omega)))
        have hlt7 : gx ≤ W7.heap.size := Nat.le_trans (Nat.le_of_lt (blk_lt HX6.out)) hb7.size
        clear hb7 HB6 HX6 HY6 HZ6 HR6 HF6
        go_wp2_with fail
        refine (repAwake_any _).mono ?_
        rintro e W8 ⟨rfl, hb8⟩
        have HB8 := Lib.hid (HB7.out.trans (hb8.mono (by omega)))
        clear hb8 HB7
        go_wp2_with fail
        go_ret
        rw [← HGX.out]
        exact ⟨rfl, HB8.out⟩
      · go_wp2_with fail
        refine (same_any a0 a1 a2 _ _ m _ HF6.out HR6.out (by omega)).mono ?_
        rintro e W7 ⟨rfl, hb7⟩
        have HB7 := Lib.hid (HB6.out.trans (hb7.mono (by have := blk_lt HX6.out; omega)))
        have hlt7 : gx ≤ W7.heap.size := Nat.le_trans (Nat.le_of_lt (blk_lt HX6.out)) hb7.size
        clear hb7 HB6 HX6 HY6 HZ6 HR6 HF6
        go_wp2_with fail
        refine (repAwake_any _).mono ?_
        rintro e W8 ⟨rfl, hb8⟩
        have HB8 := Lib.hid (HB7.out.trans (hb8.mono (by omega)))
        clear hb8 HB7
        go_wp2_with fail
        go_ret
        rw [← HGX.out]
        exact ⟨rfl, HB8.out⟩
    · by_cases hg0 : g = 0
      · subst hg0
        obtain ⟨rfl, rfl⟩ := Prod.mk.inj (HFORTH.out rfl).symm
        have HB7 := HB6
        have hlt7 : gx ≤ W6.heap.size := Nat.le_of_lt (blk_lt HX6.out)
        clear HB6 HX6 HY6 HZ6 HR6 HF6
        go_wp2_with fail
        refine (repAwake_any _).mono ?_
        rintro e W8 ⟨rfl, hb8⟩
        have HB8 := Lib.hid (HB7.out.trans (hb8.mono (by omega)))
        clear hb8 HB7
        go_wp2_with fail
        go_ret
        rw [← HGX.out]
        exact ⟨rfl, HB8.out⟩
      · skip
        have HB7 := HB6
        have hlt7 : gx ≤ W6.heap.size := Nat.le_of_lt (blk_lt HX6.out)
        clear HB6 HX6 HY6 HZ6 HR6 HF6
        go_wp2_with fail
        refine (repAwake_any _).mono ?_
        rintro e W8 ⟨rfl, hb8⟩
        have HB8 := Lib.hid (HB7.out.trans (hb8.mono (by omega)))
        clear hb8 HB7
        go_wp2_with fail
        go_ret
        rw [← HGX.out]
        exact ⟨rfl, HB8.out⟩
end Go.Proofs.Ythobfbiobnmceaa.B
