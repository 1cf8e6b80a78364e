/-
  ReportCuts.
-/
import Derived.Test.YthobfbiobnmceaaRepLawsA
import Derived.Test.YthobfbiobnmceaaRepBack
namespace Go.Proofs.Ythobfbiobnmceaa.B
open Go.RowKit
set_option linter.unusedVariables false
set_option linter.unusedSimpArgs false

set_option maxRecDepth 100000 in
theorem reportCuts_walk (a0 a1 a2 : Int) (v : Value) (l : List Four) (cut : Int) (more : ByteArray) (hmore : more.size ≤ 140737488351232) (w : World) (h : FndRow w v l) (h0 : -9223372036854775808 ≤ a0 ∧ a0 ≤ 9223372036854775807) (h1 : -9223372036854775808 ≤ a1 ∧ a1 ≤ 9223372036854775807) (h2 : -9223372036854775808 ≤ a2 ∧ a2 ≤ 9223372036854775807) :
    Calls Try.prog 6 #[.agg #[.int .i64 a0, .int .i64 a1, .int .i64 a2, v], .int .i64 cut, .string more] w fun e w' => e = .returned (.bool true) ∧ Below w.heap.size w w' := by
  obtain ⟨ao, cap, rfl, hcap, hmax⟩ := h.form
  have hu24 := Try.underlying24
  have H := Lib.hid h
  have H0 := Lib.hid h0
  have H1 := Lib.hid h1
  have H2 := Lib.hid h2
  clear h h0 h1 h2 hmax hcap
  go_enter Try.func6, Try.ntmps6
  go_wp2_with fail
  refine (few_any a0 a1 a2 _ l 100 (by omega) _ (H.out.below ((Below.refl _ w).alloc (Nat.le_refl _) _))).mono ?_
  rintro e W1 ⟨v', rfl, hf, hb1⟩
  have hr := hf w H.out
  have hlen : (l.take 100).length ≤ 100 := List.length_take_le _ _
  obtain ⟨m, hm⟩ : ∃ m, m = l.take 100 := ⟨_, rfl⟩
  rw [← hm] at hr hlen
  have hbx : W1.heap[w.heap.size]? = some (.cells #[.int .i64 a0, .int .i64 a1, .int .i64 a2, .slice ao l.length cap] 24 (0, 0)) := (hb1.block _ (by simp)).trans (get_top rfl)
  have hbel : Below w.heap.size w W1 := ((Below.refl _ w).alloc (Nat.le_refl _) _).trans (hb1.mono (by simp))
  obtain ⟨gx, hgx⟩ : ∃ g, g = w.heap.size := ⟨_, rfl⟩
  rw [← hgx] at hbx hbel ⊢
  have c0 := (blk_cell hbx 0).trans rfl
  have c1 := (blk_cell hbx 1).trans rfl
  have c2 := (blk_cell hbx 2).trans rfl
  have c3 := (blk_cell hbx 3).trans rfl
  have f0 := blk_frozen hbx 0
  have f1 := blk_frozen hbx 1
  have f2 := blk_frozen hbx 2
  have f3 := blk_frozen hbx 3
  obtain ⟨ao', cap', rfl, hcap', hmax'⟩ := hr.form
  have HB := Lib.hid hbel
  have HX := Lib.hid hbx
  have HR := Lib.hid hr
  have HGX := Lib.hid hgx
  clear hbel hbx hr hgx hf hb1 hm hmax' hcap'
  go_wp2_with fail
  have hx2 : ((((W1.setCell ⟨gx, 0, none⟩ (.int .i64 a0)).setCell ⟨gx, 1, none⟩ (.int .i64 a1)).setCell ⟨gx, 2, none⟩ (.int .i64 a2)).setCell ⟨gx, 3, none⟩ (.slice ao' m.length cap')).heap[gx]? = some (.cells #[.int .i64 a0, .int .i64 a1, .int .i64 a2, .slice ao' m.length cap'] 24 (0, 0)) :=
    (blk_set (blk_set (blk_set (blk_set HX.out 0 _) 1 _) 2 _) 3 _).trans rfl
  have hb2 : Below gx w ((((W1.setCell ⟨gx, 0, none⟩ (.int .i64 a0)).setCell ⟨gx, 1, none⟩ (.int .i64 a1)).setCell ⟨gx, 2, none⟩ (.int .i64 a2)).setCell ⟨gx, 3, none⟩ (.slice ao' m.length cap')) :=
    (((HB.out.setCell (Nat.le_refl _) _).setCell (Nat.le_refl _) _).setCell (Nat.le_refl _) _).setCell (Nat.le_refl _) _
  generalize ((((W1.setCell ⟨gx, 0, none⟩ (.int .i64 a0)).setCell ⟨gx, 1, none⟩ (.int .i64 a1)).setCell ⟨gx, 2, none⟩ (.int .i64 a2)).setCell ⟨gx, 3, none⟩ (.slice ao' m.length cap')) = W2 at hx2 hb2 ⊢
  have hr2 := HR.out.below (w1 := W2) (by rw [← HGX.out]; exact hb2)
  refine (repBytes_any a0 a1 a2 _ m W2 hr2 (by omega) H0.out H1.out H2.out).mono ?_
  rintro e W3 ⟨rfl, hb3⟩
  have hx3 : W3.heap[gx]? = _ := (hb3.block gx (blk_lt hx2)).trans hx2
  have hbel3 : Below gx w W3 := hb2.trans (hb3.mono (by have := blk_lt hx2; omega))
  have d0 := (blk_cell hx3 0).trans rfl
  have d1 := (blk_cell hx3 1).trans rfl
  have d2 := (blk_cell hx3 2).trans rfl
  have d3 := (blk_cell hx3 3).trans rfl
  have HB3 := Lib.hid hbel3
  obtain ⟨⟨S, st⟩, hS⟩ : ∃ q, q = repBytes a0 a1 a2 m := ⟨_, rfl⟩
  have HS := Lib.hid hS
  rw [← hS]
  simp only
  clear hbel3 hx3 hb3 hr2 hb2 hx2 HX HB c0 c1 c2 c3 f0 f1 f2 f3 d0 d1 d2 d3 HR H H0 H1 H2
  by_cases hst : st = 0
  · subst hst
    have hok : (repBytes a0 a1 a2 m).2 = 0 := by rw [← HS.out]
    have hS1 : (repBytes a0 a1 a2 m).1 = S := by rw [← HS.out]
    have hsz := (rep_reads hok).2.1
    have hcut := fun c => repOf_cut hok c
    have hmo := fun b => repOf_more hok b
    have hback := repOf_back hok
    rw [hS1] at hsz hcut hmo hback
    have HCUT := Lib.hid hcut
    have HMO := Lib.hid hmo
    have HBK := Lib.hid hback
    clear hcut hmo hback hS HS hok hS1
    by_cases hneg : cut < 0
    · go_wp2_with fail
      refine (repAwake_any W3).mono ?_
      rintro e W5 ⟨rfl, hb5⟩
      have HB5 := Lib.hid (HB3.out.trans (hb5.mono (by rw [HGX.out]; exact HB3.out.size)))
      clear hb5
      go_wp2_with fail
      go_ret
      rw [← HGX.out]
      exact ⟨rfl, HB5.out⟩
    · obtain ⟨c, rfl⟩ : ∃ c : Nat, cut = (c : Int) := ⟨cut.toNat, by omega⟩
      by_cases hge : S.size ≤ c
      · have hge' : (S.size : Int) ≤ (c : Int) := by omega
        go_wp2_with fail
        refine (repAwake_any W3).mono ?_
        rintro e W5 ⟨rfl, hb5⟩
        have HB5 := Lib.hid (HB3.out.trans (hb5.mono (by rw [HGX.out]; exact HB3.out.size)))
        clear hb5
        go_wp2_with fail
        go_ret
        rw [← HGX.out]
        exact ⟨rfl, HB5.out⟩
      · have hge' : (c : Int) < (S.size : Int) := by omega
        by_cases hbig : 100 < more.size
        · have hbig' : (100 : Int) < (more.size : Int) := by omega
          go_wp2_with fail
          refine (repAwake_any W3).mono ?_
          rintro e W5 ⟨rfl, hb5⟩
          have HB5 := Lib.hid (HB3.out.trans (hb5.mono (by rw [HGX.out]; exact HB3.out.size)))
          clear hb5
          go_wp2_with fail
          go_ret
          rw [← HGX.out]
          exact ⟨rfl, HB5.out⟩
        · have hbig' : ¬ (100 : Int) < (more.size : Int) := by omega
          have hle : (c : Int) ≤ (S.size : Int) := by omega
          have hcs := HCUT.out c (by omega)
          have HF := Lib.hid (fun W => repOf_any (S.extract 0 c) (by rw [ByteArray.size_extract]; omega) W)
          have HG := Lib.hid (fun W => repOf_any (S ++ more) (by rw [ByteArray.size_append]; omega) W)
          have hovf : ¬ 9223372036854775807 < S.size + more.size := by omega
          obtain ⟨R1, hR1⟩ : ∃ R, R = repOf (S.extract 0 c) := ⟨_, rfl⟩
          rw [← hR1] at hcs HF
          obtain ⟨R2, hR2⟩ : ∃ R, R = repOf (S ++ more) := ⟨_, rfl⟩
          rw [← hR2] at HG
          have HR2 := Lib.hid hR2
          have HCS := Lib.hid hcs
          clear hR1 hR2 hcs
          go_wp2_with fail
          refine (HF.out _).mono ?_
          rintro e W4 ⟨v4, rfl, hr4, hb4⟩
          obtain ⟨ao4, cap4, rfl, _, _⟩ := hr4.form
          rw [HCS.out]
          have HB4 := Lib.hid (HB3.out.trans (hb4.mono (by rw [HGX.out]; exact HB3.out.size)))
          clear hr4 hb4 HF
          go_wp2_with fail
          refine (HG.out _).mono ?_
          rintro e W5 ⟨v5, rfl, hr5, hb5⟩
          obtain ⟨ao5, cap5, rfl, _, _⟩ := hr5.form
          have HB5 := Lib.hid (HB4.out.trans ((((Below.refl _ W4).alloc (Nat.le_refl _) _).trans (hb5.mono (by simp))).mono (by rw [HGX.out]; exact HB4.out.size)))
          clear hr5 hb5 HG HB4
          by_cases hm : more = ⟨#[]⟩
          · have he : R2.e = 0 := by
              rw [HR2.out, hm, show S ++ (⟨#[]⟩ : ByteArray) = S by apply ByteArray.ext; simp, HBK.out]
            rw [he]
            subst hm
            clear he
            go_wp2_with fail
            refine (repAwake_any _).mono ?_
            rintro e W6 ⟨rfl, hb6⟩
            have HB6 := Lib.hid (HB5.out.trans ((((Below.refl _ W5).alloc (Nat.le_refl _) _).trans (hb6.mono (by simp))).mono (by rw [HGX.out]; exact HB5.out.size)))
            clear hb6
            go_wp2_with fail
            go_ret
            rw [← HGX.out]
            exact ⟨rfl, HB6.out⟩
          · have hm0 : 0 < more.size := by
              apply Nat.pos_of_ne_zero
              intro h
              apply hm
              apply ByteArray.ext
              exact Array.eq_empty_of_size_eq_zero h
            have he : R2.e = 4 := by rw [HR2.out]; exact HMO.out more hm0
            rw [he]
            clear he
            have hie : more.toList.isEmpty = false := by
              rw [ByteArray.toList_eq]
              cases h : more.data.toList with
              | nil => exact absurd (ByteArray.ext (Array.toList_eq_nil_iff.1 h)) hm
              | cons x r => rfl
            go_wp2_with fail
            refine (repAwake_any _).mono ?_
            rintro e W6 ⟨rfl, hb6⟩
            have HB6 := Lib.hid (HB5.out.trans ((((Below.refl _ W5).alloc (Nat.le_refl _) _).trans (hb6.mono (by simp))).mono (by rw [HGX.out]; exact HB5.out.size)))
            clear hb6
            go_wp2_with fail
            go_ret
            rw [← HGX.out]
            exact ⟨rfl, HB6.out⟩
  · go_wp2_with fail
    refine (repAwake_any W3).mono ?_
    rintro e W5 ⟨rfl, hb5⟩
    have HB5 := Lib.hid (HB3.out.trans (hb5.mono (by rw [HGX.out]; exact HB3.out.size)))
    clear hb5
    go_wp2_with fail
    go_ret
    rw [← HGX.out]
    exact ⟨rfl, HB5.out⟩
end Go.Proofs.Ythobfbiobnmceaa.B
