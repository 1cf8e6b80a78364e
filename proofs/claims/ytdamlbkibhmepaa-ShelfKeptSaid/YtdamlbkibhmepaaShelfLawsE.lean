/-
  ShelfKept.
-/
import Derived.Test.YtdamlbkibhmepaaShelfAwake
import Derived.Test.YtdamlbkibhmepaaRight
namespace Go.Proofs.Ytdamlbkibhmepaa.B
open Go.RowKit
set_option linter.unusedVariables false
set_option linter.unusedSimpArgs false

theorem ecells_one (l : List Ent) : ∀ u ∈ ecells l, u.oneCell' = true := by
  intro u hu
  simp only [ecells, List.mem_flatMap, Ent.cells] at hu
  obtain ⟨x, _, hx⟩ := hu
  simp at hx
  rcases hx with rfl | rfl | rfl <;> rfl
theorem ecells_at (l : List Ent) (j : Nat) (u : Value) (h : (ecells l)[j]? = some u) : ∃ i q x, j = i * 3 + q ∧ q < 3 ∧ l[i]? = some x ∧ x.cells[q]? = some u := by
  have hj : j < l.length * 3 := by
    have := (List.getElem?_eq_some_iff.1 h).1
    rwa [ecells_length] at this
  have hi : j / 3 < l.length := by omega
  refine ⟨j / 3, j % 3, l[j / 3], by omega, by omega, by simp [hi], ?_⟩
  rw [← ecells_get l (j / 3) (j % 3) l[j / 3] (by simp [hi]) (by omega), show j / 3 * 3 + j % 3 = j by omega]
  exact h
/-- What a list that came in gives to append. -/
theorem EntRow.feeds {w : World} {v : Value} {l : List Ent} (h : EntRow w v l) : Feeds Try.prog 22 3 w v l.length (ecells l) := by
  obtain ⟨ao, cap, rfl, h1, h2, h3⟩ := h
  cases ao with
  | none =>
    have h0 : l = [] := by
      cases l with
      | nil => rfl
      | cons x r =>
        obtain ⟨g, o, e, _⟩ := h3 (by simp)
        cases e
    subst h0
    exact ⟨⟨_, Try.underlying22, fun k h => by cases h⟩, by simp [ecells], by simp [ecells], fun W => rfl, fun W hW => rfl⟩
  | some a =>
    refine Feeds.slice Try.underlying22 a l.length cap (ecells l) (ecells_length l) (ecells_one l) (fun j u hu => ?_)
    obtain ⟨i, q, x, rfl, hq, hx, hu2⟩ := ecells_at l j u hu
    obtain ⟨g, o, e, hg, hc⟩ := h3 (by have := (List.getElem?_eq_some_iff.1 hx).1; omega)
    cases e
    have := (hc i x hx).2 q u hu2
    unfold Addr.add
    split
    · rename_i he
      rw [he, Nat.add_zero] at this
      exact this
    · exact this
theorem Row.cell3 {w : World} {e : TypeId} {n cap g : Nat} {xs : List Value} (h : Row w e 3 (.slice (some ⟨g, 0, none⟩) n cap) n xs) {k : Nat} (hk : k < n * 3) : (∃ u, w.cell? ⟨g, k, none⟩ = some u) ∧ w.frozen? ⟨g, k, none⟩ = false := by
  rcases h.2 with ⟨hz, _⟩ | ⟨g', cap', cur, lo, hi, he, hg, hmk, hnc, _, hcs, _⟩
  · simp at hz
  · simp at he
    obtain ⟨rfl, rfl⟩ := he
    have : n * 3 ≤ cap * 3 := Nat.mul_le_mul_right _ hnc
    refine ⟨⟨cur[k]'(by omega), by rw [blk_cell hg]; simp⟩, ?_⟩
    simp [World.frozen?, hg]
    intro h1
    rcases hmk with h | h <;> omega
theorem Row.put {w : World} {e : TypeId} {n cap g : Nat} {xs : List Value} (h : Row w e 3 (.slice (some ⟨g, 0, none⟩) n cap) n xs) (k : Nat) (u : Value) : ∃ ys, Row (w.setCell ⟨g, k, none⟩ u) e 3 (.slice (some ⟨g, 0, none⟩) n cap) n ys := by
  rcases h.2 with ⟨hz, _⟩ | ⟨g', cap', cur, lo, hi, he, hg, hmk, hnc, hcm, hcs, ht⟩
  · simp at hz
  · simp at he
    obtain ⟨rfl, rfl⟩ := he
    have : n * 3 ≤ cap * 3 := Nat.mul_le_mul_right _ hnc
    refine ⟨((cur.setIfInBounds k u).toList).take (n * 3), by rw [List.length_take, Array.length_toList, Array.size_setIfInBounds]; omega, .inr ⟨g, cap, _, lo, hi, rfl, blk_set hg k u, hmk, hnc, hcm, by rw [Array.size_setIfInBounds]; exact hcs, rfl⟩⟩
structure KeptI (w W2 : World) (vn : Value) (q : Nat) (W : World) : Prop where
  bel : Below W2.heap.size W2 W
  row : ∃ xs, Row W 37 3 vn q xs
theorem KeptI.put {w W2 W : World} {g q cap k : Nat} (h : KeptI w W2 (.slice (some ⟨g, 0, none⟩) q cap) q W) (hg : W2.heap.size ≤ g) (a b c : Value) :
    KeptI w W2 (.slice (some ⟨g, 0, none⟩) q cap) q (((W.setCell ⟨g, k * 3, none⟩ a).setCell ⟨g, k * 3 + 1, none⟩ b).setCell ⟨g, k * 3 + 2, none⟩ c) := by
  obtain ⟨xs, h0⟩ := h.row
  obtain ⟨y1, h1⟩ := h0.put (k * 3) a
  obtain ⟨y2, h2⟩ := h1.put (k * 3 + 1) b
  obtain ⟨y3, h3⟩ := h2.put (k * 3 + 2) c
  exact ⟨((h.bel.setCell hg _).setCell hg _).setCell hg _, y3, h3⟩
set_option maxRecDepth 100000 in
set_option maxHeartbeats 1600000 in
theorem shelfKept_walk (v : Value) (l : List Ent) (name : ByteArray) (w : World) (h : EntRow w v l) :
    Calls Try.prog 10 #[v, .string name] w fun e w' => e = .returned (.bool true) ∧ Below w.heap.size w w' := by
  obtain ⟨ao, cap, rfl, hcap, hmax⟩ := h.form
  obtain ⟨m, hm⟩ : ∃ m, m = if 100 < l.length then l.take 100 else l := ⟨_, rfl⟩
  have hml : m.length ≤ 100 := by
    rw [hm]; split
    · simp; omega
    · omega
  have hlm : (l.length : Int) ≤ 9223372036854775807 := by unfold maxLen at hmax; omega

  by_cases hbig : 100 < l.length
  · have i1 : (100 : Int) < (l.length : Int) := by omega
    have i3 : (100 : Int) ≤ (cap : Int) := by omega
    rw [if_pos hbig] at hm
    have hmn : m.length = 100 := by rw [hm]; simp; omega
    have H := Lib.hid (show EntRow w (.slice ao 100 cap) m by
      have := h.take (n := 100) (by omega)
      rwa [← hm] at this)
    clear h hm hmax hcap hbig
    go_enter Try.func10, Try.ntmps10
    obtain ⟨i0, hi, hz0, hz1, hz2⟩ := info_parts infoEntry
    have HII := Lib.hid hi
    have HZ0 := Lib.hid hz0
    have HZ1 := Lib.hid hz1
    have HZ2 := Lib.hid hz2
    clear hi hz0 hz1 hz2
    have hal := (Below.refl _ w).alloc (Nat.le_refl _) (.cells #[] 37 (0, 0))
    have HF := Lib.hid (H.out.below hal).feeds
    have HROW := Lib.hid (Row.lit3 (w := w.alloc (.cells #[] 37 (0, 0))) (get_top rfl) 0 rfl (Nat.zero_le _))
    have HAL := Lib.hid hal
    have HWF := Lib.hid H.out.all
    obtain ⟨q, hq⟩ : ∃ q, q = m.length := ⟨_, rfl⟩
    rw [← hq] at hml HF
    try rw [← hq] at hmn
    try rw [← hq] at H
    try rw [← hq]
    have HQ := Lib.hid hq
    clear hal hq
    try subst hmn
    go_wp2_with (refine wpList_append_row _ (by rfl) _ _ _ _ (by rfl) 37 i0 (.agg #[.string ⟨#[]⟩, .int .i64 0, .int .i64 0]) 3 32 Try.underlying22 HII.out HZ0.out HZ1.out HZ2.out rfl (by omega) _ 0 _ (by rfl) HROW.out _ (by rfl) 100 (ecells m) HF.out (by unfold maxLen; omega) (by omega) (w.heap.size + 1) (by simp) ?_; intro ao5 cap5 w5 hown5 hgrow5 hat5; have HO5 := Lib.hid hown5; have HG5 := Lib.hid hgrow5; have HA5 := Lib.hid hat5; clear hown5 hgrow5 hat5)
    have hbel5 : Below w.heap.size w w5 := HAL.out.grown HG5.out (by simp) (fun k hk => by cases hk; exact Nat.le_refl _)
    have hwas : EntRow w5 (.slice ao5 100 cap5) m := by
      have h := HO5.out
      rw [Nat.zero_add] at h
      have h2 : Row w5 37 3 (.slice ao5 100 cap5) m.length (ecells m) := by rw [← HQ.out]; exact h
      exact entRow_row h2 HWF.out
    have HWAS := Lib.hid hwas
    have HB5 := Lib.hid hbel5
    have H5 := Lib.hid (H.out.below hbel5)
    have hml2 : m.length ≤ 100 := by rw [← HQ.out]; omega
    have HML := Lib.hid hml2
    clear hwas hbel5 HO5 HG5 HA5 HF HROW HAL H hml2
    refine (Right_any _ m w5 H5.out (by have := HML.out; omega)).mono ?_
    rintro e W1 ⟨v1, rfl, hL1⟩
    have HB1 := Lib.hid hL1.below
    have HWAS1 := Lib.hid (HWAS.out.below hL1.below)
    have H1 := Lib.hid (H5.out.below hL1.below)
    obtain ⟨ao1, cap1, rfl, _⟩ := hL1.row.form
    clear hL1 HWAS H5
    go_wp2_with fail
    refine (Names_any _ m W1 H1.out (by have := HML.out; omega)).mono ?_
    rintro e W2 ⟨v2, rfl, hL2⟩
    obtain ⟨q2, hq2⟩ : ∃ q, q = (namesL m).length := ⟨_, rfl⟩
    have hrow2 := hL2.row
    have hle2 : q2 ≤ 100 := by
      rw [hq2]
      have := List.length_filter_le (fun x => !free x) m
      have := HML.out
      unfold namesL
      omega
    rw [← hq2] at hrow2
    obtain ⟨ao2, cap2, rfl, hc2⟩ := hrow2.form
    have HI0 := Lib.hid (show KeptI w W1 (.slice ao2 q2 cap2) q2 W2 from ⟨hL2.below, _, hrow2⟩)
    have HBASE := Lib.hid hL2.base
    clear hL2 hrow2 hq2
    go_wp2_with fail
    go_loopg [7] q2 (fun j i wr => ∃ k : Nat, j + k = q2 ∧ i = .int .i64 (k : Int) ∧ KeptI w W1 (.slice ao2 q2 cap2) q2 wr)
    case atStart => exact ⟨0, by omega, rfl, HI0.out⟩
    case round =>
      clear HI0
      obtain ⟨k, hk, rfl, hI⟩ := hrel
      by_cases hlt : k < q2
      · obtain ⟨j, rfl⟩ : ∃ j, gk = j + 1 := ⟨gk - 1, by omega⟩
        obtain ⟨xs, hrw⟩ := hI.row
        obtain ⟨g, cp, he, _, _⟩ := hrw.form_pos (by omega)
        simp at he
        obtain ⟨rfl, rfl⟩ := he
        obtain ⟨⟨u0, c0⟩, f0⟩ := hrw.cell3 (k := k * 3) (by omega)
        obtain ⟨⟨u1, c1⟩, f1⟩ := hrw.cell3 (k := k * 3 + 1) (by omega)
        obtain ⟨⟨u2, c2⟩, f2⟩ := hrw.cell3 (k := k * 3 + 2) (by omega)
        have HI := Lib.hid (hI.put (k := k) (HBASE.out g rfl) (.string ⟨#[98, 101, 110, 116]⟩) (.int .i64 0) (.int .i64 0))
        have v2 : (0 : Int) ≤ (k : Int) := by omega
        have v3 : (k : Int) < (q2 : Int) := by omega
        have hkj : j + (k + 1) = q2 := by omega
        have HKJ := Lib.hid hkj
        clear hI hrw hk hlt hkj
        go_wp2_with fail
        go_roundg j
        case measure => omega
        case rel => exact ⟨k + 1, HKJ.out, by go_num, HI.out⟩
      · have HB3 := Lib.hid (HB1.out.trans (hI.bel.mono HB1.out.size))
        obtain rfl : gk = 0 := by omega
        obtain rfl : k = q2 := by omega
        have H3 := Lib.hid (H1.out.below hI.bel)
        have HWAS3 := Lib.hid (HWAS1.out.below hI.bel)
        clear hI H1 HWAS1 HB1
        go_wp2_with fail
        refine (Find_any _ m name wr H3.out (by have := HML.out; omega)).mono ?_
        rintro e W4 ⟨rfl, hb4⟩
        have HB4 := Lib.hid (HB3.out.trans (hb4.mono HB3.out.size))
        have H4 := Lib.hid (H3.out.below hb4)
        have HWAS4 := Lib.hid (HWAS3.out.below hb4)
        clear hb4 H3 HWAS3 HB3
        go_wp2_with fail
        refine (Body_any _ m W4 H4.out).mono ?_
        rintro e W6 ⟨rfl, hb6⟩
        have HB6 := Lib.hid (HB4.out.trans (hb6.mono HB4.out.size))
        have H6 := Lib.hid (H4.out.below hb6)
        have HWAS6 := Lib.hid (HWAS4.out.below hb6)
        clear hb6 H4 HWAS4 HB4
        go_wp2_with fail
        refine (same_any _ _ m W6 H6.out HWAS6.out (by have := HML.out; omega)).mono ?_
        rintro e W7 ⟨rfl, hb7⟩
        have HB := Lib.hid (HB5.out.trans ((HB6.out.trans (hb7.mono HB6.out.size)).mono HB5.out.size))
        clear hb7 H6 HWAS6 HB6 HB5
        go_wp2_with fail
        refine (shelfAwake_any _).mono ?_
        rintro e W9 ⟨rfl, hb9⟩
        have HB9 := Lib.hid (HB.out.trans (hb9.mono HB.out.size))
        clear hb9 HB
        go_wp2_with fail
        go_ret
        exact ⟨rfl, HB9.out⟩

  · have i1 : ¬ (100 : Int) < (l.length : Int) := by omega
    rw [if_neg hbig] at hm
    subst hm
    have H := Lib.hid h
    clear h hmax hcap hbig
    go_enter Try.func10, Try.ntmps10
    obtain ⟨i0, hi, hz0, hz1, hz2⟩ := info_parts infoEntry
    have HII := Lib.hid hi
    have HZ0 := Lib.hid hz0
    have HZ1 := Lib.hid hz1
    have HZ2 := Lib.hid hz2
    clear hi hz0 hz1 hz2
    have hal := (Below.refl _ w).alloc (Nat.le_refl _) (.cells #[] 37 (0, 0))
    have HF := Lib.hid (H.out.below hal).feeds
    have HROW := Lib.hid (Row.lit3 (w := w.alloc (.cells #[] 37 (0, 0))) (get_top rfl) 0 rfl (Nat.zero_le _))
    have HAL := Lib.hid hal
    have HWF := Lib.hid H.out.all
    obtain ⟨q, hq⟩ : ∃ q, q = m.length := ⟨_, rfl⟩
    rw [← hq] at hml HF
    try rw [← hq] at hmn
    try rw [← hq] at H
    try rw [← hq]
    have HQ := Lib.hid hq
    clear hal hq
    try subst hmn
    go_wp2_with (refine wpList_append_row _ (by rfl) _ _ _ _ (by rfl) 37 i0 (.agg #[.string ⟨#[]⟩, .int .i64 0, .int .i64 0]) 3 32 Try.underlying22 HII.out HZ0.out HZ1.out HZ2.out rfl (by omega) _ 0 _ (by rfl) HROW.out _ (by rfl) q (ecells m) HF.out (by unfold maxLen; omega) (by omega) (w.heap.size + 1) (by simp) ?_; intro ao5 cap5 w5 hown5 hgrow5 hat5; have HO5 := Lib.hid hown5; have HG5 := Lib.hid hgrow5; have HA5 := Lib.hid hat5; clear hown5 hgrow5 hat5)
    have hbel5 : Below w.heap.size w w5 := HAL.out.grown HG5.out (by simp) (fun k hk => by cases hk; exact Nat.le_refl _)
    have hwas : EntRow w5 (.slice ao5 q cap5) m := by
      have h := HO5.out
      rw [Nat.zero_add] at h
      have h2 : Row w5 37 3 (.slice ao5 q cap5) m.length (ecells m) := by rw [← HQ.out]; exact h
      exact entRow_row h2 HWF.out
    have HWAS := Lib.hid hwas
    have HB5 := Lib.hid hbel5
    have H5 := Lib.hid (H.out.below hbel5)
    have hml2 : m.length ≤ 100 := by rw [← HQ.out]; omega
    have HML := Lib.hid hml2
    clear hwas hbel5 HO5 HG5 HA5 HF HROW HAL H hml2
    refine (Right_any _ m w5 H5.out (by have := HML.out; omega)).mono ?_
    rintro e W1 ⟨v1, rfl, hL1⟩
    have HB1 := Lib.hid hL1.below
    have HWAS1 := Lib.hid (HWAS.out.below hL1.below)
    have H1 := Lib.hid (H5.out.below hL1.below)
    obtain ⟨ao1, cap1, rfl, _⟩ := hL1.row.form
    clear hL1 HWAS H5
    go_wp2_with fail
    refine (Names_any _ m W1 H1.out (by have := HML.out; omega)).mono ?_
    rintro e W2 ⟨v2, rfl, hL2⟩
    obtain ⟨q2, hq2⟩ : ∃ q, q = (namesL m).length := ⟨_, rfl⟩
    have hrow2 := hL2.row
    have hle2 : q2 ≤ 100 := by
      rw [hq2]
      have := List.length_filter_le (fun x => !free x) m
      have := HML.out
      unfold namesL
      omega
    rw [← hq2] at hrow2
    obtain ⟨ao2, cap2, rfl, hc2⟩ := hrow2.form
    have HI0 := Lib.hid (show KeptI w W1 (.slice ao2 q2 cap2) q2 W2 from ⟨hL2.below, _, hrow2⟩)
    have HBASE := Lib.hid hL2.base
    clear hL2 hrow2 hq2
    go_wp2_with fail
    go_loopg [7] q2 (fun j i wr => ∃ k : Nat, j + k = q2 ∧ i = .int .i64 (k : Int) ∧ KeptI w W1 (.slice ao2 q2 cap2) q2 wr)
    case atStart => exact ⟨0, by omega, rfl, HI0.out⟩
    case round =>
      clear HI0
      obtain ⟨k, hk, rfl, hI⟩ := hrel
      by_cases hlt : k < q2
      · obtain ⟨j, rfl⟩ : ∃ j, gk = j + 1 := ⟨gk - 1, by omega⟩
        obtain ⟨xs, hrw⟩ := hI.row
        obtain ⟨g, cp, he, _, _⟩ := hrw.form_pos (by omega)
        simp at he
        obtain ⟨rfl, rfl⟩ := he
        obtain ⟨⟨u0, c0⟩, f0⟩ := hrw.cell3 (k := k * 3) (by omega)
        obtain ⟨⟨u1, c1⟩, f1⟩ := hrw.cell3 (k := k * 3 + 1) (by omega)
        obtain ⟨⟨u2, c2⟩, f2⟩ := hrw.cell3 (k := k * 3 + 2) (by omega)
        have HI := Lib.hid (hI.put (k := k) (HBASE.out g rfl) (.string ⟨#[98, 101, 110, 116]⟩) (.int .i64 0) (.int .i64 0))
        have v2 : (0 : Int) ≤ (k : Int) := by omega
        have v3 : (k : Int) < (q2 : Int) := by omega
        have hkj : j + (k + 1) = q2 := by omega
        have HKJ := Lib.hid hkj
        clear hI hrw hk hlt hkj
        go_wp2_with fail
        go_roundg j
        case measure => omega
        case rel => exact ⟨k + 1, HKJ.out, by go_num, HI.out⟩
      · have HB3 := Lib.hid (HB1.out.trans (hI.bel.mono HB1.out.size))
        obtain rfl : gk = 0 := by omega
        obtain rfl : k = q2 := by omega
        have H3 := Lib.hid (H1.out.below hI.bel)
        have HWAS3 := Lib.hid (HWAS1.out.below hI.bel)
        clear hI H1 HWAS1 HB1
        go_wp2_with fail
        refine (Find_any _ m name wr H3.out (by have := HML.out; omega)).mono ?_
        rintro e W4 ⟨rfl, hb4⟩
        have HB4 := Lib.hid (HB3.out.trans (hb4.mono HB3.out.size))
        have H4 := Lib.hid (H3.out.below hb4)
        have HWAS4 := Lib.hid (HWAS3.out.below hb4)
        clear hb4 H3 HWAS3 HB3
        go_wp2_with fail
        refine (Body_any _ m W4 H4.out).mono ?_
        rintro e W6 ⟨rfl, hb6⟩
        have HB6 := Lib.hid (HB4.out.trans (hb6.mono HB4.out.size))
        have H6 := Lib.hid (H4.out.below hb6)
        have HWAS6 := Lib.hid (HWAS4.out.below hb6)
        clear hb6 H4 HWAS4 HB4
        go_wp2_with fail
        refine (same_any _ _ m W6 H6.out HWAS6.out (by have := HML.out; omega)).mono ?_
        rintro e W7 ⟨rfl, hb7⟩
        have HB := Lib.hid (HB5.out.trans ((HB6.out.trans (hb7.mono HB6.out.size)).mono HB5.out.size))
        clear hb7 H6 HWAS6 HB6 HB5
        go_wp2_with fail
        refine (shelfAwake_any _).mono ?_
        rintro e W9 ⟨rfl, hb9⟩
        have HB9 := Lib.hid (HB.out.trans (hb9.mono HB.out.size))
        clear hb9 HB
        go_wp2_with fail
        go_ret
        exact ⟨rfl, HB9.out⟩
end Go.Proofs.Ytdamlbkibhmepaa.B
namespace Go.Proofs.Ytdamlbkibhmepaa.R
open Go.RowKit
theorem ShelfKept (v : Value) (name : ByteArray) (w : World) (h : F.ShOk w 8 (.rows [.str, .int .i64, .int .i64]) v) (hn : name.size ≤ 140737488351232) :
    Calls Try.prog 10 #[v, .string name] w fun e w' => e = .returned (.bool true) ∧ Below w.heap.size w w' := by
  obtain ⟨l, hr⟩ := B.entRow_of h
  exact B.shelfKept_walk v l name w hr
end Go.Proofs.Ytdamlbkibhmepaa.R
