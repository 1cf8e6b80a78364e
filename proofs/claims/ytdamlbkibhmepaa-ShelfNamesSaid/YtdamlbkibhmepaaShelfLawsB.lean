/-
  ShelfFinds, ShelfNames.
-/
import Derived.Test.YtdamlbkibhmepaaShelfAwake
namespace Go.Proofs.Ytdamlbkibhmepaa.B
open Go.RowKit
set_option linter.unusedVariables false
set_option linter.unusedSimpArgs false

set_option maxRecDepth 100000 in
theorem shelfFinds_walk (v : Value) (l : List Ent) (name : ByteArray) (w : World) (h : EntRow w v l) :
    Calls Try.prog 6 #[v, .string name] w fun e w' => e = .returned (.bool true) ∧ Below w.heap.size w w' := by
  obtain ⟨ao, cap, rfl, hcap, hmax⟩ := h.form
  obtain ⟨m, hm⟩ : ∃ m, m = if 300 < l.length then l.take 300 else l := ⟨_, rfl⟩
  have hml : m.length ≤ 300 := by
    rw [hm]; split
    · simp; omega
    · omega
  have hlm : (l.length : Int) ≤ 9223372036854775807 := by unfold maxLen at hmax; omega

  by_cases hbig : 300 < l.length
  · have i1 : (300 : Int) < (l.length : Int) := by omega
    have i3 : (300 : Int) ≤ (cap : Int) := by omega
    rw [if_pos hbig] at hm
    have hmn : m.length = 300 := by rw [hm]; simp; omega
    have H := Lib.hid (show EntRow w (.slice ao 300 cap) m by
      have := h.take (n := 300) (by omega)
      rwa [← hm] at this)
    clear h hm hmax hcap hbig
    go_enter Try.func6, Try.ntmps6
    go_wp2_with fail
    refine (Find_any _ m name w H.out (by omega)).mono ?_
    rintro e W1 ⟨rfl, hb1⟩
    have HB1 := Lib.hid hb1
    clear hb1
    go_wp2_with fail
    refine (refFind_any _ m name W1 (H.out.below HB1.out) (by omega)).mono ?_
    rintro e W2 ⟨rfl, hb2⟩
    have HB2 := Lib.hid (HB1.out.trans (hb2.mono HB1.out.size))
    clear hb2 HB1
    go_wp2_with fail
    refine (Spare_any _ m W2 (H.out.below HB2.out) (by omega)).mono ?_
    rintro e W3 ⟨rfl, hb3⟩
    have HB3 := Lib.hid (HB2.out.trans (hb3.mono HB2.out.size))
    clear hb3 HB2
    go_wp2_with fail
    refine (refSpare_any _ m W3 (H.out.below HB3.out) (by omega)).mono ?_
    rintro e W4 ⟨rfl, hb4⟩
    have HB := Lib.hid (HB3.out.trans (hb4.mono HB3.out.size))
    clear hb4 HB3
    go_wp2_with fail
    refine (shelfAwake_any _).mono ?_
    rintro e W9 ⟨rfl, hb9⟩
    have HB9 := Lib.hid (HB.out.trans (hb9.mono HB.out.size))
    clear hb9 HB
    go_wp2_with fail
    go_ret
    exact ⟨rfl, HB9.out⟩
  · have i1 : ¬ (300 : Int) < (l.length : Int) := by omega
    rw [if_neg hbig] at hm
    subst hm
    have H := Lib.hid h
    clear h hmax hcap hbig
    go_enter Try.func6, Try.ntmps6
    go_wp2_with fail
    refine (Find_any _ m name w H.out (by omega)).mono ?_
    rintro e W1 ⟨rfl, hb1⟩
    have HB1 := Lib.hid hb1
    clear hb1
    go_wp2_with fail
    refine (refFind_any _ m name W1 (H.out.below HB1.out) (by omega)).mono ?_
    rintro e W2 ⟨rfl, hb2⟩
    have HB2 := Lib.hid (HB1.out.trans (hb2.mono HB1.out.size))
    clear hb2 HB1
    go_wp2_with fail
    refine (Spare_any _ m W2 (H.out.below HB2.out) (by omega)).mono ?_
    rintro e W3 ⟨rfl, hb3⟩
    have HB3 := Lib.hid (HB2.out.trans (hb3.mono HB2.out.size))
    clear hb3 HB2
    go_wp2_with fail
    refine (refSpare_any _ m W3 (H.out.below HB3.out) (by omega)).mono ?_
    rintro e W4 ⟨rfl, hb4⟩
    have HB := Lib.hid (HB3.out.trans (hb4.mono HB3.out.size))
    clear hb4 HB3
    go_wp2_with fail
    refine (shelfAwake_any _).mono ?_
    rintro e W9 ⟨rfl, hb9⟩
    have HB9 := Lib.hid (HB.out.trans (hb9.mono HB.out.size))
    clear hb9 HB
    go_wp2_with fail
    go_ret
    exact ⟨rfl, HB9.out⟩
theorem namesL_wf {l : List Ent} (h : ∀ f ∈ l, f.wf) : ∀ f ∈ namesL l, f.wf := fun f hf => h f (List.mem_filter.1 hf).1
theorem namesL_le (l : List Ent) : (namesL l).length ≤ l.length := List.length_filter_le _ _
set_option maxRecDepth 100000 in
theorem shelfNames_walk (v : Value) (l : List Ent) (w : World) (h : EntRow w v l) :
    Calls Try.prog 7 #[v] w fun e w' => e = .returned (.bool true) ∧ Below w.heap.size w w' := by
  obtain ⟨ao, cap, rfl, hcap, hmax⟩ := h.form
  obtain ⟨m, hm⟩ : ∃ m, m = if 300 < l.length then l.take 300 else l := ⟨_, rfl⟩
  have hml : m.length ≤ 300 := by
    rw [hm]; split
    · simp; omega
    · omega
  have hlm : (l.length : Int) ≤ 9223372036854775807 := by unfold maxLen at hmax; omega

  by_cases hbig : 300 < l.length
  · have i1 : (300 : Int) < (l.length : Int) := by omega
    have i3 : (300 : Int) ≤ (cap : Int) := by omega
    rw [if_pos hbig] at hm
    have hmn : m.length = 300 := by rw [hm]; simp; omega
    have H := Lib.hid (show EntRow w (.slice ao 300 cap) m by
      have := h.take (n := 300) (by omega)
      rwa [← hm] at this)
    clear h hm hmax hcap hbig
    go_enter Try.func7, Try.ntmps7
    go_wp2_with fail
    refine (Names_any _ m w H.out (by omega)).mono ?_
    rintro e W1 ⟨v1, rfl, hL1⟩
    have hr1 : EntRow W1 v1 (namesL m) := hL1.ents (namesL_wf H.out.all)
    obtain ⟨ao1, cap1, rfl, _, _⟩ := hr1.form
    have HB1 := Lib.hid hL1.below
    have HR1 := Lib.hid hr1
    clear hL1 hr1
    go_wp2_with fail
    refine (refNames_any _ m W1 (H.out.below HB1.out) (by omega)).mono ?_
    rintro e W2 ⟨v2, rfl, hL2⟩
    have hr2 : EntRow W2 v2 (namesL m) := hL2.ents (namesL_wf H.out.all)
    obtain ⟨ao2, cap2, rfl, _, _⟩ := hr2.form
    have HB2 := Lib.hid (HB1.out.trans (hL2.below.mono HB1.out.size))
    have HR12 := Lib.hid (HR1.out.below hL2.below)
    have HR2 := Lib.hid hr2
    clear hL2 hr2 HR1 HB1
    go_wp2_with fail
    refine (same_any _ _ (namesL m) W2 HR12.out HR2.out (by have := namesL_le m; omega)).mono ?_
    rintro e W3 ⟨rfl, hb3⟩
    have HB := Lib.hid (HB2.out.trans (hb3.mono HB2.out.size))
    clear hb3 HB2 HR12 HR2
    go_wp2_with fail
    refine (shelfAwake_any _).mono ?_
    rintro e W9 ⟨rfl, hb9⟩
    have HB9 := Lib.hid (HB.out.trans (hb9.mono HB.out.size))
    clear hb9 HB
    go_wp2_with fail
    go_ret
    exact ⟨rfl, HB9.out⟩
  · have i1 : ¬ (300 : Int) < (l.length : Int) := by omega
    rw [if_neg hbig] at hm
    subst hm
    have H := Lib.hid h
    clear h hmax hcap hbig
    go_enter Try.func7, Try.ntmps7
    go_wp2_with fail
    refine (Names_any _ m w H.out (by omega)).mono ?_
    rintro e W1 ⟨v1, rfl, hL1⟩
    have hr1 : EntRow W1 v1 (namesL m) := hL1.ents (namesL_wf H.out.all)
    obtain ⟨ao1, cap1, rfl, _, _⟩ := hr1.form
    have HB1 := Lib.hid hL1.below
    have HR1 := Lib.hid hr1
    clear hL1 hr1
    go_wp2_with fail
    refine (refNames_any _ m W1 (H.out.below HB1.out) (by omega)).mono ?_
    rintro e W2 ⟨v2, rfl, hL2⟩
    have hr2 : EntRow W2 v2 (namesL m) := hL2.ents (namesL_wf H.out.all)
    obtain ⟨ao2, cap2, rfl, _, _⟩ := hr2.form
    have HB2 := Lib.hid (HB1.out.trans (hL2.below.mono HB1.out.size))
    have HR12 := Lib.hid (HR1.out.below hL2.below)
    have HR2 := Lib.hid hr2
    clear hL2 hr2 HR1 HB1
    go_wp2_with fail
    refine (same_any _ _ (namesL m) W2 HR12.out HR2.out (by have := namesL_le m; omega)).mono ?_
    rintro e W3 ⟨rfl, hb3⟩
    have HB := Lib.hid (HB2.out.trans (hb3.mono HB2.out.size))
    clear hb3 HB2 HR12 HR2
    go_wp2_with fail
    refine (shelfAwake_any _).mono ?_
    rintro e W9 ⟨rfl, hb9⟩
    have HB9 := Lib.hid (HB.out.trans (hb9.mono HB.out.size))
    clear hb9 HB
    go_wp2_with fail
    go_ret
    exact ⟨rfl, HB9.out⟩
end Go.Proofs.Ytdamlbkibhmepaa.B
