/-
  ShelfPages, ShelfBodies, ShelfFinds, ShelfNames.
-/
import Derived.Test.YtdamlbkibhmepaaShelfAwake
namespace Go.Proofs.Ytdamlbkibhmepaa.B
open Go.RowKit
set_option linter.unusedVariables false
set_option linter.unusedSimpArgs false

theorem pageFrom_small (s : ByteArray) : ∀ (j k : Nat), (pageFrom s j k).1.length ≤ k + j
  | 0, k => by rw [pageFrom, entsAt_length]; omega
  | j + 1, k => by
    rw [pageFrom]
    split
    · have := pageFrom_small s j (k + 1); omega
    · simp
theorem pageSpec_small (s : ByteArray) : (pageSpec s).1.length ≤ 16 := by
  unfold pageSpec
  split
  · exact pageFrom_small s 16 0
  · simp
set_option maxRecDepth 100000 in
theorem shelfPages_walk (s : ByteArray) (hs : s.size ≤ 9223372036854775807) (w : World) :
    Calls Try.prog 3 #[.string s] w fun e w' => e = .returned (.bool true) ∧ Below w.heap.size w w' := by
  have HP := Lib.hid (fun W => Page_any s hs W)
  have HQ := Lib.hid (fun W => refPage_any s hs W)
  have hsm := pageSpec_small s
  obtain ⟨⟨l, er⟩, hR⟩ : ∃ R, R = pageSpec s := ⟨_, rfl⟩
  rw [← hR] at HP HQ hsm
  simp only at hsm
  clear hR
  go_enter Try.func3, Try.ntmps3
  go_wp2_with fail
  refine (HP.out w).mono ?_
  rintro e W1 ⟨v1, rfl, hr1, hb1, _⟩
  have HR1 := Lib.hid hr1
  have HB1 := Lib.hid hb1
  obtain ⟨ao1, cap1, rfl, _, _⟩ := hr1.form
  clear hr1 hb1 HP
  go_wp2_with fail
  refine (HQ.out W1).mono ?_
  rintro e W2 ⟨v2, rfl, hr2, hb2, _⟩
  have HR2 := Lib.hid hr2
  have HR12 := Lib.hid (HR1.out.below hb2)
  have HB2 := Lib.hid (HB1.out.trans (hb2.mono HB1.out.size))
  obtain ⟨ao2, cap2, rfl, _, _⟩ := hr2.form
  clear hr2 hb2 HQ HR1 HB1
  go_wp2_with fail
  refine (same_any _ _ l W2 HR12.out HR2.out (by omega)).mono ?_
  rintro e W3 ⟨rfl, hb3⟩
  have HB3 := Lib.hid (HB2.out.trans (hb3.mono HB2.out.size))
  clear hb3 HR12 HR2 HB2
  go_wp2_with fail
  refine (shelfAwake_any _).mono ?_
  rintro e W4 ⟨rfl, hb4⟩
  have HB4 := Lib.hid (HB3.out.trans (hb4.mono HB3.out.size))
  clear hb4 HB3
  go_wp2_with fail
  go_ret
  exact ⟨rfl, HB4.out⟩
set_option maxRecDepth 100000 in
theorem shelfBodies_walk (v : Value) (l : List Ent) (w : World) (h : EntRow w v l) :
    Calls Try.prog 4 #[v] w fun e w' => e = .returned (.bool true) ∧ Below w.heap.size w w' := by
  obtain ⟨ao, cap, rfl, _, _⟩ := h.form
  have HP := Lib.hid (Body_any _ l w h)
  have HQ := Lib.hid (fun W (hb : Below w.heap.size w W) => refBody_any _ l W (h.below hb))
  obtain ⟨⟨t, er⟩, hR⟩ : ∃ R, R = bodySpec l := ⟨_, rfl⟩
  rw [← hR] at HP HQ
  clear hR h
  go_enter Try.func4, Try.ntmps4
  go_wp2_with fail
  refine HP.out.mono ?_
  rintro e W1 ⟨rfl, hb1⟩
  have HB1 := Lib.hid hb1
  clear hb1 HP
  go_wp2_with fail
  refine (HQ.out W1 HB1.out).mono ?_
  rintro e W2 ⟨rfl, hb2⟩
  have HB3 := Lib.hid (HB1.out.trans (hb2.mono HB1.out.size))
  clear hb2 HQ HB1
  go_wp2_with fail
  refine (shelfAwake_any _).mono ?_
  rintro e W4 ⟨rfl, hb4⟩
  have HB4 := Lib.hid (HB3.out.trans (hb4.mono HB3.out.size))
  clear hb4 HB3
  go_wp2_with fail
  go_ret
  exact ⟨rfl, HB4.out⟩
/-- A list cut to n. -/
theorem EntRow.cut {w : World} {ao : Option Addr} {cap n : Nat} {l : List Ent} (h : EntRow w (.slice ao l.length cap) l) (hn : n < l.length) : EntRow w (.slice ao (l.take n).length cap) (l.take n) := by
  have := h.take (n := n) (by omega)
  rwa [show (l.take n).length = n by simp; omega]

end Go.Proofs.Ytdamlbkibhmepaa.B
