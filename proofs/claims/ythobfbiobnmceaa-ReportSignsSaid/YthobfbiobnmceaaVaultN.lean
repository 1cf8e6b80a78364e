/-
  The ideal vault's and nobody's Mac and Made, walked.
-/
import Derived.Test.YthobfbiobnmceaaVaultM
namespace Go.Proofs.Ythobfbiobnmceaa.B
open Go.RowKit
set_option linter.unusedVariables false
set_option linter.unusedSimpArgs false

/-- The ideal vault whose block is g and that has marked ks (its map's block: gm). All lies below B. -/
def Vlm (W : World) (B g gm : Nat) (ks : List Pr) : Prop :=
  B ≤ W.heap.size ∧ g < B ∧ gm < B ∧ ∃ gi gh gs, gi < B ∧ g ≠ gm ∧ gi ≠ gm ∧ W.heap[g]? = some (.cells #[.pointer none, .pointer (some ⟨gi, 0, none⟩)] 78 (0, 0)) ∧ W.heap[gi]? = some (.cells #[.map (some gh), .map (some gm), .map (some gs)] 75 (0, 0)) ∧ MarkMap W gm ks
theorem Vlm.below {W W' : World} {B g gm : Nat} {ks : List Pr} (h : Vlm W B g gm ks) (hb : Below W.heap.size W W') : Vlm W' B g gm ks := by
  obtain ⟨h1, h2, h3, gi, gh, gs, a1, a2, a3, a4, a5, a6⟩ := h
  exact ⟨Nat.le_trans h1 hb.size, h2, h3, gi, gh, gs, a1, a2, a3, (hb.block g (by omega)).trans a4, (hb.block gi (by omega)).trans a5, a6.same (hb.block gm (by omega))⟩
set_option maxRecDepth 100000 in
theorem none_nil (w : World) :
    Calls Try.prog 33 #[.pointer none] w fun e w' => e = .returned (.bool true) ∧ w' = w := by
  go_enter Try.func33, Try.ntmps33
  go_wp2
  go_ret
  exact ⟨rfl, rfl⟩
set_option maxRecDepth 100000 in
theorem Mac_nil (label s : ByteArray) (w : World) :
    Calls Try.prog 19 #[.pointer none, .string label, .string s] w fun e w' => e = .returned (.string ⟨#[]⟩) ∧ w' = w := by
  go_enter Try.func19, Try.ntmps19
  go_wp2_with fail
  refine (none_nil w).mono ?_
  rintro e W1 ⟨rfl, hw⟩
  subst hw
  go_wp2_with fail
  go_ret
  exact ⟨rfl, rfl⟩
set_option maxRecDepth 100000 in
theorem Made_nil (label s tag : ByteArray) (w : World) :
    Calls Try.prog 36 #[.pointer none, .string label, .string s, .string tag] w fun e w' => e = .returned (.bool false) ∧ w' = w := by
  go_enter Try.func36, Try.ntmps36
  go_wp2_with fail
  refine (none_nil w).mono ?_
  rintro e W1 ⟨rfl, hw⟩
  subst hw
  go_wp2_with fail
  go_ret
  exact ⟨rfl, rfl⟩
set_option maxRecDepth 100000 in
theorem none_ideal (g gi : Nat) (w : World) (h : w.heap[g]? = some (.cells #[.pointer none, .pointer (some ⟨gi, 0, none⟩)] 78 (0, 0))) :
    Calls Try.prog 33 #[.pointer (some ⟨g, 0, none⟩)] w fun e w' => e = .returned (.bool false) ∧ w' = w := by
  have c0 := (blk_cell h 0).trans rfl
  have c1 := (blk_cell h 1).trans rfl
  clear h
  go_enter Try.func33, Try.ntmps33
  go_wp2
  go_ret
  exact ⟨rfl, rfl⟩
theorem posOf_le {α : Type} [DecidableEq α] (ks : List α) (s : α) : posOf ks s ≤ ks.length := by
  by_cases hh : s ∈ ks
  · exact Nat.le_of_lt (posOf_lt hh)
  · rw [posOf_not hh]; exact Nat.le_refl _
/-- A pair's mark. -/
def markOf (ks : List Pr) (p : Pr) : ByteArray := numberedS ((posOf ks p : Int) + 1) 16
set_option maxRecDepth 100000 in
theorem ideal_mac (gi gm : Nat) (m1 m3 : Value) (ks : List Pr) (label s : ByteArray) (hs : small (label, s)) (w : World) (h : w.heap[gi]? = some (.cells #[m1, .map (some gm), m3] 75 (0, 0))) (hm : MarkMap w gm ks) (hn : ks.length < 1000000000000) :
    Calls Try.prog 34 #[.pointer (some ⟨gi, 0, none⟩), .string label, .string s] w fun e w' => e = .returned (.string (markOf ks (label, s))) ∧ MarkMap w' gm (addTo ks (label, s)) ∧ Keeps (fun i => i = gm) w w' := by
  have c0 := (blk_cell h 1).trans rfl
  have hu := Try.underlying106
  have HC := Lib.hid (count_any gm ks (label, s) hs w hm hn)
  have hp := posOf_le ks (label, s)
  unfold markOf
  have HN := Lib.hid (fun W => numbered_any ((posOf ks (label, s) : Int) + 1) 16 (by omega) (by omega) W)
  clear h hm hp
  go_enter Try.func34, Try.ntmps34
  go_wp2_with fail
  refine HC.out.mono ?_
  rintro e W1 ⟨rfl, hm1, hk1⟩
  have HM1 := Lib.hid hm1
  have HK1 := Lib.hid hk1
  clear hm1 hk1 HC
  go_wp2_with fail
  refine (HN.out W1).mono ?_
  rintro e W2 ⟨rfl, hb2⟩
  have HM2 := Lib.hid (HM1.out.same (hb2.block gm HM1.out.lt))
  have HK2 := Lib.hid (HK1.out.trans (Keeps.of_below (S := fun i => i = gm) hb2) (fun _ _ h => h))
  clear hb2 HN
  go_wp2_with fail
  go_ret
  exact ⟨rfl, HM2.out, HK2.out⟩
set_option maxRecDepth 100000 in
theorem Mac_ideal (B g gm : Nat) (ks : List Pr) (label s : ByteArray) (hs : small (label, s)) (w : World) (h : Vlm w B g gm ks) (hn : ks.length < 1000000000000) :
    Calls Try.prog 19 #[.pointer (some ⟨g, 0, none⟩), .string label, .string s] w fun e w' => e = .returned (.string (markOf ks (label, s))) ∧ Vlm w' B g gm (addTo ks (label, s)) ∧ Keeps (fun i => i = gm) w w' := by
  obtain ⟨h1, h2, h3, gi, gh, gs, a1, a2, a3, a4, a5, a6⟩ := h
  have c0 := (blk_cell a4 0).trans rfl
  have c1 := (blk_cell a4 1).trans rfl
  have HNO := Lib.hid (none_ideal g gi w a4)
  have HH := Lib.hid (ideal_mac gi gm _ _ ks label s hs w a5 a6 hn)
  have HA := Lib.hid (And.intro h1 (And.intro h2 (And.intro h3 (And.intro a1 (And.intro a2 (And.intro a3 (And.intro a4 a5)))))))
  clear h1 h2 h3 a1 a2 a3 a4 a5 a6
  go_enter Try.func19, Try.ntmps19
  go_wp2_with fail
  refine HNO.out.mono ?_
  rintro e W1 ⟨rfl, hw1⟩
  subst hw1
  go_wp2_with fail
  refine HH.out.mono ?_
  rintro e W2 ⟨rfl, hm2, hk2⟩
  have HM2 := Lib.hid hm2
  have HK2 := Lib.hid hk2
  clear hm2 hk2 HH HNO
  go_wp2_with fail
  go_ret
  obtain ⟨h1, h2, h3, a1, a2, a3, a4, a5⟩ := HA.out
  exact ⟨rfl, ⟨Nat.le_trans h1 HK2.out.size, h2, h3, gi, gh, gs, a1, a2, a3, HK2.out.at_ a4 a2, HK2.out.at_ a5 a3, HM2.out⟩, HK2.out⟩
/-- Was a pair marked so? -/
def madeB (ks : List Pr) (p : Pr) (tag : ByteArray) : Bool := isIn ks p && decide (tag = markOf ks p)
theorem str_eq2 {a b : ByteArray} : a.toList = b.toList ↔ a = b := ⟨fun h => by
    rw [ByteArray.toList_eq, ByteArray.toList_eq] at h
    exact ByteArray.ext (Array.toList_inj.mp h), fun h => by rw [h]⟩
theorem str_beq2 (s t : ByteArray) : (s.toList == t.toList) = decide (s = t) := by
  by_cases h : s = t
  · subst h; simp
  · have : s.toList ≠ t.toList := fun h' => h (str_eq2.1 h')
    simp [h, this]
theorem str_empty2 (s : ByteArray) : s.toList.isEmpty = decide (s.size = 0) := by
  rw [ByteArray.toList_eq]
  have : s.size = s.data.toList.length := by rw [Array.length_toList]; rfl
  rw [this]
  cases s.data.toList <;> simp
set_option maxRecDepth 100000 in
theorem ideal_made (gi gm : Nat) (m1 m3 : Value) (ks : List Pr) (label s tag : ByteArray) (hs : small (label, s)) (w : World) (h : w.heap[gi]? = some (.cells #[m1, .map (some gm), m3] 75 (0, 0))) (hm : MarkMap w gm ks) (hn : ks.length < 1000000000000) :
    Calls Try.prog 54 #[.pointer (some ⟨gi, 0, none⟩), .string label, .string s, .string tag] w fun e w' => e = .returned (.bool (madeB ks (label, s) tag)) ∧ Below w.heap.size w w' := by
  have c0 := (blk_cell h 1).trans rfl
  have hu := Try.underlying106
  obtain ⟨c, hc, hlook⟩ := hm.look hs
  unfold kv at hlook
  have hp := posOf_le ks (label, s)
  by_cases hin : (label, s) ∈ ks
  · obtain rfl := hc hin
    have HR := Lib.hid (show madeB ks (label, s) tag = decide (tag = markOf ks (label, s)) by rw [madeB, (isIn_eq ks _).2 hin, Bool.true_and])
    rw [(isIn_eq ks _).2 hin] at hlook
    have HN := Lib.hid (fun W => numbered_any ((posOf ks (label, s) : Int) + 1) 16 (by omega) (by omega) W)
    have hbe := str_beq2 tag (markOf ks (label, s))
    unfold markOf at hbe HR
    generalize numberedS ((posOf ks (label, s) : Int) + 1) 16 = mk at HN hbe HR
    obtain ⟨bb, hbb⟩ : ∃ b, b = decide (tag = mk) := ⟨_, rfl⟩
    rw [← hbb] at hbe HR
    clear h hm hp hc hin hbb
    go_enter Try.func54, Try.ntmps54
    go_wp2_with fail
    refine (HN.out w).mono ?_
    rintro e W2 ⟨rfl, hb2⟩
    have HB2 := Lib.hid hb2
    clear hb2 HN
    go_wp2_with fail
    go_ret
    rw [HR.out]
    exact ⟨rfl, HB2.out⟩
  · have HR := Lib.hid (show madeB ks (label, s) tag = false by rw [madeB, isIn_no hin, Bool.false_and])
    rw [isIn_no hin] at hlook
    clear h hm hp hc hin
    go_enter Try.func54, Try.ntmps54
    go_wp2_with fail
    go_ret
    rw [HR.out]
    exact ⟨rfl, Below.refl _ _⟩
set_option maxRecDepth 100000 in
theorem Made_ideal (B g gm : Nat) (ks : List Pr) (label s tag : ByteArray) (hs : small (label, s)) (w : World) (h : Vlm w B g gm ks) (hn : ks.length < 1000000000000) :
    Calls Try.prog 36 #[.pointer (some ⟨g, 0, none⟩), .string label, .string s, .string tag] w fun e w' => e = .returned (.bool (madeB ks (label, s) tag)) ∧ Below w.heap.size w w' := by
  obtain ⟨h1, h2, h3, gi, gh, gs, a1, a2, a3, a4, a5, a6⟩ := h
  have c0 := (blk_cell a4 0).trans rfl
  have c1 := (blk_cell a4 1).trans rfl
  have HNO := Lib.hid (none_ideal g gi w a4)
  have HH := Lib.hid (ideal_made gi gm _ _ ks label s tag hs w a5 a6 hn)
  clear h1 h2 h3 a1 a2 a3 a4 a5 a6
  go_enter Try.func36, Try.ntmps36
  go_wp2_with fail
  refine HNO.out.mono ?_
  rintro e W1 ⟨rfl, hw1⟩
  subst hw1
  go_wp2_with fail
  refine HH.out.mono ?_
  rintro e W2 ⟨rfl, hb⟩
  have HB := Lib.hid hb
  clear hb HH HNO
  go_wp2_with fail
  go_ret
  exact ⟨rfl, HB.out⟩
theorem MarkMap.alloc {w : World} {b : Nat} {ks : List Pr} (h : MarkMap w b ks) (o : Obj) : MarkMap (w.alloc o) b ks := h.same (Below.heap_alloc _ _ _ h.lt)
set_option maxRecDepth 100000 in
theorem Ideal_any (w : World) :
    Calls Try.prog 18 #[] w fun e w' => ∃ g gm, e = .returned (.pointer (some ⟨g, 0, none⟩)) ∧ Vlm w' w'.heap.size g gm [] ∧ Below w.heap.size w w' ∧ w.heap.size ≤ gm := by
  have hmm := @run_makeMap Try.prog
  go_enter Try.func18, Try.ntmps18
  go_wp2_with fail
  go_ret
  refine ⟨w.heap.size + 4, w.heap.size + 1, rfl, ⟨Nat.le_refl _, by simp <;> omega, by simp <;> omega, w.heap.size + 3, w.heap.size, w.heap.size + 2, by simp <;> omega, by omega, by omega, get_top (by simp), get_below (get_top (by simp)), ?_⟩, ?_, by omega⟩
  · have h1 := MarkMap.made (w.alloc (.map #[] 0))
    rw [show (w.alloc (.map #[] 0)).heap.size = w.heap.size + 1 by simp] at h1
    exact ((h1.alloc _).alloc _).alloc _
  · exact (((((Below.refl _ w).alloc (Nat.le_refl _) _).alloc (by simp) _).alloc (by simp; omega) _).alloc (by simp; omega) _).alloc (by simp; omega) _
end Go.Proofs.Ythobfbiobnmceaa.B
