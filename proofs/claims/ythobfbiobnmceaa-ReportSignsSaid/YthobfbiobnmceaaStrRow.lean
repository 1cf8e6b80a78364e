/-
  A []string that came in, as a list of texts.
-/
import Derived.Test.YthobfbiobnmceaaShape
namespace Go.Proofs.Ythobfbiobnmceaa.F
set_option linter.unusedVariables false

/-- v reads as the texts ss. -/
def StrRow (w : World) (v : Value) (ss : List ByteArray) : Prop :=
  ∃ ao cap, v = .slice ao ss.length cap ∧ ss.length ≤ cap ∧ ss.length ≤ maxLen ∧ (ss = [] → ao = none ∨ ∃ a, ao = some a) ∧
    ∀ i s, ss[i]? = some s → s.size ≤ maxLen ∧ ∃ g o, ao = some ⟨g, o, none⟩ ∧ g < w.heap.size ∧ w.cell? ⟨g, o + i, none⟩ = some (.string s)
theorem addr_none {w : World} {a : Addr} {i : Nat} {v : Value} (h0 : ∃ v, w.cell? (a.add 0) = some v) (h : w.cell? (a.add i) = some v) : ∃ g o, a = ⟨g, o, none⟩ ∧ g < w.heap.size ∧ w.cell? ⟨g, o + i, none⟩ = some v := by
  obtain ⟨v0, h0⟩ := h0
  have hz : a.add 0 = a := rfl
  rw [hz] at h0
  have hs := World.cell?_spot h0
  obtain ⟨g, o, sp⟩ := a
  obtain rfl : sp = none := hs
  refine ⟨g, o, rfl, World.block_lt_of_cell? w _ h0, ?_⟩
  rw [← h]
  congr 1
  unfold Addr.add
  split
  · rename_i he
    rw [he, Nat.add_zero]
  · rfl
theorem strRow_of {w : World} {n : Nat} {v : Value} (h : ShOk w (n + 1 + 1) (.rows [.str]) v) : ∃ ss, StrRow w v ss := by
  rcases h with rfl | ⟨a, len, cap, rfl, h1, h2, h3⟩
  · exact ⟨[], none, 0, rfl, Nat.le_refl _, by simp, fun _ => .inl rfl, fun i s hs => by simp at hs⟩
  · have hc : ∀ i, i < len → ∃ s : ByteArray, w.cell? (a.add i) = some (.string s) ∧ s.size ≤ maxLen := fun i hi => by
      obtain ⟨c, h4, s, rfl, h5⟩ := h3 i hi 0 .str rfl
      exact ⟨s, by simpa using h4, h5⟩
    have hg : ∃ f : Nat → ByteArray, ∀ i, i < len → w.cell? (a.add i) = some (.string (f i)) ∧ (f i).size ≤ maxLen := by
      refine ⟨fun i => match w.cell? (a.add i) with | some (.string s) => s | _ => ByteArray.empty, fun i hi => ?_⟩
      obtain ⟨s, h4, h5⟩ := hc i hi
      simp [h4, h5]
    obtain ⟨f, hf⟩ := hg
    refine ⟨(List.range len).map f, some a, cap, by simp, by simpa using h1, by simp; omega, fun _ => .inr ⟨a, rfl⟩, fun i s hs => ?_⟩
    have hi : i < len := by simpa using (List.getElem?_eq_some_iff.1 hs).1
    obtain rfl : f i = s := by simpa [List.getElem?_range hi] using hs
    obtain ⟨g, o, rfl, h6, h7⟩ := addr_none (w := w) (a := a) (i := i) ⟨_, (hf 0 (by omega)).1⟩ (hf i hi).1
    exact ⟨(hf i hi).2, g, o, rfl, h6, h7⟩
theorem StrRow.get {w : World} {ao : Option Addr} {n cap : Nat} {ss : List ByteArray} (h : StrRow w (.slice ao n cap) ss) {i : Nat} (hi : i < ss.length) : ∃ g o, ao = some ⟨g, o, none⟩ ∧ g < w.heap.size ∧ w.cell? ⟨g, o + i, none⟩ = some (.string ss[i]) ∧ ss[i].size ≤ maxLen := by
  obtain ⟨ao', cap', he, _, _, _, hc⟩ := h
  simp at he
  obtain ⟨rfl, rfl, rfl⟩ := he
  obtain ⟨h1, g, o, h2, h3, h4⟩ := hc i ss[i] (List.getElem?_eq_getElem hi)
  exact ⟨g, o, h2, h3, h4, h1⟩
theorem StrRow.form {w : World} {v : Value} {ss : List ByteArray} (h : StrRow w v ss) : ∃ ao cap, v = .slice ao ss.length cap ∧ ss.length ≤ cap ∧ ss.length ≤ maxLen := by
  obtain ⟨ao, cap, he, h1, h2, _⟩ := h
  exact ⟨ao, cap, he, h1, h2⟩
end Go.Proofs.Ythobfbiobnmceaa.F
