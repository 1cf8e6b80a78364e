/-
  TreeSets in the form in which a row hands its arguments over.
-/
import Derived.Test.YtjoilobbopdcpaaRTreeT
namespace Go.Proofs.Ytjoilobbopdcpaa.R
open Go.RowKit
set_option linter.unusedVariables false
theorem wf_in64 {n : Int} (h : (Lit.int .i64 n).wf = true) : B.in64 n := by
  simp [Lit.wf, IntKind.min, IntKind.max, IntKind.signed, IntKind.bits] at h
  exact ⟨by omega, by omega⟩
theorem chgs_of {w : World} {n : Nat} {v : Value} (h : F.ShOk w (n + 1 + 1) (.rows [.int .i64, .str]) v) : ∃ l, B.ChgsAt w v l := by
  rcases h with rfl | ⟨a, len, cap, rfl, h1, h2, h3⟩
  · exact ⟨[], B.ChgsAt.nil w⟩
  · have hc : ∀ i, i < len → ∃ x : B.Chg, B.in64 x.at' ∧ x.s.size ≤ maxLen ∧ w.cell? (a.add (i * 2)) = some (.int .i64 x.at') ∧ w.cell? (a.add (i * 2 + 1)) = some (.string x.s) := fun i hi => by
      obtain ⟨c0, h4, z, rfl, h5⟩ := h3 i hi 0 (.int .i64) rfl
      obtain ⟨sv, h6, s, rfl, h7⟩ := h3 i hi 1 .str rfl
      exact ⟨⟨z, s⟩, wf_in64 h5, h7, h4, h6⟩
    have hg : ∃ f : Nat → B.Chg, ∀ i, i < len → B.in64 (f i).at' ∧ (f i).s.size ≤ maxLen ∧ w.cell? (a.add (i * 2)) = some (.int .i64 (f i).at') ∧ w.cell? (a.add (i * 2 + 1)) = some (.string (f i).s) :=
      ⟨fun i => if hi : i < len then Classical.choose (hc i hi) else ⟨0, ⟨#[]⟩⟩, fun i hi => by
        simp only [hi, dif_pos]
        exact Classical.choose_spec (hc i hi)⟩
    obtain ⟨f, hf⟩ := hg
    refine ⟨(List.range len).map f, some a, cap, by simp, by simpa using h1, by simp; omega, fun h0 => ?_⟩
    have h0' : 0 < len := by simpa using h0
    obtain ⟨_, _, hz, _⟩ := hf 0 h0'
    obtain ⟨g, o, ha, h6, _⟩ := F.addr_none (w := w) (a := a) (i := 0) ⟨_, hz⟩ hz
    refine ⟨g, o, by rw [ha], h6, fun i x hx => ?_⟩
    have hi : i < len := by simpa using (List.getElem?_eq_some_iff.1 hx).1
    obtain rfl : f i = x := by simpa [List.getElem?_range hi] using hx
    obtain ⟨hw, hs, c1, c2⟩ := hf i hi
    have hadd : ∀ k, a.add k = ⟨g, o + k, none⟩ := fun k => by
      rw [ha]
      unfold Addr.add
      split
      · rename_i he
        rw [he, Nat.add_zero]
      · rfl
    rw [hadd] at c1 c2
    exact ⟨hw, hs, c1, by rw [Nat.add_assoc]; exact c2⟩
theorem TreeSets (v1 v2 : Value) (w : World) (h1 : F.ShOk w 8 (.rows [.str]) v1) (h2 : F.ShOk w 8 (.rows [.int .i64, .str]) v2) :
    Calls Try.prog 10 #[v1, v2] w fun e w' => e = .returned (.bool true) ∧ Below w.heap.size w w' := by
  obtain ⟨l1, hr1⟩ := F.strRow_of h1
  obtain ⟨l2, hr2⟩ := chgs_of h2
  exact B.treeSets_walk v1 v2 l1 l2 w (B.Strs.of_strRow hr1) hr2
end Go.Proofs.Ytjoilobbopdcpaa.R
