/-
  TreeChecks in the form in which a row hands its arguments over.
-/
import Derived.Test.YtjoilobbopdcpaaRTreeI
namespace Go.Proofs.Ytjoilobbopdcpaa.R
open Go.RowKit
set_option linter.unusedVariables false
theorem wf_in64 {n : Int} (h : (Lit.int .i64 n).wf = true) : B.in64 n := by
  simp [Lit.wf, IntKind.min, IntKind.max, IntKind.signed, IntKind.bits] at h
  exact ⟨by omega, by omega⟩
theorem steps_of {w : World} {n : Nat} {v : Value} (h : F.ShOk w (n + 1 + 1 + 1) (.rows [.int .i64, .rows [.str]]) v) : ∃ l, B.StepsAt w v l := by
  rcases h with rfl | ⟨a, len, cap, rfl, h1, h2, h3⟩
  · exact ⟨[], B.StepsAt.nil w⟩
  · have hc : ∀ i, i < len → ∃ x : B.Stp, B.in64 x.at' ∧ ∃ sv, w.cell? (a.add (i * 2)) = some (.int .i64 x.at') ∧ w.cell? (a.add (i * 2 + 1)) = some sv ∧ B.Strs w sv x.sides := fun i hi => by
      obtain ⟨c0, h4, z, rfl, h5⟩ := h3 i hi 0 (.int .i64) rfl
      obtain ⟨sv, h6, h7⟩ := h3 i hi 1 (.rows [.str]) rfl
      obtain ⟨l, h8⟩ := F.strRow_of (n := n) h7
      exact ⟨⟨z, l⟩, wf_in64 h5, sv, h4, h6, B.Strs.of_strRow h8⟩
    have hg : ∃ f : Nat → B.Stp, ∀ i, i < len → B.in64 (f i).at' ∧ ∃ sv, w.cell? (a.add (i * 2)) = some (.int .i64 (f i).at') ∧ w.cell? (a.add (i * 2 + 1)) = some sv ∧ B.Strs w sv (f i).sides :=
      ⟨fun i => if hi : i < len then Classical.choose (hc i hi) else ⟨0, []⟩, fun i hi => by
        simp only [hi, dif_pos]
        exact Classical.choose_spec (hc i hi)⟩
    obtain ⟨f, hf⟩ := hg
    refine ⟨(List.range len).map f, some a, cap, by simp, by simpa using h1, by simp; omega, fun h0 => ?_⟩
    have h0' : 0 < len := by simpa using h0
    obtain ⟨_, sv0, hz, _⟩ := hf 0 h0'
    obtain ⟨g, o, ha, h6, _⟩ := F.addr_none (w := w) (a := a) (i := 0) ⟨_, hz⟩ hz
    refine ⟨g, o, by rw [ha], h6, fun i x hx => ?_⟩
    have hi : i < len := by simpa using (List.getElem?_eq_some_iff.1 hx).1
    obtain rfl : f i = x := by simpa [List.getElem?_range hi] using hx
    obtain ⟨hw, sv, c1, c2, hs⟩ := hf i hi
    have hadd : ∀ k, a.add k = ⟨g, o + k, none⟩ := fun k => by
      rw [ha]
      unfold Addr.add
      split
      · rename_i he
        rw [he, Nat.add_zero]
      · rfl
    rw [hadd] at c1 c2
    exact ⟨hw, sv, c1, by rw [Nat.add_assoc]; exact c2, hs⟩
theorem TreeChecks (top : ByteArray) (n i : Int) (s : ByteArray) (v : Value) (w : World) (h0 : top.size ≤ 140737488351232) (h1 : (Lit.int .i64 n).wf = true) (h2 : (Lit.int .i64 i).wf = true) (h3 : s.size ≤ 140737488351232) (h4 : F.ShOk w 8 (.rows [.int .i64, .rows [.str]]) v) :
    Calls Try.prog 9 #[.string top, .int .i64 n, .int .i64 i, .string s, v] w fun e w' => e = .returned (.bool true) ∧ Below w.heap.size w w' := by
  obtain ⟨l1, hr1⟩ := steps_of h4
  exact B.treeChecks_walk top n i (wf_in64 h1) (wf_in64 h2) s (by unfold maxLen; omega) v l1 w hr1
end Go.Proofs.Ytjoilobbopdcpaa.R
