/-
  TreeBent in the form in which a row hands its arguments over.
-/
import Derived.Test.YtjoilobbopdcpaaTreeT
import Derived.Test.YtjoilobbopdcpaaTreeRowC
namespace Go.Proofs.Ytjoilobbopdcpaa.R
open Go.RowKit
set_option linter.unusedVariables false
theorem steps_of {w : World} {n : Nat} {v : Value} (h : F.ShOk w (n + 1 + 1 + 1) (.rows [.int .i64, .rows [.str]]) v) : ∃ l, B.StepsAt w v l := by
  rcases h with rfl | ⟨a, len, cap, rfl, h1, h2, h3⟩
  · exact ⟨[], B.StepsAt.nil w⟩
  · have hc : ∀ i, i < len → ∃ x : B.Stp, B.in64 x.at' ∧ ∃ sv, w.cell? (a.add (i * 2)) = some (.int .i64 x.at') ∧ w.cell? (a.add (i * 2 + 1)) = some sv ∧ B.Strs w sv x.sides := fun i hi => by
      obtain ⟨c0, h4, z, rfl, h5⟩ := h3 i hi 0 (.int .i64) rfl
      obtain ⟨sv, h6, h7⟩ := h3 i hi 1 (.rows [.str]) rfl
      obtain ⟨l, h8⟩ := F.strRow_of (n := n) h7
      exact ⟨⟨z, l⟩, wf_in64 h5, sv, h4, h6, B.Strs.of_strRow h8⟩
    have hg : ∃ f : Nat → B.Stp, ∀ i, i < len → B.in64 (f i).at' ∧ ∃ sv, w.cell? (a.add (i * 2)) = some (.int .i64 (f i).at') ∧ w.cell? (a.add (i * 2 + 1)) = some sv ∧ B.Strs w sv (f i).sides :=
      ⟨fun i => if hi : i < len then Classical.choose (hc i hi) else ⟨0, []⟩, fun i hi => by
        simp only [hi, dif_pos]
        exact Classical.choose_spec (hc i hi)⟩
    obtain ⟨f, hf⟩ := hg
    refine ⟨(List.range len).map f, some a, cap, by simp, by simpa using h1, by simp; omega, fun h0 => ?_⟩
    have h0' : 0 < len := by simpa using h0
    obtain ⟨_, sv0, hz, _⟩ := hf 0 h0'
    obtain ⟨g, o, ha, h6, _⟩ := F.addr_none (w := w) (a := a) (i := 0) ⟨_, hz⟩ hz
    refine ⟨g, o, by rw [ha], h6, fun i x hx => ?_⟩
    have hi : i < len := by simpa using (List.getElem?_eq_some_iff.1 hx).1
    obtain rfl : f i = x := by simpa [List.getElem?_range hi] using hx
    obtain ⟨hw, sv, c1, c2, hs⟩ := hf i hi
    have hadd : ∀ k, a.add k = ⟨g, o + k, none⟩ := fun k => by
      rw [ha]
      unfold Addr.add
      split
      · rename_i he
        rw [he, Nat.add_zero]
      · rfl
    rw [hadd] at c1 c2
    exact ⟨hw, sv, c1, by rw [Nat.add_assoc]; exact c2, hs⟩
theorem TreeBent (cs : List Value) (w : World) (h : F.FitsAt w 8 [.rows [.str], .int .i64, .str, .rows [.int .i64, .rows [.str]], .int .i64, .int .i64, .int .i64] cs) :
    Calls Try.prog 5 #[.agg cs.toArray] w fun e w' => e = .returned (.bool true) ∧ Below w.heap.size w w' := by
  obtain ⟨hl, hc⟩ := h
  obtain ⟨v0, e0, k0⟩ := hc 0 _ rfl
  obtain ⟨v1, e1, a1, rfl, w1⟩ := hc 1 _ rfl
  obtain ⟨v2, e2, s, rfl, w2⟩ := hc 2 _ rfl
  obtain ⟨v3, e3, k3⟩ := hc 3 _ rfl
  obtain ⟨v4, e4, a4, rfl, w4⟩ := hc 4 _ rfl
  obtain ⟨v5, e5, a5, rfl, w5⟩ := hc 5 _ rfl
  obtain ⟨v6, e6, a6, rfl, w6⟩ := hc 6 _ rfl
  obtain ⟨l1, hr1⟩ := F.strRow_of k0
  obtain ⟨l3, hr3⟩ := steps_of k3
  match cs, hl, e0, e1, e2, e3, e4, e5, e6 with
  | [x0, x1, x2, x3, x4, x5, x6], _, e0, e1, e2, e3, e4, e5, e6 =>
    simp at e0 e1 e2 e3 e4 e5 e6
    subst e0 e1 e2 e3 e4 e5 e6
    exact B.treeBent_walk _ _ l1 l3 a1 a4 a5 a6 s (wf_in64 w1) (wf_in64 w4) (wf_in64 w5) (wf_in64 w6) w2 w (B.Strs.of_strRow hr1) hr3
end Go.Proofs.Ytjoilobbopdcpaa.R
