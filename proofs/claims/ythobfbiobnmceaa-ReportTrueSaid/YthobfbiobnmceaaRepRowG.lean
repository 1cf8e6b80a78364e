/-
  ReportTrue in the form in which a row hands its arguments over.
-/
import Derived.Test.YthobfbiobnmceaaRepLawsG
namespace Go.Proofs.Ythobfbiobnmceaa.R
open Go.RowKit
set_option linter.unusedVariables false
theorem reps_of {w : World} {n : Nat} {v : Value} (h : F.ShOk w (n + 1 + 1 + 1) (.rows [.int .i64, .int .i64, .int .i64, .rows [.int .i64, .int .i64, .int .i64, .int .i64]]) v) : ∃ l, B.RepsAt w v l := by
  rcases h with rfl | ⟨a, len, cap, rfl, h1, h2, h3⟩
  · exact ⟨[], B.RepsAt.nil w⟩
  · have hc : ∀ i, i < len → ∃ x : B.Rpt, B.i64 x.a0 ∧ B.i64 x.a1 ∧ B.i64 x.a2 ∧ ∃ vf, w.cell? (a.add (i * 4)) = some (.int .i64 x.a0) ∧ w.cell? (a.add (i * 4 + 1)) = some (.int .i64 x.a1) ∧ w.cell? (a.add (i * 4 + 2)) = some (.int .i64 x.a2) ∧ w.cell? (a.add (i * 4 + 3)) = some vf ∧ B.FndRow w vf x.fs := fun i hi => by
      obtain ⟨_, k0, z0, rfl, b0⟩ := h3 i hi 0 (.int .i64) rfl
      obtain ⟨_, k1, z1, rfl, b1⟩ := h3 i hi 1 (.int .i64) rfl
      obtain ⟨_, k2, z2, rfl, b2⟩ := h3 i hi 2 (.int .i64) rfl
      obtain ⟨vf, k3, b3⟩ := h3 i hi 3 (.rows [.int .i64, .int .i64, .int .i64, .int .i64]) rfl
      obtain ⟨l, hl⟩ := B.fndRow_of (n := n) b3
      exact ⟨⟨z0, z1, z2, l⟩, B.wfI b0, B.wfI b1, B.wfI b2, vf, k0, k1, k2, k3, hl⟩
    have hg : ∃ f : Nat → B.Rpt, ∀ i, i < len → B.i64 (f i).a0 ∧ B.i64 (f i).a1 ∧ B.i64 (f i).a2 ∧ ∃ vf, w.cell? (a.add (i * 4)) = some (.int .i64 (f i).a0) ∧ w.cell? (a.add (i * 4 + 1)) = some (.int .i64 (f i).a1) ∧ w.cell? (a.add (i * 4 + 2)) = some (.int .i64 (f i).a2) ∧ w.cell? (a.add (i * 4 + 3)) = some vf ∧ B.FndRow w vf (f i).fs :=
      ⟨fun i => if hi : i < len then Classical.choose (hc i hi) else ⟨0, 0, 0, []⟩, fun i hi => by
        simp only [hi, dif_pos]
        exact Classical.choose_spec (hc i hi)⟩
    obtain ⟨f, hf⟩ := hg
    refine ⟨(List.range len).map f, some a, cap, by simp, by simpa using h1, by simp; omega, fun h0 => ?_⟩
    have h0' : 0 < len := by simpa using h0
    obtain ⟨_, _, _, _, hz, _⟩ := hf 0 h0'
    obtain ⟨g, o, ha, h6, _⟩ := F.addr_none (w := w) (a := a) (i := 0) ⟨_, hz⟩ hz
    refine ⟨g, o, by rw [ha], h6, fun i x hx => ?_⟩
    have hi : i < len := by simpa using (List.getElem?_eq_some_iff.1 hx).1
    obtain rfl : f i = x := by simpa [List.getElem?_range hi] using hx
    obtain ⟨b0, b1, b2, vf, c0, c1, c2, c3, hr⟩ := hf i hi
    have hadd : ∀ k, a.add k = ⟨g, o + k, none⟩ := fun k => by
      rw [ha]
      unfold Addr.add
      split
      · rename_i he
        rw [he, Nat.add_zero]
      · rfl
    rw [hadd] at c0 c1 c2 c3
    exact ⟨b0, b1, b2, vf, c0, by rw [Nat.add_assoc]; exact c1, by rw [Nat.add_assoc]; exact c2, by rw [Nat.add_assoc]; exact c3, hr⟩
theorem ReportTrue (v : Value) (ask : ByteArray) (which : Int) (w : World) (h1 : F.ShOk w 8 (.rows [.int .i64, .int .i64, .int .i64, .rows [.int .i64, .int .i64, .int .i64, .int .i64]]) v) (h2 : ask.size ≤ 140737488351232) (h3 : (Lit.int .i64 which).wf = true) :
    Calls Try.prog 9 #[v, .string ask, .int .i64 which] w fun e w' => e = .returned (.bool true) ∧ Below w.heap.size w w' := by
  obtain ⟨l, hr⟩ := reps_of h1
  exact B.reportTrue_walk v l ask h2 which w hr
end Go.Proofs.Ythobfbiobnmceaa.R
