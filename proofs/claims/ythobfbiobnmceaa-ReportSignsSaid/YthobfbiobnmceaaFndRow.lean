/-
  A []Finding that came in; few.
-/
import Derived.Test.YthobfbiobnmceaaStrRow
import Derived.Test.YthobfbiobnmceaaRepBytes
namespace Go.Proofs.Ythobfbiobnmceaa.B
open Go.RowKit
set_option linter.unusedVariables false
set_option linter.unusedSimpArgs false

theorem fndRow_of {w : World} {n : Nat} {v : Value} (h : F.ShOk w (n + 1 + 1) (.rows [.int .i64, .int .i64, .int .i64, .int .i64]) v) : ∃ l, FndRow w v l := by
  rcases h with rfl | ⟨a, len, cap, rfl, h1, h2, h3⟩
  · exact ⟨[], none, 0, rfl, Nat.le_refl _, by simp, fun h => by simp at h⟩
  · have hc : ∀ i, i < len → ∀ j, j < 4 → ∃ z : Int, w.cell? (a.add (i * 4 + j)) = some (.int .i64 z) ∧ (Lit.int .i64 z).wf = true := fun i hi j hj => by
      have hk : [F.Sh.int .i64, .int .i64, .int .i64, .int .i64][j]? = some (F.Sh.int .i64) := by
        match j, hj with
        | 0, _ => rfl
        | 1, _ => rfl
        | 2, _ => rfl
        | 3, _ => rfl
      obtain ⟨c, h4, z, rfl, h5⟩ := h3 i hi j (.int .i64) hk
      exact ⟨z, by simpa using h4, h5⟩
    have hg : ∃ f : Nat → Int, ∀ i, i < len → ∀ j, j < 4 → w.cell? (a.add (i * 4 + j)) = some (.int .i64 (f (i * 4 + j))) ∧ (Lit.int .i64 (f (i * 4 + j))).wf = true := by
      refine ⟨fun m => match w.cell? (a.add m) with | some (.int .i64 s) => s | _ => 0, fun i hi j hj => ?_⟩
      obtain ⟨s, h4, h5⟩ := hc i hi j hj
      simp [h4, h5]
    obtain ⟨f, hf⟩ := hg
    refine ⟨(List.range len).map fun i => ⟨f (i * 4 + 0), f (i * 4 + 1), f (i * 4 + 2), f (i * 4 + 3)⟩, some a, cap, by simp, by simpa using h1, by simp; omega, fun h0 => ?_⟩
    have h0' : 0 < len := by simpa using h0
    obtain ⟨g, o, ha, h6, _⟩ := F.addr_none (w := w) (a := a) (i := 0) ⟨_, (hf 0 h0' 0 (by omega)).1⟩ (hf 0 h0' 0 (by omega)).1
    refine ⟨g, o, by rw [ha], h6, fun i x hx => ?_⟩
    have hi : i < len := by simpa using (List.getElem?_eq_some_iff.1 hx).1
    obtain rfl : (⟨f (i * 4 + 0), f (i * 4 + 1), f (i * 4 + 2), f (i * 4 + 3)⟩ : Four) = x := by simpa [List.getElem?_range hi] using hx
    refine ⟨⟨(hf i hi 0 (by omega)).2, (hf i hi 1 (by omega)).2, (hf i hi 2 (by omega)).2, (hf i hi 3 (by omega)).2⟩, fun j u hu => ?_⟩
    have hj : j < 4 := (List.getElem?_eq_some_iff.1 hu).1
    have hcell := (hf i hi j hj).1
    have hu' : u = .int .i64 (f (i * 4 + j)) := by
      match j, hj, hu with
      | 0, _, hu => exact (Option.some.inj hu).symm
      | 1, _, hu => exact (Option.some.inj hu).symm
      | 2, _, hu => exact (Option.some.inj hu).symm
      | 3, _, hu => exact (Option.some.inj hu).symm
    rw [hu', ← hcell, ha]
    congr 1
    unfold Addr.add
    split
    · rename_i he
      rw [he, Nat.add_zero]
    · rfl
theorem FndRow.nil (w : World) : FndRow w (.slice none 0 0) [] := ⟨none, 0, rfl, Nat.le_refl _, by simp, fun h => by simp at h⟩
theorem FndRow.take {w : World} {ao : Option Addr} {m cap n : Nat} {l : List Four} (h : FndRow w (.slice ao m cap) l) (hn : n < l.length) : FndRow w (.slice ao n cap) (l.take n) := by
  obtain ⟨ao', cap', he, h1, h2, h3⟩ := h
  simp at he
  obtain ⟨rfl, rfl, rfl⟩ := he
  have hl : (l.take n).length = n := by simp; omega
  refine ⟨ao, cap, by rw [hl], by omega, by omega, fun h0 => ?_⟩
  obtain ⟨g, o, e, hg, hc⟩ := h3 (by omega)
  refine ⟨g, o, e, hg, fun i f hf => hc i f ?_⟩
  rw [List.getElem?_take] at hf
  split at hf
  · exact hf
  · cases hf
theorem FndRow.in64 {w : World} {v : Value} {l : List Four} (h : FndRow w v l) : ∀ f ∈ l, f.wf := by
  intro f hf
  obtain ⟨ao, cap, rfl, h1, h2, h3⟩ := h
  obtain ⟨i, hi⟩ := List.getElem?_of_mem hf
  have hlt : i < l.length := (List.getElem?_eq_some_iff.1 hi).1
  obtain ⟨g, o, e, hg, hc⟩ := h3 (by omega)
  exact (hc i f hi).1
set_option maxRecDepth 100000 in
set_option maxHeartbeats 1600000 in
theorem few_any (a0 a1 a2 : Int) (v : Value) (l : List Four) (n : Nat) (hn : n ≤ 1000000) (w : World) (h : FndRow w v l) :
    Calls Try.prog 11 #[.agg #[.int .i64 a0, .int .i64 a1, .int .i64 a2, v], .int .i64 n] w fun e w' => ∃ v', e = .returned (.agg #[.int .i64 a0, .int .i64 a1, .int .i64 a2, v']) ∧ (∀ w0, FndRow w0 v l → FndRow w0 v' (l.take n)) ∧ Below w.heap.size w w' := by
  obtain ⟨ao, cap, rfl, hcap, hmax⟩ := h.form
  have hu24 := Try.underlying24
  obtain ⟨L, hL⟩ : ∃ L, L = l.length := ⟨_, rfl⟩
  rw [← hL] at hcap hmax h ⊢
  have hlm : (L : Int) ≤ 9223372036854775807 := by unfold maxLen at hmax; omega
  by_cases hlt : n < L
  · have hall : ∀ w0, FndRow w0 (.slice ao L cap) l → FndRow w0 (.slice ao n cap) (l.take n) := fun w0 h => h.take (n := n) (by omega)
    have H := Lib.hid hall
    have i1 : (n : Int) < (L : Int) := by omega
    have i2 : (0 : Int) ≤ (n : Int) := by omega
    have i3 : (n : Int) ≤ (cap : Int) := by omega
    clear h hL hmax hall
    go_enter Try.func11, Try.ntmps11
    go_wp2
    refine bodyPost_ret (v := .agg #[.int .i64 a0, .int .i64 a1, .int .i64 a2, .slice ao n cap]) (by simp [results, Try.results11, go_sem]) rfl ⟨_, rfl, H.out, ?_⟩
    exact ((Below.refl _ w).alloc (Nat.le_refl _) _).alloc (by simp) _
  · have ht : l.take n = l := List.take_of_length_le (by omega)
    have H := Lib.hid (fun (w0 : World) (h : FndRow w0 (.slice ao L cap) l) => h)
    have HT := Lib.hid ht
    have i1 : ¬ (n : Int) < (L : Int) := by omega
    clear h hL hmax ht
    go_enter Try.func11, Try.ntmps11
    go_wp2
    rw [HT.out]
    refine bodyPost_ret (v := .agg #[.int .i64 a0, .int .i64 a1, .int .i64 a2, .slice ao L cap]) (by simp [results, Try.results11, go_sem]) rfl ⟨_, rfl, H.out, ?_⟩
    exact ((Below.refl _ w).alloc (Nat.le_refl _) _).alloc (by simp) _
end Go.Proofs.Ythobfbiobnmceaa.B
