/-
  The document's report bytes (the print's functions) are the program's.
-/
import Derived.Test.YthobfbiobnmceaaRisesP
import Derived.Test.YthobfbiobnmceaaRepLaid
namespace Go.Proofs.Ythobfbiobnmceaa.PReportBytes
open Go.RowKit Go.Proofs.Ythobfbiobnmceaa.B
open Go.Proofs.YthobfbiobnmceaaW.PrintWords Go.Proofs.YthobfbiobnmceaaW.PrintLast Go.Proofs.YthobfbiobnmceaaW.PrintMore
set_option linter.unusedVariables false
set_option linter.unusedSimpArgs false

theorem nil_app (s : ByteArray) : (⟨#[]⟩ : ByteArray) ++ s = s := by apply ByteArray.ext; simp
theorem laidB_bad : ∀ (ps : List (Int × Int)) (t : ByteArray), (laidB ps t).2 = false → (laidB ps t).1 = ⟨#[]⟩
  | [], t, h => by cases h
  | p :: r, t, h => by
    simp only [laidB] at h ⊢
    split
    · rename_i hp
      rw [if_pos hp] at h
      exact laidB_bad r _ h
    · rfl
/-- Four numbers, both ways. -/
theorem four_ways (ps : List (Int × Int)) (s : ByteArray) (hw : ∀ p ∈ ps, 1 ≤ p.2 ∧ p.2 ≤ 6) :
    (∃ u, laidB ps ⟨#[]⟩ = (u, true) ∧ fieldsSpec ps s = (s ++ u, 0)) ∨ (laidB ps ⟨#[]⟩ = (⟨#[]⟩, false) ∧ (fieldsSpec ps s).2 = 2) := by
  have h := fields_laid ps s ⟨#[]⟩
  cases hb : (laidB ps ⟨#[]⟩).2 with
  | true =>
    obtain ⟨u, h1, h2⟩ := h.2 hb
    rw [nil_app] at h1
    refine .inl ⟨u, Prod.ext h1 hb, Prod.ext h2 (h.1.1 hb)⟩
  | false =>
    refine .inr ⟨Prod.ext (laidB_bad _ _ hb) hb, ?_⟩
    rcases fields_bad ps s hw with h3 | h3
    · rw [h.1.2 h3] at hb
      cases hb
    · exact h3
theorem bl0_bad (k : Nat) (s : ByteArray) (i a0 a1 a2 : Int) (l : List S54) : grapnelref16_Bytes.l0 (k + 1) s false i a0 a1 a2 l = some (⟨#[]⟩, 2) := by
  rw [grapnelref16_Bytes.l0]
  split
  · rw [if_neg (by simp)]
  · rw [if_neg (by simp)]
theorem bl0_print (a0 a1 a2 : Int) (l : List Four) (hl : l.length ≤ 100000) (hf : ∀ f ∈ l, f.in64) : ∀ (j i : Nat) (s : ByteArray) (K : Nat), i + j = l.length → s.size + 24 * j ≤ 1000000000 →
    grapnelref16_Bytes.l0 (j + 22 + K) s true i a0 a1 a2 (l.map toS) = some (bodyB (l.drop i) s)
  | 0, i, s, K, hi, hs => by
    rw [show 0 + 22 + K = (K + 21) + 1 by omega, grapnelref16_Bytes.l0, if_neg (by simp; omega), if_pos rfl, List.drop_of_length_le (by omega)]
    rfl
  | j + 1, i, s, K, hi, hs => by
    have hil : i < l.length := by omega
    have hd : l.drop i = l.getD i .zero :: l.drop (i + 1) := by
      rw [List.drop_eq_getElem_cons hil]
      simp [List.getD, hil]
    have hmem : l.getD i .zero ∈ l := by
      have : l.getD i .zero = l[i] := by simp [List.getD, hil]
      rw [this]
      exact List.getElem_mem hil
    obtain ⟨f, hfx⟩ : ∃ f, f = l.getD i .zero := ⟨_, rfl⟩
    have hb := hf _ hmem
    rw [← hfx] at hb hd
    rw [show j + 1 + 22 + K = (j + 22 + K) + 1 by omega, grapnelref16_Bytes.l0, if_pos (by simp; omega), if_pos rfl, if_pos (by omega), rd_map, ← hfx]
    have hlaid : grapnelref16_laid.f (j + 22 + K) [(toS f).f0, (toS f).f1, (toS f).f2, (toS f).f3] [2, 4, 4, 4] = some (laidB (fndPs f) ⟨#[]⟩) := by
      have := laid_four f.a f.b f.c f.d 2 4 4 4 (j + 2 + K) hb.1 hb.2.1 hb.2.2.1 hb.2.2.2 (by omega) (by omega) (by omega) (by omega)
      rw [show j + 2 + K + 20 = j + 22 + K by omega] at this
      exact this
    rw [hlaid, Option.bind_some, hd, bodyB, IntWalk.wrap64_in _ ⟨by omega, by omega⟩, show (i : Int) + 1 = ((i + 1 : Nat) : Int) by omega]
    have hsz := (fieldsSpec_size (fndPs f) s).2
    have hl4 : (fndPs f).length = 4 := rfl
    rcases four_ways (fndPs f) s (by intro p hp; simp [fndPs] at hp; rcases hp with rfl | rfl | rfl | rfl <;> simp) with ⟨u, h1, h2⟩ | ⟨h1, h2⟩
    · rw [h1, h2]
      rw [h2, ByteArray.size_append] at hsz
      simp only at hsz ⊢
      rw [if_pos (by omega), if_pos trivial]
      exact bl0_print a0 a1 a2 l hl hf j (i + 1) (s ++ u) K (by omega) (by rw [ByteArray.size_append]; omega)
    · have hz : (⟨#[]⟩ : ByteArray).size = 0 := rfl
      rw [h1, h2]
      simp only
      rw [if_pos (by omega), if_neg (by omega), show j + 22 + K = (j + 21 + K) + 1 by omega, bl0_bad]
theorem bytes_print (a0 a1 a2 : Int) (l : List Four) (hl : l.length ≤ 100000) (hf : ∀ f ∈ l, f.in64) (h0 : a0 ≤ 9223372036854775807) (h1 : a1 ≤ 9223372036854775807) (h2 : a2 ≤ 9223372036854775807) :
    ∃ k, grapnelref16_Bytes.f k a0 a1 a2 (l.map toS) = some (repBytes a0 a1 a2 l) := by
  refine ⟨l.length * (2 * l.length + 2) + l.length + 2 + 40, ?_⟩
  have hhead : grapnelref16_laid.f (l.length * (2 * l.length + 2) + l.length + 2 + 40) [a0, a1, a2, ((l.map toS).length : Int)] [6, 6, 4, 4] = some (laidB (headPs a0 a1 a2 l.length) ⟨#[]⟩) := by
    have := laid_four a0 a1 a2 l.length 6 6 4 4 (l.length * (2 * l.length + 2) + l.length + 22) h0 h1 h2 (by omega) (by omega) (by omega) (by omega) (by omega)
    rw [show l.length * (2 * l.length + 2) + l.length + 22 + 20 = l.length * (2 * l.length + 2) + l.length + 2 + 40 by omega] at this
    rw [List.length_map]
    exact this
  rw [grapnelref16_Bytes.f, rises_print l hl 40, Option.bind_some, repBytes]
  by_cases hr : rises l = true
  · rw [if_pos hr, if_pos hr, hhead, Option.bind_some]
    have hsz := (fieldsSpec_size (headPs a0 a1 a2 l.length) ⟨#[]⟩).2
    have hl4 : (headPs a0 a1 a2 l.length).length = 4 := rfl
    have hz : (⟨#[]⟩ : ByteArray).size = 0 := rfl
    rcases four_ways (headPs a0 a1 a2 l.length) ⟨#[]⟩ (by intro p hp; simp [headPs] at hp; rcases hp with rfl | rfl | rfl | rfl <;> simp) with ⟨u, h1, h2⟩ | ⟨h1, h2⟩
    · rw [nil_app] at h2
      rw [h1, h2]
      rw [h2] at hsz
      simp only at hsz ⊢
      rw [if_pos trivial]
      have := bl0_print a0 a1 a2 l hl hf l.length 0 u (l.length * (2 * l.length + 2) + 20) (by omega) (by omega)
      rw [show l.length + 22 + (l.length * (2 * l.length + 2) + 20) = l.length * (2 * l.length + 2) + l.length + 2 + 40 by omega, List.drop_zero] at this
      exact this
    · rw [h1, h2]
      simp only
      rw [if_neg (by omega), show l.length * (2 * l.length + 2) + l.length + 2 + 40 = (l.length * (2 * l.length + 2) + l.length + 2 + 39) + 1 by omega, bl0_bad]
  · rw [if_neg hr, if_neg hr]
/-- The row, as the print's words say it. -/
theorem rowC {w : World} {v : Value} {l : List Four} (h : FndRow w v l) : ∃ ao cap, v = .slice ao l.length cap ∧ l.length ≤ cap ∧ Kd.C k54 w ao (l.map toS).length (l.map toS) := by
  obtain ⟨ao, cap, rfl, h1, h2, h3⟩ := h
  refine ⟨ao, cap, rfl, h1, rfl, by rw [List.length_map]; unfold maxLen at h2; omega, fun h0 => ?_⟩
  rw [List.length_map] at h0
  obtain ⟨g, o, rfl, hg, hc⟩ := h3 h0
  refine ⟨⟨g, o, none⟩, rfl, fun j p hp => ?_⟩
  rw [List.getElem?_map, Option.map_eq_some_iff] at hp
  obtain ⟨f, hf, rfl⟩ := hp
  refine ⟨f.cells, rfl, ⟨[.int .i64 f.a], [.int .i64 f.b, .int .i64 f.c, .int .i64 f.d], rfl, rfl, [.int .i64 f.b], [.int .i64 f.c, .int .i64 f.d], rfl, rfl, [.int .i64 f.c], [.int .i64 f.d], rfl, rfl, rfl⟩, fun i u hu => ?_⟩
  have := (hc j f hf).2 i u hu
  have hi : i < 4 := (List.getElem?_eq_some_iff.1 hu).1
  have hsz : k54.sz = 4 := rfl
  rw [hsz]
  unfold Addr.add
  split
  · rename_i he
    rw [he, Nat.add_zero] at this
    exact this
  · exact this
/-- The document's Bytes. -/
theorem refBytes_any (a0 a1 a2 : Int) (v : Value) (l : List Four) (w : World) (h : FndRow w v l) (hl : l.length ≤ 100000) (hf : ∀ f ∈ l, f.in64) (h0 : a0 ≤ 9223372036854775807) (h1 : a1 ≤ 9223372036854775807) (h2 : a2 ≤ 9223372036854775807) :
    Calls Try.prog 13 #[.agg #[.int .i64 a0, .int .i64 a1, .int .i64 a2, v]] w fun e w' => e = .returned (.tuple #[.string (repBytes a0 a1 a2 l).1, .int .i64 (repBytes a0 a1 a2 l).2]) ∧ Below w.heap.size w w' := by
  obtain ⟨ao, cap, rfl, hc, hC⟩ := rowC h
  obtain ⟨k, hk⟩ := bytes_print a0 a1 a2 l hl hf h0 h1 h2
  have := grapnelref16_Bytes.calls k a0 a1 a2 ao cap (l.map toS) _ _ w hC (by rw [List.length_map]; exact hc) hk
  rw [List.length_map] at this
  exact this
end Go.Proofs.Ythobfbiobnmceaa.PReportBytes
