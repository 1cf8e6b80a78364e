/-
  The document's laid and Bytes, walked by hand.
-/
import Derived.Test.YthobfbiobnmceaaRefRises
import Derived.Test.YthobfbiobnmceaaRefPut
namespace Go.Proofs.Ythobfbiobnmceaa.B
open Go.RowKit
set_option linter.unusedVariables false
set_option linter.unusedSimpArgs false

theorem app_nil (s : ByteArray) : s ++ (⟨#[]⟩ : ByteArray) = s := by apply ByteArray.ext; simp
/-- The document's laid: numbers, each in its width. -/
def laidB : List (Int × Int) → ByteArray → ByteArray × Bool
  | [], s => (s, true)
  | p :: r, s => if (putSpec p.1 p.2).2 = 0 then laidB r (s ++ (putSpec p.1 p.2).1) else (⟨#[]⟩, false)
/-- The program's fields, by the document's laid. -/
theorem fields_laid : ∀ (ps : List (Int × Int)) (s t : ByteArray), ((laidB ps t).2 = true ↔ (fieldsSpec ps s).2 = 0) ∧ ((laidB ps t).2 = true → ∃ u, (laidB ps t).1 = t ++ u ∧ (fieldsSpec ps s).1 = s ++ u)
  | [], s, t => ⟨by simp [laidB, fieldsSpec], fun _ => ⟨⟨#[]⟩, (app_nil t).symm, (app_nil s).symm⟩⟩
  | p :: r, s, t => by
    simp only [laidB, fieldsSpec]
    by_cases h : (putSpec p.1 p.2).2 = 0
    · rw [if_pos h, if_pos h]
      have := fields_laid r (s ++ (putSpec p.1 p.2).1) (t ++ (putSpec p.1 p.2).1)
      refine ⟨this.1, fun h2 => ?_⟩
      obtain ⟨u, h3, h4⟩ := this.2 h2
      exact ⟨(putSpec p.1 p.2).1 ++ u, by rw [h3, ByteArray.append_assoc], by rw [h4, ByteArray.append_assoc]⟩
    · rw [if_neg h, if_neg h]
      exact ⟨by simp [h], by simp⟩
theorem fields_bad : ∀ (ps : List (Int × Int)) (s : ByteArray), (∀ p ∈ ps, 1 ≤ p.2 ∧ p.2 ≤ 6) → (fieldsSpec ps s).2 = 0 ∨ (fieldsSpec ps s).2 = 2
  | [], s, _ => .inl rfl
  | p :: r, s, h => by
    simp only [fieldsSpec]
    split
    · exact fields_bad r _ (fun q hq => h q (by simp [hq]))
    · rename_i hb
      refine .inr ?_
      have := h p (by simp)
      unfold putSpec at hb ⊢
      rw [if_neg (by omega)] at hb ⊢
      split
      · rename_i hf
        rw [if_pos hf] at hb
        exact absurd rfl hb
      · rfl
theorem nil_app (s : ByteArray) : (⟨#[]⟩ : ByteArray) ++ s = s := by apply ByteArray.ext; simp
theorem laidB_bad : ∀ (ps : List (Int × Int)) (t : ByteArray), (laidB ps t).2 = false → (laidB ps t).1 = ⟨#[]⟩
  | [], t, h => by cases h
  | p :: r, t, h => by
    simp only [laidB] at h ⊢
    split
    · rename_i hp
      rw [if_pos hp] at h
      exact laidB_bad r _ h
    · rfl
/-- Four numbers, both ways. -/
theorem four_ways (ps : List (Int × Int)) (s : ByteArray) (hw : ∀ p ∈ ps, 1 ≤ p.2 ∧ p.2 ≤ 6) :
    (∃ u, laidB ps ⟨#[]⟩ = (u, true) ∧ fieldsSpec ps s = (s ++ u, 0)) ∨ (laidB ps ⟨#[]⟩ = (⟨#[]⟩, false) ∧ (fieldsSpec ps s).2 = 2) := by
  have h := fields_laid ps s ⟨#[]⟩
  cases hb : (laidB ps ⟨#[]⟩).2 with
  | true =>
    obtain ⟨u, h1, h2⟩ := h.2 hb
    rw [nil_app] at h1
    refine .inl ⟨u, Prod.ext h1 hb, Prod.ext h2 (h.1.1 hb)⟩
  | false =>
    refine .inr ⟨Prod.ext (laidB_bad _ _ hb) hb, ?_⟩
    rcases fields_bad ps s hw with h3 | h3
    · rw [h.1.2 h3] at hb
      cases hb
    · exact h3

/-- Two rows of numbers, side by side. -/
structure TwoRows (w : World) (g1 g2 : Nat) (ps : List (Int × Int)) : Prop where
  l1 : g1 < w.heap.size
  l2 : g2 < w.heap.size
  at_ : ∀ i p, ps[i]? = some p → w.cell? ⟨g1, i, none⟩ = some (.int .i64 p.1) ∧ w.cell? ⟨g2, i, none⟩ = some (.int .i64 p.2)
theorem TwoRows.below {w W : World} {g1 g2 : Nat} {ps : List (Int × Int)} (h : TwoRows w g1 g2 ps) (hb : Below w.heap.size w W) : TwoRows W g1 g2 ps :=
  ⟨Nat.lt_of_lt_of_le h.l1 hb.size, Nat.lt_of_lt_of_le h.l2 hb.size, fun i p hp => ⟨(hb.cell (p := ⟨g1, i, none⟩) h.l1).trans (h.at_ i p hp).1, (hb.cell (p := ⟨g2, i, none⟩) h.l2).trans (h.at_ i p hp).2⟩⟩
structure LaidI (w : World) (g1 g2 : Nat) (ps : List (Int × Int)) (k : Nat) (s : ByteArray) (R : ByteArray × Bool) (W : World) : Prop where
  bel : Below w.heap.size w W
  rows : TwoRows W g1 g2 ps
  ext : R = laidB (ps.drop k) s
  size : s.size ≤ 6 * k
set_option maxRecDepth 100000 in
set_option maxHeartbeats 3200000 in
theorem laid_any (g1 g2 : Nat) (ps : List (Int × Int)) (w : World) (h : TwoRows w g1 g2 ps) (hl : ps.length ≤ 1000) (hw : ∀ p ∈ ps, p.1 ≤ 9223372036854775807) :
    Calls Try.prog 30 #[.slice (some ⟨g1, 0, none⟩) ps.length ps.length, .slice (some ⟨g2, 0, none⟩) ps.length ps.length] w fun e w' => e = .returned (.tuple #[.string (laidB ps ⟨#[]⟩).1, .bool (laidB ps ⟨#[]⟩).2]) ∧ Below w.heap.size w w' := by
  obtain ⟨R, hR⟩ : ∃ R, R = laidB ps ⟨#[]⟩ := ⟨_, rfl⟩
  rw [← hR]
  have HI := Lib.hid (show LaidI w g1 g2 ps 0 ⟨#[]⟩ R w from ⟨Below.refl _ _, h, by rw [List.drop_zero]; exact hR, Nat.le_refl _⟩)
  obtain ⟨n, hn⟩ : ∃ n, n = ps.length := ⟨_, rfl⟩
  rw [← hn] at hl ⊢
  have HN := Lib.hid hn
  have HW := Lib.hid hw
  clear hn hR h hw
  go_enter Try.func30, Try.ntmps30
  go_wp2_with fail
  go_loopg [6, 7] n (fun j s i wr => ∃ (k : Nat) (t : ByteArray), j + k = n ∧ i = .int .i64 (k : Int) ∧ s = .string t ∧ LaidI w g1 g2 ps k t R wr)
  case atStart => exact ⟨0, _, by omega, rfl, rfl, HI.out⟩
  case round =>
    clear HI
    obtain ⟨k, s, hk, rfl, rfl, hI⟩ := hrel
    by_cases hlt : k < n
    · obtain ⟨j, rfl⟩ : ∃ j, gk = j + 1 := ⟨gk - 1, by omega⟩
      have kl : k < ps.length := by rw [← HN.out]; exact hlt
      obtain ⟨p, hp⟩ : ∃ p, p = ps[k] := ⟨_, rfl⟩
      have hpl : ps[k]? = some p := by rw [hp]; exact List.getElem?_eq_getElem kl
      have hdr : ps.drop k = p :: ps.drop (k + 1) := by rw [List.drop_eq_getElem_cons kl, hp]
      have hw1 : p.1 ≤ 9223372036854775807 := HW.out p (by rw [hp]; exact List.getElem_mem kl)
      obtain ⟨x0, y0⟩ := hI.rows.at_ k p hpl
      have hx := hI.rows.l1
      have hy := hI.rows.l2
      have hext := hI.ext
      rw [hdr, laidB] at hext
      have hsz := hI.size
      have hps := putSpec_size p.1 p.2
      have HP := Lib.hid (refPut_any p.1 p.2 hw1)
      obtain ⟨t, ht⟩ : ∃ t, t = (putSpec p.1 p.2).1 := ⟨_, rfl⟩
      obtain ⟨e, he⟩ : ∃ e, e = (putSpec p.1 p.2).2 := ⟨_, rfl⟩
      rw [← ht] at hps hext
      rw [← he] at hext
      rw [← ht, ← he] at HP
      obtain ⟨a, ha⟩ : ∃ a, a = p.1 := ⟨_, rfl⟩
      obtain ⟨b, hb⟩ : ∃ a, a = p.2 := ⟨_, rfl⟩
      rw [← ha] at x0 HP
      rw [← hb] at y0 HP
      have hkj : j + (k + 1) = n := by omega
      have HKJ := Lib.hid hkj
      have HE := Lib.hid hext
      have HI := Lib.hid hI
      have u2 : (0 : Int) ≤ (k : Int) := by omega
      have u3 : (k : Int) < (n : Int) := by omega
      clear hI hk hkj hlt kl hp hpl hdr hext ht he ha hb hw1
      go_wp2_with fail
      go_region_held3 (fun w' => w'.cell? ⟨g1, k, none⟩ = some (.int .i64 a) ∧ w'.cell? ⟨g2, k, none⟩ = some (.int .i64 b)) (first | exact ⟨x0, y0⟩ | exact ⟨(World.cell?_of_block (hb1.block g1 hx)).trans x0, (World.cell?_of_block (hb1.block g2 hy)).trans y0⟩) (first | (go_at_call 46; refine (HP.out _).mono ?_; rintro e W1 ⟨rfl, hb1⟩) | fail "x")
      by_cases hz : e = 0
      · subst hz
        have hE := HE.out
        rw [if_pos rfl] at hE
        have HE2 := Lib.hid hE
        have HB1 := Lib.hid (((Below.refl wr.heap.size wr).drew).trans hb1)
        clear hE HE hb1
        go_wp2_with fail
        go_roundg j
        case measure => omega
        case rel => exact ⟨k + 1, s ++ t, HKJ.out, by go_num, rfl, ⟨HI.out.bel.trans (HB1.out.mono HI.out.bel.size), HI.out.rows.below HB1.out, HE2.out, by rw [ByteArray.size_append]; omega⟩⟩
      · have hE := HE.out
        rw [if_neg hz] at hE
        subst hE
        have hz2 : (e != 0) = true := by simp [hz]
        have HB1 := Lib.hid (((Below.refl wr.heap.size wr).drew).trans hb1)
        clear HE hb1
        go_wp2_with fail
        go_ret2
        exact ⟨rfl, HI.out.bel.trans (HB1.out.mono HI.out.bel.size)⟩
    · obtain rfl : gk = 0 := by omega
      obtain rfl : k = n := by omega
      have hE := hI.ext
      rw [List.drop_of_length_le (by rw [← HN.out]; exact Nat.le_refl _), laidB] at hE
      subst hE
      have HI := Lib.hid hI
      clear hI hk hlt
      go_wp2_with fail
      go_ret2
      exact ⟨rfl, HI.out.bel⟩
end Go.Proofs.Ythobfbiobnmceaa.B
