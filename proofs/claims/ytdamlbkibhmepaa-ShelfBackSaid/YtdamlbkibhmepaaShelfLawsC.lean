/-
  ShelfBack.
-/
import Derived.Test.YtdamlbkibhmepaaShelfAwake
import Derived.Test.YtdamlbkibhmepaaShelfBack
namespace Go.Proofs.Ytdamlbkibhmepaa.B
open Go.RowKit
set_option linter.unusedVariables false
set_option linter.unusedSimpArgs false

theorem bodyFrom_bad : ∀ (l : List Ent) (s : ByteArray), (bodyFrom l s).2 ≠ 0 → (bodyFrom l s).1 = ⟨#[]⟩
  | [], s, h => absurd rfl h
  | f :: r, s, h => by
    unfold bodyFrom at h ⊢
    split at h
    · rename_i hc
      rw [if_pos hc]
      exact bodyFrom_bad r _ h
    · rename_i hc
      rw [if_neg hc]
theorem bodySpec_size (l : List Ent) : (bodySpec l).1.size ≤ 448 := by
  unfold bodySpec
  split
  · rename_i hl
    by_cases h : (bodyFrom l ⟨#[]⟩).2 = 0
    · obtain ⟨u, h1, h2, _⟩ := body_reads l ⟨#[]⟩ h
      rw [h1, ByteArray.size_append, h2, hl]
      exact Nat.le_refl _
    · rw [bodyFrom_bad _ _ h]
      exact Nat.zero_le _
  · exact Nat.zero_le _
theorem pageFrom_small2 (s : ByteArray) : ∀ (j k : Nat), (pageFrom s j k).1.length ≤ k + j
  | 0, k => by rw [pageFrom, entsAt_length]; omega
  | j + 1, k => by
    rw [pageFrom]
    split
    · have := pageFrom_small2 s j (k + 1); omega
    · simp
theorem pageSpec_small2 (s : ByteArray) : (pageSpec s).1.length ≤ 16 := by
  unfold pageSpec
  split
  · exact pageFrom_small2 s 16 0
  · simp
set_option maxRecDepth 100000 in
set_option maxHeartbeats 800000 in
theorem shelfBack_walk (v : Value) (l : List Ent) (body : ByteArray) (hbs : body.size ≤ 9223372036854775807) (w : World) (h : EntRow w v l) :
    Calls Try.prog 5 #[v, .string body] w fun e w' => e = .returned (.bool true) ∧ Below w.heap.size w w' := by
  obtain ⟨ao, cap, rfl, _, hmax⟩ := h.form
  have hlm : (l.length : Int) ≤ 9223372036854775807 := by unfold maxLen at hmax; omega
  have HBODY := Lib.hid (Body_any _ l w h)
  have HPAGE := Lib.hid (fun W => Page_any (bodySpec l).1 (by have := bodySpec_size l; omega) W)
  have HPB := Lib.hid (fun W => Page_any body hbs W)
  have hback := fun h => page_back (l := l) h
  have hforth := fun h => page_forth (s := body) h
  have hsm := pageSpec_small2 (bodySpec l).1
  have HROW := Lib.hid h
  obtain ⟨⟨S, st⟩, hS⟩ : ∃ q, q = bodySpec l := ⟨_, rfl⟩
  rw [← hS] at HBODY HPAGE hback hsm
  simp only at HPAGE hback hsm
  obtain ⟨⟨m, f⟩, hM⟩ : ∃ q, q = pageSpec S := ⟨_, rfl⟩
  rw [← hM] at HPAGE hback hsm
  obtain ⟨⟨n, g⟩, hN⟩ : ∃ q, q = pageSpec body := ⟨_, rfl⟩
  rw [← hN] at HPB hforth
  simp only at hforth hsm
  obtain ⟨⟨D, hd⟩, hD⟩ : ∃ q, q = bodySpec n := ⟨_, rfl⟩
  rw [← hD] at hforth
  have HD := Lib.hid hD
  have HBACK := Lib.hid hback
  have HFORTH := Lib.hid hforth
  have HSM := Lib.hid hsm
  clear hS hM hN hD hback hforth hsm h hmax
  go_enter Try.func5, Try.ntmps5
  go_wp2_with fail
  refine HBODY.out.mono ?_
  rintro e W1 ⟨rfl, hb1⟩
  have HB1 := Lib.hid hb1
  clear hb1 HBODY
  go_wp2_with fail
  refine (HPAGE.out W1).mono ?_
  rintro e W2 ⟨v2, rfl, hr2, hb2, _⟩
  obtain ⟨ao2, cap2, rfl, hcap2, _⟩ := hr2.form
  simp only at hr2 ⊢
  have HR2 := Lib.hid hr2
  have HB2 := Lib.hid (HB1.out.trans (hb2.mono HB1.out.size))
  clear hb2 hr2 HPAGE HB1
  go_wp2_with fail
  refine (HPB.out W2).mono ?_
  rintro e W3 ⟨v3, rfl, hr3, hb3, _⟩
  obtain ⟨ao3, cap3, rfl, hcap3, _⟩ := hr3.form
  simp only at hr3 ⊢
  have HR3 := Lib.hid hr3
  have HR23 := Lib.hid (HR2.out.below hb3)
  have HB3 := Lib.hid (HB2.out.trans (hb3.mono HB2.out.size))
  clear hb3 hr3 HPB HB2 HR2
  go_wp2_with fail
  refine (Body_any _ n W3 HR3.out).mono ?_
  rintro e W4 ⟨rfl, hb4⟩
  rw [← HD.out]
  have HR24 := Lib.hid (HR23.out.below hb4)
  have HB4 := Lib.hid (HB3.out.trans (hb4.mono HB3.out.size))
  have HRL := Lib.hid (HROW.out.below HB4.out)
  simp only
  clear hb4 HB3 HR23 HR3 HROW
  by_cases hst : st = 0
  · subst hst
    obtain ⟨rfl, rfl⟩ := Prod.mk.inj (HBACK.out rfl).symm
    by_cases hg0 : g = 0
    · subst hg0
      obtain ⟨rfl, rfl⟩ := Prod.mk.inj (HFORTH.out rfl).symm
      go_wp2_with fail
      refine (same_any _ _ l W4 HR24.out HRL.out (by have := HSM.out; omega)).mono ?_
      rintro e W5 ⟨rfl, hb5⟩
      have HB5 := Lib.hid (HB4.out.trans (hb5.mono HB4.out.size))
      clear hb5 HB4 HR24 HRL
      go_wp2_with fail
      refine (shelfAwake_any _).mono ?_
      rintro e W6 ⟨rfl, hb6⟩
      have HB6 := Lib.hid (HB5.out.trans (hb6.mono HB5.out.size))
      clear hb6 HB5
      go_wp2_with fail
      go_ret
      exact ⟨rfl, HB6.out⟩
    · go_wp2_with fail
      refine (same_any _ _ l W4 HR24.out HRL.out (by have := HSM.out; omega)).mono ?_
      rintro e W5 ⟨rfl, hb5⟩
      have HB5 := Lib.hid (HB4.out.trans (hb5.mono HB4.out.size))
      clear hb5 HB4 HR24 HRL
      go_wp2_with fail
      refine (shelfAwake_any _).mono ?_
      rintro e W6 ⟨rfl, hb6⟩
      have HB6 := Lib.hid (HB5.out.trans (hb6.mono HB5.out.size))
      clear hb6 HB5
      go_wp2_with fail
      go_ret
      exact ⟨rfl, HB6.out⟩
  · by_cases hg0 : g = 0
    · subst hg0
      obtain ⟨rfl, rfl⟩ := Prod.mk.inj (HFORTH.out rfl).symm
      have HB5 := HB4
      clear HB4 HR24 HRL
      go_wp2_with fail
      refine (shelfAwake_any _).mono ?_
      rintro e W6 ⟨rfl, hb6⟩
      have HB6 := Lib.hid (HB5.out.trans (hb6.mono HB5.out.size))
      clear hb6 HB5
      go_wp2_with fail
      go_ret
      exact ⟨rfl, HB6.out⟩
    · skip
      have HB5 := HB4
      clear HB4 HR24 HRL
      go_wp2_with fail
      refine (shelfAwake_any _).mono ?_
      rintro e W6 ⟨rfl, hb6⟩
      have HB6 := Lib.hid (HB5.out.trans (hb6.mono HB5.out.size))
      clear hb6 HB5
      go_wp2_with fail
      go_ret
      exact ⟨rfl, HB6.out⟩
end Go.Proofs.Ytdamlbkibhmepaa.B
