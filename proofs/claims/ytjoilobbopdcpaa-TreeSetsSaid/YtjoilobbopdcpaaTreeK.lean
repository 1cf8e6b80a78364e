/-
  TreeUnlike.
-/
import Derived.Test.YtjoilobbopdcpaaTreeJ
namespace Go.Proofs.Ytjoilobbopdcpaa.B
open Go.RowKit
set_option linter.unusedVariables false
set_option linter.unusedSimpArgs false

def isB (a b : List ByteArray) (q : Nat) : Bool := decide (a.length = b.length ∧ a.take q = b.take q)
theorem isB_zero (a b : List ByteArray) : isB a b 0 = decide (a.length = b.length) := by simp [isB]
theorem isB_succ {a b : List ByteArray} {q : Nat} (ha : q < a.length) (hb : q < b.length) : isB a b (q + 1) = (isB a b q && decide (a[q] = b[q])) := by
  unfold isB
  rw [List.take_add_one, List.take_add_one, List.getElem?_eq_getElem ha, List.getElem?_eq_getElem hb]
  rw [Bool.eq_iff_iff]
  simp only [decide_eq_true_eq, Bool.and_eq_true]
  constructor
  · rintro ⟨hl, h⟩
    have h2 := List.append_inj h (by simp; omega)
    refine ⟨⟨hl, h2.1⟩, ?_⟩
    simpa using h2.2
  · rintro ⟨⟨hl, h⟩, he⟩
    exact ⟨hl, by rw [h, he]⟩
theorem isB_end {a b : List ByteArray} : isB a b (min a.length b.length) = decide (a = b) := by
  unfold isB
  by_cases h : a = b
  · subst h; simp
  · rw [decide_eq_false h]
    refine decide_eq_false (fun hh => h ?_)
    have := hh.2
    rwa [List.take_of_length_le (by omega), List.take_of_length_le (by omega)] at this
/-- New and Root, in one. -/
structure Grown (B g gh : Nat) (k : Option (ByteArray → ByteArray)) (c : Nat) (ks ks' l : List ByteArray) (w w' : World) (gt : Nat) (rows : List (List ByteArray)) (vr : Value) (vs : List Value) : Prop where
  tree : TreeR k ks' l rows
  mem : TreeM w.heap.size gt g rows vr vs w'
  ran : Ran B g gh k c ks ks' w w'
theorem Root_of {k : Option (ByteArray → ByteArray)} (HK : VK k) (B b0 gt g gh : Nat) (ks l : List ByteArray) (rows : List (List ByteArray)) (vr : Value) (vs : List Value) (w : World) (hl : l.length ≤ 1000) (hv : Vlt w B g gh k ks) (ht : TreeR k ks l rows) (h : TreeM b0 gt g rows vr vs w) (hk : ks.length < 1000000000) :
    Calls Try.prog 15 #[.pointer (some ⟨gt, 0, none⟩)] w fun e w' => ∃ ks' r, e = .returned (.string r) ∧ RootR k ks' l r ∧ Ran B g gh k 1 ks ks' w w' := by
  have h1 := ht.count
  have h2 := ht.len0
  have h3 := ht.top_size HK
  refine (Root_any HK B b0 gt g gh ks rows vr vs w hv h ht.pos (by omega) (by omega) (by omega) (by omega)).mono ?_
  rintro e W ⟨ks', r, he, hd, hr⟩
  rw [h2] at hd
  exact ⟨ks', r, he, ⟨rows, ht.pre hr.pre, hd⟩, hr⟩
set_option maxRecDepth 100000 in
set_option maxHeartbeats 1600000 in
theorem treeUnlike_walk (v1 v2 : Value) (l1 l2 : List ByteArray) (w : World) (h1 : Strs w v1 l1) (h2 : Strs w v2 l2) :
    Calls Try.prog 3 #[v1, v2] w fun e w' => e = .returned (.bool true) ∧ Below w.heap.size w w' := by
  obtain ⟨ao1, cap1, rfl, hc1, hm1⟩ := h1.form
  obtain ⟨ao2, cap2, rfl, hc2, hm2⟩ := h2.form
  have H1 := Lib.hid h1
  have H2 := Lib.hid h2
  obtain ⟨m1, hl1⟩ : ∃ m, m = l1.length := ⟨_, rfl⟩
  obtain ⟨m2, hl2⟩ : ∃ m, m = l2.length := ⟨_, rfl⟩
  have HS1 := Lib.hid (some_any 30 (by decide) _ l1 w h1)
  have HS2 := Lib.hid (fun W (h : Strs W (.slice ao2 l2.length cap2) l2) => some_any 30 (by decide) _ l2 W h)
  rw [← hl1] at H1 HS1 ⊢
  rw [← hl2] at H2 HS2 ⊢
  clear h1 h2 hc1 hc2 hm1 hm2 hl1 hl2
  go_enter Try.func3, Try.ntmps3
  go_wp2_with fail
  refine HS1.out.mono ?_
  rintro e W1 ⟨v1', rfl, hA⟩
  obtain ⟨ao1', cap1', rfl, hc1⟩ := hA.row.form
  have HA := Lib.hid hA
  clear hA HS1
  go_wp2_with fail
  refine (HS2.out W1 (H2.out.below HA.out.below)).mono ?_
  rintro e W2 ⟨v2', rfl, hB⟩
  obtain ⟨ao2', cap2', rfl, hc2⟩ := hB.row.form
  have HB := Lib.hid hB
  clear hB HS2
  go_wp2_with fail
  refine (Ideal_any W2).mono ?_
  rintro e W3 ⟨g, gh, rfl, hv, hb, hgh⟩
  have hA3 := (Strs.of_row HA.out.row).below (HB.out.below.trans (hb.mono HB.out.below.size))
  have hB3 := (Strs.of_row HB.out.row).below hb
  have HB0 := Lib.hid (HA.out.below.trans ((HB.out.below.trans (hb.mono HB.out.below.size)).mono HA.out.below.size))
  have HGH := Lib.hid (Nat.le_trans HA.out.below.size (Nat.le_trans HB.out.below.size hgh))
  obtain ⟨a, ha⟩ : ∃ a, a = someL l1 30 := ⟨_, rfl⟩
  obtain ⟨b, hbb⟩ : ∃ b, b = someL l2 30 := ⟨_, rfl⟩
  have ha30 : a.length ≤ 30 := by rw [ha, someL_len]; omega
  have hb30 : b.length ≤ 30 := by rw [hbb, someL_len]; omega
  have HAS := Lib.hid (show ∀ s ∈ a, s.size ≤ 500 by rw [ha]; intro s hs; have := someL_size s hs; omega)
  have HBS := Lib.hid (show ∀ s ∈ b, s.size ≤ 500 by rw [hbb]; intro s hs; have := someL_size s hs; omega)
  rw [← ha] at hA3 hc1 ⊢
  rw [← hbb] at hB3 hc2 ⊢
  obtain ⟨na, hna⟩ : ∃ n, n = a.length := ⟨_, rfl⟩
  obtain ⟨nb, hnb⟩ : ∃ n, n = b.length := ⟨_, rfl⟩
  have HNA := Lib.hid hna
  have HNB := Lib.hid hnb
  rw [← hna] at hA3 hc1 ha30 ⊢
  rw [← hnb] at hB3 hc2 hb30 ⊢
  have HA3 := Lib.hid hA3
  have HB3 := Lib.hid hB3
  have HV := Lib.hid hv
  clear HA HB ha hbb hna hnb hA3 hB3 hv hb hgh H1 H2
  go_wp2_with fail
  go_loopg [6, 7] (min na nb) (fun j is i wr => ∃ q : Nat, j + q = min na nb ∧ i = .int .i64 (q : Int) ∧ is = .bool (isB a b q) ∧ Below W3.heap.size W3 wr)
  case atStart => exact ⟨0, by omega, rfl, congrArg Value.bool (by rw [isB_zero, ← HNA.out, ← HNB.out, Bool.eq_iff_iff]; simp; omega), Below.refl _ _⟩
  case round =>
    obtain ⟨q, hk, rfl, hib, hbl⟩ := hrel
    subst hib
    by_cases hlt : q < min na nb
    · obtain ⟨j, rfl⟩ : ∃ j, gk = j + 1 := ⟨gk - 1, by omega⟩
      have ha : q < a.length := by rw [← HNA.out]; omega
      have hb : q < b.length := by rw [← HNB.out]; omega
      obtain ⟨g1, o1, rfl, hg1, x1⟩ := (HA3.out.below hbl).get (i := q) ha
      obtain ⟨g2, o2, rfl, hg2, x2⟩ := (HB3.out.below hbl).get (i := q) hb
      have hsu := isB_succ ha hb
      obtain ⟨s, hs⟩ : ∃ s, s = a[q] := ⟨_, rfl⟩
      obtain ⟨t, ht⟩ : ∃ t, t = b[q] := ⟨_, rfl⟩
      rw [← hs] at x1 hsu
      rw [← ht] at x2 hsu
      have u2 : (0 : Int) ≤ (q : Int) := by omega
      have u3 : (q : Int) < (na : Int) := by omega
      have u4 : (q : Int) < (nb : Int) := by omega
      have hkj : j + (q + 1) = min na nb := by omega
      have HKJ := Lib.hid hkj
      have HBL := Lib.hid hbl
      have HSU := Lib.hid hsu
      have hq30 : q ≤ 30 := by omega
      have hbe := str_beq2 s t
      obtain ⟨c, hcc⟩ : ∃ c, c = decide (s = t) := ⟨_, rfl⟩
      rw [← hcc] at hbe
      have HCC := Lib.hid hcc
      obtain ⟨ib, hib⟩ : ∃ c, c = isB a b q := ⟨_, rfl⟩
      rw [← hib]
      have HIB := Lib.hid hib
      clear hs ht hsu hk hlt hkj hcc hib ha hb hbl
      cases ib with
      | true =>
        go_wp2_with fail
        go_quiet (fail)
        go_wp2_with fail
        go_roundg j
        case measure => omega
        case rel => exact ⟨q + 1, HKJ.out, by go_num, congrArg Value.bool (by rw [HSU.out, ← HIB.out, ← HCC.out]; rfl), bdrewN HBL.out _⟩
      | false =>
        go_wp2_with fail
        go_quiet (fail)
        go_wp2_with fail
        go_roundg j
        case measure => omega
        case rel => exact ⟨q + 1, HKJ.out, by go_num, congrArg Value.bool (by rw [HSU.out, ← HIB.out]; rfl), bdrewN HBL.out _⟩
    · obtain rfl : gk = 0 := by omega
      obtain rfl : q = min na nb := by omega
      have hie : isB a b (min na nb) = decide (a = b) := by rw [HNA.out, HNB.out, isB_end]
      have HIE := Lib.hid hie
      have HBL := Lib.hid hbl
      obtain ⟨ib, hib⟩ : ∃ c, c = isB a b (min na nb) := ⟨_, rfl⟩
      rw [← hib]
      have HIB := Lib.hid hib
      obtain ⟨q, hq⟩ : ∃ q, q = min na nb := ⟨_, rfl⟩
      rw [← hq]
      have hqe : q = na ∨ q = nb := by omega
      have hqa : q ≤ na := by omega
      have hqb : q ≤ nb := by omega
      have hr0 := (Ran.refl HV.out).below hbl
      have hA3 := HA3.out.below hbl
      have hB3 := HB3.out.below hbl
      have HN := Lib.hid (New_any vk_none _ g gh [] _ a wr hr0.vlt hA3 (by rw [← HNA.out]; omega) HAS.out (by decide))
      have HR0 := Lib.hid hr0
      have HB4 := Lib.hid hB3
      have HQ := Lib.hid (And.intro hqe (And.intro hqa hqb))
      have HB30 := Lib.hid hb30
      have HA30 := Lib.hid ha30
      clear hie hib hq hr0 hA3 hB3 hbl hk hlt hqe
      have hd : (q : Int) < (na : Int) ∧ ¬ (q : Int) < (nb : Int) ∨ ¬ (q : Int) < (na : Int) := by
        have := HQ.out
        omega
      clear HQ
      rcases hd with ⟨u3, u4⟩ | u3
      · go_wp2_with fail
        refine HN.out.mono ?_
        rintro e W5 ⟨gt, ks1, rows, vr, vs, rfl, hT, hM, hR⟩
        have hl1 := hR.len
        have hl2 := HNA.out
        simp only [List.length_nil] at hl1
        have HR5 := Lib.hid (HR0.out.trans hR)
        have HB5 := Lib.hid (HB4.out.ran HR0.out.vlt hR)
        have HRT := Lib.hid (Root_of vk_none _ _ gt g gh ks1 a rows vr vs W5 (by omega) hR.vlt hT hM (by omega))
        have hk5 : ks1.length ≤ 90 := by omega
        clear hl1 hl2 HN HR0 HB4 hT hM hR u3
        go_wp2_with fail
        refine HRT.out.mono ?_
        rintro e W6 ⟨ks2, r, rfl, hr, hR⟩
        have hl1 := hR.len
        have hk6 : ks2.length ≤ 91 := by omega
        have HRA := Lib.hid hr
        have HR6 := Lib.hid (HR5.out.trans hR)
        have HB6 := Lib.hid (HB5.out.ran HR5.out.vlt hR)
        have HN6 := Lib.hid (New_any vk_none _ g gh ks2 _ b W6 HR6.out.vlt HB6.out (by rw [← HNB.out]; omega) HBS.out (by omega))
        clear hl1 HRT HR5 HB5 hr hR
        go_wp2_with fail
        refine HN6.out.mono ?_
        rintro e W7 ⟨gt2, ks3, rows2, vr2, vs2, rfl, hT, hM, hR⟩
        have hl1 := hR.len
        have hl2 := HNB.out
        have HR7 := Lib.hid (HR6.out.trans hR)
        have HP7 := Lib.hid hR.pre
        have HRT := Lib.hid (Root_of vk_none _ _ gt2 g gh ks3 b rows2 vr2 vs2 W7 (by omega) hR.vlt hT hM (by omega))
        have hk7 : ks3.length ≤ 181 := by omega
        clear hl1 hl2 HN6 HR6 HB6 hT hM hR
        go_wp2_with fail
        refine HRT.out.mono ?_
        rintro e W8 ⟨ks4, s, rfl, hs, hR⟩
        have hl1 := hR.len
        have hbe : (r.toList == s.toList) = ib := by
          have hl2 := HNA.out
          have hl3 := HNB.out
          have hra := HRA.out.pre (HP7.out.trans hR.pre)
          rw [str_beq2, HIB.out, HIE.out, decide_eq_decide]
          constructor
          · intro he
            subst he
            exact RootR.inj (by omega) (by omega) (by omega) hra hs
          · intro he
            subst he
            exact hra.fn hs
        have HF := Lib.hid ((HR7.out.trans hR).below0 HB0.out HGH.out)
        clear hl1 HRT HR7 hs hR
        go_wp2_with fail
        refine (awake_any _).mono ?_
        rintro e W9 ⟨rfl, hb⟩
        have HF2 := Lib.hid (HF.out.trans (hb.mono HF.out.size))
        clear hb
        go_wp2_with fail
        go_ret
        exact ⟨rfl, HF2.out⟩
      · go_wp2_with fail
        refine HN.out.mono ?_
        rintro e W5 ⟨gt, ks1, rows, vr, vs, rfl, hT, hM, hR⟩
        have hl1 := hR.len
        have hl2 := HNA.out
        simp only [List.length_nil] at hl1
        have HR5 := Lib.hid (HR0.out.trans hR)
        have HB5 := Lib.hid (HB4.out.ran HR0.out.vlt hR)
        have HRT := Lib.hid (Root_of vk_none _ _ gt g gh ks1 a rows vr vs W5 (by omega) hR.vlt hT hM (by omega))
        have hk5 : ks1.length ≤ 90 := by omega
        clear hl1 hl2 HN HR0 HB4 hT hM hR u3
        go_wp2_with fail
        refine HRT.out.mono ?_
        rintro e W6 ⟨ks2, r, rfl, hr, hR⟩
        have hl1 := hR.len
        have hk6 : ks2.length ≤ 91 := by omega
        have HRA := Lib.hid hr
        have HR6 := Lib.hid (HR5.out.trans hR)
        have HB6 := Lib.hid (HB5.out.ran HR5.out.vlt hR)
        have HN6 := Lib.hid (New_any vk_none _ g gh ks2 _ b W6 HR6.out.vlt HB6.out (by rw [← HNB.out]; omega) HBS.out (by omega))
        clear hl1 HRT HR5 HB5 hr hR
        go_wp2_with fail
        refine HN6.out.mono ?_
        rintro e W7 ⟨gt2, ks3, rows2, vr2, vs2, rfl, hT, hM, hR⟩
        have hl1 := hR.len
        have hl2 := HNB.out
        have HR7 := Lib.hid (HR6.out.trans hR)
        have HP7 := Lib.hid hR.pre
        have HRT := Lib.hid (Root_of vk_none _ _ gt2 g gh ks3 b rows2 vr2 vs2 W7 (by omega) hR.vlt hT hM (by omega))
        have hk7 : ks3.length ≤ 181 := by omega
        clear hl1 hl2 HN6 HR6 HB6 hT hM hR
        go_wp2_with fail
        refine HRT.out.mono ?_
        rintro e W8 ⟨ks4, s, rfl, hs, hR⟩
        have hl1 := hR.len
        have hbe : (r.toList == s.toList) = ib := by
          have hl2 := HNA.out
          have hl3 := HNB.out
          have hra := HRA.out.pre (HP7.out.trans hR.pre)
          rw [str_beq2, HIB.out, HIE.out, decide_eq_decide]
          constructor
          · intro he
            subst he
            exact RootR.inj (by omega) (by omega) (by omega) hra hs
          · intro he
            subst he
            exact hra.fn hs
        have HF := Lib.hid ((HR7.out.trans hR).below0 HB0.out HGH.out)
        clear hl1 HRT HR7 hs hR
        go_wp2_with fail
        refine (awake_any _).mono ?_
        rintro e W9 ⟨rfl, hb⟩
        have HF2 := Lib.hid (HF.out.trans (hb.mono HF.out.size))
        clear hb
        go_wp2_with fail
        go_ret
        exact ⟨rfl, HF2.out⟩
end Go.Proofs.Ytjoilobbopdcpaa.B
