/-
  TreeBent.
-/
import Derived.Test.YtjoilobbopdcpaaTreeS
namespace Go.Proofs.Ytjoilobbopdcpaa.B
open Go.RowKit
set_option linter.unusedVariables false
set_option linter.unusedSimpArgs false

theorem stepSize : (Try.prog.info? 40).map (·.size) = some 2 := by kernel_rfl
theorem Row.there2 {w : World} {e : TypeId} {size n cap g : Nat} {xs : List Value} (h : Row w e size (.slice (some ⟨g, 0, none⟩) n cap) n xs) {o m : Nat} (hm : o + m ≤ n * size) : w.there g o m := by
  rcases h.2 with ⟨hz, _⟩ | ⟨g', cap', cur, lo, hi, he, hg, hf, hc, _, hs, _⟩
  · cases hz
  · simp at he
    obtain ⟨rfl, rfl⟩ := he
    have hle : n * size ≤ cap * size := Nat.mul_le_mul_right _ hc
    intro j hj
    refine ⟨?_, ?_⟩
    · rw [blk_cell hg, Array.getElem?_eq_getElem (by omega)]
      rfl
    · unfold World.frozen?
      simp only [hg]
      rcases hf with hf | hf
      · simp; omega
      · simp; omega
theorem PathM.set {b0 pn capp gp a : Nat} {path : List Stp} {svs : List Value} {W : World} {x : Stp} {sv : Value} (h : PathM b0 (.slice (some ⟨gp, 0, none⟩) pn capp) svs path W) (hpn : pn = path.length) (ha : a < path.length) (hw : in64 x.at') (hsv : Strs (W.setCells gp (a * 2) [.int .i64 x.at', sv]) sv x.sides) :
    StepsAt (W.setCells gp (a * 2) [.int .i64 x.at', sv]) (.slice (some ⟨gp, 0, none⟩) pn capp) (path.set a x) := by
  subst hpn
  have hr := h.outer.row
  have hth := hr.there2 (o := a * 2) (m := 2) (by omega)
  have hk : Keeps (fun i => i = gp) W (W.setCells gp (a * 2) [.int .i64 x.at', sv]) := Keeps.of_grown (setCells_grown gp _ _ W) (fun k hk => (Option.some.inj hk).symm)
  obtain ⟨g', cap', he, hc, hlt⟩ := hr.form_pos (by omega)
  simp at he
  obtain ⟨rfl, rfl⟩ := he
  refine ⟨_, capp, by rw [List.length_set], by rw [List.length_set]; exact hc, by rw [List.length_set]; exact h.small, fun _ => ⟨gp, 0, rfl, Nat.lt_of_lt_of_le hlt hk.size, fun i y hy => ?_⟩⟩
  rw [Nat.zero_add]
  by_cases hi : i = a
  · subst hi
    rw [List.getElem?_set_self ha] at hy
    cases hy
    have h0 := World.cell?_setCells_in gp [.int .i64 x.at', sv] (i * 2) W (fun j hj => (hth j hj).1) 0 (by simp)
    have h1 := World.cell?_setCells_in gp [.int .i64 x.at', sv] (i * 2) W (fun j hj => (hth j hj).1) 1 (by simp)
    exact ⟨hw, sv, h0, h1, hsv⟩
  · rw [List.getElem?_set_ne (fun e => hi e.symm)] at hy
    have hv : i < svs.length := by rw [h.len]; exact (List.getElem?_eq_some_iff.1 hy).1
    have hs := List.getElem?_eq_getElem hv
    obtain ⟨hw2, ho⟩ := h.inner i _ y hs hy
    obtain ⟨c1, c2⟩ := scells_get hy hs
    have hapart : ∀ d, d < 2 → (W.setCells gp (a * 2) [.int .i64 x.at', sv]).cell? ⟨gp, i * 2 + d, none⟩ = W.cell? ⟨gp, i * 2 + d, none⟩ := fun d hd =>
      World.cell?_setCells_out gp _ _ W ⟨gp, i * 2 + d, none⟩ (fun _ _ => by
        show i * 2 + d < a * 2 ∨ a * 2 + 2 ≤ i * 2 + d
        omega)
    refine ⟨hw2, _, (hapart 0 (by omega)).trans (hr.cells _ _ c1), (hapart 1 (by omega)).trans (hr.cells _ _ c2), ?_⟩
    exact Strs.of_row (ho.row.kept hk (fun b hb hs => hr.ne_row ho.row (by decide) (by rw [hs]; rfl) hb))
set_option maxRecDepth 100000 in
set_option maxHeartbeats 3200000 in
theorem treeBent_walk (v1 v2 : Value) (l1 : List ByteArray) (path : List Stp) (I at0 n0 place : Int) (s : ByteArray) (hI : in64 I) (hat : in64 at0) (hn0 : in64 n0) (hpl : in64 place) (hs : s.size ≤ maxLen) (w : World) (h1 : Strs w v1 l1) (h2 : StepsAt w v2 path) :
    Calls Try.prog 5 #[.agg #[v1, .int .i64 I, .string s, v2, .int .i64 at0, .int .i64 n0, .int .i64 place]] w fun e w' => e = .returned (.bool true) ∧ Below w.heap.size w w' := by
  obtain ⟨ao1, cap1, rfl, hc1, hm1⟩ := h1.form
  obtain ⟨ao2, cap2, rfl, hc2, hm2⟩ := h2.form
  obtain ⟨L, hL⟩ : ∃ L, L = path.length := ⟨_, rfl⟩
  rw [← hL] at h2 hc2 hm2 ⊢
  obtain ⟨m1, hM1⟩ : ∃ L, L = l1.length := ⟨_, rfl⟩
  rw [← hM1] at h1 hc1 hm1 ⊢
  obtain ⟨BX, hBX⟩ : ∃ o, o = Obj.cells #[.slice ao1 m1 cap1, .int .i64 I, .string s, .slice ao2 L cap2, .int .i64 at0, .int .i64 n0, .int .i64 place] 38 (0, 0) := ⟨_, rfl⟩
  have hb0 := (Below.refl _ w).alloc (Nat.le_refl _) BX
  have HS1 := Lib.hid (some_any 60 (by decide) _ l1 (w.alloc BX) (h1.below hb0))
  have H2 := Lib.hid h2
  have HL := Lib.hid hL
  have hL63 : L ≤ 9223372036854775807 := by unfold maxLen at hm2; omega
  have hs63 : s.size ≤ 9223372036854775807 := by unfold maxLen at hs; omega
  have hu := Try.underlying38
  have HB0 := Lib.hid hb0
  rw [hBX] at HS1 HB0
  clear h1 h2 hc1 hc2 hm1 hm2 hL hM1 hb0 hBX hs
  go_enter Try.func5, Try.ntmps5
  go_wp2_with fail
  refine HS1.out.mono ?_
  rintro e W1 ⟨v1', rfl, hA⟩
  obtain ⟨l, ha⟩ : ∃ a, a = someL l1 60 := ⟨_, rfl⟩
  have hl60 : l.length ≤ 60 := by rw [ha, someL_len]; omega
  have HAS := Lib.hid (show ∀ s ∈ l, s.size ≤ 64 by rw [ha]; exact someL_size)
  rw [← ha] at hA
  obtain ⟨ao1', cap1', rfl, hcp⟩ := hA.row.form
  have HA := Lib.hid hA
  have hbx := (hA.below.block w.heap.size (by simp)).trans (get_top rfl)
  have d0 := (blk_cell hbx 0).trans rfl
  have d1 := (blk_cell hbx 1).trans rfl
  have d2 := (blk_cell hbx 2).trans rfl
  have d3 := (blk_cell hbx 3).trans rfl
  have d4 := (blk_cell hbx 4).trans rfl
  have d5 := (blk_cell hbx 5).trans rfl
  have d6 := (blk_cell hbx 6).trans rfl
  have hbl := blk_lt hbx
  have HB1 := Lib.hid (HB0.out.trans (hA.below.mono HB0.out.size))
  clear hA HS1 ha hbx HB0
  go_wp2_with fail
  go_quiet (fail)
  have hb1' := bdrewN HB1.out nq
  have hA1' := (Strs.of_row HA.out.row).below (bdrewN (Below.refl _ W1) nq)
  generalize W1.drewN nq = W1' at hb1' hA1' ⊢
  have HB1' := Lib.hid hb1'
  have HA1' := Lib.hid hA1'
  clear hb1' hA1' HA HB1 d0 d1 d2 d3 d4 d5 d6 hbl hu
  by_cases hbig : 64 < s.size
  · have z1 : (64 : Int) < (s.size : Int) := by omega
    go_wp2_with fail
    refine (awake_any _).mono ?_
    rintro e W9 ⟨rfl, hb⟩
    have HF2 := Lib.hid (HB1'.out.trans (hb.mono HB1'.out.size))
    clear hb
    go_wp2_with fail
    go_ret
    exact ⟨rfl, HF2.out⟩
  have z1 : ¬ (64 : Int) < (s.size : Int) := by omega
  by_cases hbig2 : 12 < L
  · have z2 : (12 : Int) < (L : Int) := by omega
    go_wp2_with fail
    refine (awake_any _).mono ?_
    rintro e W9 ⟨rfl, hb⟩
    have HF2 := Lib.hid (HB1'.out.trans (hb.mono HB1'.out.size))
    clear hb
    go_wp2_with fail
    go_ret
    exact ⟨rfl, HF2.out⟩
  have z2 : ¬ (12 : Int) < (L : Int) := by omega
  go_wp2_with fail
  refine (Ideal_any W1').mono ?_
  rintro e W3 ⟨g, gh, rfl, hv, hb, hgh⟩
  have hA3 := HA1'.out.below hb
  have HA3 := Lib.hid hA3
  have HB0 := Lib.hid (HB1'.out.trans (hb.mono HB1'.out.size))
  have HGH := Lib.hid (Nat.le_trans HB1'.out.size hgh)
  have HV := Lib.hid hv
  have HNW := Lib.hid (New_any vk_none _ g gh [] _ l W3 hv hA3 (by omega) (fun s hs => by have := HAS.out s hs; omega) (by decide))
  clear hA3 hv hb hgh HA1' HB1'
  go_wp2_with fail
  refine HNW.out.mono ?_
  rintro e W5 ⟨gt, ks1, rows, vr, vs, rfl, hT, hM, hR⟩
  have hk := hR.len
  simp only [List.length_nil] at hk
  have HT := Lib.hid hT
  have HM := Lib.hid hM
  have HR := Lib.hid hR
  have HA5 := Lib.hid (HA3.out.ran HV.out hR)
  have hk5 : ks1.length ≤ 180 := by omega
  clear hk HNW HA3 hT hM hR
  obtain ⟨n, hn⟩ : ∃ n, n = l.length := ⟨_, rfl⟩
  have HN := Lib.hid hn
  rw [← hn] at hl60 hcp HA5 ⊢
  by_cases hout : I < 0 ∨ (n : Int) ≤ I
  · have HP := Lib.hid (Path_out _ gt g rows vr vs W5 HM.out HT.out.pos (by have := HT.out.count; omega) I (by rw [HT.out.len0, ← hn]; exact hout))
    have HPT := Lib.hid ((H2.out.below HB0.out).ran HV.out HR.out)
    have HF := Lib.hid (HR.out.below0 HB0.out HGH.out)
    have HV6 := Lib.hid HR.out.vlt
    have HM6 := Lib.hid HM.out
    have HA6 := Lib.hid HA5.out
    have HPL6 := Lib.hid (show path.length ≤ 100 by rw [← HL.out]; omega)
    clear hn hout HB0 HR HM HA5
    go_wp2_with fail
    refine HP.out.mono ?_
    rintro e W6 ⟨rfl, rfl⟩
    clear HP
    go_wp2_with fail
    refine (Root_of vk_none _ _ gt g gh ks1 l rows vr vs W6 (by rw [← HN.out]; omega) HV6.out HT.out HM6.out (by omega)).mono ?_
    rintro e W7 ⟨ks2, r, rfl, hr, hR⟩
    have hk7 : ks2.length ≤ 181 := by have := hR.len; omega
    have HRR := Lib.hid (hr.hd (HT.out.pre hR.pre))
    have HF7 := Lib.hid (hR.below0 HF.out HGH.out)
    have HV7 := Lib.hid hR.vlt
    have HA7 := Lib.hid (HA6.out.ran HV6.out hR)
    have HPT7 := Lib.hid (HPT.out.ran HV6.out hR)
    have HP7 := Lib.hid hR.pre
    clear hr hR
    go_wp2_with fail
    refine (Check_any vk_none _ g gh ks2 r n0 place hn0 hpl s (by omega) _ path (by have := HPL6.out; omega) W7 HV7.out HPT7.out (by omega)).mono ?_
    rintro e W8 ⟨ks3, b, rfl, hc, hR⟩
    have hk8 : ks3.length ≤ 1000 := by have := hR.len; have := HPL6.out; omega
    have HF8 := Lib.hid (hR.below0 HF7.out HGH.out)
    have HA8 := Lib.hid (HA7.out.ran HV7.out hR)
    have HC := Lib.hid hc
    have HR8 := Lib.hid hR
    clear hc hR
    cases b with
    | false =>
      go_wp2_with fail
      refine (awake_any _).mono ?_
      rintro e W9 ⟨rfl, hb⟩
      have HF2 := Lib.hid (HF8.out.trans (hb.mono HF8.out.size))
      clear hb
      go_wp2_with fail
      go_ret
      exact ⟨rfl, HF2.out⟩
    | true =>
      obtain ⟨hnn, hp0, hpn, hget⟩ := CheckR.bent (by omega) ((HT.out.pre HP7.out).pre HR8.out.pre) (by rw [← HN.out]; omega) (HRR.out.pre HR8.out.pre) HC.out
      obtain ⟨q, rfl⟩ : ∃ q : Nat, place = (q : Int) := ⟨place.toNat, by omega⟩
      rw [← HN.out] at hnn
      subst hnn
      have hql : q < l.length := by rw [← HN.out]; omega
      have HAQ := Lib.hid (HA8.out.get (i := q) hql)
      obtain ⟨gq, oq, hao, hgq, xq⟩ := HAQ.out
      subst hao
      have hqs : l[q]'hql = s := by simpa [List.getElem?_eq_getElem hql] using hget
      rw [hqs] at xq
      clear hget hqs HC hql HAQ
      go_wp2_with fail
      refine (awake_any _).mono ?_
      rintro e W9 ⟨rfl, hb⟩
      have HF2 := Lib.hid (HF8.out.trans (hb.mono HF8.out.size))
      clear hb
      go_wp2_with fail
      go_ret
      exact ⟨rfl, HF2.out⟩
  obtain ⟨m, rfl⟩ : ∃ m : Nat, I = (m : Int) := ⟨I.toNat, by omega⟩
  have hml : m < l.length := by omega
  have HP := Lib.hid (Path_any _ gt g ks1 l rows vr vs W5 HT.out HM.out (by omega) m hml)
  clear hout hn hml hI
  go_wp2_with fail
  refine HP.out.mono ?_
  rintro e W6 ⟨vp, svs, rfl, hp, hb6⟩
  have HF := Lib.hid ((HR.out.below0 HB0.out HGH.out).trans (hb6.mono (HR.out.below0 HB0.out HGH.out).size))
  have HV6 := Lib.hid (HR.out.below hb6).vlt
  have HM6 := Lib.hid (HM.out.below hb6)
  have HA6 := Lib.hid (HA5.out.below hb6)
  have HPL6 := Lib.hid (show (pathR rows m).length ≤ 100 by
    have h1 := pathR_len rows m
    have h2 := HT.out.count
    rw [← HN.out] at h2
    omega)
  have HPM := Lib.hid hp
  have HPT := Lib.hid hp.steps
  have HB6 := Lib.hid hb6
  have H26 := Lib.hid (((H2.out.below HB0.out).ran HV.out HR.out).below hb6)
  obtain ⟨aop, capp, rfl, hpc⟩ := hp.outer.row.form
  obtain ⟨pn, hpn⟩ : ∃ n, n = (pathR rows m).length := ⟨_, rfl⟩
  have HPN := Lib.hid hpn
  have hpn100 : pn ≤ 100 := by rw [hpn]; exact HPL6.out
  rw [← hpn] at hpc HPT HPM ⊢
  clear hp hb6 HP hpn
  by_cases a1 : at0 < 0
  · have a1' : ¬ 0 ≤ at0 := by omega
    go_wp2_with fail
    refine (Root_of vk_none _ _ gt g gh ks1 l rows vr vs W6 (by rw [← HN.out]; omega) HV6.out HT.out HM6.out (by omega)).mono ?_
    rintro e W7 ⟨ks2, r, rfl, hr, hR⟩
    have hk7 : ks2.length ≤ 181 := by have := hR.len; omega
    have HRR := Lib.hid (hr.hd (HT.out.pre hR.pre))
    have HF7 := Lib.hid (hR.below0 HF.out HGH.out)
    have HV7 := Lib.hid hR.vlt
    have HA7 := Lib.hid (HA6.out.ran HV6.out hR)
    have HPT7 := Lib.hid (HPT.out.ran HV6.out hR)
    have HP7 := Lib.hid hR.pre
    clear hr hR
    go_wp2_with fail
    refine (Check_any vk_none _ g gh ks2 r n0 place hn0 hpl s (by omega) _ _ (by have := HPL6.out; omega) W7 HV7.out HPT7.out (by omega)).mono ?_
    rintro e W8 ⟨ks3, b, rfl, hc, hR⟩
    have hk8 : ks3.length ≤ 1000 := by have := hR.len; have := HPL6.out; omega
    have HF8 := Lib.hid (hR.below0 HF7.out HGH.out)
    have HA8 := Lib.hid (HA7.out.ran HV7.out hR)
    have HC := Lib.hid hc
    have HR8 := Lib.hid hR
    clear hc hR
    cases b with
    | false =>
      go_wp2_with fail
      refine (awake_any _).mono ?_
      rintro e W9 ⟨rfl, hb⟩
      have HF2 := Lib.hid (HF8.out.trans (hb.mono HF8.out.size))
      clear hb
      go_wp2_with fail
      go_ret
      exact ⟨rfl, HF2.out⟩
    | true =>
      obtain ⟨hnn, hp0, hpn, hget⟩ := CheckR.bent (by omega) ((HT.out.pre HP7.out).pre HR8.out.pre) (by rw [← HN.out]; omega) (HRR.out.pre HR8.out.pre) HC.out
      obtain ⟨q, rfl⟩ : ∃ q : Nat, place = (q : Int) := ⟨place.toNat, by omega⟩
      rw [← HN.out] at hnn
      subst hnn
      have hql : q < l.length := by rw [← HN.out]; omega
      have HAQ := Lib.hid (HA8.out.get (i := q) hql)
      obtain ⟨gq, oq, hao, hgq, xq⟩ := HAQ.out
      subst hao
      have hqs : l[q]'hql = s := by simpa [List.getElem?_eq_getElem hql] using hget
      rw [hqs] at xq
      clear hget hqs HC hql HAQ
      go_wp2_with fail
      refine (awake_any _).mono ?_
      rintro e W9 ⟨rfl, hb⟩
      have HF2 := Lib.hid (HF8.out.trans (hb.mono HF8.out.size))
      clear hb
      go_wp2_with fail
      go_ret
      exact ⟨rfl, HF2.out⟩
  have a1' : 0 ≤ at0 := by omega
  by_cases a2 : (pn : Int) ≤ at0
  · have a2' : ¬ at0 < (pn : Int) := by omega
    go_wp2_with fail
    refine (Root_of vk_none _ _ gt g gh ks1 l rows vr vs W6 (by rw [← HN.out]; omega) HV6.out HT.out HM6.out (by omega)).mono ?_
    rintro e W7 ⟨ks2, r, rfl, hr, hR⟩
    have hk7 : ks2.length ≤ 181 := by have := hR.len; omega
    have HRR := Lib.hid (hr.hd (HT.out.pre hR.pre))
    have HF7 := Lib.hid (hR.below0 HF.out HGH.out)
    have HV7 := Lib.hid hR.vlt
    have HA7 := Lib.hid (HA6.out.ran HV6.out hR)
    have HPT7 := Lib.hid (HPT.out.ran HV6.out hR)
    have HP7 := Lib.hid hR.pre
    clear hr hR
    go_wp2_with fail
    refine (Check_any vk_none _ g gh ks2 r n0 place hn0 hpl s (by omega) _ _ (by have := HPL6.out; omega) W7 HV7.out HPT7.out (by omega)).mono ?_
    rintro e W8 ⟨ks3, b, rfl, hc, hR⟩
    have hk8 : ks3.length ≤ 1000 := by have := hR.len; have := HPL6.out; omega
    have HF8 := Lib.hid (hR.below0 HF7.out HGH.out)
    have HA8 := Lib.hid (HA7.out.ran HV7.out hR)
    have HC := Lib.hid hc
    have HR8 := Lib.hid hR
    clear hc hR
    cases b with
    | false =>
      go_wp2_with fail
      refine (awake_any _).mono ?_
      rintro e W9 ⟨rfl, hb⟩
      have HF2 := Lib.hid (HF8.out.trans (hb.mono HF8.out.size))
      clear hb
      go_wp2_with fail
      go_ret
      exact ⟨rfl, HF2.out⟩
    | true =>
      obtain ⟨hnn, hp0, hpn, hget⟩ := CheckR.bent (by omega) ((HT.out.pre HP7.out).pre HR8.out.pre) (by rw [← HN.out]; omega) (HRR.out.pre HR8.out.pre) HC.out
      obtain ⟨q, rfl⟩ : ∃ q : Nat, place = (q : Int) := ⟨place.toNat, by omega⟩
      rw [← HN.out] at hnn
      subst hnn
      have hql : q < l.length := by rw [← HN.out]; omega
      have HAQ := Lib.hid (HA8.out.get (i := q) hql)
      obtain ⟨gq, oq, hao, hgq, xq⟩ := HAQ.out
      subst hao
      have hqs : l[q]'hql = s := by simpa [List.getElem?_eq_getElem hql] using hget
      rw [hqs] at xq
      clear hget hqs HC hql HAQ
      go_wp2_with fail
      refine (awake_any _).mono ?_
      rintro e W9 ⟨rfl, hb⟩
      have HF2 := Lib.hid (HF8.out.trans (hb.mono HF8.out.size))
      clear hb
      go_wp2_with fail
      go_ret
      exact ⟨rfl, HF2.out⟩
  have a2' : at0 < (pn : Int) := by omega
  by_cases a3 : (L : Int) ≤ at0
  · have a3' : ¬ at0 < (L : Int) := by omega
    go_wp2_with fail
    refine (Root_of vk_none _ _ gt g gh ks1 l rows vr vs W6 (by rw [← HN.out]; omega) HV6.out HT.out HM6.out (by omega)).mono ?_
    rintro e W7 ⟨ks2, r, rfl, hr, hR⟩
    have hk7 : ks2.length ≤ 181 := by have := hR.len; omega
    have HRR := Lib.hid (hr.hd (HT.out.pre hR.pre))
    have HF7 := Lib.hid (hR.below0 HF.out HGH.out)
    have HV7 := Lib.hid hR.vlt
    have HA7 := Lib.hid (HA6.out.ran HV6.out hR)
    have HPT7 := Lib.hid (HPT.out.ran HV6.out hR)
    have HP7 := Lib.hid hR.pre
    clear hr hR
    go_wp2_with fail
    refine (Check_any vk_none _ g gh ks2 r n0 place hn0 hpl s (by omega) _ _ (by have := HPL6.out; omega) W7 HV7.out HPT7.out (by omega)).mono ?_
    rintro e W8 ⟨ks3, b, rfl, hc, hR⟩
    have hk8 : ks3.length ≤ 1000 := by have := hR.len; have := HPL6.out; omega
    have HF8 := Lib.hid (hR.below0 HF7.out HGH.out)
    have HA8 := Lib.hid (HA7.out.ran HV7.out hR)
    have HC := Lib.hid hc
    have HR8 := Lib.hid hR
    clear hc hR
    cases b with
    | false =>
      go_wp2_with fail
      refine (awake_any _).mono ?_
      rintro e W9 ⟨rfl, hb⟩
      have HF2 := Lib.hid (HF8.out.trans (hb.mono HF8.out.size))
      clear hb
      go_wp2_with fail
      go_ret
      exact ⟨rfl, HF2.out⟩
    | true =>
      obtain ⟨hnn, hp0, hpn, hget⟩ := CheckR.bent (by omega) ((HT.out.pre HP7.out).pre HR8.out.pre) (by rw [← HN.out]; omega) (HRR.out.pre HR8.out.pre) HC.out
      obtain ⟨q, rfl⟩ : ∃ q : Nat, place = (q : Int) := ⟨place.toNat, by omega⟩
      rw [← HN.out] at hnn
      subst hnn
      have hql : q < l.length := by rw [← HN.out]; omega
      have HAQ := Lib.hid (HA8.out.get (i := q) hql)
      obtain ⟨gq, oq, hao, hgq, xq⟩ := HAQ.out
      subst hao
      have hqs : l[q]'hql = s := by simpa [List.getElem?_eq_getElem hql] using hget
      rw [hqs] at xq
      clear hget hqs HC hql HAQ
      go_wp2_with fail
      refine (awake_any _).mono ?_
      rintro e W9 ⟨rfl, hb⟩
      have HF2 := Lib.hid (HF8.out.trans (hb.mono HF8.out.size))
      clear hb
      go_wp2_with fail
      go_ret
      exact ⟨rfl, HF2.out⟩
  obtain ⟨a, rfl⟩ : ∃ a : Nat, at0 = (a : Int) := ⟨at0.toNat, by omega⟩
  have a3' : (a : Int) < (L : Int) := by omega
  have hap : a < path.length := by rw [← HL.out]; omega
  have han : a < (pathR rows m).length := by rw [← HPN.out]; omega
  have H25 := Lib.hid ((H2.out.below HB0.out).ran HV.out HR.out)
  obtain ⟨g2, o2, sv, rfl, hg2, hxw, c15, c25, hst⟩ := H25.out.get (i := a) hap
  obtain ⟨x, hx⟩ : ∃ x, x = path[a] := ⟨_, rfl⟩
  rw [← hx] at hxw c15 hst
  have c1 := (HB6.out.cell (p := ⟨g2, o2 + a * 2, none⟩) hg2).trans c15
  have c2 := (HB6.out.cell (p := ⟨g2, o2 + a * 2 + 1, none⟩) hg2).trans c25
  have hg26 : g2 < W6.heap.size := Nat.lt_of_lt_of_le hg2 HB6.out.size
  have hpm := HPM.out.outer.row
  rw [← HPN.out] at hpm
  have hpo := HPM.out.outer.base
  obtain ⟨gp, capp', he, hcp', hgp⟩ := hpm.form_pos (by omega)
  simp at he
  obtain ⟨rfl, rfl⟩ := he
  have hgb := hpo gp rfl
  obtain ⟨aos, caps, rfl, hcs, hms⟩ := hst.form
  have HTH := Lib.hid (hpm.there2 (o := a * 2) (m := 2) (by omega))
  have u1 : (0 : Int) ≤ (a : Int) := by omega
  have hu2 := Try.underlying40
  have HXW := Lib.hid hxw
  have HST := Lib.hid hst
  have HHAN := Lib.hid han
  have HGB := Lib.hid hgb
  have HGP := Lib.hid hgp
  clear hpm hpo hgb hst hxw hx hap han c15 c25 hcp' H26 H25 HF HV6 HM6 HA6 HPL6 HPT
  go_wp2_with (refine wpList_store_mid (by rfl) _ _ _ (by rfl) gp (a * 2) #[.int .i64 x.at', .slice aos x.sides.length caps] (by rfl) (by rfl) HTH.out stepSize (by simp [Value.oneCell']) ?_; have HK := Lib.hid (setCells_grown gp [.int .i64 x.at', .slice aos x.sides.length caps] (a * 2) W6))
  have hk := Keeps.of_grown (S := fun i => i = gp) HK.out (fun k hk => (Option.some.inj hk).symm)
  have hgb := HGB.out
  have hb7 : Below W5.heap.size W5 (W6.setCells gp (a * 2) [.int .i64 x.at', .slice aos x.sides.length caps]) :=
    ⟨hk.os.trans HB6.out.os, hk.tape.trans HB6.out.tape, hk.output.trans HB6.out.output, Nat.le_trans HB6.out.size hk.size, fun i hi => (hk.block i (Nat.lt_of_lt_of_le hi HB6.out.size) (by omega)).trans (HB6.out.block i hi)⟩
  have hpt := PathM.set HPM.out HPN.out HHAN.out HXW.out (HST.out.below hb7)
  have HPL6 := Lib.hid (show ((pathR rows m).set a x).length ≤ 100 by rw [List.length_set, ← HPN.out]; omega)
  clear hk hgb HK HTH
  generalize (W6.setCells gp (a * 2) [.int .i64 x.at', .slice aos x.sides.length caps]) = W6 at hb7 hpt ⊢
  clear HB6 hgp HGP c1 c2 hg26 hg2 HPM HGB
  have HF := Lib.hid ((HR.out.below0 HB0.out HGH.out).trans (hb7.mono (HR.out.below0 HB0.out HGH.out).size))
  have HV6 := Lib.hid (HR.out.below hb7).vlt
  have HM6 := Lib.hid (HM.out.below hb7)
  have HA6 := Lib.hid (HA5.out.below hb7)
  have HPT := Lib.hid hpt
  clear hb7 hpt
  refine (Root_of vk_none _ _ gt g gh ks1 l rows vr vs W6 (by rw [← HN.out]; omega) HV6.out HT.out HM6.out (by omega)).mono ?_
  rintro e W7 ⟨ks2, r, rfl, hr, hR⟩
  have hk7 : ks2.length ≤ 181 := by have := hR.len; omega
  have HRR := Lib.hid (hr.hd (HT.out.pre hR.pre))
  have HF7 := Lib.hid (hR.below0 HF.out HGH.out)
  have HV7 := Lib.hid hR.vlt
  have HA7 := Lib.hid (HA6.out.ran HV6.out hR)
  have HPT7 := Lib.hid (HPT.out.ran HV6.out hR)
  have HP7 := Lib.hid hR.pre
  clear hr hR
  go_wp2_with fail
  refine (Check_any vk_none _ g gh ks2 r n0 place hn0 hpl s (by omega) _ _ (by have := HPL6.out; omega) W7 HV7.out HPT7.out (by omega)).mono ?_
  rintro e W8 ⟨ks3, b, rfl, hc, hR⟩
  have hk8 : ks3.length ≤ 1000 := by have := hR.len; have := HPL6.out; omega
  have HF8 := Lib.hid (hR.below0 HF7.out HGH.out)
  have HA8 := Lib.hid (HA7.out.ran HV7.out hR)
  have HC := Lib.hid hc
  have HR8 := Lib.hid hR
  clear hc hR
  cases b with
  | false =>
    go_wp2_with fail
    refine (awake_any _).mono ?_
    rintro e W9 ⟨rfl, hb⟩
    have HF2 := Lib.hid (HF8.out.trans (hb.mono HF8.out.size))
    clear hb
    go_wp2_with fail
    go_ret
    exact ⟨rfl, HF2.out⟩
  | true =>
    obtain ⟨hnn, hp0, hpn, hget⟩ := CheckR.bent (by omega) ((HT.out.pre HP7.out).pre HR8.out.pre) (by rw [← HN.out]; omega) (HRR.out.pre HR8.out.pre) HC.out
    obtain ⟨q, rfl⟩ : ∃ q : Nat, place = (q : Int) := ⟨place.toNat, by omega⟩
    rw [← HN.out] at hnn
    subst hnn
    have hql : q < l.length := by rw [← HN.out]; omega
    have HAQ := Lib.hid (HA8.out.get (i := q) hql)
    obtain ⟨gq, oq, hao, hgq, xq⟩ := HAQ.out
    subst hao
    have hqs : l[q]'hql = s := by simpa [List.getElem?_eq_getElem hql] using hget
    rw [hqs] at xq
    clear hget hqs HC hql HAQ
    go_wp2_with fail
    refine (awake_any _).mono ?_
    rintro e W9 ⟨rfl, hb⟩
    have HF2 := Lib.hid (HF8.out.trans (hb.mono HF8.out.size))
    clear hb
    go_wp2_with fail
    go_ret
    exact ⟨rfl, HF2.out⟩
end Go.Proofs.Ytjoilobbopdcpaa.B
