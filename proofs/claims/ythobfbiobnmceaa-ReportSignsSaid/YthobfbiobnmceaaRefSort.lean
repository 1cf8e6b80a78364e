/-
  The document's Sort and Rises, walked by hand.
-/
import Derived.Test.YthobfbiobnmceaaRef14
namespace Go.Proofs.Ythobfbiobnmceaa.B
open Go.RowKit
set_option linter.unusedVariables false
set_option linter.unusedSimpArgs false

theorem fcells_app (l : List Four) (f : Four) : fcells (l ++ [f]) = fcells l ++ [.int .i64 f.a, .int .i64 f.b, .int .i64 f.c, .int .i64 f.d] := by simp [fcells, Four.cells]
/-- The findings that are sorted so far. -/
structure SrtO (w : World) (l : List Four) (q m : Nat) (v : Value) (O : List Four) (W : World) : Prop where
  out : Loc w W 54 4 v m (fcells O)
  len : m = O.length
  ext : sortL (l.drop q) O = sortL l []
  wf : ∀ f ∈ O, f.wf
  le : m ≤ q
/-- One finding's insertion so far. -/
structure SrtI (w : World) (x : Four) (O : List Four) (p m : Nat) (v : Value) (N : List Four) (d : Bool) (W : World) : Prop where
  out : Loc w W 54 4 v m (fcells N)
  len : m = N.length
  ext : insL x (O.drop p) N d = insL x O [] false
  wf : ∀ f ∈ N, f.wf
  le : m ≤ p + (if d = true then 1 else 0)
theorem wf_snoc {N : List Four} {x : Four} (h : ∀ f ∈ N, f.wf) (hx : x.wf) : ∀ f ∈ N ++ [x], f.wf := by
  intro f hf
  rcases List.mem_append.1 hf with h1 | h1
  · exact h f h1
  · rw [List.mem_singleton.1 h1]; exact hx
theorem insL_t (x y : Four) (r N : List Four) : insL x (y :: r) N true = insL x r (if one y x = true then N else N ++ [y]) true := by rw [insL, if_pos rfl]
theorem insL_fa (x y : Four) (r N : List Four) (h : ahead y x = true) : insL x (y :: r) N false = insL x r (if one y x = true then N else N ++ [y]) false := by rw [insL, if_neg (by simp), if_pos h]
theorem insL_fb (x y : Four) (r N : List Four) (h : ahead y x = false) : insL x (y :: r) N false = insL x r (if one y x = true then N ++ [x] else N ++ [x] ++ [y]) true := by rw [insL, if_neg (by simp), if_neg (by simp [h])]
set_option maxRecDepth 100000 in
set_option maxHeartbeats 6400000 in
theorem Sort_any (v0 : Value) (l : List Four) (hl : l.length ≤ 1000) (w : World) (h : FndRow w v0 l) :
    Calls Try.prog 45 #[v0] w fun e w' => ∃ v m, e = .returned v ∧ m = (sortL l []).length ∧ Loc w w' 54 4 v m (fcells (sortL l [])) ∧ (∀ f ∈ sortL l [], f.wf) ∧ m ≤ l.length := by
  obtain ⟨ao0, cap0, rfl, hcap, hmax⟩ := h.form
  have hu54 := Try.underlying54
  have HWF := Lib.hid h.in64
  obtain ⟨n, hn⟩ : ∃ n, n = l.length := ⟨_, rfl⟩
  rw [← hn] at h hcap hl ⊢
  have HN := Lib.hid hn
  have H := Lib.hid h
  have HI0 := Lib.hid (show SrtO w l 0 0 (.slice none 0 0) [] w from ⟨Loc.nil (Below.refl _ _) _ _, rfl, by rw [List.drop_zero], by simp, Nat.le_refl _⟩)
  obtain ⟨i0, hi, hz0, hz1, hz2⟩ := info_parts infoFinding
  have HII := Lib.hid hi
  have HZ0 := Lib.hid hz0
  have HZ1 := Lib.hid hz1
  have HZ2 := Lib.hid hz2
  clear h hmax hn hi hz0 hz1 hz2
  go_enter Try.func45, Try.ntmps45
  go_wp2_with fail
  go_loopg [3, 4] n (fun j o i wr => ∃ (q m : Nat) (v : Value) (O : List Four), j + q = n ∧ i = .int .i64 (q : Int) ∧ o = v ∧ SrtO w l q m v O wr)
  case atStart => exact ⟨0, 0, _, [], by omega, rfl, rfl, HI0.out⟩
  case round =>
    clear HI0
    obtain ⟨q, m, v, O, hk, rfl, hov, hI⟩ := hrel
    have hov := hov.symm
    subst hov
    obtain ⟨ao, cap, rfl, hcv⟩ := hI.out.row.form
    by_cases hlt : q < n
    · obtain ⟨j, rfl⟩ : ∃ j, gk = j + 1 := ⟨gk - 1, by omega⟩
      have hkj : j + (q + 1) = n := by omega
      have HKJ := Lib.hid hkj
      have hlen : q < l.length := by rw [← HN.out]; exact hlt
      obtain ⟨g2, o2, rfl, hg2, _, hc2⟩ := H.out.get (i := q) hlen
      obtain ⟨x, hx⟩ : ∃ x, x = l.getD q .zero := ⟨_, rfl⟩
      have hxl : l.drop q = x :: l.drop (q + 1) := by rw [List.drop_eq_getElem_cons hlen, hx]; simp [List.getD, hlen]
      have HXW := Lib.hid (HWF.out x (by rw [hx]; simp [List.getD, hlen]))
      have e2 := hc2 q hlen
      rw [← hx] at e2
      have HX := Lib.hid (And.intro (e2 0 _ rfl) (And.intro (e2 1 _ rfl) (And.intro (e2 2 _ rfl) (e2 3 _ rfl))))
      have hmq := hI.le
      have u2 : (0 : Int) ≤ (q : Int) := by omega
      have u3 : (q : Int) < (n : Int) := by omega
      have hq1000 : q ≤ 1000 := by omega
      have hm1000 : m ≤ 1000 := by omega
      have HI := Lib.hid hI
      have HXL := Lib.hid hxl
      have HJ0 := Lib.hid (show SrtI wr x O 0 0 (.slice none 0 0) [] false wr from ⟨Loc.nil (Below.refl _ _) _ _, rfl, by rw [List.drop_zero], by simp, Nat.zero_le _⟩)
      clear hI hk hkj hx hxl e2 hc2 hlt
      clear hlen
      go_wp2_with fail
      obtain ⟨W6, rfl⟩ : ∃ W6, W6 = wr := ⟨_, rfl⟩
      go_loopg [5, 6, 7] m (fun j nx dn kk wr => ∃ (p m2 : Nat) (v2 : Value) (N : List Four) (d : Bool), j + p = m ∧ kk = .int .i64 (p : Int) ∧ nx = v2 ∧ dn = .bool d ∧ SrtI W6 x O p m2 v2 N d wr)
      case atStart => exact ⟨0, 0, _, [], false, by omega, rfl, rfl, rfl, HJ0.out⟩
      case round =>
        clear HJ0
        obtain ⟨p, m2, v2, N, d, hkp, rfl, hv2, hd, hJ⟩ := hrel
        have hv2 := hv2.symm
        subst hv2
        subst hd
        obtain ⟨ao2, cap2, rfl, hcv2⟩ := hJ.out.row.form
        have hm2 := hJ.le
        have hm21000 : m2 ≤ 2000 := by
          have : (if d = true then 1 else 0) ≤ 1 := by split <;> omega
          omega
        by_cases hlp : p < m
        · obtain ⟨j2, rfl⟩ : ∃ j, gk = j + 1 := ⟨gk - 1, by omega⟩
          have hkj : j2 + (p + 1) = m := by omega
          have HKJ2 := Lib.hid hkj
          obtain ⟨g1, c1, he, hcc, hlt1⟩ := HI.out.out.row.form_pos (by omega)
          simp at he
          obtain ⟨rfl, rfl⟩ := he
          have hpl : p < O.length := by rw [← HI.out.len]; exact hlp
          obtain ⟨y, hy⟩ : ∃ y, y = O[p] := ⟨_, rfl⟩
          have hdr : O.drop p = y :: O.drop (p + 1) := by rw [List.drop_eq_getElem_cons hpl, hy]
          have hyw : y.wf := HI.out.wf y (by rw [hy]; exact List.getElem_mem hpl)
          have hyo : O[p]? = some y := by rw [hy]; exact List.getElem?_eq_getElem hpl
          have HC := Lib.hid (fun W (hb : Below W6.heap.size W6 W) => show W.cell? ⟨g1, p * 4, none⟩ = some (.int .i64 y.a) ∧ W.cell? ⟨g1, p * 4 + 1, none⟩ = some (.int .i64 y.b) ∧ W.cell? ⟨g1, p * 4 + 2, none⟩ = some (.int .i64 y.c) ∧ W.cell? ⟨g1, p * 4 + 3, none⟩ = some (.int .i64 y.d) ∧ W.cell? ⟨g2, o2 + q * 4, none⟩ = some (.int .i64 x.a) ∧ W.cell? ⟨g2, o2 + q * 4 + 1, none⟩ = some (.int .i64 x.b) ∧ W.cell? ⟨g2, o2 + q * 4 + 2, none⟩ = some (.int .i64 x.c) ∧ W.cell? ⟨g2, o2 + q * 4 + 3, none⟩ = some (.int .i64 x.d) from by
            have hw6 := HI.out.out.below.size
            have hgw : g2 < W6.heap.size := Nat.lt_of_lt_of_le hg2 hw6
            have cy := fun j u (hj : j < 4) (hu : y.cells[j]? = some u) => (hb.cell (p := ⟨g1, p * 4 + j, none⟩) hlt1).trans (HI.out.out.row.cells (p * 4 + j) u ((fcells_get O p j y hyo hj).trans hu))
            have cx := fun j u (hu : W6.cell? ⟨g2, j, none⟩ = some u) => (hb.cell (p := ⟨g2, j, none⟩) hgw).trans hu
            have hbw := HI.out.out.below
            exact ⟨cy 0 _ (by omega) rfl, cy 1 _ (by omega) rfl, cy 2 _ (by omega) rfl, cy 3 _ (by omega) rfl, cx _ _ ((hbw.cell (p := ⟨g2, _, none⟩) hg2).trans HX.out.1), cx _ _ ((hbw.cell (p := ⟨g2, _, none⟩) hg2).trans HX.out.2.1), cx _ _ ((hbw.cell (p := ⟨g2, _, none⟩) hg2).trans HX.out.2.2.1), cx _ _ ((hbw.cell (p := ⟨g2, _, none⟩) hg2).trans HX.out.2.2.2)⟩)
          have v2 : (0 : Int) ≤ (p : Int) := by omega
          have v3 : (p : Int) < (m : Int) := by omega
          have hp1000 : p ≤ 1000 := by omega
          have hext := hJ.ext
          rw [hdr] at hext
          have HEXT := Lib.hid hext
          have HJ := Lib.hid hJ
          have HYW := Lib.hid hyw
          obtain ⟨a0, a1, a2, a3, b0, b1, b2, b3⟩ := HC.out wr hJ.out.below
          have hE := ne_fnd y x
          obtain ⟨c, hc⟩ : ∃ c, c = one y x := ⟨_, rfl⟩
          rw [← hc] at hE
          have HCC := Lib.hid hc
          clear hJ hkp hkj hlp hpl hy hdr hyw hyo hext hc
          cases d with
          | true =>
            have hm2' : m2 ≤ p + 1 := by simpa using hm2
            have hI2 : insL x (O.drop (p + 1)) (if c = true then N else N ++ [y]) true = insL x O [] false := by rw [← HEXT.out, insL_t, ← HCC.out]
            have HI2 := Lib.hid hI2
            clear hI2 hm2
            go_wp2_with fail
            go_quiet (fail)
            have HB1 := Lib.hid (show Below W6.heap.size W6 (wr.drewN nq) from bdrewN HJ.out.out.below nq)
            have HL1 := Lib.hid (show Loc W6 (wr.drewN nq) 54 4 (.slice ao2 m2 cap2) m2 (fcells N) from HJ.out.out.step (bdrewN (Below.refl _ _) nq))
            clear a0 a1 a2 a3 b0 b1 b2 b3
            obtain ⟨a0, a1, a2, a3, b0, b1, b2, b3⟩ := HC.out _ HB1.out
            obtain ⟨W1, hW1⟩ : ∃ W, wr.drewN nq = W := ⟨_, rfl⟩
            rw [hW1] at HB1 HL1 a0 a1 a2 a3 b0 b1 b2 b3 ⊢
            clear hW1 nq
            go_wp2_with fail
            go_quiet (fail)
            have HBQ := Lib.hid (show Below W6.heap.size W6 (W1.drewN nq) from bdrewN HB1.out nq)
            have HLQ := Lib.hid (show Loc W6 (W1.drewN nq) 54 4 (.slice ao2 m2 cap2) m2 (fcells (N)) from HL1.out.step (bdrewN (Below.refl _ _) nq))
            clear a0 a1 a2 a3 b0 b1 b2 b3
            obtain ⟨a0, a1, a2, a3, b0, b1, b2, b3⟩ := HC.out _ HBQ.out
            obtain ⟨WQ, hWQ⟩ : ∃ W, W1.drewN nq = W := ⟨_, rfl⟩
            rw [hWQ] at HBQ HLQ a0 a1 a2 a3 b0 b1 b2 b3 ⊢
            clear hWQ
            cases c with
            | true =>
              go_wp2_with fail
              go_roundg j2
              case measure => omega
              case rel => exact ⟨p + 1, m2, _, N, true, HKJ2.out, by go_num, rfl, rfl, ⟨HLQ.out, HJ.out.len, HI2.out, HJ.out.wf, by simp; omega⟩⟩
            | false =>
              go_wp2_with (refine wpList_append_row _ (by rfl) _ _ _ _ (by rfl) 54 i0 (.agg #[.int .i64 0, .int .i64 0, .int .i64 0, .int .i64 0]) 4 32 Try.underlying22 HII.out HZ0.out HZ1.out HZ2.out rfl (by omega) _ m2 _ (by rfl) (HLQ.out.row.alloc _) _ (by rfl) 1 [.int .i64 y.a, .int .i64 y.b, .int .i64 y.c, .int .i64 y.d] (Feeds.slice Try.underlying22 ⟨WQ.heap.size, 0, none⟩ 1 1 _ (by rfl) (by simp [Value.oneCell']) (World.news_of_block (cs := #[.int .i64 y.a, .int .i64 y.b, .int .i64 y.c, .int .i64 y.d]) (t := 54) (fr := (0, 0)) (get_top rfl))) (by unfold maxLen; omega) (by omega) (WQ.heap.size + 1) (by simp) ?_; intro ao9 cap9 w9 hown9 hgrow9 hat9; have H9 := Lib.hid (Loc.app HLQ.out ((Below.refl _ WQ).alloc (Nat.le_refl _) _) hown9 hgrow9 hat9 (by omega)); clear hown9 hgrow9 hat9)
              go_roundg j2
              case measure => omega
              case rel => exact ⟨p + 1, m2 + 1, _, N ++ [y], true, HKJ2.out, by go_num, rfl, rfl, ⟨by rw [fcells_app]; exact H9.out, by rw [List.length_append, ← (show m2 = (N).length from HJ.out.len)]; rfl, HI2.out, wf_snoc (HJ.out.wf) HYW.out, by simp; omega⟩⟩
          | false =>
            have hm2' : m2 ≤ p := by simpa using hm2
            have HAH := Lib.hid (refAhead_any y x)
            obtain ⟨bb, hbb⟩ : ∃ b, b = ahead y x := ⟨_, rfl⟩
            rw [← hbb] at HAH
            have HBB := Lib.hid hbb
            clear hm2 hbb
            go_wp2_with fail
            go_region_held3 (fun w' => w'.cell? ⟨g1, p * 4, none⟩ = some (.int .i64 y.a) ∧ w'.cell? ⟨g1, p * 4 + 1, none⟩ = some (.int .i64 y.b) ∧ w'.cell? ⟨g1, p * 4 + 2, none⟩ = some (.int .i64 y.c) ∧ w'.cell? ⟨g1, p * 4 + 3, none⟩ = some (.int .i64 y.d) ∧ w'.cell? ⟨g2, o2 + q * 4, none⟩ = some (.int .i64 x.a) ∧ w'.cell? ⟨g2, o2 + q * 4 + 1, none⟩ = some (.int .i64 x.b) ∧ w'.cell? ⟨g2, o2 + q * 4 + 2, none⟩ = some (.int .i64 x.c) ∧ w'.cell? ⟨g2, o2 + q * 4 + 3, none⟩ = some (.int .i64 x.d)) (first | exact ⟨a0, a1, a2, a3, b0, b1, b2, b3⟩ | exact HC.out _ (HJ.out.out.below.trans ((((Below.refl wr.heap.size wr).drew).trans hb1).mono HJ.out.out.below.size))) (first | (go_at_call 63; refine (HAH.out _).mono ?_; rintro e W1 ⟨rfl, hb1⟩) | fail "x")
            have HB1 := Lib.hid (((Below.refl wr.heap.size wr).drew).trans hb1)
            clear hb1 HAH a0 a1 a2 a3 b0 b1 b2 b3
            have HB6 := Lib.hid (HJ.out.out.below.trans (HB1.out.mono HJ.out.out.below.size))
            have HL1 := Lib.hid (HJ.out.out.step HB1.out)
            obtain ⟨a0, a1, a2, a3, b0, b1, b2, b3⟩ := HC.out W1 HB6.out
            cases bb with
            | true =>
              have hI2 : insL x (O.drop (p + 1)) (if c = true then N else N ++ [y]) false = insL x O [] false := by rw [← HEXT.out, insL_fa x y _ _ HBB.out.symm, ← HCC.out]
              have HI2 := Lib.hid hI2
              clear hI2
              go_wp2_with fail
              go_quiet (fail)
              have HBQ := Lib.hid (show Below W6.heap.size W6 (W1.drewN nq) from bdrewN HB6.out nq)
              have HLQ := Lib.hid (show Loc W6 (W1.drewN nq) 54 4 (.slice ao2 m2 cap2) m2 (fcells (N)) from HL1.out.step (bdrewN (Below.refl _ _) nq))
              clear a0 a1 a2 a3 b0 b1 b2 b3
              obtain ⟨a0, a1, a2, a3, b0, b1, b2, b3⟩ := HC.out _ HBQ.out
              obtain ⟨WQ, hWQ⟩ : ∃ W, W1.drewN nq = W := ⟨_, rfl⟩
              rw [hWQ] at HBQ HLQ a0 a1 a2 a3 b0 b1 b2 b3 ⊢
              clear hWQ
              cases c with
              | true =>
                go_wp2_with fail
                go_roundg j2
                case measure => omega
                case rel => exact ⟨p + 1, m2, _, N, false, HKJ2.out, by go_num, rfl, rfl, ⟨HLQ.out, HJ.out.len, HI2.out, HJ.out.wf, by simp; omega⟩⟩
              | false =>
                go_wp2_with (refine wpList_append_row _ (by rfl) _ _ _ _ (by rfl) 54 i0 (.agg #[.int .i64 0, .int .i64 0, .int .i64 0, .int .i64 0]) 4 32 Try.underlying22 HII.out HZ0.out HZ1.out HZ2.out rfl (by omega) _ m2 _ (by rfl) (HLQ.out.row.alloc _) _ (by rfl) 1 [.int .i64 y.a, .int .i64 y.b, .int .i64 y.c, .int .i64 y.d] (Feeds.slice Try.underlying22 ⟨WQ.heap.size, 0, none⟩ 1 1 _ (by rfl) (by simp [Value.oneCell']) (World.news_of_block (cs := #[.int .i64 y.a, .int .i64 y.b, .int .i64 y.c, .int .i64 y.d]) (t := 54) (fr := (0, 0)) (get_top rfl))) (by unfold maxLen; omega) (by omega) (WQ.heap.size + 1) (by simp) ?_; intro ao9 cap9 w9 hown9 hgrow9 hat9; have H9 := Lib.hid (Loc.app HLQ.out ((Below.refl _ WQ).alloc (Nat.le_refl _) _) hown9 hgrow9 hat9 (by omega)); clear hown9 hgrow9 hat9)
                go_roundg j2
                case measure => omega
                case rel => exact ⟨p + 1, m2 + 1, _, N ++ [y], false, HKJ2.out, by go_num, rfl, rfl, ⟨by rw [fcells_app]; exact H9.out, by rw [List.length_append, ← (show m2 = (N).length from HJ.out.len)]; rfl, HI2.out, wf_snoc (HJ.out.wf) HYW.out, by simp; omega⟩⟩
            | false =>
              have hI2 : insL x (O.drop (p + 1)) (if c = true then N ++ [x] else N ++ [x] ++ [y]) true = insL x O [] false := by rw [← HEXT.out, insL_fb x y _ _ HBB.out.symm, ← HCC.out]
              have HI2 := Lib.hid hI2
              clear hI2
              go_wp2_with (refine wpList_append_row _ (by rfl) _ _ _ _ (by rfl) 54 i0 (.agg #[.int .i64 0, .int .i64 0, .int .i64 0, .int .i64 0]) 4 32 Try.underlying22 HII.out HZ0.out HZ1.out HZ2.out rfl (by omega) _ m2 _ (by rfl) (HL1.out.row.alloc _) _ (by rfl) 1 [.int .i64 x.a, .int .i64 x.b, .int .i64 x.c, .int .i64 x.d] (Feeds.slice Try.underlying22 ⟨W1.heap.size, 0, none⟩ 1 1 _ (by rfl) (by simp [Value.oneCell']) (World.news_of_block (cs := #[.int .i64 x.a, .int .i64 x.b, .int .i64 x.c, .int .i64 x.d]) (t := 54) (fr := (0, 0)) (get_top rfl))) (by unfold maxLen; omega) (by omega) (W1.heap.size + 1) (by simp) ?_; intro ao7 cap7 w7 hown7 hgrow7 hat7; have HX7 := Lib.hid (show Loc W6 w7 54 4 (.slice ao7 (m2 + 1) cap7) (m2 + 1) (fcells (N ++ [x])) by rw [fcells_app]; exact Loc.app HL1.out ((Below.refl _ W1).alloc (Nat.le_refl _) _) hown7 hgrow7 hat7 (by omega)); clear hown7 hgrow7 hat7)
              have HB7 := Lib.hid HX7.out.below
              clear a0 a1 a2 a3 b0 b1 b2 b3
              obtain ⟨a0, a1, a2, a3, b0, b1, b2, b3⟩ := HC.out w7 HB7.out
              go_quiet (fail)
              have HBQ := Lib.hid (show Below W6.heap.size W6 (w7.drewN nq) from bdrewN HB7.out nq)
              have HLQ := Lib.hid (show Loc W6 (w7.drewN nq) 54 4 (.slice ao7 (m2 + 1) cap7) (m2 + 1) (fcells (N ++ [x])) from HX7.out.step (bdrewN (Below.refl _ _) nq))
              clear a0 a1 a2 a3 b0 b1 b2 b3
              obtain ⟨a0, a1, a2, a3, b0, b1, b2, b3⟩ := HC.out _ HBQ.out
              obtain ⟨WQ, hWQ⟩ : ∃ W, w7.drewN nq = W := ⟨_, rfl⟩
              rw [hWQ] at HBQ HLQ a0 a1 a2 a3 b0 b1 b2 b3 ⊢
              clear hWQ
              cases c with
              | true =>
                go_wp2_with fail
                go_roundg j2
                case measure => omega
                case rel => exact ⟨p + 1, (m2 + 1), _, N ++ [x], true, HKJ2.out, by go_num, rfl, rfl, ⟨HLQ.out, by rw [List.length_append, ← HJ.out.len]; rfl, HI2.out, wf_snoc HJ.out.wf HXW.out, by simp; omega⟩⟩
              | false =>
                go_wp2_with (refine wpList_append_row _ (by rfl) _ _ _ _ (by rfl) 54 i0 (.agg #[.int .i64 0, .int .i64 0, .int .i64 0, .int .i64 0]) 4 32 Try.underlying22 HII.out HZ0.out HZ1.out HZ2.out rfl (by omega) _ (m2 + 1) _ (by rfl) (HLQ.out.row.alloc _) _ (by rfl) 1 [.int .i64 y.a, .int .i64 y.b, .int .i64 y.c, .int .i64 y.d] (Feeds.slice Try.underlying22 ⟨WQ.heap.size, 0, none⟩ 1 1 _ (by rfl) (by simp [Value.oneCell']) (World.news_of_block (cs := #[.int .i64 y.a, .int .i64 y.b, .int .i64 y.c, .int .i64 y.d]) (t := 54) (fr := (0, 0)) (get_top rfl))) (by unfold maxLen; omega) (by omega) (WQ.heap.size + 1) (by simp) ?_; intro ao9 cap9 w9 hown9 hgrow9 hat9; have H9 := Lib.hid (Loc.app HLQ.out ((Below.refl _ WQ).alloc (Nat.le_refl _) _) hown9 hgrow9 hat9 (by omega)); clear hown9 hgrow9 hat9)
                go_roundg j2
                case measure => omega
                case rel => exact ⟨p + 1, (m2 + 1) + 1, _, N ++ [x] ++ [y], true, HKJ2.out, by go_num, rfl, rfl, ⟨by rw [fcells_app]; exact H9.out, by rw [List.length_append, ← (show (m2 + 1) = (N ++ [x]).length from by rw [List.length_append, ← HJ.out.len]; rfl)]; rfl, HI2.out, wf_snoc (wf_snoc HJ.out.wf HXW.out) HYW.out, by simp; omega⟩⟩
        · obtain rfl : gk = 0 := by omega
          obtain rfl : p = m := by omega
          have hfin := hJ.ext
          rw [List.drop_of_length_le (by rw [← HI.out.len]; exact Nat.le_refl _), insL_eq, List.nil_append] at hfin
          have hs : sortL (l.drop (q + 1)) (insR x O) = sortL l [] := by
            have := HI.out.ext
            rw [HXL.out, sortL] at this
            exact this
          have HS := Lib.hid hs
          have HBW := Lib.hid (HI.out.out.below)
          have HXX := Lib.hid ((HI.out.out.below.cell (p := ⟨g2, o2 + q * 4, none⟩) hg2).trans HX.out.1)
          have hgw : g2 < W6.heap.size := Nat.lt_of_lt_of_le hg2 HI.out.out.below.size
          have hb6 := hJ.out.below
          have b0 := (hb6.cell (p := ⟨g2, o2 + q * 4, none⟩) hgw).trans ((HBW.out.cell (p := ⟨g2, o2 + q * 4, none⟩) hg2).trans HX.out.1)
          have b1 := (hb6.cell (p := ⟨g2, o2 + q * 4 + 1, none⟩) hgw).trans ((HBW.out.cell (p := ⟨g2, o2 + q * 4 + 1, none⟩) hg2).trans HX.out.2.1)
          have b2 := (hb6.cell (p := ⟨g2, o2 + q * 4 + 2, none⟩) hgw).trans ((HBW.out.cell (p := ⟨g2, o2 + q * 4 + 2, none⟩) hg2).trans HX.out.2.2.1)
          have b3 := (hb6.cell (p := ⟨g2, o2 + q * 4 + 3, none⟩) hgw).trans ((HBW.out.cell (p := ⟨g2, o2 + q * 4 + 3, none⟩) hg2).trans HX.out.2.2.2)
          have HJ := Lib.hid hJ
          cases d with
          | true =>
            have hnn : N = insR x O := by rw [← hfin, insL, if_pos rfl]
            have hm2' : m2 ≤ p + 1 := by simpa using hm2
            have HNN := Lib.hid hnn
            clear hfin hs hJ hkp hlp hb6 hnn hm2
            go_wp2_with fail
            go_roundg j
            case measure => omega
            case rel => exact ⟨q + 1, m2, _, N, HKJ.out, by go_num, rfl, ⟨⟨HJ.out.out.row, HBW.out.trans (HJ.out.out.below.mono HBW.out.size), fun g hg => Nat.le_trans HBW.out.size (HJ.out.out.base g hg)⟩, HJ.out.len, by rw [HNN.out]; exact HS.out, HJ.out.wf, by omega⟩⟩
          | false =>
            have hnn : N ++ [x] = insR x O := by rw [← hfin, insL, if_neg (by simp)]
            have hm2' : m2 ≤ p := by simpa using hm2
            have HNN := Lib.hid hnn
            have HLJ := Lib.hid hJ.out
            clear hfin hs hJ hkp hlp hb6 hnn hm2
            go_wp2_with (refine wpList_append_row _ (by rfl) _ _ _ _ (by rfl) 54 i0 (.agg #[.int .i64 0, .int .i64 0, .int .i64 0, .int .i64 0]) 4 32 Try.underlying22 HII.out HZ0.out HZ1.out HZ2.out rfl (by omega) _ m2 _ (by rfl) (HLJ.out.row.alloc _) _ (by rfl) 1 [.int .i64 x.a, .int .i64 x.b, .int .i64 x.c, .int .i64 x.d] (Feeds.slice Try.underlying22 ⟨wr.heap.size, 0, none⟩ 1 1 _ (by rfl) (by simp [Value.oneCell']) (World.news_of_block (cs := #[.int .i64 x.a, .int .i64 x.b, .int .i64 x.c, .int .i64 x.d]) (t := 54) (fr := (0, 0)) (get_top rfl))) (by unfold maxLen; omega) (by omega) (wr.heap.size + 1) (by simp) ?_; intro ao8 cap8 w8 hown8 hgrow8 hat8; have H8 := Lib.hid (Loc.app HLJ.out ((Below.refl _ wr).alloc (Nat.le_refl _) _) hown8 hgrow8 hat8 (by omega)); clear hown8 hgrow8 hat8)
            go_roundg j
            case measure => omega
            case rel => exact ⟨q + 1, m2 + 1, _, N ++ [x], HKJ.out, by go_num, rfl, ⟨⟨by rw [fcells_app]; exact H8.out.row, HBW.out.trans (H8.out.below.mono HBW.out.size), fun g hg => Nat.le_trans HBW.out.size (H8.out.base g hg)⟩, by rw [List.length_append, ← HJ.out.len]; rfl, by rw [HNN.out]; exact HS.out, wf_snoc HJ.out.wf HXW.out, by omega⟩⟩
    · obtain rfl : gk = 0 := by omega
      obtain rfl : q = n := by omega
      have hfin := hI.ext
      rw [List.drop_of_length_le (by rw [← HN.out]; exact Nat.le_refl _), sortL] at hfin
      subst hfin
      have HI := Lib.hid hI
      clear hI hk hlt
      go_wp2_with fail
      go_ret
      exact ⟨_, m, rfl, HI.out.len, HI.out.out, HI.out.wf, HI.out.le⟩
end Go.Proofs.Ythobfbiobnmceaa.B
