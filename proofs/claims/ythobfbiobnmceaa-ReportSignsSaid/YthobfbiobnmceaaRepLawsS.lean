/-
  ReportSigns, walked.
-/
import Derived.Test.YthobfbiobnmceaaBRow
import Derived.Test.YthobfbiobnmceaaVaultS
namespace Go.Proofs.Ythobfbiobnmceaa.B
open Go.RowKit
set_option linter.unusedVariables false
set_option linter.unusedSimpArgs false

/-- The law's own memory: its report, its two vaults, the findings. -/
structure SigI (w : World) (gx g gr gw : Nat) (a0 a1 a2 : Int) (v : Value) (m : List Four) (W : World) : Prop where
  bel : Below gx w W
  box : W.heap[gx]? = some (.cells #[.int .i64 a0, .int .i64 a1, .int .i64 a2, v] 24 (0, 0))
  vlt : Vlr W g gr
  rv : RefV W gw
  fnd : FndRow W v m
theorem SigI.below {w W W' : World} {gx g gr gw : Nat} {a0 a1 a2 : Int} {v : Value} {m : List Four} (h : SigI w gx g gr gw a0 a1 a2 v m W) (hb : Below W.heap.size W W') : SigI w gx g gr gw a0 a1 a2 v m W' :=
  ⟨h.bel.trans (hb.mono (Nat.le_of_lt (blk_lt h.box))), (hb.block gx (blk_lt h.box)).trans h.box, h.vlt.below hb, h.rv.below hb, h.fnd.below hb⟩
theorem SigI.le {w W : World} {gx g gr gw : Nat} {a0 a1 a2 : Int} {v : Value} {m : List Four} (h : SigI w gx g gr gw a0 a1 a2 v m W) : gx ≤ W.heap.size := Nat.le_of_lt (blk_lt h.box)
/-- Behind the conversion: what was read first, and the bytes. -/
structure SigJ (w : World) (gx g gr gw : Nat) (a0 a1 a2 : Int) (v : Value) (m : List Four) (v8 : Value) (g15 gb : Nat) (s : ByteArray) (W : World) : Prop where
  i : SigI w gx g gr gw a0 a1 a2 v m W
  b15 : W.heap[g15]? = some (.cells #[.int .i64 a0, .int .i64 a1, .int .i64 a2, v8] 24 (0, 0))
  f15 : FndRow W v8 m
  row : BRow W gb s
theorem SigJ.below {w W W' : World} {gx g gr gw : Nat} {a0 a1 a2 : Int} {v : Value} {m : List Four} {v8 : Value} {g15 gb : Nat} {s : ByteArray} (h : SigJ w gx g gr gw a0 a1 a2 v m v8 g15 gb s W) (hb : Below W.heap.size W W') : SigJ w gx g gr gw a0 a1 a2 v m v8 g15 gb s W' :=
  ⟨h.i.below hb, (hb.block g15 (blk_lt h.b15)).trans h.b15, h.f15.below hb, h.row.below hb⟩
theorem SigJ.of {w W WB : World} {gx g gr gw : Nat} {a0 a1 a2 : Int} {v : Value} {m : List Four} {v8 : Value} {gb : Nat} {s : ByteArray} (h : SigI w gx g gr gw a0 a1 a2 v m W) (hf : FndRow W v8 m)
    (hb : Below (W.alloc (.cells #[.int .i64 a0, .int .i64 a1, .int .i64 a2, v8] 24 (0, 0))).heap.size (W.alloc (.cells #[.int .i64 a0, .int .i64 a1, .int .i64 a2, v8] 24 (0, 0))) WB) (hr : BRow WB gb s) : SigJ w gx g gr gw a0 a1 a2 v m v8 W.heap.size gb s WB :=
  have ha := ((Below.refl _ W).alloc (Nat.le_refl _) (.cells #[.int .i64 a0, .int .i64 a1, .int .i64 a2, v8] 24 (0, 0))).trans (hb.mono (by simp))
  ⟨h.below ha, (hb.block _ (by simp)).trans (get_top rfl), hf.below ha, hr⟩
theorem xor_byte {x y : Int} (hx : 0 ≤ x ∧ x < 256) (hy : 0 ≤ y ∧ y ≤ 255) : 0 ≤ bits .xor IntKind.u8 x y ∧ bits .xor IntKind.u8 x y < 256 := by
  have h := bits_within .xor .u8 x y
  simp [IntKind.min, IntKind.max, IntKind.bits, IntKind.signed] at h
  omega
theorem repOf_len (s : ByteArray) : (repOf s).l.length ≤ s.size := by
  unfold repOf
  repeat' split
  all_goals simp [fndsOf_length]
  all_goals omega
theorem whole_extract (s : ByteArray) (n : Nat) (h : s.size = n) : s.extract 0 (0 + n) = s := by
  rw [← strOfNums_bytesOf (s.extract 0 (0 + n)), bytesOf_extract, Nat.zero_add, Nat.sub_zero, List.drop_zero, List.take_of_length_le (by rw [bytesOf_length]; omega), strOfNums_bytesOf]
set_option maxRecDepth 100000 in
set_option maxHeartbeats 3200000 in
theorem reportSigns_in (a0 a1 a2 : Int) (v : Value) (l : List Four) (bent by_ : Int) (hby : 0 ≤ by_ ∧ by_ ≤ 255) (hcs : (repBytes a0 a1 a2 (l.take 50)).2 = 0 → 0 ≤ bent ∧ bent < ((repBytes a0 a1 a2 (l.take 50)).1.size : Int) + 16) (w : World) (h : FndRow w v l) (h0 : -9223372036854775808 ≤ a0 ∧ a0 ≤ 9223372036854775807) (h1 : -9223372036854775808 ≤ a1 ∧ a1 ≤ 9223372036854775807) (h2 : -9223372036854775808 ≤ a2 ∧ a2 ≤ 9223372036854775807) :
    Calls Try.prog 10 #[.agg #[.int .i64 a0, .int .i64 a1, .int .i64 a2, v], .int .i64 bent, .int .u8 by_] w fun e w' => e = .returned (.bool true) ∧ Below w.heap.size w w' := by
  obtain ⟨ao, cap, rfl, hcap, hmax⟩ := h.form
  have hu24 := Try.underlying24
  have H := Lib.hid h
  have H0 := Lib.hid h0
  have H1 := Lib.hid h1
  have H2 := Lib.hid h2
  have HBY := Lib.hid hby
  clear h h0 h1 h2 hmax hcap hby
  go_enter Try.func10, Try.ntmps10
  go_wp2_with fail
  refine (few_any a0 a1 a2 _ l 50 (by omega) _ (H.out.below ((Below.refl _ w).alloc (Nat.le_refl _) _))).mono ?_
  rintro e W1 ⟨v', rfl, hf, hb1⟩
  have hr := hf w H.out
  have hlen : (l.take 50).length ≤ 50 := List.length_take_le _ _
  obtain ⟨m, hm⟩ : ∃ m, m = l.take 50 := ⟨_, rfl⟩
  rw [← hm] at hr hlen hcs
  have hbx : W1.heap[w.heap.size]? = some (.cells #[.int .i64 a0, .int .i64 a1, .int .i64 a2, .slice ao l.length cap] 24 (0, 0)) := (hb1.block _ (by simp)).trans (get_top rfl)
  have hbel : Below w.heap.size w W1 := ((Below.refl _ w).alloc (Nat.le_refl _) _).trans (hb1.mono (by simp))
  obtain ⟨gx, hgx⟩ : ∃ g, g = w.heap.size := ⟨_, rfl⟩
  rw [← hgx] at hbx hbel ⊢
  have c0 := (blk_cell hbx 0).trans rfl
  have c1 := (blk_cell hbx 1).trans rfl
  have c2 := (blk_cell hbx 2).trans rfl
  have c3 := (blk_cell hbx 3).trans rfl
  have f0 := blk_frozen hbx 0
  have f1 := blk_frozen hbx 1
  have f2 := blk_frozen hbx 2
  have f3 := blk_frozen hbx 3
  obtain ⟨ao', cap', rfl, hcap', hmax'⟩ := hr.form
  have HB := Lib.hid hbel
  have HX := Lib.hid hbx
  have HR := Lib.hid hr
  have HGX := Lib.hid hgx
  clear hbel hbx hr hgx hf hb1 hm hmax' hcap'
  go_wp2_with fail
  have hx2 : ((((W1.setCell ⟨gx, 0, none⟩ (.int .i64 a0)).setCell ⟨gx, 1, none⟩ (.int .i64 a1)).setCell ⟨gx, 2, none⟩ (.int .i64 a2)).setCell ⟨gx, 3, none⟩ (.slice ao' m.length cap')).heap[gx]? = some (.cells #[.int .i64 a0, .int .i64 a1, .int .i64 a2, .slice ao' m.length cap'] 24 (0, 0)) :=
    (blk_set (blk_set (blk_set (blk_set HX.out 0 _) 1 _) 2 _) 3 _).trans rfl
  have hb2 : Below gx w ((((W1.setCell ⟨gx, 0, none⟩ (.int .i64 a0)).setCell ⟨gx, 1, none⟩ (.int .i64 a1)).setCell ⟨gx, 2, none⟩ (.int .i64 a2)).setCell ⟨gx, 3, none⟩ (.slice ao' m.length cap')) :=
    (((HB.out.setCell (Nat.le_refl _) _).setCell (Nat.le_refl _) _).setCell (Nat.le_refl _) _).setCell (Nat.le_refl _) _
  generalize ((((W1.setCell ⟨gx, 0, none⟩ (.int .i64 a0)).setCell ⟨gx, 1, none⟩ (.int .i64 a1)).setCell ⟨gx, 2, none⟩ (.int .i64 a2)).setCell ⟨gx, 3, none⟩ (.slice ao' m.length cap')) = W2 at hx2 hb2 ⊢
  refine (Real_any W2).mono ?_
  rintro e W3 ⟨g, gr, rfl, hg3, hgr3, hne3, hv3, hv3', hb3⟩
  have hx3 : W3.heap[gx]? = _ := (hb3.block gx (blk_lt hx2)).trans hx2
  have hbel3 : Below gx w W3 := hb2.trans (hb3.mono (by have := blk_lt hx2; omega))
  have HVL := Lib.hid (show Vlr W3 g gr from ⟨hv3, hv3'⟩)
  have HX3 := Lib.hid hx3
  have HB3 := Lib.hid hbel3
  clear hx2 hb2 hx3 hbel3 hb3 hv3 hv3' hg3 hgr3 hne3 HX HB c0 c1 c2 c3 f0 f1 f2 f3
  simp only
  go_wp2_with fail
  refine (refReal_any _).mono ?_
  rintro e W4 ⟨gw, rfl, hgw, hrv, hb4⟩
  have hI : SigI w gx g gr gw a0 a1 a2 (.slice ao' m.length cap') m W4 := ⟨HB3.out.trans (hb4.mono (by have := blk_lt HX3.out; omega)), (hb4.block gx (blk_lt HX3.out)).trans HX3.out, HVL.out.below hb4, hrv, HR.out.below (by rw [← HGX.out]; exact HB3.out.trans (hb4.mono (by have := blk_lt HX3.out; omega)))⟩
  have HI := Lib.hid hI
  have c0 := (blk_cell hI.box 0).trans rfl
  have c1 := (blk_cell hI.box 1).trans rfl
  have c2 := (blk_cell hI.box 2).trans rfl
  have c3 := (blk_cell hI.box 3).trans rfl
  clear hgw hrv hb4 hI HVL HX3 HB3 HR
  have hsz : (repBytes a0 a1 a2 m).2 = 0 → (repBytes a0 a1 a2 m).1.size ≤ 720 := fun hok => by have := (rep_reads hok).2.1; omega
  have hback : (repBytes a0 a1 a2 m).2 = 0 → repOf (repBytes a0 a1 a2 m).1 = ⟨a0, a1, a2, m, 0⟩ := repOf_back
  have hsg := Sign_any (some ⟨g, 0, none⟩) a0 a1 a2 _ m W4 HI.out.fnd (by omega) H0.out H1.out H2.out (fun k W W' => k = markR lab (repBytes a0 a1 a2 m).1 ∧ Below W.heap.size W W') (fun hok W hb => (Mac_real g gr lab _ (by decide) (Nat.le_trans (hsz hok) (by decide)) W (HI.out.vlt.below hb)).mono fun e w' ⟨he, hb'⟩ => ⟨_, he, by rw [markR_size]; decide, rfl, hb'⟩)
  have HRF := Lib.hid (fun W (hf : FndRow W (.slice ao' m.length cap') m) => refBytes_any a0 a1 a2 _ m W hf (by omega) H0.out.2 H1.out.2 H2.out.2)
  obtain ⟨⟨S, st⟩, hS⟩ : ∃ q, q = repBytes a0 a1 a2 m := ⟨_, rfl⟩
  rw [← hS] at hsg hsz hback HRF hcs
  simp only at hsg hsz hback HRF hcs
  have HCS := Lib.hid hcs
  clear hcs
  have HSG := Lib.hid hsg
  have HSZ := Lib.hid hsz
  have HBK := Lib.hid hback
  clear hS hsg hsz hback H
  go_wp2_with fail
  refine HSG.out.mono ?_
  rintro e W5 (⟨hst, rfl, hb5⟩ | ⟨hst, W5', k, hb5', ⟨rfl, hb5⟩, rfl⟩)
  · have HI5 := Lib.hid (HI.out.below hb5)
    have d0 := (blk_cell HI5.out.box 0).trans rfl
    have d1 := (blk_cell HI5.out.box 1).trans rfl
    have d2 := (blk_cell HI5.out.box 2).trans rfl
    have d3 := (blk_cell HI5.out.box 3).trans rfl
    have HRF5 := Lib.hid (HRF.out W5 HI5.out.fnd)
    have hne : (st != 0) = true := by simpa using hst
    have hst2 : ¬ st = 0 := hst
    clear hb5 c0 c1 c2 c3 HI HRF HSG hst
    go_wp2_with fail
    refine HRF5.out.mono ?_
    rintro e W6 ⟨rfl, hb6⟩
    have HI6 := Lib.hid (HI5.out.below hb6)
    clear hb6 HI5 HRF5 d0 d1 d2 d3
    go_wp2_with fail
    refine (repAwake_any _).mono ?_
    rintro e W9 ⟨rfl, hb9⟩
    have HB9 := Lib.hid (HI6.out.bel.trans (hb9.mono HI6.out.le))
    clear hb9
    go_wp2_with fail
    go_ret
    rw [← HGX.out]
    exact ⟨rfl, HB9.out⟩
  · subst hst
    have hS720 := HSZ.out rfl
    have HI5 := Lib.hid (HI.out.below (hb5'.trans (hb5.mono hb5'.size)))
    have hms := markR_size lab S
    have hvr := HBK.out rfl
    have HIN := HCS.out rfl
    have HME := Lib.hid (fun W (hv : Vlr W g gr) (label s tag : ByteArray) (hl : label.size ≤ 90000) (hs : s.size ≤ 800000) => Made_real g gr label s tag hl hs W hv)
    have HMM := Lib.hid (fun W (hv : RefV W gw) (s : ByteArray) (hs : s.size ≤ 800000) => refVMac_any gw lab s (by decide) hs W hv)
    rw [signS, signE, if_neg (by omega), if_neg (by omega)]
    obtain ⟨mk, hmk⟩ : ∃ k, k = markR lab S := ⟨_, rfl⟩
    rw [← hmk] at hms ⊢
    have HMK := Lib.hid hmk
    have HVR := Lib.hid hvr
    clear hb5 hb5' c0 c1 c2 c3 HI HSG HSZ HBK hvr hmk
    have d0 := (blk_cell HI5.out.box 0).trans rfl
    have d1 := (blk_cell HI5.out.box 1).trans rfl
    have d2 := (blk_cell HI5.out.box 2).trans rfl
    have d3 := (blk_cell HI5.out.box 3).trans rfl
    have HRF5 := Lib.hid (HRF.out W5 HI5.out.fnd)
    clear HRF
    go_wp2_with fail
    refine HRF5.out.mono ?_
    rintro e W6 ⟨rfl, hb6⟩
    have HI6 := Lib.hid (HI5.out.below hb6)
    have HM6 := Lib.hid (HMM.out W6 HI6.out.rv S (by omega))
    rw [← HMK.out] at HM6
    have hlb : lab = ⟨#[114, 101, 112, 111, 114, 116]⟩ := rfl
    rw [hlb] at HM6
    have hov : ¬ 9223372036854775807 < S.size + mk.size := by omega
    clear hb6 HI5 HRF5 d0 d1 d2 d3
    go_wp2_with fail
    refine HM6.out.mono ?_
    rintro e W7 ⟨rfl, hb7⟩
    have HI7 := Lib.hid (HI6.out.below hb7)
    clear hb7 HI6 HM6
    go_wp2_with fail
    have hmd := (decide_eq_true HMK.out.symm : decide (markR lab S = mk) = true)
    have hsm : (S ++ mk).size = S.size + 16 := by rw [ByteArray.size_append, hms]
    have HVF := Lib.hid (Verify_any (some ⟨g, 0, none⟩) (S ++ mk) (by omega) true (fun _ => by omega) W7 (fun _ W hb => by
      rw [hsm, Nat.add_sub_cancel, app_front]
      rw [show (S ++ mk).extract S.size (S.size + 16) = mk by rw [← hsm]; exact app_back S mk]
      have hh := HME.out W (HI7.out.vlt.below hb) lab S mk (by decide) (by omega)
      rw [hmd] at hh
      exact hh))
    rw [verify_app S mk hms, if_pos rfl, HVR.out] at HVF
    have HSM := Lib.hid hsm
    have HSS := Lib.hid (show S.size ≤ 720 from hS720)
    obtain ⟨T, hT⟩ : ∃ T, T = S ++ mk := ⟨_, rfl⟩
    rw [← hT] at HVF HSM ⊢
    have HTT := Lib.hid hT
    clear hsm hmd hov hms hS720 hT
    go_wp2_with fail
    refine HVF.out.mono ?_
    rintro e W8 ⟨v8, rfl, hf8, hb8⟩
    obtain ⟨ao8, cap8, rfl, _⟩ := hf8.form
    have HI8 := Lib.hid (HI7.out.below hb8)
    have HF8 := Lib.hid hf8
    have hcv := fun W => Lib.run_convert_string_bytes (P := Try.prog) W 9 50 5 T Try.underlying9 Try.underlying50 Try.underlying5
    clear hb8 hf8 HI7 HVF
    simp only
    have z1 : (T.size : Int) ≤ 736 := by have := HSM.out; have := HSS.out; omega
    have hin : 0 ≤ bent ∧ bent < (T.size : Int) := by have := HSM.out; have := HIN; omega
    clear HIN
    obtain ⟨j, rfl⟩ := Int.eq_ofNat_of_zero_le hin.1
    have in2 : (j : Int) < (T.size : Int) := hin.2
    have in3 : j < T.size := by omega
    have xc := (BRow.made (W8.alloc (.cells #[.int .i64 a0, .int .i64 a1, .int .i64 a2, .slice ao8 m.length cap8] 24 (0, 0))) T).at_ j in3
    have xf := bytes_frozen (W8.alloc (.cells #[.int .i64 a0, .int .i64 a1, .int .i64 a2, .slice ao8 m.length cap8] 24 (0, 0))) T j in3
    rw [show (W8.alloc (.cells #[.int .i64 a0, .int .i64 a1, .int .i64 a2, .slice ao8 m.length cap8] 24 (0, 0))).heap.size = W8.heap.size + 1 by simp] at xc xf
    clear hin
    go_wp2_with fail
    have hx : 0 ≤ (bytesOf T)[j]?.getD 0 ∧ (bytesOf T)[j]?.getD 0 < 256 := by
      rw [List.getElem?_eq_getElem (by rw [bytesOf_length]; exact in3)]
      simp only [bytesOf, List.getElem_map, Option.getD_some]
      have := UInt8.toNat_lt (T.data.toList[j]'(by simpa using in3))
      omega
    have hxr := xor_byte hx HBY.out
    have hA := (Below.refl _ (W8.alloc (.cells #[.int .i64 a0, .int .i64 a1, .int .i64 a2, .slice ao8 m.length cap8] 24 (0, 0)))).trans (bytes_below (W8.alloc (.cells #[.int .i64 a0, .int .i64 a1, .int .i64 a2, .slice ao8 m.length cap8] 24 (0, 0))) 5 T)
    have hBR := (BRow.made (W8.alloc (.cells #[.int .i64 a0, .int .i64 a1, .int .i64 a2, .slice ao8 m.length cap8] 24 (0, 0))) T).set j in3 _ hxr
    rw [show (W8.alloc (.cells #[.int .i64 a0, .int .i64 a1, .int .i64 a2, .slice ao8 m.length cap8] 24 (0, 0))).heap.size = W8.heap.size + 1 by simp] at hBR
    have hJ := SigJ.of HI8.out HF8.out (hA.setCell (p := ⟨W8.heap.size + 1, j, none⟩) (by simp) (.int .u8 (bits .xor IntKind.u8 ((bytesOf T)[j]?.getD 0) by_))) hBR
    have hs2 : (setB T j (bits .xor IntKind.u8 ((bytesOf T)[j]?.getD 0) by_)).size = T.size := setB_size _ _ _
    have hgc := grownCap_ge (W8.alloc (.cells #[.int .i64 a0, .int .i64 a1, .int .i64 a2, .slice ao8 m.length cap8] 24 (0, 0))) T.size 0 5
    clear xc xf hx hxr hA hBR hcv HI8 HF8 in3
    generalize (Lib.bytesWorld (W8.alloc (.cells #[.int .i64 a0, .int .i64 a1, .int .i64 a2, .slice ao8 m.length cap8] 24 (0, 0))) 5 T).setCell ⟨W8.heap.size + 1, j, none⟩ (.int .u8 (bits .xor IntKind.u8 ((bytesOf T)[j]?.getD 0) by_)) = WB at hJ ⊢
    generalize setB T j (bits .xor IntKind.u8 ((bytesOf T)[j]?.getD 0) by_) = s2 at hJ hs2
    generalize grownCap (W8.alloc (.cells #[.int .i64 a0, .int .i64 a1, .int .i64 a2, .slice ao8 m.length cap8] 24 (0, 0))) T.size 0 5 = capb at hgc ⊢
    generalize W8.heap.size + 1 = gb at hJ ⊢
    generalize W8.heap.size = g15 at hJ ⊢
    have HJ := Lib.hid hJ
    have HS2 := Lib.hid hs2
    have HCV := Lib.hid (fun W (hr : BRow W gb s2) => by
      have := hr.conv 0 T.size capb (by omega)
      rwa [whole_extract s2 _ hs2] at this)
    have hcB := HCV.out WB hJ.row
    obtain ⟨b2, hb2⟩ : ∃ b, b = decide (markR lab (s2.extract 0 (s2.size - 16)) = s2.extract (s2.size - 16) s2.size) := ⟨_, rfl⟩
    have HVF := Lib.hid (Verify_any (some ⟨g, 0, none⟩) s2 (by omega) b2 (fun _ => by omega) WB (fun _ W hb => by
      have hh := HME.out W (HJ.out.i.vlt.below hb) lab (s2.extract 0 (s2.size - 16)) (s2.extract (s2.size - 16) s2.size) (by decide) (by rw [ByteArray.size_extract]; omega)
      rwa [← hb2] at hh))
    obtain ⟨⟨q0, q1, q2, ql, qe⟩, hR⟩ : ∃ R, R = verifyOf s2 b2 := ⟨_, rfl⟩
    rw [← hR] at HVF
    have HB2 := Lib.hid hb2
    have HRR := Lib.hid hR
    clear hJ hs2 hb2 hR
    rw [hcB]
    simp only [Result.andThen]
    go_wp2_with fail
    refine HVF.out.mono ?_
    rintro e W10 ⟨v10, rfl, hf10, hb10⟩
    obtain ⟨ao10, cap10, rfl, _⟩ := hf10.form
    simp only at hf10 ⊢
    clear hcB HVF
    have hA := (Below.refl _ W10).alloc (Nat.le_refl _) (.cells #[.int .i64 q0, .int .i64 q1, .int .i64 q2, .slice ao10 ql.length cap10] 24 (0, 0))
    have hJ := HJ.out.below (hb10.trans (hA.mono hb10.size))
    have HJ2 := Lib.hid hJ
    have h18 : (W10.alloc (.cells #[.int .i64 q0, .int .i64 q1, .int .i64 q2, .slice ao10 ql.length cap10] 24 (0, 0))).heap[W10.heap.size]? = some (.cells #[.int .i64 q0, .int .i64 q1, .int .i64 q2, .slice ao10 ql.length cap10] 24 (0, 0)) := get_top rfl
    have HF18 := Lib.hid (hf10.below hA)
    have H18 := Lib.hid h18
    have hcB := HCV.out _ hJ.row
    have hse := str_beq2 s2 T
    clear hJ hA hb10 hf10 HJ h18
    by_cases heq : s2 = T
    · rw [heq] at hse
      simp only [decide_true] at hse
      subst heq
      have hms : mk.size = 16 := by rw [HMK.out]; exact markR_size lab S
      have hRe : (⟨q0, q1, q2, ql, qe⟩ : RepOut) = ⟨a0, a1, a2, m, 0⟩ := by
        have e1 : (S ++ mk).size - 16 = S.size := by rw [ByteArray.size_append]; omega
        have e2 := HMK.out
        rw [HRR.out, HB2.out, HTT.out, e1, app_front, app_back, verify_app S mk hms, if_pos (decide_eq_true e2.symm), HVR.out]
      obtain ⟨rfl, rfl, rfl, rfl, rfl⟩ := RepOut.mk.inj hRe.symm
      clear hRe hms
      have c0 := (blk_cell HJ2.out.i.box 0).trans rfl
      have c1 := (blk_cell HJ2.out.i.box 1).trans rfl
      have c2 := (blk_cell HJ2.out.i.box 2).trans rfl
      have c3 := (blk_cell HJ2.out.i.box 3).trans rfl
      have d0 := (blk_cell HJ2.out.b15 0).trans rfl
      have d1 := (blk_cell HJ2.out.b15 1).trans rfl
      have d2 := (blk_cell HJ2.out.b15 2).trans rfl
      have d3 := (blk_cell HJ2.out.b15 3).trans rfl
      go_wp2_with fail
      refine (same_any a0 a1 a2 _ _ m _ HJ2.out.f15 HJ2.out.i.fnd (by omega)).mono ?_
      rintro e W11 ⟨rfl, hb11⟩
      have HJ3 := Lib.hid (HJ2.out.below hb11)
      have H183 := Lib.hid ((hb11.block _ (blk_lt H18.out)).trans H18.out)
      have HF183 := Lib.hid (HF18.out.below hb11)
      clear c0 c1 c2 c3 d0 d1 d2 d3 hb11 HJ2 HF18 H18 hcB
      have c0 := (blk_cell HJ3.out.i.box 0).trans rfl
      have c1 := (blk_cell HJ3.out.i.box 1).trans rfl
      have c2 := (blk_cell HJ3.out.i.box 2).trans rfl
      have c3 := (blk_cell HJ3.out.i.box 3).trans rfl
      have d0 := (blk_cell H183.out 0).trans rfl
      have d1 := (blk_cell H183.out 1).trans rfl
      have d2 := (blk_cell H183.out 2).trans rfl
      have d3 := (blk_cell H183.out 3).trans rfl
      go_wp2_with fail
      refine (same_any a0 a1 a2 _ _ m _ HF183.out HJ3.out.i.fnd (by omega)).mono ?_
      rintro e W12 ⟨rfl, hb12⟩
      have HI12 := Lib.hid (HJ3.out.i.below hb12)
      clear c0 c1 c2 c3 d0 d1 d2 d3 hb12 HJ3 HF183 H183
      go_wp2_with fail
      refine (repAwake_any _).mono ?_
      rintro e W13 ⟨rfl, hb13⟩
      have HB13 := Lib.hid (HI12.out.bel.trans (hb13.mono HI12.out.le))
      clear hb13
      go_wp2_with fail
      go_ret
      rw [← HGX.out]
      exact ⟨rfl, HB13.out⟩
    · have hne : decide (s2 = T) = false := by simp [heq]
      rw [hne] at hse
      obtain ⟨c, hc⟩ : ∃ c, c = S.size := ⟨_, rfl⟩
      have hcs : (T.size : Int) - 16 = (c : Int) := by have := HSM.out; omega
      have z2 : (0 : Int) ≤ (c : Int) := by omega
      have z3 : (c : Int) ≤ (T.size : Int) := by omega
      have z4 : (T.size : Int) ≤ (capb : Int) := by omega
      have z5 : (c : Int) ≤ (capb : Int) := by omega
      have z6 : ¬ capb = 0 := by omega
      have z7 : ¬ capb = c := by omega
      have hr2 := HJ2.out.row
      obtain ⟨F, hF⟩ : ∃ F, F = s2.extract 0 c := ⟨_, rfl⟩
      obtain ⟨B, hB⟩ : ∃ B, B = s2.extract c s2.size := ⟨_, rfl⟩
      have HCF := Lib.hid (fun W (hr : BRow W gb s2) => by
        have := hr.conv 0 c capb (by rw [HS2.out, HSM.out, hc]; omega)
        rwa [Nat.zero_add, ← hF] at this)
      have HCB := Lib.hid (fun W (hr : BRow W gb s2) => by
        have := hr.conv c (T.size - c) (capb - c) (by rw [HS2.out, HSM.out, hc]; omega)
        rwa [show c + (T.size - c) = s2.size by rw [HS2.out, HSM.out, hc]; omega, ← hB] at this)
      have hF1 := HCF.out _ hr2
      have hB1 := HCB.out _ hr2
      have hsF : F.size = c := by rw [hF, ByteArray.size_extract, HS2.out, HSM.out, hc]; omega
      obtain ⟨MF, hMF⟩ : ∃ M, M = markR lab F := ⟨_, rfl⟩
      have HMF := Lib.hid (fun W (hv : RefV W gw) => HMM.out W hv F (by have := HSS.out; omega))
      rw [← hMF] at HMF
      have hmb : b2 = decide (MF = B) := by
        rw [HB2.out, show s2.size - 16 = c by rw [HS2.out, HSM.out, hc]; omega, ← hF, ← hB, ← hMF]
      have hbe := str_beq2 MF B
      rw [← hmb] at hbe
      have hvo : (⟨q0, q1, q2, ql, qe⟩ : RepOut) = if b2 = true then repOf F else ⟨0, 0, 0, [], 61⟩ := by
        have e1 : s2.size - 16 = c := by rw [HS2.out, HSM.out, hc]; omega
        have e3 : ¬ s2.size < 16 := by rw [HS2.out, HSM.out]; omega
        rw [HRR.out, verifyOf, if_neg e3, e1, ← hF]
      have hsF2 : F.size ≤ 14000 := by have := HSS.out; omega
      have HOF := Lib.hid (fun W => refOf_any F hsF2 W)
      have HFL := Lib.hid (show (repOf F).l.length ≤ 14000 from Nat.le_trans (repOf_len F) hsF2)
      have HVO := Lib.hid hvo
      have hlb : lab = ⟨#[114, 101, 112, 111, 114, 116]⟩ := rfl
      rw [hlb] at HMF
      have HC := Lib.hid hc
      have HF := Lib.hid hF
      have HBB := Lib.hid hB
      clear hne hr2 hc hF hB hmb hsF hlb hMF hvo hsF2
      go_wp2_with fail
      obtain ⟨W11, hW11⟩ : ∃ W, W = W10.alloc (.cells #[.int .i64 q0, .int .i64 q1, .int .i64 q2, .slice ao10 ql.length cap10] 24 (0, 0)) := ⟨_, rfl⟩
      rw [← hW11] at HJ2 HF18 H18 hF1 hB1 hcB ⊢
      clear hW11
      have hdr := HJ2.out.below ((Below.refl _ W11).drew)
      go_region_held3 (fun w' => (convert 50 9 (.slice (some ⟨gb, 0, none⟩) c capb)).run Try.prog w' = .ok (.string F) w' ∧ (convert 50 9 (.slice (some ⟨gb, c, none⟩) (T.size - c) (capb - c))).run Try.prog w' = .ok (.string B) w') (first | exact ⟨HCF.out _ hdr.row, HCB.out _ hdr.row⟩ | exact ⟨HCF.out _ hJ12.row, HCB.out _ hJ12.row⟩) (first | (go_at_call 24; refine (HMF.out _ hdr.i.rv).mono ?_; rintro e W12 ⟨rfl, hb12⟩; have hJ12 := hdr.below hb12) | fail "z")
      have HJ12 := Lib.hid hJ12
      have H1812 := Lib.hid ((((Below.refl _ W11).drew.trans hb12).block _ (blk_lt H18.out)).trans H18.out)
      have HF1812 := Lib.hid (HF18.out.below ((Below.refl _ W11).drew.trans hb12))
      have hF2 := HCF.out _ hJ12.row
      clear hb12 hdr hJ12 hF1 hB1 hcB HJ2 H18 HF18
      have c0 := (blk_cell HJ12.out.i.box 0).trans rfl
      have c1 := (blk_cell HJ12.out.i.box 1).trans rfl
      have c2 := (blk_cell HJ12.out.i.box 2).trans rfl
      have c3 := (blk_cell HJ12.out.i.box 3).trans rfl
      have d0 := (blk_cell HJ12.out.b15 0).trans rfl
      have d1 := (blk_cell HJ12.out.b15 1).trans rfl
      have d2 := (blk_cell HJ12.out.b15 2).trans rfl
      have d3 := (blk_cell HJ12.out.b15 3).trans rfl
      cases b2 with
      | true =>
        have hRF : repOf F = ⟨q0, q1, q2, ql, qe⟩ := by have := HVO.out; rw [if_pos rfl] at this; exact this.symm
        have hql : ql.length ≤ 14000 := by have := HFL.out; rw [hRF] at this; exact this
        rw [hRF] at HOF
        clear hRF HFL HVO
        go_wp2_with fail
        refine (HOF.out _).mono ?_
        rintro e W13 ⟨v13, rfl, hf13, hb13⟩
        obtain ⟨ao13, cap13, rfl, _⟩ := hf13.form
        simp only at hf13 ⊢
        have hA := (Below.refl _ W13).alloc (Nat.le_refl _) (.cells #[.int .i64 q0, .int .i64 q1, .int .i64 q2, .slice ao13 ql.length cap13] 24 (0, 0))
        have HA := Lib.hid (hb13.trans (hA.mono hb13.size))
        have H21 := Lib.hid (show (W13.alloc (.cells #[.int .i64 q0, .int .i64 q1, .int .i64 q2, .slice ao13 ql.length cap13] 24 (0, 0))).heap[W13.heap.size]? = some (.cells #[.int .i64 q0, .int .i64 q1, .int .i64 q2, .slice ao13 ql.length cap13] 24 (0, 0)) from get_top rfl)
        have HF21 := Lib.hid (hf13.below hA)
        have HJ13 := Lib.hid (HJ12.out.below HA.out)
        have H1813 := Lib.hid ((HA.out.block _ (blk_lt H1812.out)).trans H1812.out)
        have HF1813 := Lib.hid (HF1812.out.below HA.out)
        clear c0 c1 c2 c3 d0 d1 d2 d3 hf13 hb13 hA HA HJ12 H1812 HF1812 HOF hF2
        have c0 := (blk_cell HJ13.out.i.box 0).trans rfl
        have c1 := (blk_cell HJ13.out.i.box 1).trans rfl
        have c2 := (blk_cell HJ13.out.i.box 2).trans rfl
        have c3 := (blk_cell HJ13.out.i.box 3).trans rfl
        have d0 := (blk_cell HJ13.out.b15 0).trans rfl
        have d1 := (blk_cell HJ13.out.b15 1).trans rfl
        have d2 := (blk_cell HJ13.out.b15 2).trans rfl
        have d3 := (blk_cell HJ13.out.b15 3).trans rfl
        go_wp2_with fail
        refine (same_any a0 a1 a2 _ _ m _ HJ13.out.f15 HJ13.out.i.fnd (by omega)).mono ?_
        rintro e W14 ⟨rfl, hb14⟩
        have HI14 := Lib.hid (HJ13.out.i.below hb14)
        have H1814 := Lib.hid ((hb14.block _ (blk_lt H1813.out)).trans H1813.out)
        have HF1814 := Lib.hid (HF1813.out.below hb14)
        have H2114 := Lib.hid ((hb14.block _ (blk_lt H21.out)).trans H21.out)
        have HF2114 := Lib.hid (HF21.out.below hb14)
        clear c0 c1 c2 c3 d0 d1 d2 d3 hb14 HJ13 H1813 HF1813 H21 HF21
        have c0 := (blk_cell H1814.out 0).trans rfl
        have c1 := (blk_cell H1814.out 1).trans rfl
        have c2 := (blk_cell H1814.out 2).trans rfl
        have c3 := (blk_cell H1814.out 3).trans rfl
        have d0 := (blk_cell H2114.out 0).trans rfl
        have d1 := (blk_cell H2114.out 1).trans rfl
        have d2 := (blk_cell H2114.out 2).trans rfl
        have d3 := (blk_cell H2114.out 3).trans rfl
        go_wp2_with fail
        refine (same_any q0 q1 q2 _ _ ql _ HF1814.out HF2114.out (by omega)).mono ?_
        rintro e W15 ⟨rfl, hb15⟩
        have HI15 := Lib.hid (HI14.out.below hb15)
        clear c0 c1 c2 c3 d0 d1 d2 d3 hb15 HI14 H1814 HF1814 H2114 HF2114
        go_wp2_with fail
        refine (repAwake_any _).mono ?_
        rintro e W16 ⟨rfl, hb16⟩
        have HB16 := Lib.hid (HI15.out.bel.trans (hb16.mono HI15.out.le))
        clear hb16
        go_wp2_with fail
        go_ret
        rw [← HGX.out]
        exact ⟨rfl, HB16.out⟩
      | false =>
        obtain ⟨rfl, rfl, rfl, rfl, rfl⟩ := RepOut.mk.inj (show (⟨0, 0, 0, [], 61⟩ : RepOut) = ⟨q0, q1, q2, ql, qe⟩ by have := HVO.out; rw [if_neg (by simp)] at this; exact this.symm)
        clear HFL HVO
        go_wp2_with fail
        refine (same_any a0 a1 a2 _ _ m _ HJ12.out.f15 HJ12.out.i.fnd (by omega)).mono ?_
        rintro e W14 ⟨rfl, hb14⟩
        have HI14 := Lib.hid (HJ12.out.i.below hb14)
        have H1814 := Lib.hid ((hb14.block _ (blk_lt H1812.out)).trans H1812.out)
        have HF1814 := Lib.hid (HF1812.out.below hb14)
        clear c0 c1 c2 c3 d0 d1 d2 d3 hb14 HJ12 H1812 HF1812 hF2
        have c0 := (blk_cell H1814.out 0).trans rfl
        have c1 := (blk_cell H1814.out 1).trans rfl
        have c2 := (blk_cell H1814.out 2).trans rfl
        have c3 := (blk_cell H1814.out 3).trans rfl
        go_wp2_with fail
        refine (same_any 0 0 0 _ _ [] _ HF1814.out (FndRow.nil _) (by simp)).mono ?_
        rintro e W15 ⟨rfl, hb15⟩
        have HI15 := Lib.hid (HI14.out.below hb15)
        clear c0 c1 c2 c3 hb15 HI14 H1814 HF1814
        go_wp2_with fail
        refine (repAwake_any _).mono ?_
        rintro e W16 ⟨rfl, hb16⟩
        have HB16 := Lib.hid (HI15.out.bel.trans (hb16.mono HI15.out.le))
        clear hb16
        go_wp2_with fail
        go_ret
        rw [← HGX.out]
        exact ⟨rfl, HB16.out⟩
end Go.Proofs.Ythobfbiobnmceaa.B
