/-
  ReportPurpose.
-/
import Derived.Test.YthobfbiobnmceaaRepSign
namespace Go.Proofs.Ythobfbiobnmceaa.B
open Go.RowKit
set_option linter.unusedVariables false
set_option linter.unusedSimpArgs false

theorem small_mk {a b : ByteArray} (h1 : a.size ≤ 140737488351232) (h2 : b.size ≤ 140737488351232) : small (a, b) := ⟨by unfold maxLen; exact Nat.le_trans h1 (by decide), by unfold maxLen; exact Nat.le_trans h2 (by decide)⟩
theorem lab_list : lab.toList = [114, 101, 112, 111, 114, 116] := by rw [ByteArray.toList_eq]; rfl
theorem numberedS_16 (n : Int) : (numberedS n 16).size = 16 := by
  have h := putSpec_small n
  rw [numberedS, padSpec, if_neg (by omega), if_neg (by omega)]
  simp only
  rw [ByteArray.size_append, strOfNums_size, List.length_replicate]
  have : (16 : Int).toNat = 16 := rfl
  omega
theorem markOf_size (ks : List Pr) (p : Pr) : (markOf ks p).size = 16 := numberedS_16 _
theorem app_front (a b : ByteArray) : (a ++ b).extract 0 a.size = a := by
  rw [← strOfNums_bytesOf ((a ++ b).extract 0 a.size), bytesOf_extract, Nat.sub_zero, List.drop_zero]
  rw [show bytesOf (a ++ b) = bytesOf a ++ bytesOf b by simp [bytesOf], List.take_left' (bytesOf_length a), strOfNums_bytesOf]
theorem app_back (a b : ByteArray) : (a ++ b).extract a.size (a ++ b).size = b := by
  rw [← strOfNums_bytesOf ((a ++ b).extract a.size (a ++ b).size), bytesOf_extract, ByteArray.size_append, Nat.add_sub_cancel_left]
  rw [show bytesOf (a ++ b) = bytesOf a ++ bytesOf b by simp [bytesOf], List.drop_left' (bytesOf_length a), List.take_of_length_le (by rw [bytesOf_length]; exact Nat.le_refl _), strOfNums_bytesOf]
theorem verify_app (S m : ByteArray) (hm : m.size = 16) (b : Bool) : verifyOf (S ++ m) b = if b = true then repOf S else ⟨0, 0, 0, [], 61⟩ := by
  have h : (S ++ m).size = S.size + 16 := by rw [ByteArray.size_append, hm]
  rw [verifyOf, if_neg (by omega), h, Nat.add_sub_cancel, app_front]
set_option maxRecDepth 100000 in
set_option maxHeartbeats 1600000 in
theorem reportPurpose_walk (a0 a1 a2 : Int) (v : Value) (l : List Four) (label : ByteArray) (hlab : label.size ≤ 140737488351232) (w : World) (h : FndRow w v l) (h0 : -9223372036854775808 ≤ a0 ∧ a0 ≤ 9223372036854775807) (h1 : -9223372036854775808 ≤ a1 ∧ a1 ≤ 9223372036854775807) (h2 : -9223372036854775808 ≤ a2 ∧ a2 ≤ 9223372036854775807) :
    Calls Try.prog 7 #[.agg #[.int .i64 a0, .int .i64 a1, .int .i64 a2, v], .string label] w fun e w' => e = .returned (.bool true) ∧ Below w.heap.size w w' := by
  obtain ⟨ao, cap, rfl, hcap, hmax⟩ := h.form
  have hu24 := Try.underlying24
  have H := Lib.hid h
  have H0 := Lib.hid h0
  have H1 := Lib.hid h1
  have H2 := Lib.hid h2
  clear h h0 h1 h2 hmax hcap
  go_enter Try.func7, Try.ntmps7
  go_wp2_with fail
  refine (few_any a0 a1 a2 _ l 50 (by omega) _ (H.out.below ((Below.refl _ w).alloc (Nat.le_refl _) _))).mono ?_
  rintro e W1 ⟨v', rfl, hf, hb1⟩
  have hr := hf w H.out
  have hlen : (l.take 50).length ≤ 50 := List.length_take_le _ _
  obtain ⟨m, hm⟩ : ∃ m, m = l.take 50 := ⟨_, rfl⟩
  rw [← hm] at hr hlen
  have hbx : W1.heap[w.heap.size]? = some (.cells #[.int .i64 a0, .int .i64 a1, .int .i64 a2, .slice ao l.length cap] 24 (0, 0)) := (hb1.block _ (by simp)).trans (get_top rfl)
  have hbel : Below w.heap.size w W1 := ((Below.refl _ w).alloc (Nat.le_refl _) _).trans (hb1.mono (by simp))
  obtain ⟨gx, hgx⟩ : ∃ g, g = w.heap.size := ⟨_, rfl⟩
  rw [← hgx] at hbx hbel ⊢
  have c0 := (blk_cell hbx 0).trans rfl
  have c1 := (blk_cell hbx 1).trans rfl
  have c2 := (blk_cell hbx 2).trans rfl
  have c3 := (blk_cell hbx 3).trans rfl
  have f0 := blk_frozen hbx 0
  have f1 := blk_frozen hbx 1
  have f2 := blk_frozen hbx 2
  have f3 := blk_frozen hbx 3
  obtain ⟨ao', cap', rfl, hcap', hmax'⟩ := hr.form
  have HB := Lib.hid hbel
  have HX := Lib.hid hbx
  have HR := Lib.hid hr
  have HGX := Lib.hid hgx
  clear hbel hbx hr hgx hf hb1 hm hmax' hcap'
  go_wp2_with fail
  have hx2 : ((((W1.setCell ⟨gx, 0, none⟩ (.int .i64 a0)).setCell ⟨gx, 1, none⟩ (.int .i64 a1)).setCell ⟨gx, 2, none⟩ (.int .i64 a2)).setCell ⟨gx, 3, none⟩ (.slice ao' m.length cap')).heap[gx]? = some (.cells #[.int .i64 a0, .int .i64 a1, .int .i64 a2, .slice ao' m.length cap'] 24 (0, 0)) :=
    (blk_set (blk_set (blk_set (blk_set HX.out 0 _) 1 _) 2 _) 3 _).trans rfl
  have hb2 : Below gx w ((((W1.setCell ⟨gx, 0, none⟩ (.int .i64 a0)).setCell ⟨gx, 1, none⟩ (.int .i64 a1)).setCell ⟨gx, 2, none⟩ (.int .i64 a2)).setCell ⟨gx, 3, none⟩ (.slice ao' m.length cap')) :=
    (((HB.out.setCell (Nat.le_refl _) _).setCell (Nat.le_refl _) _).setCell (Nat.le_refl _) _).setCell (Nat.le_refl _) _
  generalize ((((W1.setCell ⟨gx, 0, none⟩ (.int .i64 a0)).setCell ⟨gx, 1, none⟩ (.int .i64 a1)).setCell ⟨gx, 2, none⟩ (.int .i64 a2)).setCell ⟨gx, 3, none⟩ (.slice ao' m.length cap')) = W2 at hx2 hb2 ⊢
  refine (Ideal_any W2).mono ?_
  rintro e W3 ⟨g, gm, rfl, hv, hb3, hgm⟩
  have hx3 : W3.heap[gx]? = _ := (hb3.block gx (blk_lt hx2)).trans hx2
  have hbel3 : Below gx w W3 := hb2.trans (hb3.mono (by have := blk_lt hx2; omega))
  have hr3 := HR.out.below (w1 := W3) (by rw [← HGX.out]; exact hbel3)
  have HRB := Lib.hid (repBytes_any a0 a1 a2 _ m W3 hr3 (by omega) H0.out H1.out H2.out)
  have d0 := (blk_cell hx3 0).trans rfl
  have d1 := (blk_cell hx3 1).trans rfl
  have d2 := (blk_cell hx3 2).trans rfl
  have d3 := (blk_cell hx3 3).trans rfl
  have HB3 := Lib.hid hbel3
  have HV := Lib.hid hv
  have HGM := Lib.hid (show gx ≤ gm from by have := blk_lt hx2; omega)
  obtain ⟨⟨S, st⟩, hS⟩ : ∃ q, q = repBytes a0 a1 a2 m := ⟨_, rfl⟩
  have HS := Lib.hid hS
  rw [← hS] at HRB
  simp only at HRB
  clear hbel3 hx3 hb3 hr3 hb2 hx2 HX HB c0 c1 c2 c3 f0 f1 f2 f3 hS hv hgm
  go_wp2_with fail
  refine HRB.out.mono ?_
  rintro e W4 ⟨rfl, hb4⟩
  have HB4 := Lib.hid (HB3.out.trans (hb4.mono (by rw [HGX.out]; exact HB3.out.size)))
  have HV4 := Lib.hid (HV.out.below hb4)
  clear hb4 HB3 HV HRB d0 d1 d2 d3
  by_cases hst : st = 0
  · subst hst
    have hok : (repBytes a0 a1 a2 m).2 = 0 := by rw [← HS.out]
    have hS1 : (repBytes a0 a1 a2 m).1 = S := by rw [← HS.out]
    have hsz := (rep_reads hok).2.1
    have hback := repOf_back hok
    rw [hS1] at hsz hback
    have hS800 : S.size ≤ 720 := by omega
    have HMC := Lib.hid (Mac_ideal _ g gm [] label S (small_mk hlab (by omega)) W4 HV4.out (by decide))
    have HBK := Lib.hid hback
    clear hsz hback hok hS1
    go_wp2_with fail
    refine HMC.out.mono ?_
    rintro e W5 ⟨rfl, hv5, hk5⟩
    have hadd : addTo ([] : List Pr) (label, S) = [(label, S)] := rfl
    rw [hadd] at hv5
    have hms := markOf_size [] (label, S)
    have HB5 := Lib.hid (show Below gx w W5 from ⟨hk5.os.trans HB4.out.os, hk5.tape.trans HB4.out.tape, hk5.output.trans HB4.out.output, Nat.le_trans HB4.out.size hk5.size, fun i hi => (hk5.block i (by have := HB4.out.size; rw [HGX.out] at hi; omega) (by have := HGM.out; omega)).trans (HB4.out.block i hi)⟩)
    have HMK := Lib.hid (show ∀ L, madeB [(label, S)] (L, S) (markOf [] (label, S)) = decide (L = label) from fun L => by
      unfold madeB isIn
      by_cases hL : L = label
      · subst hL
        simp [markOf, posOf]
      · simp [hL])
    obtain ⟨mk, hmk⟩ : ∃ k, k = markOf [] (label, S) := ⟨_, rfl⟩
    rw [← hmk] at hms HMK ⊢
    have hov : ¬ 9223372036854775807 < S.size + mk.size := by omega
    have hsm : (S ++ mk).size = S.size + 16 := by rw [ByteArray.size_append, hms]
    have HVF := Lib.hid (Verify_any (some ⟨g, 0, none⟩) (S ++ mk) (by omega) (decide (lab = label)) (fun _ => by omega) W5 (fun _ W hb => by
      rw [hsm, Nat.add_sub_cancel, app_front]
      rw [show (S ++ mk).extract S.size (S.size + 16) = mk by rw [← hsm]; exact app_back S mk]
      have hh := Made_ideal _ g gm [(label, S)] lab S mk (small_mk (by decide) (by omega)) W (hv5.below hb) (by simp)
      rw [HMK.out lab] at hh
      exact hh))
    rw [verify_app S mk hms] at HVF
    clear hv5 hk5 hmk HMC HV4 HB4 HMK hadd hsm
    by_cases hlb : label = lab
    · rw [if_pos (by rw [hlb]; simp), HBK.out] at HVF
      have hbe : (label.toList == [114, 101, 112, 111, 114, 116]) = true := by rw [hlb, lab_list]; rfl
      clear hlb
      go_wp2_with fail
      refine HVF.out.mono ?_
      rintro e W6 ⟨v6, rfl, hf6, hb6⟩
      obtain ⟨ao6, cap6, rfl, _⟩ := hf6.form
      have HB6 := Lib.hid (HB5.out.trans (hb6.mono (by rw [HGX.out]; exact HB5.out.size)))
      clear hf6 hb6 HVF
      simp only
      go_wp2_with fail
      have HB7 := Lib.hid (HB6.out.alloc (by rw [HGX.out]; exact HB6.out.size) (.cells #[.int .i64 a0, .int .i64 a1, .int .i64 a2, .slice ao6 m.length cap6] 24 (0, 0)))
      refine (repAwake_any _).mono ?_
      rintro e W9 ⟨rfl, hb5⟩
      have HB9 := Lib.hid (HB7.out.trans (hb5.mono (by rw [HGX.out]; exact HB7.out.size)))
      clear hb5
      go_wp2_with fail
      go_ret
      rw [← HGX.out]
      exact ⟨rfl, HB9.out⟩
    · rw [if_neg (by simpa using fun e => hlb e.symm)] at HVF
      have hbe : (label.toList == [114, 101, 112, 111, 114, 116]) = false := by rw [← lab_list, str_beq2]; simp [hlb]
      clear hlb
      go_wp2_with fail
      refine HVF.out.mono ?_
      rintro e W6 ⟨v6, rfl, hf6, hb6⟩
      obtain ⟨ao6, cap6, rfl, _⟩ := hf6.form
      have HB6 := Lib.hid (HB5.out.trans (hb6.mono (by rw [HGX.out]; exact HB5.out.size)))
      clear hf6 hb6 HVF
      simp only [List.length_nil]
      go_wp2_with fail
      have HB7 := Lib.hid (HB6.out.alloc (by rw [HGX.out]; exact HB6.out.size) (.cells #[.int .i64 0, .int .i64 0, .int .i64 0, .slice ao6 0 cap6] 24 (0, 0)))
      refine (repAwake_any _).mono ?_
      rintro e W9 ⟨rfl, hb5⟩
      have HB9 := Lib.hid (HB7.out.trans (hb5.mono (by rw [HGX.out]; exact HB7.out.size)))
      clear hb5
      go_wp2_with fail
      go_ret
      rw [← HGX.out]
      exact ⟨rfl, HB9.out⟩
  · have hne : (st != 0) = true := by simpa using hst
    have hst2 : ¬ st = 0 := hst
    clear hst
    go_wp2_with fail
    refine (repAwake_any _).mono ?_
    rintro e W9 ⟨rfl, hb5⟩
    have HB9 := Lib.hid (HB4.out.trans (hb5.mono (by rw [HGX.out]; exact HB4.out.size)))
    clear hb5
    go_wp2_with fail
    go_ret
    rw [← HGX.out]
    exact ⟨rfl, HB9.out⟩
end Go.Proofs.Ythobfbiobnmceaa.B
