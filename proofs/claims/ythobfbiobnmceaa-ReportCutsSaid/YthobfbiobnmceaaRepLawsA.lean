/-
  Chapter 16's example; ReportBytes.
-/
import Derived.Test.YthobfbiobnmceaaFndRow
import Derived.Test.YthobfbiobnmceaaRepBytesP
namespace Go.Proofs.Ythobfbiobnmceaa.B
open Go.RowKit
set_option linter.unusedVariables false
set_option linter.unusedSimpArgs false

def exampleRep : ByteArray := ⟨#[7, 0, 0, 0, 0, 0, 1, 0, 0, 0, 0, 0, 0, 0, 0, 0, 0, 0, 0, 0]⟩
theorem exampleRep_eq : repBytes 7 1 0 [] = (exampleRep, 0) := by decide +kernel
set_option maxRecDepth 100000 in
theorem repAwake_any (w : World) : Calls Try.prog 14 #[] w fun e w' => e = .returned (.bool true) ∧ Below w.heap.size w w' := by
  have HF := Lib.hid (repBytes_any 7 1 0 _ [] w (FndRow.nil w) (by simp) (by omega) (by omega) (by omega))
  rw [exampleRep_eq] at HF
  have z : exampleRep.size = 20 := rfl
  have b0 : exampleRep.data[0]? = some 7 := rfl
  have b6 : exampleRep.data[6]? = some 1 := rfl
  go_enter Try.func14, Try.ntmps14
  go_wp2_with fail
  refine HF.out.mono ?_
  rintro e W1 ⟨rfl, hb1⟩
  have HB1 := Lib.hid hb1
  clear hb1 HF
  go_wp2_with fail
  go_ret
  exact ⟨rfl, HB1.out⟩
set_option maxRecDepth 100000 in
theorem reportBytes_walk (a0 a1 a2 : Int) (v : Value) (l : List Four) (w : World) (h : FndRow w v l) (h0 : -9223372036854775808 ≤ a0 ∧ a0 ≤ 9223372036854775807) (h1 : -9223372036854775808 ≤ a1 ∧ a1 ≤ 9223372036854775807) (h2 : -9223372036854775808 ≤ a2 ∧ a2 ≤ 9223372036854775807) :
    Calls Try.prog 3 #[.agg #[.int .i64 a0, .int .i64 a1, .int .i64 a2, v]] w fun e w' => e = .returned (.bool true) ∧ Below w.heap.size w w' := by
  obtain ⟨ao, cap, rfl, hcap, hmax⟩ := h.form
  have hu24 := Try.underlying24
  have H := Lib.hid h
  have H0 := Lib.hid h0
  have H1 := Lib.hid h1
  have H2 := Lib.hid h2
  clear h h0 h1 h2 hmax hcap
  go_enter Try.func3, Try.ntmps3
  go_wp2_with fail
  refine (few_any a0 a1 a2 _ l 200 (by omega) _ (H.out.below ((Below.refl _ w).alloc (Nat.le_refl _) _))).mono ?_
  rintro e W1 ⟨v', rfl, hf, hb1⟩
  have hr := hf w H.out
  have hlen : (l.take 200).length ≤ 200 := List.length_take_le _ _
  obtain ⟨m, hm⟩ : ∃ m, m = l.take 200 := ⟨_, rfl⟩
  rw [← hm] at hr hlen
  have hbx : W1.heap[w.heap.size]? = some (.cells #[.int .i64 a0, .int .i64 a1, .int .i64 a2, .slice ao l.length cap] 24 (0, 0)) := (hb1.block _ (by simp)).trans (get_top rfl)
  have hbel : Below w.heap.size w W1 := ((Below.refl _ w).alloc (Nat.le_refl _) _).trans (hb1.mono (by simp))
  obtain ⟨gx, hgx⟩ : ∃ g, g = w.heap.size := ⟨_, rfl⟩
  rw [← hgx] at hbx hbel ⊢
  have c0 := (blk_cell hbx 0).trans rfl
  have c1 := (blk_cell hbx 1).trans rfl
  have c2 := (blk_cell hbx 2).trans rfl
  have c3 := (blk_cell hbx 3).trans rfl
  have f0 := blk_frozen hbx 0
  have f1 := blk_frozen hbx 1
  have f2 := blk_frozen hbx 2
  have f3 := blk_frozen hbx 3
  obtain ⟨ao', cap', rfl, hcap', hmax'⟩ := hr.form
  have HB := Lib.hid hbel
  have HX := Lib.hid hbx
  have HR := Lib.hid hr
  have HGX := Lib.hid hgx
  clear hbel hbx hr hgx hf hb1 hm hmax' hcap'
  go_wp2_with fail
  have hx2 : ((((W1.setCell ⟨gx, 0, none⟩ (.int .i64 a0)).setCell ⟨gx, 1, none⟩ (.int .i64 a1)).setCell ⟨gx, 2, none⟩ (.int .i64 a2)).setCell ⟨gx, 3, none⟩ (.slice ao' m.length cap')).heap[gx]? = some (.cells #[.int .i64 a0, .int .i64 a1, .int .i64 a2, .slice ao' m.length cap'] 24 (0, 0)) :=
    (blk_set (blk_set (blk_set (blk_set HX.out 0 _) 1 _) 2 _) 3 _).trans rfl
  have hb2 : Below gx w ((((W1.setCell ⟨gx, 0, none⟩ (.int .i64 a0)).setCell ⟨gx, 1, none⟩ (.int .i64 a1)).setCell ⟨gx, 2, none⟩ (.int .i64 a2)).setCell ⟨gx, 3, none⟩ (.slice ao' m.length cap')) :=
    (((HB.out.setCell (Nat.le_refl _) _).setCell (Nat.le_refl _) _).setCell (Nat.le_refl _) _).setCell (Nat.le_refl _) _
  generalize ((((W1.setCell ⟨gx, 0, none⟩ (.int .i64 a0)).setCell ⟨gx, 1, none⟩ (.int .i64 a1)).setCell ⟨gx, 2, none⟩ (.int .i64 a2)).setCell ⟨gx, 3, none⟩ (.slice ao' m.length cap')) = W2 at hx2 hb2 ⊢
  have hr2 := HR.out.below (w1 := W2) (by rw [← HGX.out]; exact hb2)
  refine (repBytes_any a0 a1 a2 _ m W2 hr2 (by omega) H0.out H1.out H2.out).mono ?_
  rintro e W3 ⟨rfl, hb3⟩
  have hx3 : W3.heap[gx]? = _ := (hb3.block gx (blk_lt hx2)).trans hx2
  have hbel3 : Below gx w W3 := hb2.trans (hb3.mono (by have := blk_lt hx2; omega))
  have d0 := (blk_cell hx3 0).trans rfl
  have d1 := (blk_cell hx3 1).trans rfl
  have d2 := (blk_cell hx3 2).trans rfl
  have d3 := (blk_cell hx3 3).trans rfl
  have HB3 := Lib.hid hbel3
  obtain ⟨⟨S, st⟩, hS⟩ : ∃ q, q = repBytes a0 a1 a2 m := ⟨_, rfl⟩
  have HS := Lib.hid hS
  rw [← hS]
  simp only
  clear hbel3 hx3 hb3 hr2 hb2 hx2 HX HB c0 c1 c2 c3 f0 f1 f2 f3 hS
  go_wp2_with fail
  have hr3 := HR.out.below (w1 := W3) (by rw [← HGX.out]; exact HB3.out)
  refine (PReportBytes.refBytes_any a0 a1 a2 _ m W3 hr3 (by omega) (fun f hf => by have h := hr3.in64 f hf; exact ⟨(wfI h.1).2, (wfI h.2.1).2, (wfI h.2.2.1).2, (wfI h.2.2.2).2⟩) H0.out.2 H1.out.2 H2.out.2).mono ?_
  rw [← HS.out]
  rintro e W4 ⟨rfl, hb4⟩
  have hb4' : Below gx w W4 := HB3.out.trans (hb4.mono (by rw [HGX.out]; exact HB3.out.size))
  have HB4 := Lib.hid hb4'
  clear hb4 hb4' HB3 HS hr3 d0 d1 d2 d3
  simp only
  go_wp2_with fail
  refine (repAwake_any W4).mono ?_
  rintro e W5 ⟨rfl, hb5⟩
  have HB5 := Lib.hid (HB4.out.trans (hb5.mono (by rw [HGX.out]; exact HB4.out.size)))
  clear hb5
  go_wp2_with fail
  go_ret
  rw [← HGX.out]
  exact ⟨rfl, HB5.out⟩
end Go.Proofs.Ythobfbiobnmceaa.B
