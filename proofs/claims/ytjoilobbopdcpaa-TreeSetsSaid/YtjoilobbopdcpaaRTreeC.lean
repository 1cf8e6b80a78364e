/-
  The document's Root, walked.
-/
import Derived.Test.YtjoilobbopdcpaaRTreeB
namespace Go.Proofs.Ytjoilobbopdcpaa.B
open Go.RowKit
set_option linter.unusedVariables false
set_option linter.unusedSimpArgs false

/-- Rows in their cells. -/
theorem RowsM.at_ {b0 : Nat} {rows : List (List ByteArray)} {vr : Value} {vs : List Value} {W : World} (h : RowsM b0 rows vr vs W) {i : Nat} (hi : i < rows.length) :
    ∃ ob cap v, vr = .slice (some ⟨ob, 0, none⟩) rows.length cap ∧ ob < W.heap.size ∧ rows.length ≤ cap ∧ vs[i]? = some v ∧ W.cell? ⟨ob, i, none⟩ = some v ∧ Own b0 W 9 1 v (rows.getD i []).length (strs (rows.getD i [])) := by
  have hvi : i < vs.length := by rw [h.len]; exact hi
  obtain ⟨ob, cap, he, hc, hlt⟩ := h.outer.row.form_pos (by omega)
  have hr := h.outer.row
  rw [he] at hr
  have hv : vs[i]? = some vs[i] := List.getElem?_eq_getElem hvi
  have hg : rows.getD i [] = rows[i] := by simp [List.getD, hi]
  refine ⟨ob, cap, vs[i], by rw [he, h.len], hlt, by rw [← h.len]; exact hc, hv, hr.cells i _ hv, ?_⟩
  rw [hg]
  exact h.inner i _ _ hv (List.getElem?_eq_getElem hi)
set_option maxRecDepth 100000 in
set_option maxHeartbeats 1600000 in
theorem refRoot_any (g : Nat) (v : Value) (l : List ByteArray) (w : World) (h : RefV w g) (hv : Strs w v l) (hl : l.length ≤ 1000) (hs : ∀ s ∈ l, s.size ≤ 500) :
    Calls Try.prog 22 #[.pointer (some ⟨g, 0, none⟩), v] w fun e w' => ∃ r, e = .returned (.string r) ∧ RootR (some shaF) [] l r ∧ Below w.heap.size w w' := by
  have HRW := Lib.hid (Rows_any g v l w h hv hl hs)
  have HV := Lib.hid h
  obtain ⟨ao, cap, rfl, hcap, hmax⟩ := hv.form
  clear h hv hs hmax hcap
  go_enter Try.func22, Try.ntmps22
  go_wp2_with fail
  refine HRW.out.mono ?_
  rintro e W1 ⟨rows, vr, vs, rfl, hT, hM, hb⟩
  have hpos := hT.pos
  have hcount := hT.count
  obtain ⟨ob, capr, v, rfl, hob, hcr, hv0, c2, hrow⟩ := hM.at_ (i := rows.length - 1) (by omega)
  have HT := Lib.hid hT
  have HB := Lib.hid hb
  have hts := hT.top_size vk_real
  have HTP := Lib.hid (fun W (hb : Below W1.heap.size W1 W) => Topped_any g (l.length : Int) (by omega) (topOf rows) W ((HV.out.below HB.out).below hb) (by omega))
  have htop : topOf rows = (rows.getD (rows.length - 1) []).getD 0 ⟨#[]⟩ := rfl
  have HRR := Lib.hid (show RootR (some shaF) [] l (shaF (rootT l.length (topOf rows))) from ⟨rows, hT, rfl⟩)
  obtain ⟨m, hm⟩ : ∃ m, m = rows.length := ⟨_, rfl⟩
  rw [← hm] at c2 hrow htop hpos hcount hcr ⊢
  have z : (0 : Int) < (m : Int) := by omega
  have w1 : wrap64 ((m : Int) - 1) = ((m - 1 : Nat) : Int) := by
    rw [IntWalk.wrap64_in _ ⟨by omega, by omega⟩]; omega
  have w2 : IntKind.i64.wrap ((m : Int) - 1) = ((m - 1 : Nat) : Int) := by
    rw [show (m : Int) - 1 = ((m - 1 : Nat) : Int) by omega]
    exact IntWalk.i64_in _ (by omega)
  have z2 : ((m - 1 : Nat) : Int) < (m : Int) := by omega
  have z3 : (0 : Int) ≤ ((m - 1 : Nat) : Int) := by omega
  obtain ⟨last, hlast⟩ : ∃ l, l = rows.getD (m - 1) [] := ⟨_, rfl⟩
  rw [← hlast] at hrow htop
  obtain ⟨q, hq⟩ : ∃ q, q = m - 1 := ⟨_, rfl⟩
  rw [← hq] at w1 w2 z2 z3 c2
  obtain ⟨t, ht⟩ : ∃ t, t = topOf rows := ⟨_, rfl⟩
  rw [← ht] at HTP HRR htop
  clear HRW hT hM hb hv0 hm hq hlast ht hts
  by_cases hlen : 0 < last.length
  · obtain ⟨gl, capl, he, hcl, hgl⟩ := hrow.row.form_pos hlen
    subst he
    have hu : (strs last)[0]? = some (.string t) := by
      rw [htop]
      simp [strs, hlen, List.getD]
    have c4 := hrow.row.cells 0 _ hu
    have z4 : (0 : Int) < (last.length : Int) := by omega
    obtain ⟨n, hn'⟩ : ∃ n, n = last.length := ⟨_, rfl⟩
    rw [← hn'] at z4 c2 hcl
    clear hrow hlen hn' hu htop
    go_wp2_with fail
    refine (HTP.out W1 (Below.refl _ _)).mono ?_
    rintro e W2 ⟨rfl, hb⟩
    have HB2 := Lib.hid (HB.out.trans (hb.mono HB.out.size))
    clear hb HTP
    go_wp2_with fail
    go_ret
    exact ⟨_, rfl, HRR.out, HB2.out⟩
  · have hl0' : last.length = 0 := by omega
    have hln : last = [] := List.eq_nil_of_length_eq_zero hl0'
    obtain ⟨al, capl, he, hgl⟩ := hrow.row.form
    subst he
    have ht0 : t = ⟨#[]⟩ := by rw [htop, hln]; rfl
    rw [hl0'] at c2
    subst ht0
    clear hrow hlen htop hln hl0' hgl
    go_wp2_with fail
    refine (HTP.out W1 (Below.refl _ _)).mono ?_
    rintro e W2 ⟨rfl, hb⟩
    have HB2 := Lib.hid (HB.out.trans (hb.mono HB.out.size))
    clear hb HTP
    go_wp2_with fail
    go_ret
    exact ⟨_, rfl, HRR.out, HB2.out⟩
end Go.Proofs.Ytjoilobbopdcpaa.B
