/-
  pack.SuperOf, walked.
-/
import Derived.Test.YtpbmgollolbgoaaRest
namespace Go.Proofs.Ytpbmgollolbgoaa.B
open Go.RowKit
set_option linter.unusedVariables false

/-- A superblock's value. -/
def superVal (l : List Int) (r : ByteArray) : Value := .agg ((l.map (Value.int .i64)) ++ [Value.string r]).toArray
/-- What a superblock's bytes say: the four numbers, the root, and the error. -/
def superOfSpec (s : ByteArray) : List Int × ByteArray × Int :=
  if 448 < s.size then ([0, 0, 0, 0], ⟨#[]⟩, 4) else if s.size < 448 then ([0, 0, 0, 0], ⟨#[]⟩, 3)
  else if restSpec s 54 = false then ([0, 0, 0, 0], ⟨#[]⟩, 5)
  else ([num s 0 6, num s 6 6, num s 12 6, num s 18 4], s.extract 22 54, 0)

theorem sets5 {W : World} {g : Nat} {t : TypeId} {c0 c1 c2 c3 c4 : Value} (n0 n1 n2 n3 n4 : Value) (hg : W.heap[g]? = some (.cells #[c0, c1, c2, c3, c4] t (0, 0))) :
    ∃ W', (((((W.setCell ⟨g, 0, none⟩ n0).setCell ⟨g, 1, none⟩ n1).setCell ⟨g, 2, none⟩ n2).setCell ⟨g, 3, none⟩ n3).setCell ⟨g, 4, none⟩ n4) = W' ∧ W'.heap[g]? = some (.cells #[n0, n1, n2, n3, n4] t (0, 0)) ∧ (∀ i, i ≠ g → W'.heap[i]? = W.heap[i]?) ∧ ∀ (B : Nat) (a : World), Below B a W → B ≤ g → Below B a W' := by
  have q0 := hg
  have q1 : (W.setCell ⟨g, 0, none⟩ n0).heap[g]? = some (.cells #[n0, c1, c2, c3, c4] t (0, 0)) := blk_set q0 0 n0
  have q2 : ((W.setCell ⟨g, 0, none⟩ n0).setCell ⟨g, 1, none⟩ n1).heap[g]? = some (.cells #[n0, n1, c2, c3, c4] t (0, 0)) := blk_set q1 1 n1
  have q3 : (((W.setCell ⟨g, 0, none⟩ n0).setCell ⟨g, 1, none⟩ n1).setCell ⟨g, 2, none⟩ n2).heap[g]? = some (.cells #[n0, n1, n2, c3, c4] t (0, 0)) := blk_set q2 2 n2
  have q4 : ((((W.setCell ⟨g, 0, none⟩ n0).setCell ⟨g, 1, none⟩ n1).setCell ⟨g, 2, none⟩ n2).setCell ⟨g, 3, none⟩ n3).heap[g]? = some (.cells #[n0, n1, n2, n3, c4] t (0, 0)) := blk_set q3 3 n3
  have q5 : (((((W.setCell ⟨g, 0, none⟩ n0).setCell ⟨g, 1, none⟩ n1).setCell ⟨g, 2, none⟩ n2).setCell ⟨g, 3, none⟩ n3).setCell ⟨g, 4, none⟩ n4).heap[g]? = some (.cells #[n0, n1, n2, n3, n4] t (0, 0)) := blk_set q4 4 n4
  refine ⟨_, rfl, q5, fun i hi => ?_, fun B a hb hbg => (((((hb.setCell (p := ⟨g, 0, none⟩) hbg n0).setCell (p := ⟨g, 1, none⟩) hbg n1).setCell (p := ⟨g, 2, none⟩) hbg n2).setCell (p := ⟨g, 3, none⟩) hbg n3).setCell (p := ⟨g, 4, none⟩) hbg n4)⟩
  simp [Below.heap_setCell, hi]

set_option maxRecDepth 100000 in
set_option maxHeartbeats 1600000 in
theorem SuperOf_any (s : ByteArray) (w : World) :
    Calls Try.prog 36 #[.string s] w fun e w' => e = .returned (.tuple #[superVal (superOfSpec s).1 (superOfSpec s).2.1, .int .i64 (superOfSpec s).2.2]) ∧ Below w.heap.size w w' := by
  have hu := Try.underlying42
  by_cases hlong : 448 < s.size
  · have h : superOfSpec s = ([0, 0, 0, 0], ⟨#[]⟩, 4) := by rw [superOfSpec, if_pos hlong]
    have H := Lib.hid h
    clear h
    go_enter Try.func36, Try.ntmps36
    go_wp2
    refine bodyPost_ret (v := .tuple #[superVal [0, 0, 0, 0] ⟨#[]⟩, .int .i64 4]) (by simp [results, Try.results36, go_sem, superVal]) rfl ?_
    rw [H.out]
    exact ⟨rfl, (Below.refl _ w).alloc (Nat.le_refl _) _⟩
  by_cases hless : s.size < 448
  · have h : superOfSpec s = ([0, 0, 0, 0], ⟨#[]⟩, 3) := by rw [superOfSpec, if_neg hlong, if_pos hless]
    have H := Lib.hid h
    clear h
    go_enter Try.func36, Try.ntmps36
    go_wp2
    refine bodyPost_ret (v := .tuple #[superVal [0, 0, 0, 0] ⟨#[]⟩, .int .i64 3]) (by simp [results, Try.results36, go_sem, superVal]) rfl ?_
    rw [H.out]
    exact ⟨rfl, (Below.refl _ w).alloc (Nat.le_refl _) _⟩
  have hsz : s.size = 448 := by omega
  have hspec : superOfSpec s = if restSpec s 54 = false then ([0, 0, 0, 0], ⟨#[]⟩, 5) else ([num s 0 6, num s 6 6, num s 12 6, num s 18 4], s.extract 22 54, 0) := by rw [superOfSpec, if_neg hlong, if_neg hless]
  have HSPEC := Lib.hid hspec
  have HSZ := Lib.hid hsz
  clear hspec hlong hless
  go_enter Try.func36, Try.ntmps36
  go_wp2_with fail
  have R0 := Rd.made1 w (.cells #[.int .i64 0, .int .i64 0, .int .i64 0, .int .i64 0, .string ⟨#[]⟩] 42 (0, 0)) s
  refine (take_ok (w.heap.size + 1) s 0 6 _ R0.cu (by omega) (by omega) (by omega) (by omega)).mono ?_
  rintro e w1 ⟨rfl, nd, hw⟩
  have R1' := hw ▸ R0.step 6 6 rfl nd
  have RH := Lib.hid R1'
  clear R0 R1' hw
  go_wp2_with fail
  have R0 := RH.out
  clear RH
  refine (take_ok (w.heap.size + 1) s 6 6 _ R0.cu (by omega) (by omega) (by omega) (by omega)).mono ?_
  rintro e w2 ⟨rfl, nd, hw⟩
  have R1' := hw ▸ R0.step 6 12 rfl nd
  have RH := Lib.hid R1'
  clear R0 R1' hw
  go_wp2_with fail
  have R0 := RH.out
  clear RH
  refine (take_ok (w.heap.size + 1) s 12 6 _ R0.cu (by omega) (by omega) (by omega) (by omega)).mono ?_
  rintro e w3 ⟨rfl, nd, hw⟩
  have R1' := hw ▸ R0.step 6 18 rfl nd
  have RH := Lib.hid R1'
  clear R0 R1' hw
  go_wp2_with fail
  have R0 := RH.out
  clear RH
  refine (take_ok (w.heap.size + 1) s 18 4 _ R0.cu (by omega) (by omega) (by omega) (by omega)).mono ?_
  rintro e w4 ⟨rfl, nd, hw⟩
  have R1' := hw ▸ R0.step 4 22 rfl nd
  have RH := Lib.hid R1'
  clear R0 R1' hw
  go_wp2_with fail
  have R0 := RH.out
  clear RH
  refine (text_ok (w.heap.size + 1) s 22 32 _ R0.cu (by omega) (by omega) (by omega)).mono ?_
  rintro e w5 ⟨rfl, nd, hw⟩
  have R1' := hw ▸ R0.step 32 54 rfl nd
  have RH := Lib.hid R1'
  clear R0 R1' hw
  go_wp2_with fail
  have R0 := RH.out.alloc (.cells #[.int .i64 (num s 0 6), .int .i64 (num s 6 6), .int .i64 (num s 12 6), .int .i64 (num s 18 4), .string (s.extract 22 54)] 42 (0, 0))
  have hk : (w5.alloc (.cells #[.int .i64 (num s 0 6), .int .i64 (num s 6 6), .int .i64 (num s 12 6), .int .i64 (num s 18 4), .string (s.extract 22 54)] 42 (0, 0))).heap[w5.heap.size]? = _ := get_top rfl
  have h5 : w.heap.size + 1 < w5.heap.size := by
    have := RH.out.cu
    exact blk_lt this
  refine (rest_any (w.heap.size + 1) s 54 _ R0.cu (by omega) (by omega)).mono ?_
  rintro e w6 ⟨rfl, hb6⟩
  have b0 : w6.heap[w.heap.size]? = some (.cells #[.int .i64 0, .int .i64 0, .int .i64 0, .int .i64 0, .string ⟨#[]⟩] 42 (0, 0)) := (hb6.block _ (by simp; omega)).trans (R0.box 0 _ rfl)
  have k0 : w6.heap[w5.heap.size]? = some (.cells #[.int .i64 (num s 0 6), .int .i64 (num s 6 6), .int .i64 (num s 12 6), .int .i64 (num s 18 4), .string (s.extract 22 54)] 42 (0, 0)) := (hb6.block _ (by simp)).trans hk
  have hbel : Below w.heap.size w w6 := R0.bel.trans (hb6.mono R0.bel.size)
  have HB := Lib.hid hbel
  have HB0 := Lib.hid b0
  have c0 := blk_cell b0 0
  have z0 := blk_frozen b0 0
  have c1 := blk_cell b0 1
  have z1 := blk_frozen b0 1
  have c2 := blk_cell b0 2
  have z2 := blk_frozen b0 2
  have c3 := blk_cell b0 3
  have z3 := blk_frozen b0 3
  have c4 := blk_cell b0 4
  have z4 := blk_frozen b0 4
  have l0 := blk_lt b0
  have l1 := blk_lt k0
  have kk0 := blk_cell k0 0
  have kk1 := blk_cell k0 1
  have kk2 := blk_cell k0 2
  have kk3 := blk_cell k0 3
  have kk4 := blk_cell k0 4
  clear hbel b0 hb6 hk R0 RH k0 hsz
  generalize num s 0 6 = n0 at *
  generalize num s 6 6 = n1 at *
  generalize num s 12 6 = n2 at *
  generalize num s 18 4 = n3 at *
  by_cases hr : restSpec s 54 = false
  · have hsp : superOfSpec s = ([0, 0, 0, 0], ⟨#[]⟩, 5) := by rw [HSPEC.out, if_pos hr]
    have HSP := Lib.hid hsp
    clear hsp HSPEC
    rw [hr]
    obtain ⟨W, hW, j0, _, hB⟩ := sets5 (.int .i64 0) (.int .i64 0) (.int .i64 0) (.int .i64 0) (.string ⟨#[]⟩) HB0.out
    have hB := hB _ _ HB.out (Nat.le_refl _)
    have d0 := blk_cell j0 0
    have d1 := blk_cell j0 1
    have d2 := blk_cell j0 2
    have d3 := blk_cell j0 3
    have d4 := blk_cell j0 4
    go_wp2
    clear hW j0
    refine bodyPost_ret (v := .tuple #[superVal [0, 0, 0, 0] ⟨#[]⟩, .int .i64 5]) (by simp [results, Try.results36, go_sem, superVal, d0, d1, d2, d3, d4]) rfl ?_
    rw [HSP.out]
    exact ⟨rfl, hB⟩
  · have hsp : superOfSpec s = ([n0, n1, n2, n3], s.extract 22 54, 0) := by rw [HSPEC.out, if_neg hr]
    have HSP := Lib.hid hsp
    have hr' : restSpec s 54 = true := by simpa using hr
    clear hsp HSPEC
    rw [hr']
    generalize s.extract 22 54 = x at *
    obtain ⟨W, hW, j0, _, hB⟩ := sets5 (.int .i64 n0) (.int .i64 n1) (.int .i64 n2) (.int .i64 n3) (.string x) HB0.out
    have hB := hB _ _ HB.out (Nat.le_refl _)
    have d0 := blk_cell j0 0
    have d1 := blk_cell j0 1
    have d2 := blk_cell j0 2
    have d3 := blk_cell j0 3
    have d4 := blk_cell j0 4
    go_wp2
    clear hW j0
    refine bodyPost_ret (v := .tuple #[superVal [n0, n1, n2, n3] x, .int .i64 0]) (by simp [results, Try.results36, go_sem, superVal, d0, d1, d2, d3, d4]) rfl ?_
    rw [HSP.out]
    exact ⟨rfl, hB⟩
end Go.Proofs.Ytpbmgollolbgoaa.B