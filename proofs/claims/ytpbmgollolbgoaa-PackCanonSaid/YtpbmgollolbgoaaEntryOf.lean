/-
  pack.EntryOf, walked.
-/
import Derived.Test.YtpbmgollolbgoaaRest
namespace Go.Proofs.Ytpbmgollolbgoaa.B
open Go.RowKit
set_option linter.unusedVariables false

def allZero (x : ByteArray) : Bool := (bytesOf x).all (· == 0)
theorem restSpec_eq (s : ByteArray) (p : Nat) : restSpec s p = allZero (s.extract p s.size) := rfl
def entryVal (x : ByteArray) (i g : Int) : Value := .agg #[.string x, .int .i64 i, .int .i64 g]
/-- What an entry's bytes say: the name, the two numbers, and the error. -/
def entryOfSpec (s : ByteArray) : ByteArray × Int × Int × Int :=
  if 28 < s.size then (⟨#[]⟩, 0, 0, 4) else if s.size < 28 then (⟨#[]⟩, 0, 0, 3)
  else if 19 < (num s 0 1).toNat then (⟨#[]⟩, 0, 0, 5)
  else if allZero (s.extract (1 + (num s 0 1).toNat) 20) = false ∨ ((num s 0 1).toNat = 0 ∧ (num s 20 4 ≠ 0 ∨ num s 24 4 ≠ 0)) then (⟨#[]⟩, 0, 0, 5)
  else (s.extract 1 (1 + (num s 0 1).toNat), num s 20 4, num s 24 4, 0)

theorem sets3e {W : World} {g h : Nat} {t t' : TypeId} {c0 c1 c2 x : Value} (n0 n1 n2 m : Value) (hg : W.heap[g]? = some (.cells #[c0, c1, c2] t (0, 0))) (hh : W.heap[h]? = some (.cells #[x] t' (0, 0))) (hne : g ≠ h) :
    ∃ W', ((((W.setCell ⟨g, 0, none⟩ n0).setCell ⟨g, 1, none⟩ n1).setCell ⟨g, 2, none⟩ n2).setCell ⟨h, 0, none⟩ m) = W' ∧ W'.heap[g]? = some (.cells #[n0, n1, n2] t (0, 0)) ∧ W'.heap[h]? = some (.cells #[m] t' (0, 0)) ∧ (∀ i, i ≠ g → i ≠ h → W'.heap[i]? = W.heap[i]?) ∧ ∀ (B : Nat) (a : World), Below B a W → B ≤ g → B ≤ h → Below B a W' := by
  have q0 := hg
  have q1 : (W.setCell ⟨g, 0, none⟩ n0).heap[g]? = some (.cells #[n0, c1, c2] t (0, 0)) := blk_set q0 0 n0
  have q2 : ((W.setCell ⟨g, 0, none⟩ n0).setCell ⟨g, 1, none⟩ n1).heap[g]? = some (.cells #[n0, n1, c2] t (0, 0)) := blk_set q1 1 n1
  have q3 : (((W.setCell ⟨g, 0, none⟩ n0).setCell ⟨g, 1, none⟩ n1).setCell ⟨g, 2, none⟩ n2).heap[g]? = some (.cells #[n0, n1, n2] t (0, 0)) := blk_set q2 2 n2
  refine ⟨_, rfl, (Below.heap_setCell _ _ _ _ hne).trans q3, blk_set ((Below.heap_setCell _ ⟨g, 2, none⟩ n2 _ (Ne.symm hne)).trans ((Below.heap_setCell _ ⟨g, 1, none⟩ n1 _ (Ne.symm hne)).trans ((Below.heap_setCell _ ⟨g, 0, none⟩ n0 _ (Ne.symm hne)).trans hh))) 0 m, fun i hi hj => ?_, fun B a hb hbg hbh => (((hb.setCell (p := ⟨g, 0, none⟩) hbg n0).setCell (p := ⟨g, 1, none⟩) hbg n1).setCell (p := ⟨g, 2, none⟩) hbg n2).setCell (p := ⟨h, 0, none⟩) hbh m⟩
  simp [Below.heap_setCell, hi, hj]

set_option maxRecDepth 100000 in
set_option maxHeartbeats 1600000 in
theorem EntryOf_any (s : ByteArray) (hS : s.size ≤ 9223372036854775807) (w : World) :
    Calls Try.prog 38 #[.string s] w fun e w' => e = .returned (.tuple #[entryVal (entryOfSpec s).1 (entryOfSpec s).2.1 (entryOfSpec s).2.2.1, .int .i64 (entryOfSpec s).2.2.2]) ∧ Below w.heap.size w w' := by
  have hmf : ∀ (fn : Fn) (first cap : Array Value) (w : World), (Instr.makeFunc fn first cap).run Try.prog w = .ok (.func fn first cap) w := fun _ _ _ _ => rfl
  have hu := Try.underlying34
  by_cases hlong : 28 < s.size
  · have h : entryOfSpec s = (⟨#[]⟩, 0, 0, 4) := by rw [entryOfSpec, if_pos hlong]
    have H := Lib.hid h
    clear h
    go_enter Try.func38, Try.ntmps38
    go_wp2
    refine bodyPost_ret (v := .tuple #[entryVal ⟨#[]⟩ 0 0, .int .i64 4]) (by simp [results, Try.results38, go_sem, entryVal]) rfl ?_
    rw [H.out]
    exact ⟨rfl, ((Below.refl _ w).alloc (Nat.le_refl _) _).alloc (by simp) _⟩
  have hl : ¬ (28 : Int) < (s.size : Int) := by omega
  have HL := Lib.hid hlong
  have HS := Lib.hid hS
  clear hlong hS
  go_enter_defers Try.func38, Try.ntmps38
  go_wp2_with fail
  have R0 := Rd.made2 w (.cells #[.string ⟨#[]⟩, .int .i64 0, .int .i64 0] 34 (0, 0)) (.cells #[.int .i64 0] 22 (0, 0)) s
  refine (take_any (w.heap.size + 1 + 1) s 0 1 _ R0.cu HS.out (by omega) (by omega) (by omega)).mono ?_
  rintro e w1 (⟨hp, rfl, nd, hw⟩ | ⟨hp, rfl, nd, hw⟩)
  rotate_left
  · have R1 := hw ▸ R0.drew nd
    clear hw R0
    have hsp : entryOfSpec s = (⟨#[]⟩, 0, 0, 3) := by rw [entryOfSpec, if_neg HL.out, if_pos (by omega)]
    have HSP := Lib.hid hsp
    clear hsp hp
    have b0 := R1.box 0 _ rfl
    have b1 := R1.box 1 _ rfl
    have c0 := blk_cell b1 0
    have z0 := blk_frozen b1 0
    have l0 := blk_lt b1
    go_wp2
    refine leaves_cons (f := 54) (args := #[.pointer (some ⟨w.heap.size + 1, 0, none⟩)]) (by simp) (by simp [go_sem]) ?_
    refine (EntryOf1_panicking ⟨w.heap.size + 1, 0, none⟩ (.int .i64 0) [] _ c0 z0 l0).mono ?_
    rintro e u' w'' ⟨rfl, rfl, rfl⟩
    have k0 : ((w1.alloc (.cells #[] 77)).setCell ⟨w.heap.size + 1, 0, none⟩ (.int .i64 3)).heap[w.heap.size]? = _ := (Below.heap_setCell _ _ _ _ (by simp)).trans (get_below b0)
    have k1 : ((w1.alloc (.cells #[] 77)).setCell ⟨w.heap.size + 1, 0, none⟩ (.int .i64 3)).heap[w.heap.size + 1]? = _ := blk_set (get_below b1) 0 _
    have hB : Below w.heap.size w ((w1.alloc (.cells #[] 77)).setCell ⟨w.heap.size + 1, 0, none⟩ (.int .i64 3)) := (R1.bel.alloc R1.bel.size _).setCell (by simp) _
    generalize ((w1.alloc (.cells #[] 77)).setCell ⟨w.heap.size + 1, 0, none⟩ (.int .i64 3)) = W at k0 k1 hB ⊢
    have d0 := blk_cell k0 0
    have d1 := blk_cell k0 1
    have d2 := blk_cell k0 2
    have e0 := blk_cell k1 0
    rw [HSP.out]
    simp [Leaves, settle, results, Try.results38, go_sem, d0, d1, d2, e0, entryVal]
    exact hB
  have R1' := hw ▸ R0.step 1 1 rfl nd
  have R0 := R1'
  clear R1' hw
  have RH := Lib.hid R0
  have HP := Lib.hid hp
  clear R0 hp
  go_wp2_with fail
  have R0 := RH.out
  have hp := HP.out
  clear HP
  refine (text_any (w.heap.size + 1 + 1) s 1 19 _ R0.cu HS.out (by omega) (by omega)).mono ?_
  rintro e w2 (⟨hp, rfl, nd, hw⟩ | ⟨hp, rfl, nd, hw⟩)
  rotate_left
  · have R1 := hw ▸ R0.drew nd
    clear hw R0
    have hsp : entryOfSpec s = (⟨#[]⟩, 0, 0, 3) := by rw [entryOfSpec, if_neg HL.out, if_pos (by omega)]
    have HSP := Lib.hid hsp
    clear hsp hp
    have b0 := R1.box 0 _ rfl
    have b1 := R1.box 1 _ rfl
    have c0 := blk_cell b1 0
    have z0 := blk_frozen b1 0
    have l0 := blk_lt b1
    go_wp2
    refine leaves_cons (f := 54) (args := #[.pointer (some ⟨w.heap.size + 1, 0, none⟩)]) (by simp) (by simp [go_sem]) ?_
    refine (EntryOf1_panicking ⟨w.heap.size + 1, 0, none⟩ (.int .i64 0) [] _ c0 z0 l0).mono ?_
    rintro e u' w'' ⟨rfl, rfl, rfl⟩
    have k0 : ((w2.alloc (.cells #[] 77)).setCell ⟨w.heap.size + 1, 0, none⟩ (.int .i64 3)).heap[w.heap.size]? = _ := (Below.heap_setCell _ _ _ _ (by simp)).trans (get_below b0)
    have k1 : ((w2.alloc (.cells #[] 77)).setCell ⟨w.heap.size + 1, 0, none⟩ (.int .i64 3)).heap[w.heap.size + 1]? = _ := blk_set (get_below b1) 0 _
    have hB : Below w.heap.size w ((w2.alloc (.cells #[] 77)).setCell ⟨w.heap.size + 1, 0, none⟩ (.int .i64 3)) := (R1.bel.alloc R1.bel.size _).setCell (by simp) _
    generalize ((w2.alloc (.cells #[] 77)).setCell ⟨w.heap.size + 1, 0, none⟩ (.int .i64 3)) = W at k0 k1 hB ⊢
    have d0 := blk_cell k0 0
    have d1 := blk_cell k0 1
    have d2 := blk_cell k0 2
    have e0 := blk_cell k1 0
    rw [HSP.out]
    simp [Leaves, settle, results, Try.results38, go_sem, d0, d1, d2, e0, entryVal]
    exact hB
  have R1' := hw ▸ R0.step 19 20 rfl nd
  have R0 := R1'
  clear R1' hw
  have RH := Lib.hid R0
  have HP := Lib.hid hp
  clear R0 hp
  go_wp2_with fail
  have R0 := RH.out
  have hp := HP.out
  clear HP
  refine (take_any (w.heap.size + 1 + 1) s 20 4 _ R0.cu HS.out (by omega) (by omega) (by omega)).mono ?_
  rintro e w3 (⟨hp, rfl, nd, hw⟩ | ⟨hp, rfl, nd, hw⟩)
  rotate_left
  · have R1 := hw ▸ R0.drew nd
    clear hw R0
    have hsp : entryOfSpec s = (⟨#[]⟩, 0, 0, 3) := by rw [entryOfSpec, if_neg HL.out, if_pos (by omega)]
    have HSP := Lib.hid hsp
    clear hsp hp
    have b0 := R1.box 0 _ rfl
    have b1 := R1.box 1 _ rfl
    have c0 := blk_cell b1 0
    have z0 := blk_frozen b1 0
    have l0 := blk_lt b1
    go_wp2
    refine leaves_cons (f := 54) (args := #[.pointer (some ⟨w.heap.size + 1, 0, none⟩)]) (by simp) (by simp [go_sem]) ?_
    refine (EntryOf1_panicking ⟨w.heap.size + 1, 0, none⟩ (.int .i64 0) [] _ c0 z0 l0).mono ?_
    rintro e u' w'' ⟨rfl, rfl, rfl⟩
    have k0 : ((w3.alloc (.cells #[] 77)).setCell ⟨w.heap.size + 1, 0, none⟩ (.int .i64 3)).heap[w.heap.size]? = _ := (Below.heap_setCell _ _ _ _ (by simp)).trans (get_below b0)
    have k1 : ((w3.alloc (.cells #[] 77)).setCell ⟨w.heap.size + 1, 0, none⟩ (.int .i64 3)).heap[w.heap.size + 1]? = _ := blk_set (get_below b1) 0 _
    have hB : Below w.heap.size w ((w3.alloc (.cells #[] 77)).setCell ⟨w.heap.size + 1, 0, none⟩ (.int .i64 3)) := (R1.bel.alloc R1.bel.size _).setCell (by simp) _
    generalize ((w3.alloc (.cells #[] 77)).setCell ⟨w.heap.size + 1, 0, none⟩ (.int .i64 3)) = W at k0 k1 hB ⊢
    have d0 := blk_cell k0 0
    have d1 := blk_cell k0 1
    have d2 := blk_cell k0 2
    have e0 := blk_cell k1 0
    rw [HSP.out]
    simp [Leaves, settle, results, Try.results38, go_sem, d0, d1, d2, e0, entryVal]
    exact hB
  have R1' := hw ▸ R0.step 4 24 rfl nd
  have R0 := R1'
  clear R1' hw
  have RH := Lib.hid R0
  have HP := Lib.hid hp
  clear R0 hp
  go_wp2_with fail
  have R0 := RH.out
  have hp := HP.out
  clear HP
  refine (take_any (w.heap.size + 1 + 1) s 24 4 _ R0.cu HS.out (by omega) (by omega) (by omega)).mono ?_
  rintro e w4 (⟨hp, rfl, nd, hw⟩ | ⟨hp, rfl, nd, hw⟩)
  rotate_left
  · have R1 := hw ▸ R0.drew nd
    clear hw R0
    have hsp : entryOfSpec s = (⟨#[]⟩, 0, 0, 3) := by rw [entryOfSpec, if_neg HL.out, if_pos (by omega)]
    have HSP := Lib.hid hsp
    clear hsp hp
    have b0 := R1.box 0 _ rfl
    have b1 := R1.box 1 _ rfl
    have c0 := blk_cell b1 0
    have z0 := blk_frozen b1 0
    have l0 := blk_lt b1
    go_wp2
    refine leaves_cons (f := 54) (args := #[.pointer (some ⟨w.heap.size + 1, 0, none⟩)]) (by simp) (by simp [go_sem]) ?_
    refine (EntryOf1_panicking ⟨w.heap.size + 1, 0, none⟩ (.int .i64 0) [] _ c0 z0 l0).mono ?_
    rintro e u' w'' ⟨rfl, rfl, rfl⟩
    have k0 : ((w4.alloc (.cells #[] 77)).setCell ⟨w.heap.size + 1, 0, none⟩ (.int .i64 3)).heap[w.heap.size]? = _ := (Below.heap_setCell _ _ _ _ (by simp)).trans (get_below b0)
    have k1 : ((w4.alloc (.cells #[] 77)).setCell ⟨w.heap.size + 1, 0, none⟩ (.int .i64 3)).heap[w.heap.size + 1]? = _ := blk_set (get_below b1) 0 _
    have hB : Below w.heap.size w ((w4.alloc (.cells #[] 77)).setCell ⟨w.heap.size + 1, 0, none⟩ (.int .i64 3)) := (R1.bel.alloc R1.bel.size _).setCell (by simp) _
    generalize ((w4.alloc (.cells #[] 77)).setCell ⟨w.heap.size + 1, 0, none⟩ (.int .i64 3)) = W at k0 k1 hB ⊢
    have d0 := blk_cell k0 0
    have d1 := blk_cell k0 1
    have d2 := blk_cell k0 2
    have e0 := blk_cell k1 0
    rw [HSP.out]
    simp [Leaves, settle, results, Try.results38, go_sem, d0, d1, d2, e0, entryVal]
    exact hB
  have R1' := hw ▸ R0.step 4 28 rfl nd
  have R0 := R1'
  clear R1' hw
  have RH := Lib.hid R0
  have HP := Lib.hid hp
  clear R0 hp
  have hsz : s.size = 28 := by have := HP.out; have := HL.out; omega
  obtain ⟨N, hN⟩ : ∃ N : Nat, num s 0 1 = (N : Int) := ⟨(num s 0 1).toNat, by have := (num_range s 0 1).1; omega⟩
  have hspec : entryOfSpec s = if 19 < N then (⟨#[]⟩, 0, 0, 5) else if allZero (s.extract (1 + N) 20) = false ∨ (N = 0 ∧ (num s 20 4 ≠ 0 ∨ num s 24 4 ≠ 0)) then (⟨#[]⟩, 0, 0, 5) else (s.extract 1 (1 + N), num s 20 4, num s 24 4, 0) := by
    rw [entryOfSpec, if_neg (by omega), if_neg (by omega), hN, Int.toNat_natCast]
  have HSPEC := Lib.hid hspec
  have HSZ := Lib.hid hsz
  rw [show num s 24 (Int.toNat 4) = num s 24 4 from rfl, hN]
  have r0 := RH.out.box 0 _ rfl
  have r1 := RH.out.box 1 _ rfl
  have b0 : w4.heap[w.heap.size]? = some (.cells #[.string ⟨#[]⟩, .int .i64 0, .int .i64 0] 34 (0, 0)) := r0
  have b1 : w4.heap[w.heap.size + 1]? = some (.cells #[.int .i64 0] 22 (0, 0)) := r1
  have h4 : w.heap.size + 1 + 1 < w4.heap.size := by
    have := RH.out.cu
    exact blk_lt this
  have hbel := RH.out.bel
  clear hspec HL HS hl HP hN r0 r1
  generalize num s 20 4 = n1 at *
  generalize num s 24 4 = n2 at *
  have c0 := blk_cell b0 0
  have c1 := blk_cell b0 1
  have c2 := blk_cell b0 2
  have z0 := blk_frozen b0 0
  have z1 := blk_frozen b0 1
  have z2 := blk_frozen b0 2
  have ce := blk_cell b1 0
  have ze := blk_frozen b1 0
  have l0 := blk_lt b0
  have l1 := blk_lt b1
  have hne : w.heap.size ≠ w4.heap.size := by omega
  have hne1 : w.heap.size + 1 ≠ w4.heap.size := by omega
  have HB0 := Lib.hid b0
  have HB1 := Lib.hid b1
  have HBEL := Lib.hid hbel
  have HH4 := Lib.hid h4
  by_cases h19 : 19 < N
  · have hsp : entryOfSpec s = (⟨#[]⟩, 0, 0, 5) := by rw [HSPEC.out, if_pos h19]
    have HSP := Lib.hid hsp
    have hb : ((19 : Int) < (N : Int)) = True := by simp; omega
    clear hsp HSPEC b0 b1 hbel
    go_wp2
    refine leaves_cons (f := 54) (args := #[.pointer (some ⟨w.heap.size + 1, 0, none⟩)]) (by simp) (by simp [go_sem]) ?_
    refine (EntryOf1_idle ⟨w.heap.size + 1, 0, none⟩ _).mono ?_
    rintro e u' w'' ⟨rfl, rfl, rfl⟩
    rw [HSP.out]
    obtain ⟨W, hW, j0, j1, _, hB⟩ := sets3e (.string ⟨#[]⟩) (.int .i64 0) (.int .i64 0) (.int .i64 5) HB0.out HB1.out (by omega)
    rw [hW]
    have hB := (hB _ _ HBEL.out (by omega) (by omega))
    have hB2 := hB.alloc hB.size (.cells #[.string ⟨#[]⟩, .int .i64 n1, .int .i64 n2] 34)
    have d0 := blk_cell (get_below (o := .cells #[.string ⟨#[]⟩, .int .i64 n1, .int .i64 n2] 34) j0) 0
    have d1 := blk_cell (get_below (o := .cells #[.string ⟨#[]⟩, .int .i64 n1, .int .i64 n2] 34) j0) 1
    have d2 := blk_cell (get_below (o := .cells #[.string ⟨#[]⟩, .int .i64 n1, .int .i64 n2] 34) j0) 2
    have d8 := blk_cell (get_below (o := .cells #[.string ⟨#[]⟩, .int .i64 n1, .int .i64 n2] 34) j1) 0
    clear hW j0 j1
    generalize W.alloc (.cells #[.string ⟨#[]⟩, .int .i64 n1, .int .i64 n2] 34) = W2 at *
    simp [Leaves, settle, results, Try.results38, go_sem, entryVal, d0, d1, d2, d8]
    exact hB2
  · have hb : ¬ (19 : Int) < (N : Int) := by omega
    have hnn : (0 : Int) ≤ (N : Int) := by omega
    have hle : (N : Int) ≤ 19 := by omega
    have hle2 : N ≤ 19 := by omega
    obtain ⟨t, ht⟩ : ∃ t, t = s.extract 1 20 := ⟨_, rfl⟩
    have htsz : t.size = 19 := by rw [ht, ByteArray.size_extract, HSZ.out]; rfl
    have hx1 : s.extract 1 (1 + N) = t.extract 0 N := by rw [ht, ByteArray.extract_extract]; congr 1; omega
    have hx2 : s.extract (1 + N) 20 = t.extract N 19 := by rw [ht, ByteArray.extract_extract, show min (1 + 19) 20 = 20 from rfl]
    obtain ⟨y, hy⟩ : ∃ y, y = t.extract N 19 := ⟨_, rfl⟩
    have hysz : y.size ≤ 19 := by rw [hy, ByteArray.size_extract]; omega
    have hrs : restSpec y 0 = allZero y := by rw [restSpec_eq, ByteArray.extract_zero_size]
    have hspec : entryOfSpec s = if allZero y = false ∨ (N = 0 ∧ (n1 ≠ 0 ∨ n2 ≠ 0)) then (⟨#[]⟩, 0, 0, 5) else (t.extract 0 N, n1, n2, 0) := by rw [HSPEC.out, if_neg h19, hx1, hx2, ← hy]
    have HSP0 := Lib.hid hspec
    have HRS := Lib.hid hrs
    have hy' := hy.symm
    rw [← ht]
    clear hspec hrs HSPEC b0 b1 hbel ht hx1 hx2 hy h19
    go_wp2_with fail
    refine (rest_any (w4.heap.size + 1) y 0 _ (get_top (by simp)) (by omega) (by omega)).mono ?_
    rw [HRS.out]
    rintro e w6 ⟨rfl, hb6⟩
    have b0 : w6.heap[w.heap.size]? = some (.cells #[.string ⟨#[]⟩, .int .i64 0, .int .i64 0] 34 (0, 0)) := (hb6.block _ (by simp; omega)).trans (get_below (get_below HB0.out))
    have b1 : w6.heap[w.heap.size + 1]? = some (.cells #[.int .i64 0] 22 (0, 0)) := (hb6.block _ (by simp; omega)).trans (get_below (get_below HB1.out))
    have k0 : w6.heap[w4.heap.size]? = some (.cells #[.string (t.extract 0 N), .int .i64 n1, .int .i64 n2] 34 (0, 0)) := (hb6.block _ (by simp; omega)).trans (get_below (get_top rfl))
    have hbel : Below w.heap.size w w6 := (((HBEL.out.alloc HBEL.out.size _).alloc (by have := HBEL.out.size; simp; omega) _).trans (hb6.mono (by have := HBEL.out.size; simp; omega)))
    clear c0 c1 c2 z0 z1 z2 ce ze l0 l1 HBEL HB0 HB1
    have c0 := blk_cell b0 0
    have c1 := blk_cell b0 1
    have c2 := blk_cell b0 2
    have z0 := blk_frozen b0 0
    have z1 := blk_frozen b0 1
    have z2 := blk_frozen b0 2
    have ce := blk_cell b1 0
    have ze := blk_frozen b1 0
    have l0 := blk_lt b0
    have l1 := blk_lt b1
    have l6 := blk_lt k0
    have x0 := blk_cell k0 0
    have x1 := blk_cell k0 1
    have x2 := blk_cell k0 2
    have HB0 := Lib.hid b0
    have HB1 := Lib.hid b1
    have HBEL := Lib.hid hbel
    clear b0 b1 k0 hbel hb6 hy' hysz
    by_cases hz : allZero y = false
    · have hsp : entryOfSpec s = (⟨#[]⟩, 0, 0, 5) := by rw [HSP0.out, if_pos (.inl hz)]
      have HSP := Lib.hid hsp
      rw [hz]
      clear hsp hz HSP0 HRS
      go_wp2
      refine leaves_cons (f := 54) (args := #[.pointer (some ⟨w.heap.size + 1, 0, none⟩)]) (by simp) (by simp [go_sem]) ?_
      refine (EntryOf1_idle ⟨w.heap.size + 1, 0, none⟩ _).mono ?_
      rintro e u' w'' ⟨rfl, rfl, rfl⟩
      rw [HSP.out]
      obtain ⟨W, hW, j0, j1, _, hB⟩ := sets3e (.string ⟨#[]⟩) (.int .i64 0) (.int .i64 0) (.int .i64 5) HB0.out HB1.out (by omega)
      rw [hW]
      have hB := hB _ _ HBEL.out (by omega) (by omega)
      have d0 := blk_cell j0 0
      have d1 := blk_cell j0 1
      have d2 := blk_cell j0 2
      have d8 := blk_cell j1 0
      clear hW j0 j1
      simp [Leaves, settle, results, Try.results38, go_sem, entryVal, d0, d1, d2, d8]
      exact hB
    · have hz' : allZero y = true := by simpa using hz
      rw [hz']
      by_cases hN0 : N = 0
      · by_cases hn1 : n1 = 0
        · by_cases hn2 : n2 = 0
          · have hsp : entryOfSpec s = (t.extract 0 N, n1, n2, 0) := by rw [HSP0.out, if_neg (by simp [hz', hn1, hn2])]
            have HSP := Lib.hid hsp
            have f0 : ((N : Int) == 0) = true := by simp [hN0]
            have f1 : (n1 != 0) = false := by simp [hn1]
            have f2 : (n2 != 0) = false := by simp [hn2]
            clear hsp hz hz' HSP0 HRS hN0 hn1 hn2
            generalize t.extract 0 N = nm at *
            go_wp2
            refine leaves_cons (f := 54) (args := #[.pointer (some ⟨w.heap.size + 1, 0, none⟩)]) (by simp) (by simp [go_sem]) ?_
            refine (EntryOf1_idle ⟨w.heap.size + 1, 0, none⟩ _).mono ?_
            rintro e u' w'' ⟨rfl, rfl, rfl⟩
            rw [HSP.out]
            obtain ⟨W, hW, j0, j1, _, hB⟩ := sets3e (.string nm) (.int .i64 n1) (.int .i64 n2) (.int .i64 0) HB0.out HB1.out (by omega)
            rw [hW]
            have hB := hB _ _ HBEL.out (by omega) (by omega)
            have d0 := blk_cell j0 0
            have d1 := blk_cell j0 1
            have d2 := blk_cell j0 2
            have d8 := blk_cell j1 0
            clear hW j0 j1
            simp [Leaves, settle, results, Try.results38, go_sem, entryVal, d0, d1, d2, d8]
            exact hB
          · have hsp : entryOfSpec s = (⟨#[]⟩, 0, 0, 5) := by rw [HSP0.out, if_pos (.inr ⟨hN0, .inr hn2⟩)]
            have HSP := Lib.hid hsp
            have f0 : ((N : Int) == 0) = true := by simp [hN0]
            have f1 : (n1 != 0) = false := by simp [hn1]
            have f2 : (n2 != 0) = true := by simp [hn2]
            clear hsp hz hz' HSP0 HRS hN0 hn1 hn2
            go_wp2
            refine leaves_cons (f := 54) (args := #[.pointer (some ⟨w.heap.size + 1, 0, none⟩)]) (by simp) (by simp [go_sem]) ?_
            refine (EntryOf1_idle ⟨w.heap.size + 1, 0, none⟩ _).mono ?_
            rintro e u' w'' ⟨rfl, rfl, rfl⟩
            rw [HSP.out]
            obtain ⟨W, hW, j0, j1, _, hB⟩ := sets3e (.string ⟨#[]⟩) (.int .i64 0) (.int .i64 0) (.int .i64 5) HB0.out HB1.out (by omega)
            rw [hW]
            have hB := hB _ _ HBEL.out (by omega) (by omega)
            have d0 := blk_cell j0 0
            have d1 := blk_cell j0 1
            have d2 := blk_cell j0 2
            have d8 := blk_cell j1 0
            clear hW j0 j1
            simp [Leaves, settle, results, Try.results38, go_sem, entryVal, d0, d1, d2, d8]
            exact hB
        · have hsp : entryOfSpec s = (⟨#[]⟩, 0, 0, 5) := by rw [HSP0.out, if_pos (.inr ⟨hN0, .inl hn1⟩)]
          have HSP := Lib.hid hsp
          have f0 : ((N : Int) == 0) = true := by simp [hN0]
          have f1 : (n1 != 0) = true := by simp [hn1]
          clear hsp hz hz' HSP0 HRS hN0 hn1
          go_wp2
          refine leaves_cons (f := 54) (args := #[.pointer (some ⟨w.heap.size + 1, 0, none⟩)]) (by simp) (by simp [go_sem]) ?_
          refine (EntryOf1_idle ⟨w.heap.size + 1, 0, none⟩ _).mono ?_
          rintro e u' w'' ⟨rfl, rfl, rfl⟩
          rw [HSP.out]
          obtain ⟨W, hW, j0, j1, _, hB⟩ := sets3e (.string ⟨#[]⟩) (.int .i64 0) (.int .i64 0) (.int .i64 5) HB0.out HB1.out (by omega)
          rw [hW]
          have hB := hB _ _ HBEL.out (by omega) (by omega)
          have d0 := blk_cell j0 0
          have d1 := blk_cell j0 1
          have d2 := blk_cell j0 2
          have d8 := blk_cell j1 0
          clear hW j0 j1
          simp [Leaves, settle, results, Try.results38, go_sem, entryVal, d0, d1, d2, d8]
          exact hB
      · have hsp : entryOfSpec s = (t.extract 0 N, n1, n2, 0) := by rw [HSP0.out, if_neg (by simp [hz', hN0])]
        have HSP := Lib.hid hsp
        have f0 : ((N : Int) == 0) = false := by simp [hN0]
        clear hsp hz hz' HSP0 HRS hN0
        generalize t.extract 0 N = nm at *
        go_wp2
        refine leaves_cons (f := 54) (args := #[.pointer (some ⟨w.heap.size + 1, 0, none⟩)]) (by simp) (by simp [go_sem]) ?_
        refine (EntryOf1_idle ⟨w.heap.size + 1, 0, none⟩ _).mono ?_
        rintro e u' w'' ⟨rfl, rfl, rfl⟩
        rw [HSP.out]
        obtain ⟨W, hW, j0, j1, _, hB⟩ := sets3e (.string nm) (.int .i64 n1) (.int .i64 n2) (.int .i64 0) HB0.out HB1.out (by omega)
        rw [hW]
        have hB := hB _ _ HBEL.out (by omega) (by omega)
        have d0 := blk_cell j0 0
        have d1 := blk_cell j0 1
        have d2 := blk_cell j0 2
        have d8 := blk_cell j1 0
        clear hW j0 j1
        simp [Leaves, settle, results, Try.results38, go_sem, entryVal, d0, d1, d2, d8]
        exact hB
end Go.Proofs.Ytpbmgollolbgoaa.B