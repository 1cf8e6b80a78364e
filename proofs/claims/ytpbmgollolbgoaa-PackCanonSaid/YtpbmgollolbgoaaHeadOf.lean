/-
  pack.HeadOf, walked.
-/
import Derived.Test.YtpbmgollolbgoaaReads
namespace Go.Proofs.Ytpbmgollolbgoaa.B
open Go.RowKit
set_option linter.unusedVariables false

/-- What a head's bytes say: the eight numbers, and the error. -/
def headOfSpec (s : ByteArray) : List Int × Int :=
  if 48 < s.size then ([0, 0, 0, 0, 0, 0, 0, 0], 4) else if s.size < 48 then ([0, 0, 0, 0, 0, 0, 0, 0], 3)
  else if s.extract 40 48 ≠ ⟨#[0, 0, 0, 0, 0, 0, 0, 0]⟩ ∨ s.extract 0 4 ≠ ⟨#[71, 82, 80, 78]⟩ then ([0, 0, 0, 0, 0, 0, 0, 0], 5)
  else ([num s 4 6, num s 10 4, num s 14 2, num s 16 4, num s 20 4, num s 24 4, num s 28 6, num s 34 6], 0)
/-- A head's value. -/
def headVal (l : List Int) : Value := .agg (l.map (Value.int .i64)).toArray
theorem toList_lit {a : ByteArray} {l : List UInt8} : a.toList = l ↔ a = ⟨l.toArray⟩ := by
  rw [ByteArray.toList_eq]
  constructor
  · intro h
    exact ByteArray.ext (Array.toList_inj.mp (by simpa using h))
  · rintro rfl
    simp
theorem sets8e {W : World} {g h : Nat} {t t' : TypeId} {c0 c1 c2 c3 c4 c5 c6 c7 x : Value} (n0 n1 n2 n3 n4 n5 n6 n7 m : Value) (hg : W.heap[g]? = some (.cells #[c0, c1, c2, c3, c4, c5, c6, c7] t (0, 0))) (hh : W.heap[h]? = some (.cells #[x] t' (0, 0))) (hne : g ≠ h) :
    ∃ W', (((((((((W.setCell ⟨g, 0, none⟩ n0).setCell ⟨g, 1, none⟩ n1).setCell ⟨g, 2, none⟩ n2).setCell ⟨g, 3, none⟩ n3).setCell ⟨g, 4, none⟩ n4).setCell ⟨g, 5, none⟩ n5).setCell ⟨g, 6, none⟩ n6).setCell ⟨g, 7, none⟩ n7).setCell ⟨h, 0, none⟩ m) = W' ∧ W'.heap[g]? = some (.cells #[n0, n1, n2, n3, n4, n5, n6, n7] t (0, 0)) ∧ W'.heap[h]? = some (.cells #[m] t' (0, 0)) ∧ (∀ i, i ≠ g → i ≠ h → W'.heap[i]? = W.heap[i]?) ∧ ∀ (B : Nat) (a : World), Below B a W → B ≤ g → B ≤ h → Below B a W' := by
  have q0 := hg
  have q1 : (W.setCell ⟨g, 0, none⟩ n0).heap[g]? = some (.cells #[n0, c1, c2, c3, c4, c5, c6, c7] t (0, 0)) := blk_set q0 0 n0
  have q2 : ((W.setCell ⟨g, 0, none⟩ n0).setCell ⟨g, 1, none⟩ n1).heap[g]? = some (.cells #[n0, n1, c2, c3, c4, c5, c6, c7] t (0, 0)) := blk_set q1 1 n1
  have q3 : (((W.setCell ⟨g, 0, none⟩ n0).setCell ⟨g, 1, none⟩ n1).setCell ⟨g, 2, none⟩ n2).heap[g]? = some (.cells #[n0, n1, n2, c3, c4, c5, c6, c7] t (0, 0)) := blk_set q2 2 n2
  have q4 : ((((W.setCell ⟨g, 0, none⟩ n0).setCell ⟨g, 1, none⟩ n1).setCell ⟨g, 2, none⟩ n2).setCell ⟨g, 3, none⟩ n3).heap[g]? = some (.cells #[n0, n1, n2, n3, c4, c5, c6, c7] t (0, 0)) := blk_set q3 3 n3
  have q5 : (((((W.setCell ⟨g, 0, none⟩ n0).setCell ⟨g, 1, none⟩ n1).setCell ⟨g, 2, none⟩ n2).setCell ⟨g, 3, none⟩ n3).setCell ⟨g, 4, none⟩ n4).heap[g]? = some (.cells #[n0, n1, n2, n3, n4, c5, c6, c7] t (0, 0)) := blk_set q4 4 n4
  have q6 : ((((((W.setCell ⟨g, 0, none⟩ n0).setCell ⟨g, 1, none⟩ n1).setCell ⟨g, 2, none⟩ n2).setCell ⟨g, 3, none⟩ n3).setCell ⟨g, 4, none⟩ n4).setCell ⟨g, 5, none⟩ n5).heap[g]? = some (.cells #[n0, n1, n2, n3, n4, n5, c6, c7] t (0, 0)) := blk_set q5 5 n5
  have q7 : (((((((W.setCell ⟨g, 0, none⟩ n0).setCell ⟨g, 1, none⟩ n1).setCell ⟨g, 2, none⟩ n2).setCell ⟨g, 3, none⟩ n3).setCell ⟨g, 4, none⟩ n4).setCell ⟨g, 5, none⟩ n5).setCell ⟨g, 6, none⟩ n6).heap[g]? = some (.cells #[n0, n1, n2, n3, n4, n5, n6, c7] t (0, 0)) := blk_set q6 6 n6
  have q8 : ((((((((W.setCell ⟨g, 0, none⟩ n0).setCell ⟨g, 1, none⟩ n1).setCell ⟨g, 2, none⟩ n2).setCell ⟨g, 3, none⟩ n3).setCell ⟨g, 4, none⟩ n4).setCell ⟨g, 5, none⟩ n5).setCell ⟨g, 6, none⟩ n6).setCell ⟨g, 7, none⟩ n7).heap[g]? = some (.cells #[n0, n1, n2, n3, n4, n5, n6, n7] t (0, 0)) := blk_set q7 7 n7
  refine ⟨_, rfl, (Below.heap_setCell _ _ _ _ hne).trans q8, blk_set ((Below.heap_setCell _ ⟨g, 7, none⟩ n7 _ (Ne.symm hne)).trans ((Below.heap_setCell _ ⟨g, 6, none⟩ n6 _ (Ne.symm hne)).trans ((Below.heap_setCell _ ⟨g, 5, none⟩ n5 _ (Ne.symm hne)).trans ((Below.heap_setCell _ ⟨g, 4, none⟩ n4 _ (Ne.symm hne)).trans ((Below.heap_setCell _ ⟨g, 3, none⟩ n3 _ (Ne.symm hne)).trans ((Below.heap_setCell _ ⟨g, 2, none⟩ n2 _ (Ne.symm hne)).trans ((Below.heap_setCell _ ⟨g, 1, none⟩ n1 _ (Ne.symm hne)).trans ((Below.heap_setCell _ ⟨g, 0, none⟩ n0 _ (Ne.symm hne)).trans hh)))))))) 0 m, fun i hi hj => ?_, fun B a hb hbg hbh => ((((((((hb.setCell (p := ⟨g, 0, none⟩) hbg n0).setCell (p := ⟨g, 1, none⟩) hbg n1).setCell (p := ⟨g, 2, none⟩) hbg n2).setCell (p := ⟨g, 3, none⟩) hbg n3).setCell (p := ⟨g, 4, none⟩) hbg n4).setCell (p := ⟨g, 5, none⟩) hbg n5).setCell (p := ⟨g, 6, none⟩) hbg n6).setCell (p := ⟨g, 7, none⟩) hbg n7).setCell (p := ⟨h, 0, none⟩) hbh m⟩
  simp [Below.heap_setCell, hi, hj]
theorem toList_ne {a b : ByteArray} (h : ¬ a = b) : ¬ a.toList = b.toList := fun e => h (by
  rw [ByteArray.toList_eq, ByteArray.toList_eq] at e
  exact ByteArray.ext (Array.toList_inj.mp e))

set_option maxHeartbeats 1600000 in
theorem HeadOf_any (s : ByteArray) (hS : s.size ≤ 9223372036854775807) (w : World) :
    Calls Try.prog 30 #[.string s] w fun e w' => e = .returned (.tuple #[headVal (headOfSpec s).1, .int .i64 (headOfSpec s).2]) ∧ Below w.heap.size w w' := by
  have hmf : ∀ (fn : Fn) (first cap : Array Value) (w : World), (Instr.makeFunc fn first cap).run Try.prog w = .ok (.func fn first cap) w := fun _ _ _ _ => rfl
  have hu := Try.underlying38
  by_cases hlong : 48 < s.size
  · have h : headOfSpec s = ([0, 0, 0, 0, 0, 0, 0, 0], 4) := by rw [headOfSpec, if_pos hlong]
    have H := Lib.hid h
    clear h
    go_enter Try.func30, Try.ntmps30
    go_wp2
    refine bodyPost_ret (v := .tuple #[headVal [0, 0, 0, 0, 0, 0, 0, 0], .int .i64 4]) (by simp [results, Try.results30, go_sem, headVal]) rfl ?_
    rw [H.out]
    exact ⟨rfl, ((Below.refl _ w).alloc (Nat.le_refl _) _).alloc (by simp) _⟩
  have hl : ¬ (48 : Int) < (s.size : Int) := by omega
  have HL := Lib.hid hlong
  have HS := Lib.hid hS
  clear hlong hS
  go_enter_defers Try.func30, Try.ntmps30
  go_wp2_with fail
  have R0 := Rd.made2 w (.cells #[.int .i64 0, .int .i64 0, .int .i64 0, .int .i64 0, .int .i64 0, .int .i64 0, .int .i64 0, .int .i64 0] 38 (0, 0)) (.cells #[.int .i64 0] 22 (0, 0)) s
  refine (text_any (w.heap.size + 1 + 1) s 0 4 _ R0.cu HS.out (by omega) (by omega)).mono ?_
  rintro e w1 (⟨hp, rfl, nd, hw⟩ | ⟨hp, rfl, nd, hw⟩)
  rotate_left
  · have R1 := hw ▸ R0.drew nd
    clear hw R0
    have hsp : headOfSpec s = ([0, 0, 0, 0, 0, 0, 0, 0], 3) := by rw [headOfSpec, if_neg HL.out, if_pos (by omega)]
    have HSP := Lib.hid hsp
    clear hsp hp
    have b0 := R1.box 0 _ rfl
    have b1 := R1.box 1 _ rfl
    have c0 := blk_cell b1 0
    have z0 := blk_frozen b1 0
    have l0 := blk_lt b1
    go_wp2
    refine leaves_cons (f := 48) (args := #[.pointer (some ⟨w.heap.size + 1, 0, none⟩)]) (by simp) (by simp [go_sem]) ?_
    refine (HeadOf1_panicking ⟨w.heap.size + 1, 0, none⟩ (.int .i64 0) [] _ c0 z0 l0).mono ?_
    rintro e u' w'' ⟨rfl, rfl, rfl⟩
    have k0 : ((w1.alloc (.cells #[] 77)).setCell ⟨w.heap.size + 1, 0, none⟩ (.int .i64 3)).heap[w.heap.size]? = _ := (Below.heap_setCell _ _ _ _ (by simp)).trans (get_below b0)
    have k1 : ((w1.alloc (.cells #[] 77)).setCell ⟨w.heap.size + 1, 0, none⟩ (.int .i64 3)).heap[w.heap.size + 1]? = _ := blk_set (get_below b1) 0 _
    have hB : Below w.heap.size w ((w1.alloc (.cells #[] 77)).setCell ⟨w.heap.size + 1, 0, none⟩ (.int .i64 3)) := (R1.bel.alloc R1.bel.size _).setCell (by simp) _
    generalize ((w1.alloc (.cells #[] 77)).setCell ⟨w.heap.size + 1, 0, none⟩ (.int .i64 3)) = W at k0 k1 hB ⊢
    have d0 := blk_cell k0 0
    have d1 := blk_cell k0 1
    have d2 := blk_cell k0 2
    have d3 := blk_cell k0 3
    have d4 := blk_cell k0 4
    have d5 := blk_cell k0 5
    have d6 := blk_cell k0 6
    have d7 := blk_cell k0 7
    have e0 := blk_cell k1 0
    rw [HSP.out]
    simp [Leaves, settle, results, Try.results30, go_sem, d0, d1, d2, d3, d4, d5, d6, d7, e0, headVal]
    exact hB
  have R1' := hw ▸ R0.step 4 4 rfl nd
  have R0 := R1'
  have hwk := hw
  clear R1' hw
  have RH := Lib.hid R0
  have HP := Lib.hid hp
  clear R0 hp
  go_wp2_with fail
  have R0 := RH.out
  have hp := HP.out
  clear HP
  refine (take_any (w.heap.size + 1 + 1) s 4 6 _ R0.cu HS.out (by omega) (by omega) (by omega)).mono ?_
  rintro e w2 (⟨hp, rfl, nd, hw⟩ | ⟨hp, rfl, nd, hw⟩)
  rotate_left
  · have R1 := hw ▸ R0.drew nd
    clear hw R0
    have hsp : headOfSpec s = ([0, 0, 0, 0, 0, 0, 0, 0], 3) := by rw [headOfSpec, if_neg HL.out, if_pos (by omega)]
    have HSP := Lib.hid hsp
    clear hsp hp
    have b0 := R1.box 0 _ rfl
    have b1 := R1.box 1 _ rfl
    have c0 := blk_cell b1 0
    have z0 := blk_frozen b1 0
    have l0 := blk_lt b1
    go_wp2
    refine leaves_cons (f := 48) (args := #[.pointer (some ⟨w.heap.size + 1, 0, none⟩)]) (by simp) (by simp [go_sem]) ?_
    refine (HeadOf1_panicking ⟨w.heap.size + 1, 0, none⟩ (.int .i64 0) [] _ c0 z0 l0).mono ?_
    rintro e u' w'' ⟨rfl, rfl, rfl⟩
    have k0 : ((w2.alloc (.cells #[] 77)).setCell ⟨w.heap.size + 1, 0, none⟩ (.int .i64 3)).heap[w.heap.size]? = _ := (Below.heap_setCell _ _ _ _ (by simp)).trans (get_below b0)
    have k1 : ((w2.alloc (.cells #[] 77)).setCell ⟨w.heap.size + 1, 0, none⟩ (.int .i64 3)).heap[w.heap.size + 1]? = _ := blk_set (get_below b1) 0 _
    have hB : Below w.heap.size w ((w2.alloc (.cells #[] 77)).setCell ⟨w.heap.size + 1, 0, none⟩ (.int .i64 3)) := (R1.bel.alloc R1.bel.size _).setCell (by simp) _
    generalize ((w2.alloc (.cells #[] 77)).setCell ⟨w.heap.size + 1, 0, none⟩ (.int .i64 3)) = W at k0 k1 hB ⊢
    have d0 := blk_cell k0 0
    have d1 := blk_cell k0 1
    have d2 := blk_cell k0 2
    have d3 := blk_cell k0 3
    have d4 := blk_cell k0 4
    have d5 := blk_cell k0 5
    have d6 := blk_cell k0 6
    have d7 := blk_cell k0 7
    have e0 := blk_cell k1 0
    rw [HSP.out]
    simp [Leaves, settle, results, Try.results30, go_sem, d0, d1, d2, d3, d4, d5, d6, d7, e0, headVal]
    exact hB
  have R1' := hw ▸ R0.step 6 10 rfl nd
  have R0 := R1'
  have hwk := hw
  clear R1' hw
  have RH := Lib.hid R0
  have HP := Lib.hid hp
  clear R0 hp
  go_wp2_with fail
  have R0 := RH.out
  have hp := HP.out
  clear HP
  refine (take_any (w.heap.size + 1 + 1) s 10 4 _ R0.cu HS.out (by omega) (by omega) (by omega)).mono ?_
  rintro e w3 (⟨hp, rfl, nd, hw⟩ | ⟨hp, rfl, nd, hw⟩)
  rotate_left
  · have R1 := hw ▸ R0.drew nd
    clear hw R0
    have hsp : headOfSpec s = ([0, 0, 0, 0, 0, 0, 0, 0], 3) := by rw [headOfSpec, if_neg HL.out, if_pos (by omega)]
    have HSP := Lib.hid hsp
    clear hsp hp
    have b0 := R1.box 0 _ rfl
    have b1 := R1.box 1 _ rfl
    have c0 := blk_cell b1 0
    have z0 := blk_frozen b1 0
    have l0 := blk_lt b1
    go_wp2
    refine leaves_cons (f := 48) (args := #[.pointer (some ⟨w.heap.size + 1, 0, none⟩)]) (by simp) (by simp [go_sem]) ?_
    refine (HeadOf1_panicking ⟨w.heap.size + 1, 0, none⟩ (.int .i64 0) [] _ c0 z0 l0).mono ?_
    rintro e u' w'' ⟨rfl, rfl, rfl⟩
    have k0 : ((w3.alloc (.cells #[] 77)).setCell ⟨w.heap.size + 1, 0, none⟩ (.int .i64 3)).heap[w.heap.size]? = _ := (Below.heap_setCell _ _ _ _ (by simp)).trans (get_below b0)
    have k1 : ((w3.alloc (.cells #[] 77)).setCell ⟨w.heap.size + 1, 0, none⟩ (.int .i64 3)).heap[w.heap.size + 1]? = _ := blk_set (get_below b1) 0 _
    have hB : Below w.heap.size w ((w3.alloc (.cells #[] 77)).setCell ⟨w.heap.size + 1, 0, none⟩ (.int .i64 3)) := (R1.bel.alloc R1.bel.size _).setCell (by simp) _
    generalize ((w3.alloc (.cells #[] 77)).setCell ⟨w.heap.size + 1, 0, none⟩ (.int .i64 3)) = W at k0 k1 hB ⊢
    have d0 := blk_cell k0 0
    have d1 := blk_cell k0 1
    have d2 := blk_cell k0 2
    have d3 := blk_cell k0 3
    have d4 := blk_cell k0 4
    have d5 := blk_cell k0 5
    have d6 := blk_cell k0 6
    have d7 := blk_cell k0 7
    have e0 := blk_cell k1 0
    rw [HSP.out]
    simp [Leaves, settle, results, Try.results30, go_sem, d0, d1, d2, d3, d4, d5, d6, d7, e0, headVal]
    exact hB
  have R1' := hw ▸ R0.step 4 14 rfl nd
  have R0 := R1'
  have hwk := hw
  clear R1' hw
  have RH := Lib.hid R0
  have HP := Lib.hid hp
  clear R0 hp
  go_wp2_with fail
  have R0 := RH.out
  have hp := HP.out
  clear HP
  refine (take_any (w.heap.size + 1 + 1) s 14 2 _ R0.cu HS.out (by omega) (by omega) (by omega)).mono ?_
  rintro e w4 (⟨hp, rfl, nd, hw⟩ | ⟨hp, rfl, nd, hw⟩)
  rotate_left
  · have R1 := hw ▸ R0.drew nd
    clear hw R0
    have hsp : headOfSpec s = ([0, 0, 0, 0, 0, 0, 0, 0], 3) := by rw [headOfSpec, if_neg HL.out, if_pos (by omega)]
    have HSP := Lib.hid hsp
    clear hsp hp
    have b0 := R1.box 0 _ rfl
    have b1 := R1.box 1 _ rfl
    have c0 := blk_cell b1 0
    have z0 := blk_frozen b1 0
    have l0 := blk_lt b1
    go_wp2
    refine leaves_cons (f := 48) (args := #[.pointer (some ⟨w.heap.size + 1, 0, none⟩)]) (by simp) (by simp [go_sem]) ?_
    refine (HeadOf1_panicking ⟨w.heap.size + 1, 0, none⟩ (.int .i64 0) [] _ c0 z0 l0).mono ?_
    rintro e u' w'' ⟨rfl, rfl, rfl⟩
    have k0 : ((w4.alloc (.cells #[] 77)).setCell ⟨w.heap.size + 1, 0, none⟩ (.int .i64 3)).heap[w.heap.size]? = _ := (Below.heap_setCell _ _ _ _ (by simp)).trans (get_below b0)
    have k1 : ((w4.alloc (.cells #[] 77)).setCell ⟨w.heap.size + 1, 0, none⟩ (.int .i64 3)).heap[w.heap.size + 1]? = _ := blk_set (get_below b1) 0 _
    have hB : Below w.heap.size w ((w4.alloc (.cells #[] 77)).setCell ⟨w.heap.size + 1, 0, none⟩ (.int .i64 3)) := (R1.bel.alloc R1.bel.size _).setCell (by simp) _
    generalize ((w4.alloc (.cells #[] 77)).setCell ⟨w.heap.size + 1, 0, none⟩ (.int .i64 3)) = W at k0 k1 hB ⊢
    have d0 := blk_cell k0 0
    have d1 := blk_cell k0 1
    have d2 := blk_cell k0 2
    have d3 := blk_cell k0 3
    have d4 := blk_cell k0 4
    have d5 := blk_cell k0 5
    have d6 := blk_cell k0 6
    have d7 := blk_cell k0 7
    have e0 := blk_cell k1 0
    rw [HSP.out]
    simp [Leaves, settle, results, Try.results30, go_sem, d0, d1, d2, d3, d4, d5, d6, d7, e0, headVal]
    exact hB
  have R1' := hw ▸ R0.step 2 16 rfl nd
  have R0 := R1'
  have hwk := hw
  clear R1' hw
  have RH := Lib.hid R0
  have HP := Lib.hid hp
  clear R0 hp
  go_wp2_with fail
  have R0 := RH.out
  have hp := HP.out
  clear HP
  refine (take_any (w.heap.size + 1 + 1) s 16 4 _ R0.cu HS.out (by omega) (by omega) (by omega)).mono ?_
  rintro e w5 (⟨hp, rfl, nd, hw⟩ | ⟨hp, rfl, nd, hw⟩)
  rotate_left
  · have R1 := hw ▸ R0.drew nd
    clear hw R0
    have hsp : headOfSpec s = ([0, 0, 0, 0, 0, 0, 0, 0], 3) := by rw [headOfSpec, if_neg HL.out, if_pos (by omega)]
    have HSP := Lib.hid hsp
    clear hsp hp
    have b0 := R1.box 0 _ rfl
    have b1 := R1.box 1 _ rfl
    have c0 := blk_cell b1 0
    have z0 := blk_frozen b1 0
    have l0 := blk_lt b1
    go_wp2
    refine leaves_cons (f := 48) (args := #[.pointer (some ⟨w.heap.size + 1, 0, none⟩)]) (by simp) (by simp [go_sem]) ?_
    refine (HeadOf1_panicking ⟨w.heap.size + 1, 0, none⟩ (.int .i64 0) [] _ c0 z0 l0).mono ?_
    rintro e u' w'' ⟨rfl, rfl, rfl⟩
    have k0 : ((w5.alloc (.cells #[] 77)).setCell ⟨w.heap.size + 1, 0, none⟩ (.int .i64 3)).heap[w.heap.size]? = _ := (Below.heap_setCell _ _ _ _ (by simp)).trans (get_below b0)
    have k1 : ((w5.alloc (.cells #[] 77)).setCell ⟨w.heap.size + 1, 0, none⟩ (.int .i64 3)).heap[w.heap.size + 1]? = _ := blk_set (get_below b1) 0 _
    have hB : Below w.heap.size w ((w5.alloc (.cells #[] 77)).setCell ⟨w.heap.size + 1, 0, none⟩ (.int .i64 3)) := (R1.bel.alloc R1.bel.size _).setCell (by simp) _
    generalize ((w5.alloc (.cells #[] 77)).setCell ⟨w.heap.size + 1, 0, none⟩ (.int .i64 3)) = W at k0 k1 hB ⊢
    have d0 := blk_cell k0 0
    have d1 := blk_cell k0 1
    have d2 := blk_cell k0 2
    have d3 := blk_cell k0 3
    have d4 := blk_cell k0 4
    have d5 := blk_cell k0 5
    have d6 := blk_cell k0 6
    have d7 := blk_cell k0 7
    have e0 := blk_cell k1 0
    rw [HSP.out]
    simp [Leaves, settle, results, Try.results30, go_sem, d0, d1, d2, d3, d4, d5, d6, d7, e0, headVal]
    exact hB
  have R1' := hw ▸ R0.step 4 20 rfl nd
  have R0 := R1'
  have hwk := hw
  clear R1' hw
  have RH := Lib.hid R0
  have HP := Lib.hid hp
  clear R0 hp
  go_wp2_with fail
  have R0 := RH.out
  have hp := HP.out
  clear HP
  refine (take_any (w.heap.size + 1 + 1) s 20 4 _ R0.cu HS.out (by omega) (by omega) (by omega)).mono ?_
  rintro e w6 (⟨hp, rfl, nd, hw⟩ | ⟨hp, rfl, nd, hw⟩)
  rotate_left
  · have R1 := hw ▸ R0.drew nd
    clear hw R0
    have hsp : headOfSpec s = ([0, 0, 0, 0, 0, 0, 0, 0], 3) := by rw [headOfSpec, if_neg HL.out, if_pos (by omega)]
    have HSP := Lib.hid hsp
    clear hsp hp
    have b0 := R1.box 0 _ rfl
    have b1 := R1.box 1 _ rfl
    have c0 := blk_cell b1 0
    have z0 := blk_frozen b1 0
    have l0 := blk_lt b1
    go_wp2
    refine leaves_cons (f := 48) (args := #[.pointer (some ⟨w.heap.size + 1, 0, none⟩)]) (by simp) (by simp [go_sem]) ?_
    refine (HeadOf1_panicking ⟨w.heap.size + 1, 0, none⟩ (.int .i64 0) [] _ c0 z0 l0).mono ?_
    rintro e u' w'' ⟨rfl, rfl, rfl⟩
    have k0 : ((w6.alloc (.cells #[] 77)).setCell ⟨w.heap.size + 1, 0, none⟩ (.int .i64 3)).heap[w.heap.size]? = _ := (Below.heap_setCell _ _ _ _ (by simp)).trans (get_below b0)
    have k1 : ((w6.alloc (.cells #[] 77)).setCell ⟨w.heap.size + 1, 0, none⟩ (.int .i64 3)).heap[w.heap.size + 1]? = _ := blk_set (get_below b1) 0 _
    have hB : Below w.heap.size w ((w6.alloc (.cells #[] 77)).setCell ⟨w.heap.size + 1, 0, none⟩ (.int .i64 3)) := (R1.bel.alloc R1.bel.size _).setCell (by simp) _
    generalize ((w6.alloc (.cells #[] 77)).setCell ⟨w.heap.size + 1, 0, none⟩ (.int .i64 3)) = W at k0 k1 hB ⊢
    have d0 := blk_cell k0 0
    have d1 := blk_cell k0 1
    have d2 := blk_cell k0 2
    have d3 := blk_cell k0 3
    have d4 := blk_cell k0 4
    have d5 := blk_cell k0 5
    have d6 := blk_cell k0 6
    have d7 := blk_cell k0 7
    have e0 := blk_cell k1 0
    rw [HSP.out]
    simp [Leaves, settle, results, Try.results30, go_sem, d0, d1, d2, d3, d4, d5, d6, d7, e0, headVal]
    exact hB
  have R1' := hw ▸ R0.step 4 24 rfl nd
  have R0 := R1'
  have hwk := hw
  clear R1' hw
  have RH := Lib.hid R0
  have HP := Lib.hid hp
  clear R0 hp
  go_wp2_with fail
  have R0 := RH.out
  have hp := HP.out
  clear HP
  refine (take_any (w.heap.size + 1 + 1) s 24 4 _ R0.cu HS.out (by omega) (by omega) (by omega)).mono ?_
  rintro e w7 (⟨hp, rfl, nd, hw⟩ | ⟨hp, rfl, nd, hw⟩)
  rotate_left
  · have R1 := hw ▸ R0.drew nd
    clear hw R0
    have hsp : headOfSpec s = ([0, 0, 0, 0, 0, 0, 0, 0], 3) := by rw [headOfSpec, if_neg HL.out, if_pos (by omega)]
    have HSP := Lib.hid hsp
    clear hsp hp
    have b0 := R1.box 0 _ rfl
    have b1 := R1.box 1 _ rfl
    have c0 := blk_cell b1 0
    have z0 := blk_frozen b1 0
    have l0 := blk_lt b1
    go_wp2
    refine leaves_cons (f := 48) (args := #[.pointer (some ⟨w.heap.size + 1, 0, none⟩)]) (by simp) (by simp [go_sem]) ?_
    refine (HeadOf1_panicking ⟨w.heap.size + 1, 0, none⟩ (.int .i64 0) [] _ c0 z0 l0).mono ?_
    rintro e u' w'' ⟨rfl, rfl, rfl⟩
    have k0 : ((w7.alloc (.cells #[] 77)).setCell ⟨w.heap.size + 1, 0, none⟩ (.int .i64 3)).heap[w.heap.size]? = _ := (Below.heap_setCell _ _ _ _ (by simp)).trans (get_below b0)
    have k1 : ((w7.alloc (.cells #[] 77)).setCell ⟨w.heap.size + 1, 0, none⟩ (.int .i64 3)).heap[w.heap.size + 1]? = _ := blk_set (get_below b1) 0 _
    have hB : Below w.heap.size w ((w7.alloc (.cells #[] 77)).setCell ⟨w.heap.size + 1, 0, none⟩ (.int .i64 3)) := (R1.bel.alloc R1.bel.size _).setCell (by simp) _
    generalize ((w7.alloc (.cells #[] 77)).setCell ⟨w.heap.size + 1, 0, none⟩ (.int .i64 3)) = W at k0 k1 hB ⊢
    have d0 := blk_cell k0 0
    have d1 := blk_cell k0 1
    have d2 := blk_cell k0 2
    have d3 := blk_cell k0 3
    have d4 := blk_cell k0 4
    have d5 := blk_cell k0 5
    have d6 := blk_cell k0 6
    have d7 := blk_cell k0 7
    have e0 := blk_cell k1 0
    rw [HSP.out]
    simp [Leaves, settle, results, Try.results30, go_sem, d0, d1, d2, d3, d4, d5, d6, d7, e0, headVal]
    exact hB
  have R1' := hw ▸ R0.step 4 28 rfl nd
  have R0 := R1'
  have hwk := hw
  clear R1' hw
  have RH := Lib.hid R0
  have HP := Lib.hid hp
  clear R0 hp
  go_wp2_with fail
  have R0 := RH.out
  have hp := HP.out
  clear HP
  refine (take_any (w.heap.size + 1 + 1) s 28 6 _ R0.cu HS.out (by omega) (by omega) (by omega)).mono ?_
  rintro e w8 (⟨hp, rfl, nd, hw⟩ | ⟨hp, rfl, nd, hw⟩)
  rotate_left
  · have R1 := hw ▸ R0.drew nd
    clear hw R0
    have hsp : headOfSpec s = ([0, 0, 0, 0, 0, 0, 0, 0], 3) := by rw [headOfSpec, if_neg HL.out, if_pos (by omega)]
    have HSP := Lib.hid hsp
    clear hsp hp
    have b0 := R1.box 0 _ rfl
    have b1 := R1.box 1 _ rfl
    have c0 := blk_cell b1 0
    have z0 := blk_frozen b1 0
    have l0 := blk_lt b1
    go_wp2
    refine leaves_cons (f := 48) (args := #[.pointer (some ⟨w.heap.size + 1, 0, none⟩)]) (by simp) (by simp [go_sem]) ?_
    refine (HeadOf1_panicking ⟨w.heap.size + 1, 0, none⟩ (.int .i64 0) [] _ c0 z0 l0).mono ?_
    rintro e u' w'' ⟨rfl, rfl, rfl⟩
    have k0 : ((w8.alloc (.cells #[] 77)).setCell ⟨w.heap.size + 1, 0, none⟩ (.int .i64 3)).heap[w.heap.size]? = _ := (Below.heap_setCell _ _ _ _ (by simp)).trans (get_below b0)
    have k1 : ((w8.alloc (.cells #[] 77)).setCell ⟨w.heap.size + 1, 0, none⟩ (.int .i64 3)).heap[w.heap.size + 1]? = _ := blk_set (get_below b1) 0 _
    have hB : Below w.heap.size w ((w8.alloc (.cells #[] 77)).setCell ⟨w.heap.size + 1, 0, none⟩ (.int .i64 3)) := (R1.bel.alloc R1.bel.size _).setCell (by simp) _
    generalize ((w8.alloc (.cells #[] 77)).setCell ⟨w.heap.size + 1, 0, none⟩ (.int .i64 3)) = W at k0 k1 hB ⊢
    have d0 := blk_cell k0 0
    have d1 := blk_cell k0 1
    have d2 := blk_cell k0 2
    have d3 := blk_cell k0 3
    have d4 := blk_cell k0 4
    have d5 := blk_cell k0 5
    have d6 := blk_cell k0 6
    have d7 := blk_cell k0 7
    have e0 := blk_cell k1 0
    rw [HSP.out]
    simp [Leaves, settle, results, Try.results30, go_sem, d0, d1, d2, d3, d4, d5, d6, d7, e0, headVal]
    exact hB
  have R1' := hw ▸ R0.step 6 34 rfl nd
  have R0 := R1'
  have hwk := hw
  clear R1' hw
  have RH := Lib.hid R0
  have HP := Lib.hid hp
  clear R0 hp
  go_wp2_with fail
  have R0 := RH.out
  have hp := HP.out
  clear HP
  refine (take_any (w.heap.size + 1 + 1) s 34 6 _ R0.cu HS.out (by omega) (by omega) (by omega)).mono ?_
  rintro e w9 (⟨hp, rfl, nd, hw⟩ | ⟨hp, rfl, nd, hw⟩)
  rotate_left
  · have R1 := hw ▸ R0.drew nd
    clear hw R0
    have hsp : headOfSpec s = ([0, 0, 0, 0, 0, 0, 0, 0], 3) := by rw [headOfSpec, if_neg HL.out, if_pos (by omega)]
    have HSP := Lib.hid hsp
    clear hsp hp
    have b0 := R1.box 0 _ rfl
    have b1 := R1.box 1 _ rfl
    have c0 := blk_cell b1 0
    have z0 := blk_frozen b1 0
    have l0 := blk_lt b1
    go_wp2
    refine leaves_cons (f := 48) (args := #[.pointer (some ⟨w.heap.size + 1, 0, none⟩)]) (by simp) (by simp [go_sem]) ?_
    refine (HeadOf1_panicking ⟨w.heap.size + 1, 0, none⟩ (.int .i64 0) [] _ c0 z0 l0).mono ?_
    rintro e u' w'' ⟨rfl, rfl, rfl⟩
    have k0 : ((w9.alloc (.cells #[] 77)).setCell ⟨w.heap.size + 1, 0, none⟩ (.int .i64 3)).heap[w.heap.size]? = _ := (Below.heap_setCell _ _ _ _ (by simp)).trans (get_below b0)
    have k1 : ((w9.alloc (.cells #[] 77)).setCell ⟨w.heap.size + 1, 0, none⟩ (.int .i64 3)).heap[w.heap.size + 1]? = _ := blk_set (get_below b1) 0 _
    have hB : Below w.heap.size w ((w9.alloc (.cells #[] 77)).setCell ⟨w.heap.size + 1, 0, none⟩ (.int .i64 3)) := (R1.bel.alloc R1.bel.size _).setCell (by simp) _
    generalize ((w9.alloc (.cells #[] 77)).setCell ⟨w.heap.size + 1, 0, none⟩ (.int .i64 3)) = W at k0 k1 hB ⊢
    have d0 := blk_cell k0 0
    have d1 := blk_cell k0 1
    have d2 := blk_cell k0 2
    have d3 := blk_cell k0 3
    have d4 := blk_cell k0 4
    have d5 := blk_cell k0 5
    have d6 := blk_cell k0 6
    have d7 := blk_cell k0 7
    have e0 := blk_cell k1 0
    rw [HSP.out]
    simp [Leaves, settle, results, Try.results30, go_sem, d0, d1, d2, d3, d4, d5, d6, d7, e0, headVal]
    exact hB
  have R1' := hw ▸ R0.step 6 40 rfl nd
  have R0 := R1'
  have hwk := hw
  clear R1' hw
  have RH := Lib.hid R0
  have HP := Lib.hid hp
  clear R0 hp
  go_wp2_with fail
  have R0 := RH.out
  have hp := HP.out
  clear HP
  have R0 := R0.alloc (.cells #[.int .i64 (num s 4 6), .int .i64 (num s 10 4), .int .i64 (num s 14 2), .int .i64 (num s 16 4), .int .i64 (num s 20 4), .int .i64 (num s 24 4), .int .i64 (num s 28 6), .int .i64 (num s 34 6)] 38 (0, 0))
  have hk : (w9.alloc (.cells #[.int .i64 (num s 4 6), .int .i64 (num s 10 4), .int .i64 (num s 14 2), .int .i64 (num s 16 4), .int .i64 (num s 20 4), .int .i64 (num s 24 4), .int .i64 (num s 28 6), .int .i64 (num s 34 6)] 38 (0, 0))).heap[w9.heap.size]? = _ := get_top rfl
  have h9 : w.heap.size + 1 + 1 < w9.heap.size := by
    have := RH.out.cu
    exact blk_lt this

  refine (text_any (w.heap.size + 1 + 1) s 40 8 _ R0.cu HS.out (by omega) (by omega)).mono ?_
  rintro e w10 (⟨hp, rfl, nd, hw⟩ | ⟨hp, rfl, nd, hw⟩)
  rotate_left
  · have R1 := hw ▸ R0.drew nd
    clear hw R0
    have hsp : headOfSpec s = ([0, 0, 0, 0, 0, 0, 0, 0], 3) := by rw [headOfSpec, if_neg HL.out, if_pos (by omega)]
    have HSP := Lib.hid hsp
    clear hsp hp
    have b0 := R1.box 0 _ rfl
    have b1 := R1.box 1 _ rfl
    have c0 := blk_cell b1 0
    have z0 := blk_frozen b1 0
    have l0 := blk_lt b1
    go_wp2
    refine leaves_cons (f := 48) (args := #[.pointer (some ⟨w.heap.size + 1, 0, none⟩)]) (by simp) (by simp [go_sem]) ?_
    refine (HeadOf1_panicking ⟨w.heap.size + 1, 0, none⟩ (.int .i64 0) [] _ c0 z0 l0).mono ?_
    rintro e u' w'' ⟨rfl, rfl, rfl⟩
    have k0 : ((w10.alloc (.cells #[] 77)).setCell ⟨w.heap.size + 1, 0, none⟩ (.int .i64 3)).heap[w.heap.size]? = _ := (Below.heap_setCell _ _ _ _ (by simp)).trans (get_below b0)
    have k1 : ((w10.alloc (.cells #[] 77)).setCell ⟨w.heap.size + 1, 0, none⟩ (.int .i64 3)).heap[w.heap.size + 1]? = _ := blk_set (get_below b1) 0 _
    have hB : Below w.heap.size w ((w10.alloc (.cells #[] 77)).setCell ⟨w.heap.size + 1, 0, none⟩ (.int .i64 3)) := (R1.bel.alloc R1.bel.size _).setCell (by simp) _
    generalize ((w10.alloc (.cells #[] 77)).setCell ⟨w.heap.size + 1, 0, none⟩ (.int .i64 3)) = W at k0 k1 hB ⊢
    have d0 := blk_cell k0 0
    have d1 := blk_cell k0 1
    have d2 := blk_cell k0 2
    have d3 := blk_cell k0 3
    have d4 := blk_cell k0 4
    have d5 := blk_cell k0 5
    have d6 := blk_cell k0 6
    have d7 := blk_cell k0 7
    have e0 := blk_cell k1 0
    rw [HSP.out]
    simp [Leaves, settle, results, Try.results30, go_sem, d0, d1, d2, d3, d4, d5, d6, d7, e0, headVal]
    exact hB
  have R1' := hw ▸ R0.step 8 48 rfl nd
  have R0 := R1'
  have hwk := hw
  clear R1' hw
  have hn : ¬ s.size < 48 := by omega
  have hk10 : w10.heap[w9.heap.size]? = some (.cells #[.int .i64 (num s 4 6), .int .i64 (num s 10 4), .int .i64 (num s 14 2), .int .i64 (num s 16 4), .int .i64 (num s 20 4), .int .i64 (num s 24 4), .int .i64 (num s 28 6), .int .i64 (num s 34 6)] 38 (0, 0)) := by
    rw [← hwk]
    exact (Below.heap_setCell _ _ _ _ (by simp; omega)).trans hk
  have hspec : headOfSpec s = if s.extract 40 48 ≠ ⟨#[0, 0, 0, 0, 0, 0, 0, 0]⟩ ∨ s.extract 0 4 ≠ ⟨#[71, 82, 80, 78]⟩ then ([0, 0, 0, 0, 0, 0, 0, 0], 5) else ([num s 4 6, num s 10 4, num s 14 2, num s 16 4, num s 20 4, num s 24 4, num s 28 6, num s 34 6], 0) := by rw [headOfSpec, if_neg HL.out, if_neg hn]
  have b0 : w10.heap[w.heap.size]? = some (.cells #[.int .i64 0, .int .i64 0, .int .i64 0, .int .i64 0, .int .i64 0, .int .i64 0, .int .i64 0, .int .i64 0] 38 (0, 0)) := R0.box 0 _ rfl
  have b1 : w10.heap[w.heap.size + 1]? = some (.cells #[.int .i64 0] 22 (0, 0)) := R0.box 1 _ rfl
  have HB0 := Lib.hid b0
  have HB1 := Lib.hid b1
  have H9 := Lib.hid h9
  have RR := Lib.hid R0
  have HSPEC := Lib.hid hspec
  clear hspec hwk hn HL HS R0 hl hp
  have c0 := blk_cell b0 0
  have z0 := blk_frozen b0 0
  have c1 := blk_cell b0 1
  have z1 := blk_frozen b0 1
  have c2 := blk_cell b0 2
  have z2 := blk_frozen b0 2
  have c3 := blk_cell b0 3
  have z3 := blk_frozen b0 3
  have c4 := blk_cell b0 4
  have z4 := blk_frozen b0 4
  have c5 := blk_cell b0 5
  have z5 := blk_frozen b0 5
  have c6 := blk_cell b0 6
  have z6 := blk_frozen b0 6
  have c7 := blk_cell b0 7
  have z7 := blk_frozen b0 7
  have k0 := blk_cell hk10 0
  have k1 := blk_cell hk10 1
  have k2 := blk_cell hk10 2
  have k3 := blk_cell hk10 3
  have k4 := blk_cell hk10 4
  have k5 := blk_cell hk10 5
  have k6 := blk_cell hk10 6
  have k7 := blk_cell hk10 7
  have ce := blk_cell b1 0
  have ze := blk_frozen b1 0
  have le := blk_lt b1
  have l9 := blk_lt hk10
  have HK10 := Lib.hid hk10
  clear b0 b1 hk10 hk h9
  generalize num s 4 6 = n0 at *
  generalize num s 10 4 = n1 at *
  generalize num s 14 2 = n2 at *
  generalize num s 16 4 = n3 at *
  generalize num s 20 4 = n4 at *
  generalize num s 24 4 = n5 at *
  generalize num s 28 6 = n6 at *
  generalize num s 34 6 = n7 at *
  have hxe : (s.extract 40 48).toList = [0, 0, 0, 0, 0, 0, 0, 0] ↔ s.extract 40 48 = ⟨#[0, 0, 0, 0, 0, 0, 0, 0]⟩ := toList_lit
  have hme : (s.extract 0 4).toList = [71, 82, 80, 78] ↔ s.extract 0 4 = ⟨#[71, 82, 80, 78]⟩ := toList_lit
  by_cases hx : s.extract 40 48 = ⟨#[0, 0, 0, 0, 0, 0, 0, 0]⟩
  · by_cases hm : s.extract 0 4 = ⟨#[71, 82, 80, 78]⟩
    · have hsp : headOfSpec s = ([n0, n1, n2, n3, n4, n5, n6, n7], 0) := by rw [HSPEC.out, if_neg (by simp [hx, hm])]
      have HSP := Lib.hid hsp
      have hx' := hxe.mpr hx
      have hm' := hme.mpr hm
      clear hsp hxe hme hx hm HSPEC
      go_wp2
      refine leaves_cons (f := 48) (args := #[.pointer (some ⟨w.heap.size + 1, 0, none⟩)]) (by simp) (by simp [go_sem]) ?_
      refine (HeadOf1_idle ⟨w.heap.size + 1, 0, none⟩ _).mono ?_
      rintro e u' w'' ⟨rfl, rfl, rfl⟩
      rw [HSP.out]
      obtain ⟨W, hW, j0, j1, _, hB⟩ := sets8e (.int .i64 n0) (.int .i64 n1) (.int .i64 n2) (.int .i64 n3) (.int .i64 n4) (.int .i64 n5) (.int .i64 n6) (.int .i64 n7) (.int .i64 0) HB0.out HB1.out (by omega)
      rw [hW]
      have hB := hB _ _ RR.out.bel (by omega) (by omega)
      have d0 := blk_cell j0 0
      have d1 := blk_cell j0 1
      have d2 := blk_cell j0 2
      have d3 := blk_cell j0 3
      have d4 := blk_cell j0 4
      have d5 := blk_cell j0 5
      have d6 := blk_cell j0 6
      have d7 := blk_cell j0 7
      have d8 := blk_cell j1 0
      clear hW j0 j1
      simp [Leaves, settle, results, Try.results30, go_sem, headVal, d0, d1, d2, d3, d4, d5, d6, d7, d8]
      exact hB
    · have hsp : headOfSpec s = ([0, 0, 0, 0, 0, 0, 0, 0], 5) := by rw [HSPEC.out, if_pos (.inr hm)]
      have HSP := Lib.hid hsp
      have hx' := hxe.mpr hx
      have hm' : ((s.extract 0 4).toList == [71, 82, 80, 78]) = false := by rw [beq_eq_false_iff_ne]; exact fun h => hm (hme.mp h)
      clear hsp hxe hme hx hm HSPEC
      go_wp2
      refine leaves_cons (f := 48) (args := #[.pointer (some ⟨w.heap.size + 1, 0, none⟩)]) (by simp) (by simp [go_sem]) ?_
      refine (HeadOf1_idle ⟨w.heap.size + 1, 0, none⟩ _).mono ?_
      rintro e u' w'' ⟨rfl, rfl, rfl⟩
      rw [HSP.out]
      obtain ⟨W, hW, j0, j1, _, hB⟩ := sets8e (.int .i64 0) (.int .i64 0) (.int .i64 0) (.int .i64 0) (.int .i64 0) (.int .i64 0) (.int .i64 0) (.int .i64 0) (.int .i64 5) HB0.out HB1.out (by omega)
      rw [hW]
      have hB := hB _ _ RR.out.bel (by omega) (by omega)
      have d0 := blk_cell j0 0
      have d1 := blk_cell j0 1
      have d2 := blk_cell j0 2
      have d3 := blk_cell j0 3
      have d4 := blk_cell j0 4
      have d5 := blk_cell j0 5
      have d6 := blk_cell j0 6
      have d7 := blk_cell j0 7
      have d8 := blk_cell j1 0
      clear hW j0 j1
      simp [Leaves, settle, results, Try.results30, go_sem, headVal, d0, d1, d2, d3, d4, d5, d6, d7, d8]
      exact hB
  · have hsp : headOfSpec s = ([0, 0, 0, 0, 0, 0, 0, 0], 5) := by rw [HSPEC.out, if_pos (.inl hx)]
    have HSP := Lib.hid hsp
    have hx' : ((s.extract 40 48).toList == [0, 0, 0, 0, 0, 0, 0, 0]) = false := by rw [beq_eq_false_iff_ne]; exact fun h => hx (hxe.mp h)
    clear hsp hxe hme hx HSPEC
    go_wp2
    refine leaves_cons (f := 48) (args := #[.pointer (some ⟨w.heap.size + 1, 0, none⟩)]) (by simp) (by simp [go_sem]) ?_
    refine (HeadOf1_idle ⟨w.heap.size + 1, 0, none⟩ _).mono ?_
    rintro e u' w'' ⟨rfl, rfl, rfl⟩
    rw [HSP.out]
    obtain ⟨W, hW, j0, j1, _, hB⟩ := sets8e (.int .i64 0) (.int .i64 0) (.int .i64 0) (.int .i64 0) (.int .i64 0) (.int .i64 0) (.int .i64 0) (.int .i64 0) (.int .i64 5) HB0.out HB1.out (by omega)
    rw [hW]
    have hB := hB _ _ RR.out.bel (by omega) (by omega)
    have d0 := blk_cell j0 0
    have d1 := blk_cell j0 1
    have d2 := blk_cell j0 2
    have d3 := blk_cell j0 3
    have d4 := blk_cell j0 4
    have d5 := blk_cell j0 5
    have d6 := blk_cell j0 6
    have d7 := blk_cell j0 7
    have d8 := blk_cell j1 0
    clear hW j0 j1
    simp [Leaves, settle, results, Try.results30, go_sem, headVal, d0, d1, d2, d3, d4, d5, d6, d7, d8]
    exact hB
end Go.Proofs.Ytpbmgollolbgoaa.B