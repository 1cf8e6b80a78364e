/-
  pack.Get walked: a reader that gives up by a panic, which a deferred literal recovers.
-/
import Derived.Test.YthobfbiobnmceaaProg
import Derived.Test.YthobfbiobnmceaaCursor
import Derived.Recover
namespace Go.Proofs.Ythobfbiobnmceaa.B
open Go.RowKit
set_option linter.unusedVariables false

set_option maxRecDepth 100000 in
theorem gave_nil (w : World) : Calls Try.prog 48 #[.nilIface] w fun e w' => e = .returned (.bool false) ∧ w = w' := by
  go_enter Try.func48, Try.ntmps48
  go_wp2
  go_ret
  exact ⟨rfl, rfl⟩

set_option maxRecDepth 100000 in
theorem gave_short (w : World) : Calls Try.prog 48 #[.iface 123 (.agg #[])] w fun e w' => e = .returned (.bool true) ∧ w.alloc (.cells #[] 123) = w' := by
  have hta : ∀ (v : Value) (W : World), (Instr.typeAssert (.iface 123 v) 20 123 true).run Try.prog W = .ok (.tuple #[v, .bool true]) W := fun v W => by rfl
  go_enter Try.func48, Try.ntmps48
  go_wp2
  go_ret
  exact ⟨rfl, rfl⟩

set_option maxRecDepth 100000 in
/-- The deferred literal, where the reader gave up: the error is laid. -/
theorem Get1_panicking (p : Addr) (x : Value) (older : List PanicEntry) (w : World) (hc : w.cell? p = some x) (hz : w.frozen? p = false) (hp : p.block < w.heap.size) :
    CallsD Try.prog 47 #[.pointer (some p)] (.panicking ({ v := .iface 123 (.agg #[]), recovered := false } :: older)) w fun e u' w' =>
      e = .returned (.tuple #[]) ∧ u' = .panicking ({ v := .iface 123 (.agg #[]), recovered := true } :: older) ∧ w' = (w.alloc (.cells #[] 123)).setCell p (.int .i64 3) := by
  refine callsD_of_wpS Try.func47 rfl fun c₀ cs hu => ?_
  apply wpS_seq
  apply wpS_region
  simp [wpOpsS, go_sem, recoverD, hu, Try.ntmps47, Exit.thenS]
  refine (gave_short _).mono ?_
  rintro e w1 ⟨rfl, rfl⟩
  have hc1 : (w.alloc (.cells #[] 123)).cell? p = some x := (World.cell?_of_block (w := w) (Below.heap_alloc w _ _ hp)).trans hc
  have hz1 : (w.alloc (.cells #[] 123)).frozen? p = false := (World.frozen?_of_block (w := w) (Below.heap_alloc w _ _ hp)).trans hz
  dsimp only
  refine wpS_cond (t := true) (by simp [Act.eval, Array.replicate]) ?_
  simp only [if_true]
  apply wpS_region
  simp [wpOpsS, go_sem, hc1, hz1, bodyPostS, results, Try.results47]

set_option maxRecDepth 100000 in
theorem Get1_idle (p : Addr) (w : World) :
    CallsD Try.prog 47 #[.pointer (some p)] .returning w fun e u' w' => e = .returned (.tuple #[]) ∧ u' = .returning ∧ w' = w := by
  refine callsD_of_wpS Try.func47 rfl fun c₀ cs hu => ?_
  apply wpS_seq
  apply wpS_region
  simp [wpOpsS, go_sem, recoverD, hu, Try.ntmps47, Exit.thenS]
  refine (gave_nil _).mono ?_
  rintro e w1 ⟨rfl, rfl⟩
  dsimp only
  refine wpS_cond (t := false) (by simp [Act.eval, Array.replicate]) ?_
  simp only [Bool.false_eq_true, if_false]
  refine wpS_of_wp (wp_skip ?_)
  cases c₀
  simp_all [bodyPostS, results, Try.results47]

/-- What Get answers. -/
def getSpec (s : ByteArray) (p width : Int) : Int × Int :=
  if width < 1 ∨ 6 < width then (0, 1) else if p < 0 ∨ (s.size : Int) - p < width then (0, 3) else (num s p.toNat width.toNat, 0)

theorem Cu.made (w : World) (s : ByteArray) (p : Nat) : Cu (w.alloc (.cells #[.string s, .int .i64 p] 102)) w.heap.size s p := heap_alloc_new w _

theorem Cu.made1 (w : World) (o : Obj) (s : ByteArray) (p : Nat) : Cu ((w.alloc o).alloc (.cells #[.string s, .int .i64 p] 102)) (w.heap.size + 1) s p := by
  have h := heap_alloc_new (w.alloc o) (.cells #[.string s, .int .i64 p] 102)
  rwa [show (w.alloc o).heap.size = w.heap.size + 1 by simp] at h

set_option maxRecDepth 100000 in
theorem Get_short (s : ByteArray) (p : Nat) (width : Int) (hs : s.size ≤ 9223372036854775807) (h1 : ¬ width < 1) (h6 : ¬ 6 < width) (hp : p ≤ s.size) (hw : (s.size : Int) - p < width) (w : World) :
    Calls Try.prog 31 #[.string s, .int .i64 p, .int .i64 width] w fun e w' => e = .returned (.tuple #[.int .i64 0, .int .i64 3]) ∧ Below w.heap.size w w' := by
  have hmf : ∀ (fn : Fn) (first cap : Array Value) (w : World), (Instr.makeFunc fn first cap).run Try.prog w = .ok (.func fn first cap) w := fun _ _ _ _ => rfl
  have hp' : ¬ (s.size : Int) < (p : Int) := by omega
  go_enter_defers Try.func31, Try.ntmps31
  go_wp2_with fail
  refine (take_short _ s p width _ (Cu.made1 w _ s p) hs hp hw).mono ?_
  rintro e w1 ⟨rfl, nd, rfl⟩
  go_wp2
  refine leaves_cons (f := 47) (args := #[.pointer (some ⟨w.heap.size, 0, none⟩)]) (by simp) (by simp [go_sem]) ?_
  refine (Get1_panicking ⟨w.heap.size, 0, none⟩ (.int .i64 0) [] _ ?_ ?_ ?_).mono ?_
  · simp [go_sem]
  · simp [go_sem]
  · simp; omega
  rintro e u' w'' ⟨rfl, rfl, rfl⟩
  simp [Leaves, settle, results, Try.results31, go_sem]
  exact ((bdrewN (((Below.refl _ w).alloc (Nat.le_refl _) _).alloc (by simp) _) nd).setCell (p := ⟨w.heap.size, 0, none⟩) (Nat.le_refl _) _).alloc (by simp [World.setCell]; omega) _

set_option maxRecDepth 100000 in
theorem Get_ok (s : ByteArray) (p : Nat) (width : Int) (hs : s.size ≤ 9223372036854775807) (h1 : ¬ width < 1) (h6 : ¬ 6 < width) (hp : p ≤ s.size) (hw : (p : Int) + width ≤ s.size) (w : World) :
    Calls Try.prog 31 #[.string s, .int .i64 p, .int .i64 width] w fun e w' => e = .returned (.tuple #[.int .i64 (num s p width.toNat), .int .i64 0]) ∧ Below w.heap.size w w' := by
  have hmf : ∀ (fn : Fn) (first cap : Array Value) (w : World), (Instr.makeFunc fn first cap).run Try.prog w = .ok (.func fn first cap) w := fun _ _ _ _ => rfl
  have hp' : ¬ (s.size : Int) < (p : Int) := by omega
  go_enter_defers Try.func31, Try.ntmps31
  go_wp2_with fail
  refine (take_ok _ s p width _ (Cu.made1 w _ s p) hs (by omega) (by omega) hw).mono ?_
  rintro e w1 ⟨rfl, nd, rfl⟩
  go_wp2
  refine leaves_cons (f := 47) (args := #[.pointer (some ⟨w.heap.size, 0, none⟩)]) (by simp) (by simp [go_sem]) ?_
  refine (Get1_idle ⟨w.heap.size, 0, none⟩ _).mono ?_
  rintro e u' w'' ⟨rfl, rfl, rfl⟩
  simp [Leaves, settle, results, Try.results31, go_sem]
  exact (bdrewN (((Below.refl _ w).alloc (Nat.le_refl _) _).alloc (by simp) _) nd).setCell (p := ⟨w.heap.size, 0, none⟩) (Nat.le_refl _) _

set_option maxRecDepth 100000 in
theorem Get_any (s : ByteArray) (p : Int) (width : Int) (hs : s.size ≤ 9223372036854775807) (w : World) :
    Calls Try.prog 31 #[.string s, .int .i64 p, .int .i64 width] w fun e w' => e = .returned (.tuple #[.int .i64 (getSpec s p width).1, .int .i64 (getSpec s p width).2]) ∧ Below w.heap.size w w' := by
  by_cases h1 : width < 1
  · have h : getSpec s p width = (0, 1) := by simp [getSpec, h1]
    have H := Lib.hid h
    clear h
    go_enter Try.func31, Try.ntmps31
    go_wp2
    refine bodyPost_ret (v := .tuple #[.int .i64 0, .int .i64 1]) (by simp [results, Try.results31, go_sem]) rfl ?_
    rw [H.out]
    exact ⟨rfl, (Below.refl _ w).alloc (Nat.le_refl _) _⟩
  by_cases h6 : 6 < width
  · have h : getSpec s p width = (0, 1) := by simp [getSpec, h6]
    have H := Lib.hid h
    clear h
    go_enter Try.func31, Try.ntmps31
    go_wp2
    refine bodyPost_ret (v := .tuple #[.int .i64 0, .int .i64 1]) (by simp [results, Try.results31, go_sem]) rfl ?_
    rw [H.out]
    exact ⟨rfl, (Below.refl _ w).alloc (Nat.le_refl _) _⟩
  by_cases h0 : p < 0
  · have h : getSpec s p width = (0, 3) := by rw [getSpec, if_neg (by omega), if_pos (.inl h0)]
    have H := Lib.hid h
    clear h
    go_enter Try.func31, Try.ntmps31
    go_wp2
    refine bodyPost_ret (v := .tuple #[.int .i64 0, .int .i64 3]) (by simp [results, Try.results31, go_sem]) rfl ?_
    rw [H.out]
    exact ⟨rfl, (Below.refl _ w).alloc (Nat.le_refl _) _⟩
  by_cases hl : (s.size : Int) < p
  · have h : getSpec s p width = (0, 3) := by rw [getSpec, if_neg (by omega), if_pos (.inr (by omega))]
    have H := Lib.hid h
    clear h
    go_enter Try.func31, Try.ntmps31
    go_wp2
    refine bodyPost_ret (v := .tuple #[.int .i64 0, .int .i64 3]) (by simp [results, Try.results31, go_sem]) rfl ?_
    rw [H.out]
    exact ⟨rfl, (Below.refl _ w).alloc (Nat.le_refl _) _⟩
  obtain ⟨q, rfl⟩ := Int.eq_ofNat_of_zero_le (by omega : 0 ≤ p)
  by_cases hw : (s.size : Int) - q < width
  · have h : getSpec s q width = (0, 3) := by rw [getSpec, if_neg (by omega), if_pos (.inr hw)]
    rw [h]
    exact Get_short s q width hs h1 h6 (by omega) hw w
  · have h : getSpec s q width = (num s q width.toNat, 0) := by rw [getSpec, if_neg (by omega), if_neg (by omega)]; rfl
    rw [h]
    exact Get_ok s q width hs h1 h6 (by omega) (by omega) w
end Go.Proofs.Ythobfbiobnmceaa.B
