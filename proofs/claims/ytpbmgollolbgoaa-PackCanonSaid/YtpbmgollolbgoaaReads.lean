/-
  Reading records: the cursor's answers in one each, and what a reader has laid so far.
-/
import Derived.Test.YtpbmgollolbgoaaGet
import Derived.Test.YtpbmgollolbgoaaPad
namespace Go.Proofs.Ytpbmgollolbgoaa.B
open Go.RowKit
set_option linter.unusedVariables false

theorem take_any (c : Nat) (s : ByteArray) (p : Nat) (width : Int) (w : World) (h : Cu w c s p) (hs : s.size ≤ 9223372036854775807) (hp : p ≤ s.size) (h0 : 0 ≤ width) (h6 : width ≤ 6) :
    Calls Try.prog 43 #[.pointer (some ⟨c, 0, none⟩), .int .i64 width] w fun e w' =>
      ((p : Int) + width ≤ s.size ∧ e = .returned (.int .i64 (num s p width.toNat)) ∧ ∃ n, (w.setCell ⟨c, 1, none⟩ (.int .i64 (p + width))).drewN n = w') ∨
      ((s.size : Int) - p < width ∧ e = .panicked [{ v := .iface 77 (.agg #[]), recovered := false }] ∧ ∃ n, w.drewN n = w') := by
  by_cases hw : (s.size : Int) - p < width
  · exact (take_short c s p width w h hs hp hw).mono fun e w' h => .inr ⟨hw, h⟩
  · exact (take_ok c s p width w h hs h0 h6 (by omega)).mono fun e w' h => .inl ⟨by omega, h⟩
theorem text_any (c : Nat) (s : ByteArray) (p : Nat) (n : Int) (w : World) (h : Cu w c s p) (hs : s.size ≤ 9223372036854775807) (hp : p ≤ s.size) (h0 : 0 ≤ n) :
    Calls Try.prog 49 #[.pointer (some ⟨c, 0, none⟩), .int .i64 n] w fun e w' =>
      ((p : Int) + n ≤ s.size ∧ e = .returned (.string (s.extract p (p + n.toNat))) ∧ ∃ nd, (w.setCell ⟨c, 1, none⟩ (.int .i64 (p + n))).drewN nd = w') ∨
      ((s.size : Int) - p < n ∧ e = .panicked [{ v := .iface 77 (.agg #[]), recovered := false }] ∧ ∃ n, w.drewN n = w') := by
  by_cases hw : (s.size : Int) - p < n
  · exact (text_short c s p n w h hs hp hw).mono fun e w' h => .inr ⟨hw, h⟩
  · exact (text_ok c s p n w h hs h0 (by omega)).mono fun e w' h => .inl ⟨by omega, h⟩

/-- A reader at work: its own boxes stand, the cursor behind them. -/
structure Rd (w0 : World) (os : List Obj) (s : ByteArray) (p : Nat) (W : World) : Prop where
  bel : Below w0.heap.size w0 W
  box : ∀ (i : Nat) (o : Obj), os[i]? = some o → W.heap[w0.heap.size + i]? = some o
  cu : Cu W (w0.heap.size + os.length) s p
theorem Rd.drew {w0 W : World} {os : List Obj} {s : ByteArray} {p : Nat} (h : Rd w0 os s p W) (n : Nat) : Rd w0 os s p (W.drewN n) := ⟨bdrewN h.bel n, fun i o hi => h.box i o hi, h.cu⟩
theorem Rd.step {w0 W : World} {os : List Obj} {s : ByteArray} {p : Nat} (h : Rd w0 os s p W) (k : Int) (q : Nat) (hq : (p : Int) + k = q) (n : Nat) : Rd w0 os s q ((W.setCell ⟨w0.heap.size + os.length, 1, none⟩ (.int .i64 (p + k))).drewN n) := by
  have hc := h.cu
  unfold Cu at hc
  refine ⟨bdrewN (h.bel.setCell (by simp) _) n, fun i o hi => ?_, ?_⟩
  · have hlt : i < os.length := (List.getElem?_eq_some_iff.mp hi).1
    rw [← h.box i o hi]
    exact Below.heap_setCell W _ _ _ (by simp; omega)
  · show (W.setCell _ _).heap[_]? = _
    rw [hq]
    exact (blk_set hc 1 _).trans (by simp)
theorem Rd.alloc {w0 W : World} {os : List Obj} {s : ByteArray} {p : Nat} (h : Rd w0 os s p W) (o : Obj) : Rd w0 os s p (W.alloc o) := ⟨h.bel.alloc h.bel.size _, fun i x hi => get_below (h.box i x hi), get_below h.cu⟩
/-- The deferred literal, where the reader gave up: the error is laid. -/
theorem HeadOf1_panicking (p : Addr) (x : Value) (older : List PanicEntry) (w : World) (hc : w.cell? p = some x) (hz : w.frozen? p = false) (hp : p.block < w.heap.size) :
    CallsD Try.prog 48 #[.pointer (some p)] (.panicking ({ v := .iface 77 (.agg #[]), recovered := false } :: older)) w fun e u' w' =>
      e = .returned (.tuple #[]) ∧ u' = .panicking ({ v := .iface 77 (.agg #[]), recovered := true } :: older) ∧ w' = (w.alloc (.cells #[] 77)).setCell p (.int .i64 3) := by
  refine callsD_of_wpS Try.func48 rfl fun c₀ cs hu => ?_
  apply wpS_seq
  apply wpS_region
  simp [wpOpsS, go_sem, recoverD, hu, Try.ntmps48, Exit.thenS]
  refine (gave_short _).mono ?_
  rintro e w1 ⟨rfl, rfl⟩
  have hc1 : (w.alloc (.cells #[] 77)).cell? p = some x := (World.cell?_of_block (w := w) (Below.heap_alloc w _ _ hp)).trans hc
  have hz1 : (w.alloc (.cells #[] 77)).frozen? p = false := (World.frozen?_of_block (w := w) (Below.heap_alloc w _ _ hp)).trans hz
  dsimp only
  refine wpS_cond (t := true) (by simp [Act.eval, Array.replicate]) ?_
  simp only [if_true]
  apply wpS_region
  simp [wpOpsS, go_sem, hc1, hz1, bodyPostS, results, Try.results48]

theorem HeadOf1_idle (p : Addr) (w : World) :
    CallsD Try.prog 48 #[.pointer (some p)] .returning w fun e u' w' => e = .returned (.tuple #[]) ∧ u' = .returning ∧ w' = w := by
  refine callsD_of_wpS Try.func48 rfl fun c₀ cs hu => ?_
  apply wpS_seq
  apply wpS_region
  simp [wpOpsS, go_sem, recoverD, hu, Try.ntmps48, Exit.thenS]
  refine (gave_nil _).mono ?_
  rintro e w1 ⟨rfl, rfl⟩
  dsimp only
  refine wpS_cond (t := false) (by simp [Act.eval, Array.replicate]) ?_
  simp only [Bool.false_eq_true, if_false]
  refine wpS_of_wp (wp_skip ?_)
  cases c₀
  simp_all [bodyPostS, results, Try.results48]

/-- The deferred literal, where the reader gave up: the error is laid. -/
theorem EntryOf1_panicking (p : Addr) (x : Value) (older : List PanicEntry) (w : World) (hc : w.cell? p = some x) (hz : w.frozen? p = false) (hp : p.block < w.heap.size) :
    CallsD Try.prog 54 #[.pointer (some p)] (.panicking ({ v := .iface 77 (.agg #[]), recovered := false } :: older)) w fun e u' w' =>
      e = .returned (.tuple #[]) ∧ u' = .panicking ({ v := .iface 77 (.agg #[]), recovered := true } :: older) ∧ w' = (w.alloc (.cells #[] 77)).setCell p (.int .i64 3) := by
  refine callsD_of_wpS Try.func54 rfl fun c₀ cs hu => ?_
  apply wpS_seq
  apply wpS_region
  simp [wpOpsS, go_sem, recoverD, hu, Try.ntmps54, Exit.thenS]
  refine (gave_short _).mono ?_
  rintro e w1 ⟨rfl, rfl⟩
  have hc1 : (w.alloc (.cells #[] 77)).cell? p = some x := (World.cell?_of_block (w := w) (Below.heap_alloc w _ _ hp)).trans hc
  have hz1 : (w.alloc (.cells #[] 77)).frozen? p = false := (World.frozen?_of_block (w := w) (Below.heap_alloc w _ _ hp)).trans hz
  dsimp only
  refine wpS_cond (t := true) (by simp [Act.eval, Array.replicate]) ?_
  simp only [if_true]
  apply wpS_region
  simp [wpOpsS, go_sem, hc1, hz1, bodyPostS, results, Try.results54]

theorem EntryOf1_idle (p : Addr) (w : World) :
    CallsD Try.prog 54 #[.pointer (some p)] .returning w fun e u' w' => e = .returned (.tuple #[]) ∧ u' = .returning ∧ w' = w := by
  refine callsD_of_wpS Try.func54 rfl fun c₀ cs hu => ?_
  apply wpS_seq
  apply wpS_region
  simp [wpOpsS, go_sem, recoverD, hu, Try.ntmps54, Exit.thenS]
  refine (gave_nil _).mono ?_
  rintro e w1 ⟨rfl, rfl⟩
  dsimp only
  refine wpS_cond (t := false) (by simp [Act.eval, Array.replicate]) ?_
  simp only [Bool.false_eq_true, if_false]
  refine wpS_of_wp (wp_skip ?_)
  cases c₀
  simp_all [bodyPostS, results, Try.results54]

theorem Rd.made2 (w : World) (o1 o2 : Obj) (s : ByteArray) : Rd w [o1, o2] s 0 (((w.alloc o1).alloc o2).alloc (.cells #[.string s, .int .i64 0] 66)) := by
  refine ⟨(((Below.refl _ w).alloc (Nat.le_refl _) _).alloc (by simp) _).alloc (by simp; omega) _, fun i o hi => ?_, get_top (by simp)⟩
  match i, hi with
  | 0, hi => obtain rfl : o1 = o := by simpa using hi
             exact get_below (get_below (get_top rfl))
  | 1, hi => obtain rfl : o2 = o := by simpa using hi
             exact get_below (get_top (by simp))
  | n + 2, hi => simp at hi
theorem Rd.made1 (w : World) (o1 : Obj) (s : ByteArray) : Rd w [o1] s 0 ((w.alloc o1).alloc (.cells #[.string s, .int .i64 0] 66)) := by
  refine ⟨((Below.refl _ w).alloc (Nat.le_refl _) _).alloc (by simp) _, fun i o hi => ?_, get_top (by simp)⟩
  match i, hi with
  | 0, hi => obtain rfl : o1 = o := by simpa using hi
             exact get_below (get_top rfl)
  | n + 1, hi => simp at hi
end Go.Proofs.Ytpbmgollolbgoaa.B
