/-
  PackEntryReads: the law's walk.
-/
import Derived.Test.YtpbmgollolbgoaaRefEntryOf
import Derived.Test.YtpbmgollolbgoaaLawsA
import Derived.Test.YtpbmgollolbgoaaEqs
namespace Go.Proofs.Ytpbmgollolbgoaa.B
open Go.RowKit
set_option linter.unusedVariables false

theorem entryOfSpec_form (s : ByteArray) : ∃ (r : ByteArray) (n0 n1 e : Int), entryOfSpec s = (r, n0, n1, e) := ⟨_, _, _, _, rfl⟩

set_option maxHeartbeats 1600000 in
theorem PackEntryReads_walk (s : ByteArray) (hs : s.size ≤ 9223372036854775807) (w : World) :
    Calls Try.prog 14 #[.string s] w fun e w' => e = .returned (.bool true) ∧ Below w.heap.size w w' := by
  have hu := Try.underlying34
  obtain ⟨r, n0, n1, er, hf⟩ := entryOfSpec_form s
  have ha : ∀ w, Calls Try.prog 38 #[.string s] w fun e w' => e = .returned (.tuple #[.agg #[.string r, .int .i64 n0, .int .i64 n1], .int .i64 er]) ∧ Below w.heap.size w w' := fun w => by
    have h := EntryOf_any s hs w
    rw [hf] at h
    exact h
  have hb : ∀ w, Calls Try.prog 39 #[.string s] w fun e w' => e = .returned (.tuple #[.agg #[.string r, .int .i64 n0, .int .i64 n1], .int .i64 er]) ∧ Below w.heap.size w w' := fun w => by
    have h := refEntryOf_any s hs w
    rw [hf] at h
    exact h
  have HA := Lib.hid ha
  have HB := Lib.hid hb
  clear ha hb
  have hE : ∀ W : World, (binOp .eql 34 (.agg #[.string r, .int .i64 n0, .int .i64 n1]) (.agg #[.string r, .int .i64 n0, .int .i64 n1])).run Try.prog W = .ok (.bool true) W := fun W => by
    rw [eq_entry]
    simp
  clear hf
  go_enter Try.func14, Try.ntmps14
  go_wp2_with fail
  refine (HA.out _).mono ?_
  rintro e w1 ⟨rfl, hb1⟩
  go_wp2_with fail
  refine (HB.out _).mono ?_
  rintro e w2 ⟨rfl, hb2⟩
  have hk1 : w2.heap[w1.heap.size]? = some (.cells #[.string r, .int .i64 n0, .int .i64 n1] 34 (0, 0)) := (hb2.block _ (by simp)).trans (heap_alloc_new w1 _)
  have c0 := blk_cell hk1 0
  have c1 := blk_cell hk1 1
  have c2 := blk_cell hk1 2
  have hlt := blk_lt hk1
  have HL := Lib.hid (((hb1.alloc hb1.size (.cells #[.string r, .int .i64 n0, .int .i64 n1] 34)).trans (hb2.mono (by have := hb1.size; simp; omega))))
  clear hb1 hb2 hk1
  go_wp2_with fail
  refine (awake_any _).mono ?_
  rintro e w3 ⟨rfl, hb3⟩
  have HB3 := Lib.hid hb3
  clear hb3
  go_wp2
  go_ret
  refine ⟨rfl, (HL.out.alloc HL.out.size _).trans (HB3.out.mono (by have := HL.out.size; simp; omega))⟩
end Go.Proofs.Ytpbmgollolbgoaa.B
namespace Go.Proofs.Ytpbmgollolbgoaa.R
open Go.RowKit
theorem PackEntryReads (s : ByteArray) (w : World) (h : s.size ≤ 140737488351232) :
    Calls Try.prog 14 #[.string s] w fun e w' => e = .returned (.bool true) ∧ Below w.heap.size w w' := B.PackEntryReads_walk s (by omega) w
end Go.Proofs.Ytpbmgollolbgoaa.R
