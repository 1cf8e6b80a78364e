/-
  PackSuperReads: the law's walk.
-/
import Derived.Test.YtpbmgollolbgoaaRefSuperOf
import Derived.Test.YtpbmgollolbgoaaLawsA
import Derived.Test.YtpbmgollolbgoaaEqs
namespace Go.Proofs.Ytpbmgollolbgoaa.B
open Go.RowKit
set_option linter.unusedVariables false

theorem superOfSpec_form (s : ByteArray) : ∃ (n0 n1 n2 n3 : Int) (r : ByteArray) (e : Int), superOfSpec s = ([n0, n1, n2, n3], r, e) := by
  unfold superOfSpec
  split
  · exact ⟨_, _, _, _, _, _, rfl⟩
  · split
    · exact ⟨_, _, _, _, _, _, rfl⟩
    · split
      · exact ⟨_, _, _, _, _, _, rfl⟩
      · exact ⟨_, _, _, _, _, _, rfl⟩
theorem eq_super (a0 a1 a2 a3 : Int) (s : ByteArray) (W : World) : (binOp .eql 42 (.agg #[.int .i64 a0, .int .i64 a1, .int .i64 a2, .int .i64 a3, .string s]) (.agg #[.int .i64 a0, .int .i64 a1, .int .i64 a2, .int .i64 a3, .string s])).run Try.prog W = .ok (.bool true) W := by
  have hu := Try.underlying42
  have hi := Try.underlying3
  have hs := Try.underlying9
  simp [go_sem]

set_option maxHeartbeats 1600000 in
theorem PackSuperReads_walk (s : ByteArray) (hs : s.size ≤ 9223372036854775807) (w : World) :
    Calls Try.prog 13 #[.string s] w fun e w' => e = .returned (.bool true) ∧ Below w.heap.size w w' := by
  have hu := Try.underlying42
  obtain ⟨n0, n1, n2, n3, r, er, hf⟩ := superOfSpec_form s
  have ha : ∀ w, Calls Try.prog 36 #[.string s] w fun e w' => e = .returned (.tuple #[.agg #[.int .i64 n0, .int .i64 n1, .int .i64 n2, .int .i64 n3, .string r], .int .i64 er]) ∧ Below w.heap.size w w' := fun w => by
    have h := SuperOf_any s w
    rw [hf] at h
    exact h
  have hb : ∀ w, Calls Try.prog 37 #[.string s] w fun e w' => e = .returned (.tuple #[.agg #[.int .i64 n0, .int .i64 n1, .int .i64 n2, .int .i64 n3, .string r], .int .i64 er]) ∧ Below w.heap.size w w' := fun w => by
    have h := refSuperOf_any s hs w
    rw [hf] at h
    exact h
  have HA := Lib.hid ha
  have HB := Lib.hid hb
  clear ha hb
  have hE := eq_super n0 n1 n2 n3 r
  clear hf
  go_enter Try.func13, Try.ntmps13
  go_wp2_with fail
  refine (HA.out _).mono ?_
  rintro e w1 ⟨rfl, hb1⟩
  go_wp2_with fail
  refine (HB.out _).mono ?_
  rintro e w2 ⟨rfl, hb2⟩
  have hk1 : w2.heap[w1.heap.size]? = some (.cells #[.int .i64 n0, .int .i64 n1, .int .i64 n2, .int .i64 n3, .string r] 42 (0, 0)) := (hb2.block _ (by simp)).trans (heap_alloc_new w1 _)
  have c0 := blk_cell hk1 0
  have c1 := blk_cell hk1 1
  have c2 := blk_cell hk1 2
  have c3 := blk_cell hk1 3
  have c4 := blk_cell hk1 4
  have hlt := blk_lt hk1
  have HL := Lib.hid (((hb1.alloc hb1.size (.cells #[.int .i64 n0, .int .i64 n1, .int .i64 n2, .int .i64 n3, .string r] 42)).trans (hb2.mono (by have := hb1.size; simp; omega))))
  clear hb1 hb2 hk1
  go_wp2_with fail
  refine (awake_any _).mono ?_
  rintro e w3 ⟨rfl, hb3⟩
  have HB3 := Lib.hid hb3
  clear hb3
  go_wp2
  go_ret
  refine ⟨rfl, (HL.out.alloc HL.out.size _).trans (HB3.out.mono (by have := HL.out.size; simp; omega))⟩
end Go.Proofs.Ytpbmgollolbgoaa.B
namespace Go.Proofs.Ytpbmgollolbgoaa.R
open Go.RowKit
theorem PackSuperReads (s : ByteArray) (w : World) (h : s.size ≤ 140737488351232) :
    Calls Try.prog 13 #[.string s] w fun e w' => e = .returned (.bool true) ∧ Below w.heap.size w w' := B.PackSuperReads_walk s (by omega) w
end Go.Proofs.Ytpbmgollolbgoaa.R
