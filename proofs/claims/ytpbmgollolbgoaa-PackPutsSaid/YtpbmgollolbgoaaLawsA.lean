/-
  PackPuts, PackGets: the laws' walks, out of the contracts of Put and Get on both sides.
-/
import Derived.Test.YtpbmgollolbgoaaRefPut
namespace Go.Proofs.Ytpbmgollolbgoaa.B
open Go.RowKit
set_option linter.unusedVariables false

theorem awake_any (w : World) : Calls Try.prog 19 #[] w fun e w' => e = .returned (.bool true) ∧ Below w.heap.size w w' := by
  have p1 : putSpec 300 2 = (⟨#[44, 1]⟩, 0) := by decide +kernel
  have g1 : getSpec ⟨#[44, 1]⟩ 0 2 = (300, 0) := by decide +kernel
  have P1 := Lib.hid p1
  have G1 := Lib.hid g1
  clear p1 g1
  go_enter Try.func19, Try.ntmps19
  go_wp2_with fail
  refine (Put_any 300 2 (by omega) (by omega) _).mono ?_
  rw [P1.out]
  rintro e w1 ⟨rfl, hb1⟩
  have HB1 := Lib.hid hb1
  clear hb1
  go_wp2_with fail
  refine (Get_any ⟨#[44, 1]⟩ 0 2 (by decide) _).mono ?_
  rw [G1.out]
  rintro e w2 ⟨rfl, hb2⟩
  have HB2 := Lib.hid hb2
  clear hb2
  go_wp2
  go_ret
  exact ⟨rfl, HB1.out.trans (HB2.out.mono HB1.out.size)⟩

theorem PackPuts_walk (n width : Int) (hn : -9223372036854775808 ≤ n) (hn2 : n ≤ 9223372036854775807) (w : World) :
    Calls Try.prog 3 #[.int .i64 n, .int .i64 width] w fun e w' => e = .returned (.bool true) ∧ Below w.heap.size w w' := by
  go_enter Try.func3, Try.ntmps3
  go_wp2_with fail
  refine (Put_any n width hn hn2 _).mono ?_
  rintro e w1 ⟨rfl, hb1⟩
  have HB1 := Lib.hid hb1
  clear hb1
  go_wp2_with fail
  refine (refPut_any n width hn2 _).mono ?_
  rintro e w2 ⟨rfl, hb2⟩
  have HB2 := Lib.hid hb2
  clear hb2
  go_wp2_with fail
  refine (awake_any _).mono ?_
  rintro e w3 ⟨rfl, hb3⟩
  have HB3 := Lib.hid hb3
  clear hb3
  go_wp2
  go_ret
  exact ⟨rfl, (HB1.out.trans (HB2.out.mono HB1.out.size)).trans (HB3.out.mono (Nat.le_trans HB1.out.size HB2.out.size))⟩

end Go.Proofs.Ytpbmgollolbgoaa.B
