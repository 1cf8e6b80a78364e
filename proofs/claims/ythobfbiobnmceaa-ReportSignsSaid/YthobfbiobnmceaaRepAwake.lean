/-
  Chapter 16's example.
-/
import Derived.Test.YthobfbiobnmceaaFndRow
namespace Go.Proofs.Ythobfbiobnmceaa.B
open Go.RowKit
set_option linter.unusedVariables false
set_option linter.unusedSimpArgs false

def exampleRep : ByteArray := ⟨#[7, 0, 0, 0, 0, 0, 1, 0, 0, 0, 0, 0, 0, 0, 0, 0, 0, 0, 0, 0]⟩
theorem exampleRep_eq : repBytes 7 1 0 [] = (exampleRep, 0) := by decide +kernel
set_option maxRecDepth 100000 in
theorem repAwake_any (w : World) : Calls Try.prog 14 #[] w fun e w' => e = .returned (.bool true) ∧ Below w.heap.size w w' := by
  have HF := Lib.hid (repBytes_any 7 1 0 _ [] w (FndRow.nil w) (by simp) (by omega) (by omega) (by omega))
  rw [exampleRep_eq] at HF
  have z : exampleRep.size = 20 := rfl
  have b0 : exampleRep.data[0]? = some 7 := rfl
  have b6 : exampleRep.data[6]? = some 1 := rfl
  go_enter Try.func14, Try.ntmps14
  go_wp2_with fail
  refine HF.out.mono ?_
  rintro e W1 ⟨rfl, hb1⟩
  have HB1 := Lib.hid hb1
  clear hb1 HF
  go_wp2_with fail
  go_ret
  exact ⟨rfl, HB1.out⟩
end Go.Proofs.Ythobfbiobnmceaa.B
