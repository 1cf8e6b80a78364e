/-
  SumMacs, SumKeys in the form in which a row hands its arguments over.
-/
import Derived.Test.YtobgnmellbgfmaaSumLawsB
namespace Go.Proofs.Ytobgnmellbgfmaa.R
open Go.RowKit
theorem wf_i64 {n : Int} (h : (Lit.int .i64 n).wf = true) : -9223372036854775808 ≤ n ∧ n ≤ 9223372036854775807 := by
  simp [Lit.wf, IntKind.min, IntKind.max, IntKind.signed, IntKind.bits] at h
  exact ⟨by omega, by omega⟩
theorem SumMacs (key s : ByteArray) (w : World) (h1 : key.size ≤ 140737488351232) (h2 : s.size ≤ 140737488351232) :
    Calls Try.prog 8 #[.string key, .string s] w fun e w' => e = .returned (.bool true) ∧ Below w.heap.size w w' := B.SumMacs_walk key s h1 h2 w
theorem SumKeys (key s : ByteArray) (more : Int) (w : World) (h1 : key.size ≤ 140737488351232) (h2 : s.size ≤ 140737488351232) (h3 : (Lit.int .i64 more).wf = true) :
    Calls Try.prog 7 #[.string key, .string s, .int .i64 more] w fun e w' => e = .returned (.bool true) ∧ Below w.heap.size w w' := B.SumKeys_walk key s more h1 h2 (wf_i64 h3).1 (wf_i64 h3).2 w
end Go.Proofs.Ytobgnmellbgfmaa.R
