/-
  The walks of the laws over plain numbers and texts in the form in which a row hands its arguments over: numbers by 'wf', texts by their size.
-/
import Derived.Test.YtpbmgollolbgoaaLawsA
namespace Go.Proofs.Ytpbmgollolbgoaa.R
open Go.RowKit

theorem wf_i64 {n : Int} (h : (Lit.int .i64 n).wf = true) : -9223372036854775808 ≤ n ∧ n ≤ 9223372036854775807 := by
  simp [Lit.wf, IntKind.min, IntKind.max, IntKind.signed, IntKind.bits] at h
  exact ⟨by omega, by omega⟩
theorem PackPuts (n width : Int) (w : World) (h1 : (Lit.int .i64 n).wf = true) (_h2 : (Lit.int .i64 width).wf = true) :
    Calls Try.prog 3 #[.int .i64 n, .int .i64 width] w fun e w' => e = .returned (.bool true) ∧ Below w.heap.size w w' :=
  B.PackPuts_walk n width (wf_i64 h1).1 (wf_i64 h1).2 w
theorem PackGets (s : ByteArray) (p width : Int) (w : World) (h1 : s.size ≤ 140737488351232) (_h2 : (Lit.int .i64 p).wf = true) (_h3 : (Lit.int .i64 width).wf = true) :
    Calls Try.prog 4 #[.string s, .int .i64 p, .int .i64 width] w fun e w' => e = .returned (.bool true) ∧ Below w.heap.size w w' :=
  B.PackGets_walk s p width h1 w
theorem PackPads (s : ByteArray) (n : Int) (w : World) (h1 : s.size ≤ 140737488351232) (_h2 : (Lit.int .i64 n).wf = true) :
    Calls Try.prog 6 #[.string s, .int .i64 n] w fun e w' => e = .returned (.bool true) ∧ Below w.heap.size w w' :=
  B.PackPads_walk s n h1 w
theorem PackBack (n width : Int) (a b : ByteArray) (w : World) (h1 : (Lit.int .i64 n).wf = true) (_h2 : (Lit.int .i64 width).wf = true) (h3 : a.size ≤ 140737488351232) (h4 : b.size ≤ 140737488351232) :
    Calls Try.prog 5 #[.int .i64 n, .int .i64 width, .string a, .string b] w fun e w' => e = .returned (.bool true) ∧ Below w.heap.size w w' :=
  B.PackBack_walk n width a b (wf_i64 h1).1 (wf_i64 h1).2 h3 h4 w
end Go.Proofs.Ytpbmgollolbgoaa.R
