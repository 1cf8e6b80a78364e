/-
  sum.right, sum.constants and sum.turned, walked: a state behind one block is the plain one.
-/
import Derived.Test.YtobgnmellbgfmaaShaRef
import Derived.Test.YtobgnmellbgfmaaBlocks
import Derived.StillTailTactics
namespace Go.Proofs.Ytobgnmellbgfmaa.B
open Go.RowKit
set_option linter.unusedVariables false

/-- Words as values. -/
def u32s (xs : List Int) : List Value := xs.map fun x => .int .u32 x
theorem u32s_length (xs : List Int) : (u32s xs).length = xs.length := by simp [u32s]
theorem u32s_oneCell (xs : List Int) : ∀ v ∈ u32s xs, v.oneCell' = true := by
  intro v hv
  simp only [u32s, List.mem_map] at hv
  obtain ⟨x, _, rfl⟩ := hv
  rfl
theorem u32s_get {xs : List Int} {i : Nat} (h : i < xs.length) : (u32s xs).toArray[i]? = some (.int .u32 (xs.getD i 0)) := by
  simp [u32s, List.getElem?_eq_getElem h, List.getD]
theorem nums_get {xs : List Int} {i : Nat} (h : i < xs.length) : (nums xs).toArray[i]? = some (.int .u8 (xs.getD i 0)) := by
  simp [nums, List.getElem?_eq_getElem h, List.getD]
open Go.Proofs.YtobgnmellbgfmaaW.PrintWords (shl shr) in
theorem right32_any (x : Int) (h : W32 x) (n : Nat) (h2 : 2 ≤ n) (hn : n ≤ 32) (w : World) : Calls Try.prog 34 #[.int .u32 x, .int .i64 n] w fun e w' => e = .returned (.int .u32 (rr x n)) ∧ ∃ d, w' = w.drewN d := by
  refine (Go.Proofs.Ytobgnmellbgfmaa.PSumSums.sum_right.calls x n (rr x n) w ?_).mono fun _ _ ⟨he, hd⟩ => ⟨he, hd.out⟩
  have hw : wrap64 (32 - (n : Int)) = ((32 - n : Nat) : Int) := by rw [wrap_id (by omega) (by omega)]; omega
  unfold Go.Proofs.Ytobgnmellbgfmaa.PSumSums.sum_right.f
  rw [if_pos (by omega), hw, if_pos (by omega)]
  unfold shr shl
  rw [Int.toNat_natCast, Int.toNat_natCast, show min n IntKind.u32.bits = n from Nat.min_eq_left hn, show min (32 - n) IntKind.u32.bits = 32 - n from Nat.min_eq_left (by show 32 - n ≤ 32; omega), right_u32 h hn]
theorem infoK : (Try.prog.info? 60).map (·.size) = some 64 := by kernel_rfl
theorem infoH : (Try.prog.info? 34).map (·.size) = some 8 := by kernel_rfl

set_option maxRecDepth 100000 in
set_option maxHeartbeats 3200000 in
theorem constants_any (w : World) : Calls Try.prog 35 #[] w fun e w' => e = .returned (.agg (u32s shaK).toArray) ∧ Below w.heap.size w w' := by
  have hu := Try.underlying60
  have hz := heap_alloc_new w (.cells (u32s (List.replicate 64 0)).toArray 60 (0, 0))
  have HZ := Lib.hid hz
  clear hz
  go_enter Try.func35, Try.ntmps35
  go_wp2_with (refine wpList_store_row (by rfl) 60 _ _ (by rfl) w.heap.size (u32s shaK).toArray (u32s (List.replicate 64 0)).toArray 60 (by rfl) (by rfl) HZ.out rfl infoK (u32s_oneCell _) ?_; intro W1 hW1 hK1; have HW1 := Lib.hid hW1; have HK1 := Lib.hid hK1; clear hW1 hK1)
  refine bodyPost_row rfl w.heap.size 60 (u32s shaK).toArray (0, 0) _ (by rfl) HW1.out Try.underlying60 rfl infoK rfl ?_
  exact ⟨rfl, ((Below.refl _ w).alloc (Nat.le_refl _) _).trans (HK1.out.below (by simp) (by intro i hi; omega))⟩
end Go.Proofs.Ytobgnmellbgfmaa.B
