/-
  sum.New, walked: a mix of nothing.
-/
import Derived.Test.YtobgnmellbgfmaaFeed
namespace Go.Proofs.Ytobgnmellbgfmaa.B
open Go.RowKit
set_option linter.unusedVariables false

def zero64 : List Int := List.replicate 64 0
theorem mx_zero (W : World) (g : Nat) (h : W.heap[g]? = some (.cells (mixC shaH zero64 0 0).toArray 38 (0, 0))) : Mx W g [] := by
  refine ⟨zero64, rfl, ⟨h, rfl, by simp [zero64]⟩, fun x hx => ?_⟩
  obtain rfl := List.eq_of_mem_replicate hx
  omega
/-- A struct or an array is built whose value is known. -/
theorem wpList_build_known {P : Program} {ops : Array Oper} {rest : List Oper} {op : Oper} {a : Act} {w : World} {Q : Exit → Act → World → Prop} (hgd : op.guard = none) (ty : TypeId) (parts : Array (Nat × Operand)) (ho : op.op = .build ty parts) (ps : Array (Nat × Value)) (hp : (parts.map fun (i, x) => (i, a.eval x)) = ps)
    (v : Value) (hy : (Instr.build ty ps).run P w = .ok v w) (h : wpList P ops Q rest (a.put op.dst v) w) : wpList P ops Q (op :: rest) a w :=
  wpList_plain hgd fun K hK => by
    subst hp
    unfold Oper.wp execOp
    simp only [ho, Sem.run_bind, hy, Result.andThen_ok, Sem.run_pure]
    exact hK _ _ h
/-- A value is laid into a new block. -/
theorem wpList_box {P : Program} {ops : Array Oper} {rest : List Oper} {op : Oper} {a : Act} {w : World} {Q : Exit → Act → World → Prop} (hgd : op.guard = none) (ty : TypeId) (x : Operand) (ho : op.op = .box ty x)
    (cs : Array Value) (hx : a.eval x = .agg cs)
    (h : wpList P ops Q rest (a.put op.dst (.pointer (some ⟨w.heap.size, 0, none⟩))) (w.alloc (.cells cs ty (0, 0)))) : wpList P ops Q (op :: rest) a w :=
  wpList_plain hgd fun K hK => by
    have hK' := hK _ _ h
    unfold Oper.wp execOp
    simp only [ho, hx]
    exact hK'
/-- A variable is laid whose zero value is known. -/
theorem wpList_alloc_known {P : Program} {ops : Array Oper} {rest : List Oper} {op : Oper} {a : Act} {w : World} {Q : Exit → Act → World → Prop} (hgd : op.guard = none) (ty : TypeId) (ho : op.op = .alloc ty)
    (cs : Array Value) (hz : (zeroValue ty).run P w = .ok (.agg cs) w)
    (h : wpList P ops Q rest (a.put op.dst (.pointer (some ⟨w.heap.size, 0, none⟩))) (w.alloc (.cells cs ty (0, 0)))) : wpList P ops Q (op :: rest) a w :=
  wpList_plain hgd fun K hK => by
    have hK' := hK _ _ h
    unfold Oper.wp execOp
    simp only [ho, Instr.alloc, Sem.run_bind, hz, Result.andThen_ok, Sem.run_pure]
    exact hK'
def mix0 : List Value := u32s (List.replicate 8 0) ++ (nums zero64 ++ [.int .i64 0, .int .u64 0, .bool false])
theorem mix0_zero (w : World) : (zeroValue 38).run Try.prog w = .ok (.agg mix0.toArray) w := by kernel_rfl
set_option maxRecDepth 100000 in
set_option maxHeartbeats 1600000 in
theorem new_any (w : World) : Calls Try.prog 16 #[] w fun e w' => e = .returned (.pointer (some ⟨w.heap.size, 0, none⟩)) ∧ Mx w' w.heap.size [] ∧ Below w.heap.size w w' := by
  go_enter Try.func16, Try.ntmps16
  go_wp2_with (first | (refine wpList_build_known (by rfl) 38 _ (by rfl) _ rfl (.agg (mixC shaH zero64 0 0).toArray) (by kernel_rfl) ?_) | (refine wpList_box (by rfl) 38 _ (by rfl) (mixC shaH zero64 0 0).toArray (by rfl) ?_))
  go_ret
  refine ⟨rfl, mx_zero _ _ ?_, (Below.refl _ w).alloc (Nat.le_refl _) _⟩
  exact get_top rfl
end Go.Proofs.Ytobgnmellbgfmaa.B
