/-
  Whole blocks: a struct or an array that fills its block is loaded, stored and handed back as one list of cells.
-/
import Derived.Test.YtobgnmellbgfmaaBase
import Derived.Deep.MidRow
namespace Go.Proofs.Ytobgnmellbgfmaa.B
open Go.RowKit
set_option linter.unusedVariables false

theorem rangeOf {W : World} {g : Nat} {cs : List Value} {t : TypeId} {fr : Nat × Nat} (h : W.heap[g]? = some (.cells cs.toArray t fr)) : W.rangeAt g 0 cs := fun j v hv => by
  rw [blk_cell h (0 + j), Nat.zero_add, ← hv]
  exact List.getElem?_toArray
theorem thereOf {W : World} {g : Nat} {cs : Array Value} {t : TypeId} (h : W.heap[g]? = some (.cells cs t (0, 0))) : W.there g 0 cs.size := fun j hj => by
  rw [Nat.zero_add, blk_cell h j]
  exact ⟨by simp [hj], blk_frozen h j⟩
theorem setAll {W : World} {g : Nat} {cur cs : Array Value} {t : TypeId} {fr : Nat × Nat} (h : W.heap[g]? = some (.cells cur t fr)) (hl : cs.size = cur.size) : (W.setCells g 0 cs.toList).heap[g]? = some (.cells cs t fr) := by
  obtain ⟨cur', h1, h2, h3⟩ := setCells_heap g cs.toList 0 W cur t fr h (by simp [hl])
  rw [h1]
  congr 2
  apply Array.ext'
  rw [h3]
  simp [hl]
theorem setCells_keeps (w : World) (g : Nat) (vs : List Value) : Keeps (fun i => i = g) w (w.setCells g 0 vs) := Keeps.of_grown (setCells_grown g vs 0 w) (fun k hk => (Option.some.inj hk).symm)

/-- A whole block is stored: behind it the world is any that keeps all but that block, and has the new cells there. -/
theorem wpList_store_row {P : Program} {ops : Array Oper} {rest : List Oper} {op : Oper} {a : Act} {w : World} {Q : Exit → Act → World → Prop} (hgd : op.guard = none) (ty : TypeId) (x y : Operand) (ho : op.op = .store ty x y)
    (g : Nat) (cells cur : Array Value) (t : TypeId) (hx : a.eval x = .pointer (some ⟨g, 0, none⟩)) (hy : a.eval y = .agg cells)
    (hg : w.heap[g]? = some (.cells cur t (0, 0))) (hs : cells.size = cur.size) (hi : (P.info? ty).map (·.size) = some cells.size) (h1 : ∀ v ∈ cells.toList, v.oneCell' = true)
    (h : ∀ W : World, W.heap[g]? = some (.cells cells t (0, 0)) → Keeps (fun i => i = g) w W → wpList P ops Q rest (a.put op.dst undef) W) : wpList P ops Q (op :: rest) a w :=
  wpList_store_mid hgd ty x y ho g 0 cells hx hy (hs ▸ thereOf hg) hi (Array.all_eq_true_iff_forall_mem.2 fun v hv => h1 v (by simpa using hv)) (h _ (setAll hg hs) (setCells_keeps w g _))

/-- The same inside a region that draws its order. -/
theorem step_store_row {P : Program} {ops : Array Oper} {o : Oper} {a : Act} {w : World} {K : Act → World → Prop} {Q : Exit → Act → World → Prop} {E : Prop} (hgd : o.guard = none) (ty : TypeId) (x y : Operand) (ho : o.op = .store ty x y)
    (g : Nat) (cells cur : Array Value) (t : TypeId) (hx : a.eval x = .pointer (some ⟨g, 0, none⟩)) (hy : a.eval y = .agg cells)
    (hg : w.heap[g]? = some (.cells cur t (0, 0))) (hs : cells.size = cur.size) (hi : (P.info? ty).map (·.size) = some cells.size) (h1 : ∀ v ∈ cells.toList, v.oneCell' = true)
    (h : ∀ W : World, W.heap[g]? = some (.cells cells t (0, 0)) → Keeps (fun i => i = g) w W → K (a.put o.dst undef) W) : if Region.wanted o (yielded ops a.tmps) = true then o.wp P a w K Q else E := by
  rw [if_pos (by simp [Region.wanted, hgd])]
  exact wp_store_mid ty x y ho g 0 cells hx hy (hs ▸ thereOf hg) hi (Array.all_eq_true_iff_forall_mem.2 fun v hv => h1 v (by simpa using hv)) (h _ (setAll hg hs) (setCells_keeps w g _))

/-- A function whose results are a variable's block and a slot. -/
theorem bodyPost_row_tmp {P : Program} {fn : Func} {R : Ending → World → Prop} {a : Act} {w : World} {p u : Tmp} {ty : TypeId} (hres : fn.results = #[.cell p ty, .tmp u]) (g : Nat) (t : TypeId) (cs : Array Value) (fr : Nat × Nat) (d : TypeDesc)
    (hp : a.tmps.getD p undef = .pointer (some ⟨g, 0, none⟩)) (hg : w.heap[g]? = some (.cells cs t fr)) (hu : P.underlying ty = some d) (hd : (match d with | .struct _ | .array _ _ => true | _ => false) = true)
    (hi : (P.info? ty).map (·.size) = some cs.size) (hdf : a.defers = []) (hR : R (.returned (.tuple #[.agg cs, a.tmps.getD u undef])) w) : bodyPost P fn R .ret a w := by
  refine bodyPost_ret (v := .tuple #[.agg cs, a.tmps.getD u undef]) ?_ hdf hR
  rw [results_cell_tmp hres, hp]
  simp [asAddr, Result.andThen, run_loadVar_row w g t ty cs fr d hg hu hd hi]
/-- The same of one result alone. -/
theorem bodyPost_row {P : Program} {fn : Func} {R : Ending → World → Prop} {a : Act} {w : World} {p : Tmp} {ty : TypeId} (hres : fn.results = #[.cell p ty]) (g : Nat) (t : TypeId) (cs : Array Value) (fr : Nat × Nat) (d : TypeDesc)
    (hp : a.tmps.getD p undef = .pointer (some ⟨g, 0, none⟩)) (hg : w.heap[g]? = some (.cells cs t fr)) (hu : P.underlying ty = some d) (hd : (match d with | .struct _ | .array _ _ => true | _ => false) = true)
    (hi : (P.info? ty).map (·.size) = some cs.size) (hdf : a.defers = []) (hR : R (.returned (.agg cs)) w) : bodyPost P fn R .ret a w :=
  bodyPost_ret (results_cell_row hres a.tmps w g t cs fr d hp hg hu hd hi) hdf hR
end Go.Proofs.Ytobgnmellbgfmaa.B
