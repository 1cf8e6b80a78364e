/-
  Paths in memory; the path of a tree's rows.
-/
import Derived.Test.YtjoilobbopdcpaaTreeK
namespace Go.Proofs.Ytjoilobbopdcpaa.B
open Go.RowKit
set_option linter.unusedVariables false
set_option linter.unusedSimpArgs false

def stepOf (row : List ByteArray) (i : Nat) : Stp := ⟨((i % 4 : Nat) : Int), (groupL row (i / 4)).take (i % 4) ++ (groupL row (i / 4)).drop (i % 4 + 1)⟩
def pathR : List (List ByteArray) → Nat → List Stp
  | row :: b :: rest, i => stepOf row i :: pathR (b :: rest) (i / 4)
  | _, _ => []
def scells : List Stp → List Value → List Value
  | x :: p, v :: vs => .int .i64 x.at' :: v :: scells p vs
  | _, _ => []
theorem scells_len : ∀ {p : List Stp} {vs : List Value}, vs.length = p.length → (scells p vs).length = p.length * 2
  | [], [], _ => rfl
  | [], _ :: _, h => by simp at h
  | _ :: _, [], h => by simp at h
  | x :: p, v :: vs, h => by
    have := scells_len (p := p) (vs := vs) (by simpa using h)
    simp only [scells, List.length_cons, this]
    omega
theorem scells_app : ∀ {p : List Stp} {vs : List Value} (x : Stp) (v : Value), vs.length = p.length → scells (p ++ [x]) (vs ++ [v]) = scells p vs ++ [.int .i64 x.at', v]
  | [], [], _, _, _ => rfl
  | [], _ :: _, _, _, h => by simp at h
  | _ :: _, [], _, _, h => by simp at h
  | y :: p, u :: vs, x, v, h => by
    have := scells_app (p := p) (vs := vs) x v (by simpa using h)
    simp only [List.cons_append, scells, this]
theorem scells_get : ∀ {p : List Stp} {vs : List Value} {i : Nat} {x : Stp} {v : Value}, p[i]? = some x → vs[i]? = some v → (scells p vs)[i * 2]? = some (.int .i64 x.at') ∧ (scells p vs)[i * 2 + 1]? = some v
  | [], _, _, _, _, h, _ => by simp at h
  | _ :: _, [], _, _, _, _, h => by simp at h
  | y :: p, u :: vs, 0, x, v, h1, h2 => by
    simp at h1 h2
    subst h1 h2
    exact ⟨rfl, rfl⟩
  | y :: p, u :: vs, i + 1, x, v, h1, h2 => by
    have := scells_get (p := p) (vs := vs) (i := i) (by simpa using h1) (by simpa using h2)
    rw [show (i + 1) * 2 = i * 2 + 1 + 1 by omega]
    exact ⟨by simpa [scells] using this.1, by simpa [scells] using this.2⟩
/-- A path in memory of its own (from b0 on). -/
structure PathM (b0 : Nat) (v : Value) (svs : List Value) (path : List Stp) (W : World) : Prop where
  outer : Own b0 W 40 2 v path.length (scells path svs)
  len : svs.length = path.length
  inner : ∀ (i : Nat) sv x, svs[i]? = some sv → path[i]? = some x → in64 x.at' ∧ Own b0 W 9 1 sv x.sides.length (strs x.sides)
  small : path.length ≤ maxLen
theorem PathM.nil (b0 : Nat) (W : World) : PathM b0 (.slice none 0 0) [] [] W := ⟨Own.nil _ _ _ _, rfl, by simp, by simp⟩
theorem Own.pos {b0 : Nat} {w : World} {e : TypeId} {size : Nat} {v : Value} {n : Nat} {xs : List Value} (h : Own b0 w e size v n xs) (hn : 0 < n) : ∃ g cap, v = .slice (some ⟨g, 0, none⟩) n cap ∧ n ≤ cap ∧ g < w.heap.size ∧ b0 ≤ g := by
  obtain ⟨g, cap, rfl, h1, h2⟩ := h.row.form_pos hn
  exact ⟨g, cap, rfl, h1, h2, h.base g rfl⟩
theorem PathM.steps {b0 : Nat} {v : Value} {svs : List Value} {path : List Stp} {W : World} (h : PathM b0 v svs path W) : StepsAt W v path := by
  obtain ⟨ao, cap, rfl, hc⟩ := h.outer.row.form
  refine ⟨ao, cap, rfl, hc, h.small, fun h0 => ?_⟩
  obtain ⟨g, cap', he, h1, h2⟩ := h.outer.row.form_pos h0
  simp at he
  obtain ⟨rfl, rfl⟩ := he
  refine ⟨g, 0, rfl, h2, fun i x hx => ?_⟩
  have hi : i < svs.length := by rw [h.len]; exact (List.getElem?_eq_some_iff.1 hx).1
  have hs := List.getElem?_eq_getElem hi
  obtain ⟨hw, ho⟩ := h.inner i _ x hs hx
  obtain ⟨c1, c2⟩ := scells_get hx hs
  rw [Nat.zero_add]
  exact ⟨hw, _, h.outer.row.cells _ _ c1, h.outer.row.cells _ _ c2, Strs.of_row ho.row⟩
theorem PathM.below {b0 : Nat} {v : Value} {svs : List Value} {path : List Stp} {W W' : World} (h : PathM b0 v svs path W) (hb : Below W.heap.size W W') : PathM b0 v svs path W' :=
  ⟨h.outer.step hb, h.len, fun i sv x h1 h2 => ⟨(h.inner i sv x h1 h2).1, (h.inner i sv x h1 h2).2.step hb⟩, h.small⟩
theorem PathM.ran {b0 : Nat} {v : Value} {svs : List Value} {path : List Stp} {W W' : World} {B g gh c : Nat} {k : Option (ByteArray → ByteArray)} {ks ks' : List ByteArray} (h : PathM b0 v svs path W) (hv : Vlt W B g gh k ks) (hr : Ran B g gh k c ks ks' W W') : PathM b0 v svs path W' :=
  ⟨h.outer.ran hv hr, h.len, fun i sv x h1 h2 => ⟨(h.inner i sv x h1 h2).1, (h.inner i sv x h1 h2).2.ran hv hr⟩, h.small⟩
theorem PathM.push {b0 q cap capr : Nat} {ao aor : Option Addr} {path : List Stp} {svs : List Value} {W w5 : World} {x : Stp} {sv : Value} (h : PathM b0 (.slice aor q capr) svs path W) (hq : q = path.length) (hw : in64 x.at') (hs : q < 1000) (hc : Own b0 W 9 1 sv x.sides.length (strs x.sides)) (o : Obj)
    (hown : Row w5 40 2 (.slice ao (q + 1) cap) (q + 1) (scells path svs ++ [.int .i64 x.at', sv])) (hgrow : (W.alloc o).grownBy w5 (Value.slice aor q capr).ownBlock) (hat : (Value.slice ao (q + 1) cap).ownBlock = (Value.slice aor q capr).ownBlock ∨ (Value.slice ao (q + 1) cap).ownBlock = some (W.heap.size + 1)) (hb0 : b0 ≤ W.heap.size) :
    PathM b0 (.slice ao (q + 1) cap) (svs ++ [sv]) (path ++ [x]) w5 := by
  have hal : Below W.heap.size W (W.alloc o) := (Below.refl _ _).alloc (Nat.le_refl _) _
  have hk1 : Keeps (fun i => (Value.slice aor q capr).ownBlock = some i) W w5 := (Keeps.of_below hal).trans (Keeps.of_grown hgrow (fun k hk => hk)) (fun _ _ h => h)
  have hrow := h.outer.row
  rw [← hq] at hrow
  have hstr : ∀ v row, Own b0 W 9 1 v row.length (strs row) → Own b0 w5 9 1 v row.length (strs row) := fun v row hv =>
    ⟨hv.row.kept hk1 (fun b hb hs => hrow.ne_row hv.row (by decide) hs hb), hv.base⟩
  refine ⟨⟨?_, ?_⟩, by rw [List.length_append, List.length_append, h.len]; rfl, ?_, by rw [List.length_append, ← hq]; unfold maxLen; simp; omega⟩
  · rw [List.length_append, List.length_singleton, ← hq, scells_app x sv h.len]
    exact hown
  · intro b hb
    rcases hat with e | e
    · exact h.outer.base b (by rw [← e]; exact hb)
    · rw [hb] at e; cases e; omega
  · intro i v y h1 h2
    rcases snoc_get _ _ _ _ h1 with k1 | ⟨hi, k1⟩
    · rcases snoc_get _ _ _ _ h2 with k2 | ⟨hi, k2⟩
      · exact ⟨(h.inner i v y k1 k2).1, hstr _ _ (h.inner i v y k1 k2).2⟩
      · have := (List.getElem?_eq_some_iff.1 k1).1
        rw [h.len] at this; omega
    · rcases snoc_get _ _ _ _ h2 with k2 | ⟨hi2, k2⟩
      · have := (List.getElem?_eq_some_iff.1 k2).1
        rw [h.len] at hi; omega
      · rw [k1, k2]; exact ⟨hw, hstr _ _ hc⟩
theorem infoStep : (Try.prog.info? 40).map (fun i => (i.zero, i.size, i.bytes)) = some (some (.agg #[.int .i64 0, .slice none 0 0]), 2, 32) := by kernel_rfl
/-- What stands in a round of Path. -/
structure PathI (w : World) (rows : List (List ByteArray)) (i0 q i : Nat) (v : Value) (svs : List Value) (path : List Stp) (W : World) : Prop where
  bel : Below w.heap.size w W
  out : PathM w.heap.size v svs path W
  len : path.length = q
  lt : i < (rows.getD q []).length
  i1000 : i < 1000
  ext : path ++ pathR (rows.drop q) i = pathR rows i0
theorem pathR_cons {rows : List (List ByteArray)} {q i : Nat} (hq : q + 1 < rows.length) : pathR (rows.drop q) i = stepOf (rows.getD q []) i :: pathR (rows.drop (q + 1)) (i / 4) := by
  rw [List.drop_eq_getElem_cons (by omega : q < rows.length), List.drop_eq_getElem_cons hq]
  have : rows.getD q [] = rows[q] := by simp [List.getD, (by omega : q < rows.length)]
  rw [this]
  rfl
theorem pathR_last {rows : List (List ByteArray)} {q i : Nat} (hq : ¬ q + 1 < rows.length) : pathR (rows.drop q) i = [] := by
  have : (rows.drop q).length ≤ 1 := by rw [List.length_drop]; omega
  match rows.drop q, this with
  | [], _ => rfl
  | [_], _ => rfl
theorem PathI.next {w : World} {k : Option (ByteArray → ByteArray)} {ks l : List ByteArray} {rows : List (List ByteArray)} {i0 q i : Nat} {v v' : Value} {svs : List Value} {sv : Value} {path : List Stp} {W W' : World} (h : PathI w rows i0 q i v svs path W) (ht : TreeR k ks l rows) (hq : q + 1 < rows.length)
    (hb : Below w.heap.size w W') (ho : PathM w.heap.size v' (svs ++ [sv]) (path ++ [stepOf (rows.getD q []) i]) W') : PathI w rows i0 (q + 1) (i / 4) v' (svs ++ [sv]) (path ++ [stepOf (rows.getD q []) i]) W' := by
  refine ⟨hb, ho, by rw [List.length_append, h.len]; rfl, ?_, by have := h.i1000; omega, ?_⟩
  · have hl := (ht.linked q (rows[q]'(by omega)) (rows[q + 1]'hq) (List.getElem?_eq_getElem _) (List.getElem?_eq_getElem _)).2.1
    have h1 : rows.getD q [] = rows[q]'(by omega) := by simp [List.getD, (by omega : q < rows.length)]
    have h2 : rows.getD (q + 1) [] = rows[q + 1]'hq := by simp [List.getD, hq]
    have h3 := h.lt
    rw [h1] at h3
    rw [h2, hl]
    omega
  · rw [List.append_assoc, ← h.ext, pathR_cons hq]
    rfl
theorem stepOf_sides (row : List ByteArray) (i : Nat) (hi : i < row.length) : (stepOf row i).sides.length = (groupL row (i / 4)).length - 1 ∧ i % 4 < (groupL row (i / 4)).length ∧ (groupL row (i / 4)).length ≤ 4 := by
  have h1 := groupL_len row (i / 4)
  refine ⟨?_, by omega, by omega⟩
  simp only [stepOf, List.length_append, List.length_take, List.length_drop]
  omega
end Go.Proofs.Ytjoilobbopdcpaa.B
