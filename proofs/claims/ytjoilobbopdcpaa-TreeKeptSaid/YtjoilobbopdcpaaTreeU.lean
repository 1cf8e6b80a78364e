/-
  Path for every place; what a store leaves of a tree, a path, a vault.
-/
import Derived.Test.YtjoilobbopdcpaaTreeT
namespace Go.Proofs.Ytjoilobbopdcpaa.B
open Go.RowKit
set_option linter.unusedVariables false
set_option linter.unusedSimpArgs false

def pErr (n : Nat) (i : Int) : Int := if i < 0 ∨ (n : Int) ≤ i then 2 else 0
def pAll (rows : List (List ByteArray)) (n : Nat) (i : Int) : List Stp := if i < 0 ∨ (n : Int) ≤ i then [] else pathR rows i.toNat
theorem pAll_len {k : Option (ByteArray → ByteArray)} {ks l : List ByteArray} {rows : List (List ByteArray)} (ht : TreeR k ks l rows) (n : Nat) (i : Int) : (pAll rows n i).length ≤ l.length + 1 := by
  unfold pAll
  split
  · simp
  · exact Nat.le_trans (pathR_len rows _) ht.count
theorem Path_all {k : Option (ByteArray → ByteArray)} (b0 gt g : Nat) (ks l : List ByteArray) (rows : List (List ByteArray)) (vr : Value) (vs : List Value) (w : World) (ht : TreeR k ks l rows) (h : TreeM b0 gt g rows vr vs w) (hl : l.length ≤ 1000) (i : Int) :
    Calls Try.prog 17 #[.pointer (some ⟨gt, 0, none⟩), .int .i64 i] w fun e w' => ∃ v svs, e = .returned (.tuple #[v, .int .i64 (pErr l.length i)]) ∧ PathM w.heap.size v svs (pAll rows l.length i) w' ∧ Below w.heap.size w w' := by
  by_cases ho : i < 0 ∨ (l.length : Int) ≤ i
  · have hc := ht.count
    refine (Path_out b0 gt g rows vr vs w h ht.pos (by omega) i (by rw [ht.len0]; exact ho)).mono ?_
    rintro e W ⟨rfl, rfl⟩
    refine ⟨.slice none 0 0, [], ?_, ?_, Below.refl _ _⟩
    · rw [pErr, if_pos ho]
    · rw [pAll, if_pos ho]; exact PathM.nil _ _
  · obtain ⟨m, rfl⟩ : ∃ m : Nat, i = (m : Int) := ⟨i.toNat, by omega⟩
    refine (Path_any b0 gt g ks l rows vr vs w ht h hl m (by omega)).mono ?_
    rintro e W ⟨v, svs, rfl, hp, hb⟩
    refine ⟨v, svs, ?_, ?_, hb⟩
    · rw [pErr, if_neg ho]
    · rw [pAll, if_neg ho]; exact hp
theorem pathR_small {k : Option (ByteArray → ByteArray)} (HK : VK k) {ks : List ByteArray} : ∀ {rest : List (List ByteArray)} {row : List ByteArray} {i : Nat}, Up k ks row rest → (∀ s ∈ row, s.size = 32) → ∀ x ∈ pathR (row :: rest) i, ∀ s ∈ x.sides, s.size = 32
  | [], row, i, hu, hr, x, hx, s, hs => by simp [pathR] at hx
  | b :: rest, row, i, hu, hr, x, hx, s, hs => by
    simp only [pathR, List.mem_cons] at hx
    rcases hx with rfl | hx
    · rcases List.mem_append.1 hs with h | h
      · exact hr s (groupL_mem (List.mem_of_mem_take h))
      · exact hr s (groupL_mem (List.mem_of_mem_drop h))
    · exact pathR_small HK hu.2.2 (hu.2.1.size HK) x hx s hs
theorem pAll_small {k : Option (ByteArray → ByteArray)} (HK : VK k) {ks l : List ByteArray} {rows : List (List ByteArray)} (ht : TreeR k ks l rows) (n : Nat) (i : Int) : ∀ x ∈ pAll rows n i, ∀ s ∈ x.sides, s.size = 32 := by
  unfold pAll
  split
  · simp
  · obtain ⟨row, rest, rfl, h1, h2⟩ := ht.up
    exact pathR_small HK h2 (h1.size HK)
/-- A row of texts, whatever they are. -/
def RowL (w : World) (v : Value) (n : Nat) : Prop := ∃ xs, Row w 9 1 v n xs
theorem RowL.set {w : World} {v : Value} {n : Nat} (h : RowL w v n) (b o : Nat) (s : ByteArray) : RowL (w.setCell ⟨b, o, none⟩ (.string s)) v n := by
  obtain ⟨xs, h1, h2⟩ := h
  rcases h2 with hz | ⟨g, cap, cur, lo, hi, rfl, hg, hf, hc, hm, hs, ht⟩
  · exact ⟨xs, h1, .inl hz⟩
  · by_cases hb : g = b
    · subst hb
      refine ⟨(cur.setIfInBounds o (.string s)).toList.take (n * 1), ?_, .inr ⟨g, cap, cur.setIfInBounds o (.string s), lo, hi, rfl, blk_set hg o _, hf, hc, hm, by simp [hs], rfl⟩⟩
      rw [List.length_take, Array.length_toList, Array.size_setIfInBounds, hs]
      omega
    · exact ⟨xs, h1, .inr ⟨g, cap, cur, lo, hi, rfl, (Below.heap_setCell _ _ _ _ hb).trans hg, hf, hc, hm, hs, ht⟩⟩
/-- A store of one cell keeps all that lies elsewhere. -/
theorem keeps_set (w : World) (b o : Nat) (u : Value) : Keeps (fun i => i = b) w (w.setCell ⟨b, o, none⟩ u) := Keeps.setCell (S := fun i => i = b) (Keeps.refl _ _) (fun _ => rfl) u
/-- A tree in memory that lies wholly behind what was written. -/
theorem TreeM.low {b0 gt g : Nat} {rows : List (List ByteArray)} {vr : Value} {vs : List Value} {W W' : World} {S : Nat → Prop} (h : TreeM b0 gt g rows vr vs W) (hk : Keeps S W W') (hS : ∀ i, S i → i < b0) : TreeM b0 gt g rows vr vs W' :=
  have hn : ∀ i, b0 ≤ i → ¬ S i := fun i hi hs => by have := hS i hs; omega
  ⟨hk.at_ h.blk (hn _ h.base), h.base, ⟨h.outer.row.kept hk (fun b hb => hn b (h.outer.base b hb)), h.outer.base⟩, h.len,
   fun i v row h1 h2 => ⟨(h.inner i v row h1 h2).row.kept hk (fun b hb => hn b ((h.inner i v row h1 h2).base b hb)), (h.inner i v row h1 h2).base⟩, h.dist⟩
theorem PathM.low {b0 : Nat} {v : Value} {svs : List Value} {path : List Stp} {W W' : World} {S : Nat → Prop} (h : PathM b0 v svs path W) (hk : Keeps S W W') (hS : ∀ i, S i → i < b0) : PathM b0 v svs path W' :=
  have hn : ∀ i, b0 ≤ i → ¬ S i := fun i hi hs => by have := hS i hs; omega
  ⟨h.outer.kept hk hn, h.len, fun i sv x h1 h2 => ⟨(h.inner i sv x h1 h2).1, (h.inner i sv x h1 h2).2.kept hk hn⟩, h.small⟩
/-- A vault stands where only a row of texts was written. -/
theorem Vlt.low {B g gh b : Nat} {ks : List ByteArray} {W W' : World} (h : Vlt W B g gh none ks) (hk : Keeps (fun i => i = b) W W') {cs : Array Value} {fr : Nat × Nat} (hb : W.heap[b]? = some (.cells cs 9 fr)) : Vlt W' B g gh none ks := by
  obtain ⟨es, clock, hm⟩ := h.map
  obtain ⟨h1, h2, h3, gi, gm, gs, a1, a2, a3, a4, a5, a6⟩ := h
  have e1 : g ≠ b := fun e => by subst e; rw [a4] at hb; simp at hb
  have e2 : gi ≠ b := fun e => by subst e; rw [a5] at hb; simp at hb
  have e3 : gh ≠ b := fun e => by subst e; rw [hm] at hb; simp at hb
  exact ⟨Nat.le_trans h1 hk.size, h2, h3, gi, gm, gs, a1, a2, a3, hk.at_ a4 e1, hk.at_ a5 e2, a6.same (hk.block gh (Nat.lt_of_lt_of_le h3 h1) e3)⟩
/-- p's memory while its sides are bent. -/
structure BendI (b0 : Nat) (v : Value) (svs : List Value) (path : List Stp) (w W : World) : Prop where
  bel : Below b0 w W
  outer : Own b0 W 40 2 v path.length (scells path svs)
  len : svs.length = path.length
  inner : ∀ (i : Nat) sv x, svs[i]? = some sv → path[i]? = some x → RowL W sv x.sides.length ∧ ∀ g, sv.ownBlock = some g → b0 ≤ g
theorem PathM.bend {b0 : Nat} {v : Value} {svs : List Value} {path : List Stp} {W : World} (h : PathM b0 v svs path W) : BendI b0 v svs path W W :=
  ⟨Below.refl _ _, h.outer, h.len, fun i sv x h1 h2 => ⟨⟨_, (h.inner i sv x h1 h2).2.row⟩, (h.inner i sv x h1 h2).2.base⟩⟩
theorem BendI.set {b0 : Nat} {v : Value} {svs : List Value} {path : List Stp} {w W : World} (h : BendI b0 v svs path w W) {b o : Nat} (hb0 : b0 ≤ b) {cs : Array Value} {fr : Nat × Nat} (hb : W.heap[b]? = some (.cells cs 9 fr)) (s : ByteArray) : BendI b0 v svs path w (W.setCell ⟨b, o, none⟩ (.string s)) := by
  have hk := keeps_set W b o (.string s)
  refine ⟨h.bel.setCell hb0 _, ⟨h.outer.row.kept hk (fun k hk2 e => ?_), h.outer.base⟩, h.len, fun i sv x h1 h2 => ⟨(h.inner i sv x h1 h2).1.set b o s, (h.inner i sv x h1 h2).2⟩⟩
  subst e
  exact h.outer.row.ne_type hb (by decide) hk2.symm
theorem BendI.get {b0 : Nat} {v : Value} {svs : List Value} {path : List Stp} {w W : World} (h : BendI b0 v svs path w W) {i : Nat} (hi : i < path.length) : ∃ g cap sv x, v = .slice (some ⟨g, 0, none⟩) path.length cap ∧ g < W.heap.size ∧ path[i]? = some x ∧ svs[i]? = some sv ∧ W.cell? ⟨g, i * 2, none⟩ = some (.int .i64 x.at') ∧ W.cell? ⟨g, i * 2 + 1, none⟩ = some sv ∧ RowL W sv x.sides.length ∧ ∀ g, sv.ownBlock = some g → b0 ≤ g := by
  obtain ⟨g, cap, rfl, hc, hg⟩ := h.outer.row.form_pos (by omega)
  have hv : i < svs.length := by rw [h.len]; exact hi
  have h1 := List.getElem?_eq_getElem hv
  have h2 := List.getElem?_eq_getElem hi
  obtain ⟨c1, c2⟩ := scells_get h2 h1
  obtain ⟨h3, h4⟩ := h.inner i _ _ h1 h2
  exact ⟨g, cap, _, _, rfl, hg, h2, h1, h.outer.row.cells _ _ c1, h.outer.row.cells _ _ c2, h3, h4⟩
theorem RowL.at_ {w : World} {v : Value} {n : Nat} (h : RowL w v n) {j : Nat} (hj : j < n) : ∃ g cap cs fr u, v = .slice (some ⟨g, 0, none⟩) n cap ∧ n ≤ cap ∧ w.heap[g]? = some (.cells cs 9 fr) ∧ w.cell? ⟨g, j, none⟩ = some u ∧ w.frozen? ⟨g, j, none⟩ = false := by
  obtain ⟨xs, h1, h2⟩ := h
  rcases h2 with ⟨_, hz⟩ | ⟨g, cap, cur, lo, hi, rfl, hg, hf, hc, hm, hs, ht⟩
  · omega
  · refine ⟨g, cap, cur, (lo, hi), cur[j]'(by omega), rfl, hc, hg, ?_, ?_⟩
    · rw [blk_cell hg, Array.getElem?_eq_getElem]
    · unfold World.frozen?
      simp only [hg]
      rcases hf with hf | hf
      · simp; omega
      · simp; omega
end Go.Proofs.Ytjoilobbopdcpaa.B
