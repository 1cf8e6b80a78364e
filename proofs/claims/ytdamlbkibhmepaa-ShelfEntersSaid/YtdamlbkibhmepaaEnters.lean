/-
  A new name in the first free slot: the plain law.
-/
import Derived.Test.YtdamlbkibhmepaaNames
namespace Go.Proofs.Ytdamlbkibhmepaa.B
open Go.RowKit
set_option linter.unusedVariables false
set_option linter.unusedSimpArgs false

/-- The list with a new entry in its first free slot. -/
def entered (l : List Ent) (x : Ent) : List Ent := if spareL l = (l.length : Int) then l ++ [x] else l.set (spareL l).toNat x
theorem spareL_range (l : List Ent) : 0 ≤ spareL l ∧ spareL l ≤ l.length := by
  unfold spareL orN
  rcases idx_range free l 0 with h | h
  · rw [if_neg (by omega)]; omega
  · rw [if_pos h.1]; omega
theorem idx_none (p : Ent → Bool) : ∀ (l : List Ent) (i : Int), 0 ≤ i → (idx p l i = -1 ↔ ∀ x ∈ l, p x = false)
  | [], i, _ => by simp [idx]
  | x :: r, i, h => by
    rw [idx]
    by_cases hx : p x = true
    · rw [if_pos hx]
      constructor
      · intro h'; omega
      · intro h'
        rw [h' x (by simp)] at hx
        cases hx
    · rw [if_neg hx, idx_none p r (i + 1) (by omega)]
      simp only [List.mem_cons, forall_eq_or_imp]
      constructor
      · intro h'; exact ⟨by simpa using hx, h'⟩
      · intro h'; exact h'.2
theorem idx_append (p : Ent → Bool) : ∀ (a b : List Ent) (i : Int), 0 ≤ i → idx p (a ++ b) i = if idx p a i = -1 then idx p b (i + a.length) else idx p a i
  | [], b, i, _ => by simp [idx]
  | x :: r, b, i, h => by
    rw [List.cons_append, idx, idx]
    by_cases hx : p x = true
    · rw [if_pos hx, if_pos hx, if_neg (by omega)]
    · rw [if_neg hx, if_neg hx, idx_append p r b (i + 1) (by omega)]
      simp only [List.length_cons]
      rw [show i + 1 + (r.length : Int) = i + ((r.length + 1 : Nat) : Int) by omega]
theorem idx_split (p : Ent → Bool) : ∀ (l : List Ent) (i : Int), idx p l i = -1 ∨ ∃ a y b, l = a ++ y :: b ∧ idx p l i = i + (a.length : Int) ∧ p y = true ∧ ∀ z ∈ a, p z = false
  | [], i => .inl rfl
  | x :: r, i => by
    rw [idx]
    by_cases hx : p x = true
    · rw [if_pos hx]
      exact .inr ⟨[], x, r, rfl, by simp, hx, by simp⟩
    · rw [if_neg hx]
      rcases idx_split p r (i + 1) with h | ⟨a, y, b, h1, h2, h3, h4⟩
      · exact .inl h
      · refine .inr ⟨x :: a, y, b, by rw [h1]; rfl, by rw [h2]; simp; omega, h3, fun z hz => ?_⟩
        rcases List.mem_cons.1 hz with rfl | hz
        · simpa using hx
        · exact h4 z hz
/-- The two ways in which a new entry comes in. -/
theorem entered_cases (l : List Ent) (x : Ent) : (spareL l = (l.length : Int) ∧ entered l x = l ++ [x]) ∨ ∃ a y b, l = a ++ y :: b ∧ spareL l = (a.length : Int) ∧ free y = true ∧ entered l x = a ++ x :: b := by
  by_cases hs : spareL l = (l.length : Int)
  · exact .inl ⟨hs, by rw [entered, if_pos hs]⟩
  · right
    rcases idx_split free l 0 with h | ⟨a, y, b, h1, h2, h3, _⟩
    · exfalso
      apply hs
      rw [spareL, orN, h]
      rfl
    · have h2' : spareL l = (a.length : Int) := by
        rw [spareL, orN, h2, if_pos (by omega)]; omega
      refine ⟨a, y, b, h1, h2', h3, ?_⟩
      rw [entered, if_neg hs, h2', Int.toNat_natCast, h1, List.set_append_right _ _ (Nat.le_refl _), Nat.sub_self, List.set_cons_zero]
theorem findL_at {s : ByteArray} (hs : ¬ s.size = 0) (l : List Ent) : findL s l = idx (isN s) l 0 := by rw [findL, if_neg hs]
theorem entered_find {l : List Ent} {x : Ent} (hx : ¬ x.nm.size = 0) (hf : findL x.nm l < 0) : findL x.nm (entered l x) = spareL l := by
  have hnone : ∀ y ∈ l, isN x.nm y = false := by
    rw [findL_at hx] at hf
    rcases idx_range (isN x.nm) l 0 with h | h
    · exact (idx_none _ l 0 (Int.le_refl _)).1 h
    · omega
  have hxx : isN x.nm x = true := by simp [isN]
  rw [findL_at hx]
  rcases entered_cases l x with ⟨h1, h2⟩ | ⟨a, y, b, h1, h2, h3, h4⟩
  · rw [h2, idx_append _ _ _ _ (Int.le_refl _), if_pos ((idx_none _ l 0 (Int.le_refl _)).2 hnone), idx, if_pos hxx, h1]; omega
  · rw [h4, idx_append _ _ _ _ (Int.le_refl _), if_pos ((idx_none _ a 0 (Int.le_refl _)).2 (fun z hz => hnone z (by rw [h1]; simp [hz]))), idx, if_pos hxx, h2]; omega
theorem entered_other {l : List Ent} {x : Ent} {s : ByteArray} (hx : ¬ x.nm.size = 0) (hf : findL x.nm l < 0) (hs : ¬ s.size = 0) (hm : ∃ y ∈ l, y.nm = s) : findL s (entered l x) = findL s l := by
  have hne : x.nm ≠ s := by
    intro h
    obtain ⟨y, hy, hys⟩ := hm
    rw [findL_at hx] at hf
    rcases idx_range (isN x.nm) l 0 with h' | h'
    · have := (idx_none _ l 0 (Int.le_refl _)).1 h' y hy
      simp [isN, hys, h] at this
    · omega
  have hsx : isN s x = false := by simp [isN, hne]
  rw [findL_at hs, findL_at hs]
  rcases entered_cases l x with ⟨h1, h2⟩ | ⟨a, y, b, h1, h2, h3, h4⟩
  · rw [h2, idx_append _ _ _ _ (Int.le_refl _)]
    split
    · rename_i h
      rw [h, idx, if_neg (by simp [hsx]), idx]
    · rfl
  · have hsy : isN s y = false := by
      have : y.nm.size = 0 := by simpa [free] using h3
      simp only [isN, decide_eq_false_iff_not]
      intro h
      rw [← h] at hs
      exact hs this
    have e : ∀ i, idx (isN s) (x :: b) i = idx (isN s) (y :: b) i := fun i => by
      rw [idx, idx, hsx, hsy]
    rw [h4, h1, idx_append _ _ _ _ (Int.le_refl _), idx_append _ _ _ _ (Int.le_refl _), e]
theorem entered_names {l : List Ent} {x : Ent} (hx : ¬ x.nm.size = 0) : (namesL (entered l x)).length = (namesL l).length + 1 := by
  have hfx : free x = false := by simp [free, hx]
  rcases entered_cases l x with ⟨h1, h2⟩ | ⟨a, y, b, h1, h2, h3, h4⟩
  · rw [h2]
    simp [namesL, hfx]
  · rw [h4, h1]
    simp [namesL, hfx, h3, List.filter_cons]
    omega
theorem entered_wf {l : List Ent} {x : Ent} (h : ∀ f ∈ l, f.wf) (hx : x.wf) : ∀ f ∈ entered l x, f.wf := by
  intro f hf
  unfold entered at hf
  split at hf
  · rcases List.mem_append.1 hf with h' | h'
    · exact h f h'
    · rw [List.mem_singleton.1 h']; exact hx
  · rcases List.mem_or_eq_of_mem_set hf with h' | h'
    · exact h f h'
    · rw [h']; exact hx
theorem entered_length (l : List Ent) (x : Ent) : (entered l x).length = if spareL l = (l.length : Int) then l.length + 1 else l.length := by
  unfold entered
  split <;> simp
theorem ecells_set {l : List Ent} {k : Nat} (h : k < l.length) (x : Ent) : ecells (l.set k x) = (((ecells l).set (k * 3) (.string x.nm)).set (k * 3 + 1) (.int .i64 x.a)).set (k * 3 + 2) (.int .i64 x.b) := by
  have hl : l = l.take k ++ l[k] :: l.drop (k + 1) := by rw [List.getElem_cons_drop, List.take_append_drop]
  obtain ⟨a, ha⟩ : ∃ a, a = l.take k := ⟨_, rfl⟩
  obtain ⟨b, hb⟩ : ∃ b, b = l.drop (k + 1) := ⟨_, rfl⟩
  obtain ⟨y, hy⟩ : ∃ y, y = l[k] := ⟨_, rfl⟩
  have hak : a.length = k := by rw [ha, List.length_take]; omega
  rw [← ha, ← hb, ← hy] at hl
  clear ha hb hy
  subst hl
  subst hak
  have e1 : ecells (a ++ y :: b) = ecells a ++ (.string y.nm :: .int .i64 y.a :: .int .i64 y.b :: ecells b) := by simp [ecells, Ent.cells]
  have e2 : ecells (a ++ x :: b) = ecells a ++ (.string x.nm :: .int .i64 x.a :: .int .i64 x.b :: ecells b) := by simp [ecells, Ent.cells]
  have hea : (ecells a).length = a.length * 3 := ecells_length a
  rw [List.set_append_right _ _ (Nat.le_refl _), Nat.sub_self, List.set_cons_zero, e2, e1]
  rw [List.set_append_right _ _ (by omega), List.set_append_right _ _ (by omega), List.set_append_right _ _ (by omega)]
  rw [show a.length * 3 - (ecells a).length = 0 by omega, show a.length * 3 + 1 - (ecells a).length = 1 by omega, show a.length * 3 + 2 - (ecells a).length = 2 by omega]
  rfl
end Go.Proofs.Ytdamlbkibhmepaa.B
