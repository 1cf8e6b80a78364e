/-
  Findings in order: what the document's sorting keeps is what rises.
-/
import Derived.Test.YthobfbiobnmceaaRepBytes
namespace Go.Proofs.Ythobfbiobnmceaa.B
set_option linter.unusedVariables false

def Four.in64 (f : Four) : Prop := f.a ≤ 9223372036854775807 ∧ f.b ≤ 9223372036854775807 ∧ f.c ≤ 9223372036854775807 ∧ f.d ≤ 9223372036854775807
theorem ahead_iff (f g : Four) : ahead f g = true ↔ f.a < g.a ∨ (f.a = g.a ∧ (f.b < g.b ∨ (f.b = g.b ∧ (f.c < g.c ∨ (f.c = g.c ∧ f.d < g.d))))) := by
  have e : ahead f g = (if f.a = g.a then if f.b = g.b then if f.c = g.c then if f.d = g.d then false else decide (f.d < g.d) else decide (f.c < g.c) else decide (f.b < g.b) else decide (f.a < g.a)) := rfl
  rw [e]
  split
  · split
    · split
      · split
        · simp; omega
        · simp; omega
      · simp; omega
    · simp; omega
  · simp; omega
theorem ahead_irrefl (f : Four) : ahead f f = false := by
  cases h : ahead f f with
  | false => rfl
  | true =>
    rw [ahead_iff] at h
    omega
theorem ahead_trans {f g h : Four} (h1 : ahead f g = true) (h2 : ahead g h = true) : ahead f h = true := by
  rw [ahead_iff] at h1 h2 ⊢
  omega
theorem Four.ext' {f g : Four} (h1 : f.a = g.a) (h2 : f.b = g.b) (h3 : f.c = g.c) (h4 : f.d = g.d) : f = g := by
  cases f; cases g; simp at h1 h2 h3 h4; simp [*]
theorem ahead_total {f g : Four} (hne : f ≠ g) (h : ahead f g = false) : ahead g f = true := by
  rw [ahead_iff]
  have h1 : ¬ ahead f g = true := by simp [h]
  rw [ahead_iff] at h1
  have h2 : ¬ (f.a = g.a ∧ f.b = g.b ∧ f.c = g.c ∧ f.d = g.d) := fun ⟨a, b, c, d⟩ => hne (Four.ext' a b c d)
  omega
/-- Are two findings one? -/
def one (f g : Four) : Bool := f.a == g.a && (f.b == g.b && (f.c == g.c && f.d == g.d))
theorem one_iff (f g : Four) : one f g = true ↔ f = g := by
  simp only [one, Bool.and_eq_true, beq_iff_eq]
  exact ⟨fun ⟨a, b, c, d⟩ => Four.ext' a b c d, fun h => by subst h; simp⟩
def Asc (l : List Four) : Prop := l.Pairwise fun f g => ahead f g = true

/-- One place of the document's insertion on. -/
def insL (x : Four) : List Four → List Four → Bool → List Four
  | [], next, done => if done = true then next else next ++ [x]
  | y :: r, next, done =>
    if done = true then insL x r (if one y x = true then next else next ++ [y]) true
    else if ahead y x = true then insL x r (if one y x = true then next else next ++ [y]) false
    else insL x r (if one y x = true then next ++ [x] else next ++ [x] ++ [y]) true
def insR (x : Four) : List Four → List Four
  | [] => [x]
  | y :: r => if ahead y x = true then y :: insR x r else x :: (y :: r).filter (fun z => !one z x)
theorem insL_done (x : Four) : ∀ (r next : List Four), insL x r next true = next ++ r.filter (fun z => !one z x)
  | [], next => by simp [insL]
  | y :: r, next => by
    rw [insL, if_pos rfl, insL_done x r]
    by_cases h : one y x = true
    · simp [h]
    · simp [h]
theorem insL_eq (x : Four) : ∀ (r next : List Four), insL x r next false = next ++ insR x r
  | [], next => by simp [insL, insR]
  | y :: r, next => by
    rw [insL, if_neg (by simp), insR]
    by_cases h : ahead y x = true
    · have hne : one y x = false := by
        cases ho : one y x with
        | false => rfl
        | true =>
          rw [one_iff] at ho
          subst ho
          rw [ahead_irrefl] at h
          cases h
      rw [if_pos h, if_pos h, hne, if_neg (by simp), insL_eq x r]
      simp
    · rw [if_neg h, if_neg h, insL_done]
      by_cases ho : one y x = true
      · simp [ho]
      · simp [ho]
theorem insR_mem (x : Four) : ∀ (r : List Four) (z : Four), z ∈ insR x r → z = x ∨ z ∈ r
  | [], z, h => by simp [insR] at h; exact .inl h
  | y :: r, z, h => by
    rw [insR] at h
    split at h
    · rcases List.mem_cons.1 h with h | h
      · exact .inr (by simp [h])
      · rcases insR_mem x r z h with h | h
        · exact .inl h
        · exact .inr (by simp [h])
    · rcases List.mem_cons.1 h with h | h
      · exact .inl h
      · exact .inr (List.mem_filter.1 h).1
theorem insR_asc (x : Four) : ∀ (r : List Four), Asc r → Asc (insR x r)
  | [], _ => by simp [insR, Asc]
  | y :: r, h => by
    have hy := (List.pairwise_cons.1 h).1
    have hr := (List.pairwise_cons.1 h).2
    rw [insR]
    split
    · rename_i hyx
      refine List.pairwise_cons.2 ⟨fun z hz => ?_, insR_asc x r hr⟩
      rcases insR_mem x r z hz with rfl | hz
      · exact hyx
      · exact hy z hz
    · rename_i hyx
      refine List.pairwise_cons.2 ⟨fun z hz => ?_, List.Pairwise.filter _ h⟩
      obtain ⟨h1, h2⟩ := List.mem_filter.1 hz
      have hzx : z ≠ x := fun e => by
        rw [← one_iff] at e
        simp [e] at h2
      rcases List.mem_cons.1 h1 with rfl | h3
      · exact ahead_total hzx (by simpa using hyx)
      · by_cases hyx2 : y = x
        · subst hyx2
          exact hy z h3
        · exact ahead_trans (ahead_total hyx2 (by simpa using hyx)) (hy z h3)
theorem insR_last (x : Four) : ∀ (r : List Four), (∀ y ∈ r, ahead y x = true) → insR x r = r ++ [x]
  | [], _ => rfl
  | y :: r, h => by
    rw [insR, if_pos (h y (by simp)), insR_last x r (fun z hz => h z (by simp [hz]))]
    rfl
/-- The document's sorting: what is left, what lies there. -/
def sortL : List Four → List Four → List Four
  | [], out => out
  | x :: r, out => sortL r (insR x out)
theorem sortL_asc : ∀ (r out : List Four), Asc out → Asc (sortL r out)
  | [], out, h => h
  | x :: r, out, h => sortL_asc r _ (insR_asc x out h)
theorem sortL_id : ∀ (r out : List Four), Asc (out ++ r) → sortL r out = out ++ r
  | [], out, h => by simp [sortL]
  | x :: r, out, h => by
    have h1 : ∀ y ∈ out, ahead y x = true := fun y hy => (List.pairwise_append.1 h).2.2 y hy x (by simp)
    rw [sortL, insR_last x out h1, sortL_id r (out ++ [x]) (by rw [List.append_assoc]; exact h)]
    simp
theorem insR_length (x : Four) : ∀ (r : List Four), (insR x r).length ≤ r.length + 1
  | [] => by simp [insR]
  | y :: r => by
    rw [insR]
    have := insR_length x r
    split
    · simp only [List.length_cons]; omega
    · have h2 := List.length_filter_le (fun z => !one z x) (y :: r)
      simp only [List.length_cons] at h2 ⊢
      omega
theorem sort_iff (l : List Four) : sortL l [] = l ↔ Asc l :=
  ⟨fun h => by rw [← h]; exact sortL_asc l [] List.Pairwise.nil, fun h => by rw [sortL_id l [] (by simpa using h)]; rfl⟩

theorem risingL_iff (l : List Four) : ∀ (j k : Nat), risingL l j k = true ↔ ∀ i, k ≤ i → i < k + j → ahead (l.getD (i - 1) .zero) (l.getD i .zero) = true
  | 0, k => by
    refine ⟨fun _ i h1 h2 => by omega, fun _ => rfl⟩
  | j + 1, k => by
    rw [risingL]
    split
    · rename_i h
      rw [risingL_iff l j (k + 1)]
      refine ⟨fun H i h1 h2 => ?_, fun H i h1 h2 => H i (by omega) (by omega)⟩
      by_cases hi : i = k
      · subst hi; exact h
      · exact H i (by omega) (by omega)
    · rename_i h
      exact ⟨fun H => (by cases H), fun H => absurd (H k (Nat.le_refl _) (by omega)) h⟩
theorem rises_iff (l : List Four) : rises l = true ↔ Asc l := by
  rw [rises, risingL_iff, Asc, List.pairwise_iff_getElem]
  have gd : ∀ i (h : i < l.length), l.getD i .zero = l[i] := fun i h => by simp [List.getD, h]
  constructor
  · intro H i j hi hj hij
    have key : ∀ m, (h : i + 1 + m < l.length) → ahead l[i] l[i + 1 + m] = true := by
      intro m
      induction m with
      | zero =>
        intro h
        have := H (i + 1) (by omega) (by omega)
        rw [gd _ (by omega), gd _ h] at this
        simpa using this
      | succ m ih =>
        intro h
        have h1 := ih (by omega)
        have h2 := H (i + 1 + (m + 1)) (by omega) (by omega)
        rw [gd _ (by omega), gd _ h] at h2
        refine ahead_trans h1 ?_
        have e : i + 1 + (m + 1) - 1 = i + 1 + m := by omega
        simp only [e] at h2
        exact h2
    have := key (j - (i + 1)) (by omega)
    have e : i + 1 + (j - (i + 1)) = j := by omega
    simp only [e] at this
    exact this
  · intro H i h1 h2
    rw [gd _ (by omega), gd _ (by omega)]
    exact H (i - 1) i (by omega) (by omega) (by omega)
theorem rises_sort (l : List Four) : sortL l [] = l ↔ rises l = true := (sort_iff l).trans (rises_iff l).symm
end Go.Proofs.Ythobfbiobnmceaa.B
