/-
  Values that came in, read cell by cell: structs and arrays of numbers, bools and texts by value; slices of such.
-/
import Derived.ProofKit
import Derived.OpenShut
import Derived.KernelRfl
namespace Go.Proofs.Ytpbmgollolbgoaa.F
open Go.ChangeShapes Go.WideShapes
set_option linter.unusedVariables false

/-- What one cell holds. -/
inductive Leaf where
  | int (k : IntKind)
  | str
  | bool
def LeafOk : Leaf → Value → Prop
  | .int k, v => ∃ n, v = .int k n ∧ (Lit.int k n).wf = true
  | .str, v => ∃ s, v = .string s ∧ s.size ≤ maxLen
  | .bool, v => ∃ b, v = .bool b
/-- The cells of fields that lie side by side from o on. -/
def flatFs (P : Program) (one : TypeId → Option (List Leaf)) : List Field → Nat → Option (List Leaf)
  | [], _ => some []
  | f :: r, o => (one f.type).bind fun a => if f.offset = o ∧ a.length = P.cellsOf f.type then (flatFs P one r (o + a.length)).map (a ++ ·) else none
/-- A type's cells. -/
def flat (P : Program) : Nat → TypeId → Option (List Leaf)
  | 0, _ => none
  | n + 1, t => match P.underlying t with
    | some (.int k) => some [.int k]
    | some .string => some [.str]
    | some .bool => some [.bool]
    | some (.struct fs) => flatFs P (flat P n) fs.toList 0
    | some (.array m e) => (flat P n e).bind fun a => if a.length = P.cellsOf e then some (List.replicate m a).flatten else none
    | _ => none

def Fits (ks : List Leaf) (cs : List Value) : Prop := ks.length = cs.length ∧ ∀ (i : Nat) (k : Leaf), ks[i]? = some k → ∃ c, cs[i]? = some c ∧ LeafOk k c

section
variable {H : Type} {enc : TypeId × Value → H} {P : Program} {w : World} {base : Nat} {spare : Nat → Bool} {held : Bool}

theorem fits_fields {one : TypeId → Option (List Leaf)} {m : Nat} (cs : List Value) (ih : ∀ t ks cs x, one t = some ks → DataW.trod enc P w base spare held m t cs = some x → Fits ks cs) :
    ∀ (fs : List Field) (o : Nat) (ks : List Leaf), flatFs P one fs o = some ks →
      (∀ f ∈ fs, ∃ x, DataW.trod enc P w base spare held m f.type ((cs.drop f.offset).take (P.cellsOf f.type)) = some x) → ∀ (i : Nat) (k : Leaf), ks[i]? = some k → ∃ c, cs[o + i]? = some c ∧ LeafOk k c
  | [], o, ks, h, _, i, k, hk => by
    simp only [flatFs, Option.some.injEq] at h
    subst h
    simp at hk
  | f :: r, o, ks, h, hf, i, k, hk => by
    simp only [flatFs, Option.bind_eq_some_iff] at h
    obtain ⟨a, ha, h⟩ := h
    split at h
    · rename_i hc
      obtain ⟨ho, hl⟩ := hc
      simp only [Option.map_eq_some_iff] at h
      obtain ⟨b, hb, rfl⟩ := h
      by_cases hi : i < a.length
      · rw [List.getElem?_append_left hi] at hk
        obtain ⟨x, hx⟩ := hf f (by simp)
        obtain ⟨c, h1, h2⟩ := (ih _ _ _ _ ha hx).2 i k hk
        rw [List.getElem?_take] at h1
        split at h1
        · rw [List.getElem?_drop, ho] at h1
          exact ⟨c, h1, h2⟩
        · cases h1
      · rw [List.getElem?_append_right (by omega)] at hk
        obtain ⟨c, h1, h2⟩ := fits_fields cs ih r (o + a.length) b hb (fun g hg => hf g (by simp [hg])) (i - a.length) k hk
        exact ⟨c, by rw [← h1]; congr 1; omega, h2⟩
    · cases h

theorem flatFs_length {one : TypeId → Option (List Leaf)} : ∀ (fs : List Field) (o : Nat) (ks : List Leaf), flatFs P one fs o = some ks → ks.length = (fs.map fun f => P.cellsOf f.type).sum
  | [], o, ks, h => by simp only [flatFs, Option.some.injEq] at h; subst h; rfl
  | f :: r, o, ks, h => by
    simp only [flatFs, Option.bind_eq_some_iff] at h
    obtain ⟨a, ha, h⟩ := h
    split at h
    · rename_i hc
      simp only [Option.map_eq_some_iff] at h
      obtain ⟨b, hb, rfl⟩ := h
      have := flatFs_length r _ b hb
      simp [hc.2, this]
    · cases h

theorem flatten_get (a : List Leaf) : ∀ (m i : Nat) (k : Leaf), (List.replicate m a).flatten[i]? = some k → ∃ q, q < m ∧ q * a.length ≤ i ∧ i < (q + 1) * a.length ∧ a[i - q * a.length]? = some k
  | 0, i, k, h => by simp at h
  | m + 1, i, k, h => by
    rw [List.replicate_succ, List.flatten_cons] at h
    by_cases hi : i < a.length
    · rw [List.getElem?_append_left hi] at h
      exact ⟨0, by omega, by omega, by omega, by simpa using h⟩
    · rw [List.getElem?_append_right (by omega)] at h
      obtain ⟨q, h1, h2, h3, h4⟩ := flatten_get a m _ _ h
      have e : (q + 1) * a.length = q * a.length + a.length := Nat.succ_mul _ _
      have e2 : (q + 1 + 1) * a.length = (q + 1) * a.length + a.length := Nat.succ_mul _ _
      exact ⟨q + 1, by omega, by omega, by omega, by rw [← h4]; congr 1; omega⟩

theorem fits_of : ∀ (n : Nat) (t : TypeId) (ks : List Leaf) (m : Nat) (cs : List Value) (x : DataW H × List MemPlace), flat P n t = some ks → P.cellsOf t = ks.length → DataW.trod enc P w base spare held m t cs = some x → cs.length = ks.length ∧ ∀ (i : Nat) (k : Leaf), ks[i]? = some k → ∃ c, cs[i]? = some c ∧ LeafOk k c
  | 0, t, ks, m, cs, x, h, _, _ => by simp [flat] at h
  | n + 1, t, ks, m, cs, x, h, hl, hx => by
    unfold flat at h
    cases hu : P.underlying t with
    | none => rw [hu] at h; simp at h
    | some d =>
      rw [hu] at h
      cases d with
      | int k =>
        simp only [Option.some.injEq] at h
        subst h
        obtain ⟨z, rfl, _, hz⟩ := DataW.trod_int hu hx
        refine ⟨rfl, fun i k' hk => ?_⟩
        cases i with
        | zero => simp at hk; subst hk; exact ⟨_, rfl, z, rfl, hz⟩
        | succ i => simp at hk
      | string =>
        simp only [Option.some.injEq] at h
        subst h
        obtain ⟨s, rfl, _, hz⟩ := DataW.trod_string hu hx
        refine ⟨rfl, fun i k' hk => ?_⟩
        cases i with
        | zero => simp at hk; subst hk; exact ⟨_, rfl, s, rfl, hz⟩
        | succ i => simp at hk
      | bool =>
        simp only [Option.some.injEq] at h
        subst h
        have hb : ∃ b, cs = [.bool b] := by
          cases m with
          | zero => simp [DataW.trod] at hx
          | succ m =>
            unfold DataW.trod at hx
            rw [hu] at hx
            split at hx <;> simp_all
        obtain ⟨b, rfl⟩ := hb
        refine ⟨rfl, fun i k' hk => ?_⟩
        cases i with
        | zero => simp at hk; subst hk; exact ⟨_, rfl, b, rfl⟩
        | succ i => simp at hk
      | struct fs =>
        simp only at h
        obtain ⟨xs, m', hm, _, hcl, hxl, hf⟩ := DataW.trod_struct hu hx
        refine ⟨by omega, fun i k hk => ?_⟩
        have := fits_fields (P := P) (one := fun t => if P.cellsOf t = ((flat P n t).getD []).length then flat P n t else none) (m := m') cs (enc := enc) (w := w) (base := base) (spare := spare) (held := held)
          (fun t ks cs x ht hx => by
            split at ht
            · rename_i hc
              rw [ht] at hc
              have := fits_of n t ks m' cs x ht hc hx
              exact ⟨this.1.symm, this.2⟩
            · cases ht) fs.toList 0 ks ?_ (fun f hfm => ?_) i k hk
        · simpa using this
        · clear hk hx hf hl
          have key : ∀ (l : List Field) (o : Nat) (ks : List Leaf), flatFs P (flat P n) l o = some ks → flatFs P (fun t => if P.cellsOf t = ((flat P n t).getD []).length then flat P n t else none) l o = some ks := by
            intro l
            induction l with
            | nil => intro o ks h; exact h
            | cons f r ih =>
              intro o ks h
              simp only [flatFs, Option.bind_eq_some_iff] at h ⊢
              obtain ⟨a, ha, h⟩ := h
              split at h
              · rename_i hc
                refine ⟨a, by rw [ha]; simp [hc.2], ?_⟩
                rw [if_pos hc]
                simp only [Option.map_eq_some_iff] at h ⊢
                obtain ⟨b, hb, rfl⟩ := h
                exact ⟨b, ih _ _ hb, rfl⟩
              · cases h
          exact key _ _ _ h
        · obtain ⟨j, hj, rfl⟩ := List.mem_iff_getElem.1 hfm
          have := hf j fs.toList[j] (by simp at hj; simp [hj])
          simp at hj
          exact ⟨xs[j]'(by omega), by rw [this]; simp [hxl, hj]⟩
      | array q e =>
        simp only [Option.bind_eq_some_iff] at h
        obtain ⟨a, ha, h⟩ := h
        split at h
        · rename_i hc
          simp only [Option.some.injEq] at h
          subst h
          obtain ⟨xs, m', hm, _, hcl, hxl, hf⟩ := DataW.trod_array hu hx
          refine ⟨by omega, fun i k hk => ?_⟩
          obtain ⟨j, h1, h2, h3, h4⟩ := flatten_get a q i k hk
          have hj := hf j h1
          have hxj : xs[j]? = some (xs[j]'(by omega)) := List.getElem?_eq_getElem _
          rw [hxj] at hj
          obtain ⟨c, h5, h6⟩ := (fits_of n e a m' _ _ ha hc.symm hj).2 _ k h4
          rw [List.getElem?_take] at h5
          split at h5
          · rw [List.getElem?_drop, hc.symm] at h5
            exact ⟨c, by rw [← h5]; congr 1; omega, h6⟩
          · cases h5
        · cases h
      | _ => simp at h

theorem Fits.nil {cs : List Value} (h : Fits [] cs) : cs = [] := List.eq_nil_of_length_eq_zero h.1.symm
theorem Fits.cons {k : Leaf} {ks : List Leaf} {cs : List Value} (h : Fits (k :: ks) cs) : ∃ c r, cs = c :: r ∧ LeafOk k c ∧ Fits ks r := by
  cases cs with
  | nil => have := h.1; simp at this
  | cons c r =>
    obtain ⟨c', h1, h2⟩ := h.2 0 k rfl
    simp at h1
    subst h1
    exact ⟨c, r, rfl, h2, by have := h.1; simpa using this, fun i k' hk => by simpa using h.2 (i + 1) k' (by simpa using hk)⟩
theorem Fits.int {k : IntKind} {ks : List Leaf} {cs : List Value} (h : Fits (.int k :: ks) cs) : ∃ n r, cs = .int k n :: r ∧ (Lit.int k n).wf = true ∧ Fits ks r := by
  obtain ⟨c, r, rfl, ⟨n, rfl, hn⟩, hr⟩ := h.cons
  exact ⟨n, r, rfl, hn, hr⟩
theorem Fits.str {ks : List Leaf} {cs : List Value} (h : Fits (.str :: ks) cs) : ∃ s r, cs = .string s :: r ∧ s.size ≤ maxLen ∧ Fits ks r := by
  obtain ⟨c, r, rfl, ⟨s, rfl, hs⟩, hr⟩ := h.cons
  exact ⟨s, r, rfl, hs, hr⟩

/-- A struct by value: its cells. -/
theorem open_flat {r : Reach} {b0 : Nat} {t : TypeId} {fs : Array Field} {v : Value} {d : DataW H} {p : List MemPlace} (ks : List Leaf) (hs : P.underlying t = some (.struct fs)) (hk : flat P 5 t = some ks) (hC : P.cellsOf t = ks.length)
    (hv : Value.okWide P w r b0 t v) (h : DataW.Trod enc P w base spare held t v d p) :
    ∃ cs : List Value, v = .agg cs.toArray ∧ Fits ks cs := by
  obtain ⟨cs, rfl, hsz⟩ := okWide_struct hs hv
  obtain ⟨fuel, hf⟩ := h
  have := fits_of 5 t ks fuel _ _ hk hC hf
  exact ⟨cs.toList, by simp, by simpa [Value.cells] using this.1.symm, by simpa [Value.cells] using this.2⟩
end
end Go.Proofs.Ytpbmgollolbgoaa.F
