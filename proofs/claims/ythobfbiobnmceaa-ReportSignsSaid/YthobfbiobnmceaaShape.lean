/-
  Values that came in, whatever their shape: numbers, bools, texts, structs and arrays of them, slices of all these, one in the other: what each cell holds.
-/
import Derived.ProofKit
import Derived.OpenShut
import Derived.KernelRfl
import Derived.Deep.Slices
namespace Go.Proofs.Ythobfbiobnmceaa.F
open Go.ChangeShapes Go.WideShapes
set_option linter.unusedVariables false

/-- What one cell holds: a slice by its elements' cells. -/
inductive Sh where
  | int (k : IntKind)
  | str
  | bool
  | rows (ks : List Sh)
/-- A row: n elements of ks.length cells each, each cell as 'one' says. -/
def RowsOf (w : World) (one : Sh → Value → Prop) (ks : List Sh) (v : Value) : Prop :=
  v = .slice none 0 0 ∨ ∃ a len cap, v = .slice (some a) len cap ∧ len ≤ cap ∧ cap ≤ maxLen ∧
    ∀ i, i < len → ∀ j k, ks[j]? = some k → ∃ c, w.cell? (a.add (i * ks.length + j)) = some c ∧ one k c
def ShOk (w : World) : Nat → Sh → Value → Prop
  | 0, _, _ => False
  | n + 1, .int k, v => ∃ z, v = .int k z ∧ (Lit.int k z).wf = true
  | n + 1, .str, v => ∃ s, v = .string s ∧ s.size ≤ maxLen
  | n + 1, .bool, v => ∃ b, v = .bool b
  | n + 1, .rows ks, v => RowsOf w (ShOk w n) ks v
/-- The cells of fields that lie side by side from o on. -/
def shapeFs (P : Program) (one : TypeId → Option (List Sh)) : List Field → Nat → Option (List Sh)
  | [], _ => some []
  | f :: r, o => (one f.type).bind fun a => if f.offset = o ∧ a.length = P.cellsOf f.type then (shapeFs P one r (o + a.length)).map (a ++ ·) else none
/-- A type's cells. -/
def shape (P : Program) : Nat → TypeId → Option (List Sh)
  | 0, _ => none
  | n + 1, t => match P.underlying t with
    | some (.int k) => some [.int k]
    | some .string => some [.str]
    | some .bool => some [.bool]
    | some (.slice e) => (shape P n e).bind fun a => if a.length = P.cellsOf e then some [.rows a] else none
    | some (.struct fs) => shapeFs P (shape P n) fs.toList 0
    | some (.array m e) => (shape P n e).bind fun a => if a.length = P.cellsOf e then some (List.replicate m a).flatten else none
    | _ => none
def FitsAt (w : World) (n : Nat) (ks : List Sh) (cs : List Value) : Prop := cs.length = ks.length ∧ ∀ (i : Nat) (k : Sh), ks[i]? = some k → ∃ c, cs[i]? = some c ∧ ShOk w n k c
theorem RowsOf.mono {w : World} {one two : Sh → Value → Prop} (h : ∀ k c, one k c → two k c) {ks : List Sh} {v : Value} (hr : RowsOf w one ks v) : RowsOf w two ks v := by
  rcases hr with h0 | ⟨a, len, cap, h1, h2, h3, h4⟩
  · exact .inl h0
  · exact .inr ⟨a, len, cap, h1, h2, h3, fun i hi j k hk => by
      obtain ⟨c, h5, h6⟩ := h4 i hi j k hk
      exact ⟨c, h5, h k c h6⟩⟩
theorem ShOk.up {w : World} : ∀ (n : Nat) (k : Sh) (c : Value), ShOk w n k c → ShOk w (n + 1) k c
  | 0, k, c, h => h.elim
  | n + 1, .int k, c, h => h
  | n + 1, .str, c, h => h
  | n + 1, .bool, c, h => h
  | n + 1, .rows ks, c, h => RowsOf.mono (fun k c h => ShOk.up n k c h) h

section
variable {H : Type} {enc : TypeId × Value → H} {P : Program} {w : World} {base : Nat} {spare : Nat → Bool} {held : Bool}

theorem fits_fields {one : TypeId → Option (List Sh)} {m n : Nat} (cs : List Value) (ih : ∀ t ks cs x, one t = some ks → DataW.trod enc P w base spare held m t cs = some x → FitsAt w n ks cs) :
    ∀ (fs : List Field) (o : Nat) (ks : List Sh), shapeFs P one fs o = some ks →
      (∀ f ∈ fs, ∃ x, DataW.trod enc P w base spare held m f.type ((cs.drop f.offset).take (P.cellsOf f.type)) = some x) → ∀ (i : Nat) (k : Sh), ks[i]? = some k → ∃ c, cs[o + i]? = some c ∧ ShOk w n k c
  | [], o, ks, h, _, i, k, hk => by
    simp only [shapeFs, Option.some.injEq] at h
    subst h
    simp at hk
  | f :: r, o, ks, h, hf, i, k, hk => by
    simp only [shapeFs, Option.bind_eq_some_iff] at h
    obtain ⟨a, ha, h⟩ := h
    split at h
    · rename_i hc
      obtain ⟨ho, hl⟩ := hc
      simp only [Option.map_eq_some_iff] at h
      obtain ⟨b, hb, rfl⟩ := h
      by_cases hi : i < a.length
      · rw [List.getElem?_append_left hi] at hk
        obtain ⟨x, hx⟩ := hf f (by simp)
        obtain ⟨c, h1, h2⟩ := (ih _ _ _ _ ha hx).2 i k hk
        rw [List.getElem?_take] at h1
        split at h1
        · rw [List.getElem?_drop, ho] at h1
          exact ⟨c, h1, h2⟩
        · cases h1
      · rw [List.getElem?_append_right (by omega)] at hk
        obtain ⟨c, h1, h2⟩ := fits_fields cs ih r (o + a.length) b hb (fun g hg => hf g (by simp [hg])) (i - a.length) k hk
        exact ⟨c, by rw [← h1]; congr 1; omega, h2⟩
    · cases h
theorem flatten_get (a : List Sh) : ∀ (m i : Nat) (k : Sh), (List.replicate m a).flatten[i]? = some k → ∃ q, q < m ∧ q * a.length ≤ i ∧ i < (q + 1) * a.length ∧ a[i - q * a.length]? = some k
  | 0, i, k, h => by simp at h
  | m + 1, i, k, h => by
    rw [List.replicate_succ, List.flatten_cons] at h
    by_cases hi : i < a.length
    · rw [List.getElem?_append_left hi] at h
      exact ⟨0, by omega, by omega, by omega, by simpa using h⟩
    · rw [List.getElem?_append_right (by omega)] at h
      obtain ⟨q, h1, h2, h3, h4⟩ := flatten_get a m _ _ h
      have e : (q + 1) * a.length = q * a.length + a.length := Nat.succ_mul _ _
      have e2 : (q + 1 + 1) * a.length = (q + 1) * a.length + a.length := Nat.succ_mul _ _
      exact ⟨q + 1, by omega, by omega, by omega, by rw [← h4]; congr 1; omega⟩

theorem shape_ok : ∀ (n : Nat) (t : TypeId) (ks : List Sh) (m : Nat) (cs : List Value) (x : DataW H × List MemPlace), shape P n t = some ks → P.cellsOf t = ks.length → DataW.trod enc P w base spare held m t cs = some x → FitsAt w n ks cs
  | 0, t, ks, m, cs, x, h, _, _ => by simp [shape] at h
  | n + 1, t, ks, m, cs, x, h, hl, hx => by
    unfold shape at h
    cases hu : P.underlying t with
    | none => rw [hu] at h; simp at h
    | some d =>
      rw [hu] at h
      cases d with
      | int k =>
        simp only [Option.some.injEq] at h
        subst h
        obtain ⟨z, rfl, _, hz⟩ := DataW.trod_int hu hx
        refine ⟨rfl, fun i k' hk => ?_⟩
        cases i with
        | zero => simp at hk; subst hk; exact ⟨_, rfl, z, rfl, hz⟩
        | succ i => simp at hk
      | string =>
        simp only [Option.some.injEq] at h
        subst h
        obtain ⟨s, rfl, _, hz⟩ := DataW.trod_string hu hx
        refine ⟨rfl, fun i k' hk => ?_⟩
        cases i with
        | zero => simp at hk; subst hk; exact ⟨_, rfl, s, rfl, hz⟩
        | succ i => simp at hk
      | bool =>
        simp only [Option.some.injEq] at h
        subst h
        have hb : ∃ b, cs = [.bool b] := by
          cases m with
          | zero => simp [DataW.trod] at hx
          | succ m =>
            unfold DataW.trod at hx
            rw [hu] at hx
            split at hx <;> simp_all
        obtain ⟨b, rfl⟩ := hb
        refine ⟨rfl, fun i k' hk => ?_⟩
        cases i with
        | zero => simp at hk; subst hk; exact ⟨_, rfl, b, rfl⟩
        | succ i => simp at hk
      | slice e =>
        simp only [Option.bind_eq_some_iff] at h
        obtain ⟨a, ha, h⟩ := h
        split at h
        · rename_i hc
          simp only [Option.some.injEq] at h
          subst h
          rcases Go.Deep.open_slice hu hx with ⟨rfl, _⟩ | ⟨ad, len, cap, mm, fu, D, Pl, rfl, hb, hlc, hcm, hmm, _, hall⟩
          · refine ⟨rfl, fun i k' hk => ?_⟩
            cases i with
            | zero => simp at hk; subst hk; exact ⟨_, rfl, .inl rfl⟩
            | succ i => simp at hk
          · refine ⟨rfl, fun i k' hk => ?_⟩
            cases i with
            | succ i => simp at hk
            | zero =>
              simp at hk
              subst hk
              have hlm : len ≤ mm := by rw [hmm]; split <;> omega
              refine ⟨_, rfl, .inr ⟨ad, len, cap, rfl, hlc, hcm, fun q hq j k hk => ?_⟩⟩
              obtain ⟨cs', h1, h2⟩ := hall q (by omega)
              have hf := shape_ok n e a fu cs' _ ha hc.symm h2
              obtain ⟨c, h3, h4⟩ := hf.2 j k hk
              refine ⟨c, ?_, h4⟩
              have hj : j < a.length := (List.getElem?_eq_some_iff.1 hk).1
              have := (World.cells?_some h1).2.2 j (by omega)
              rw [h3] at this
              rw [← this, ← hc]
              by_cases hz : q * a.length = 0
              · rw [hz, Nat.zero_add]
                simp [Addr.add]
              · by_cases hj0 : j = 0
                · subst hj0
                  simp [Addr.add]
                · simp [Addr.add, hz, hj0, Nat.add_assoc]
        · cases h
      | struct fs =>
        simp only at h
        obtain ⟨xs, m', hm, _, hcl, hxl, hf⟩ := DataW.trod_struct hu hx
        refine ⟨by omega, fun i k hk => ?_⟩
        have := fits_fields (P := P) (one := fun t => if P.cellsOf t = ((shape P n t).getD []).length then shape P n t else none) (m := m') (n := n) cs (enc := enc) (w := w) (base := base) (spare := spare) (held := held)
          (fun t ks cs x ht hx => by
            split at ht
            · rename_i hc
              rw [ht] at hc
              exact shape_ok n t ks m' cs x ht hc hx
            · cases ht) fs.toList 0 ks ?_ (fun f hfm => ?_) i k hk
        · obtain ⟨c, h1, h2⟩ := this
          exact ⟨c, by simpa using h1, ShOk.up n k c h2⟩
        · clear hk hx hf hl
          have key : ∀ (l : List Field) (o : Nat) (ks : List Sh), shapeFs P (shape P n) l o = some ks → shapeFs P (fun t => if P.cellsOf t = ((shape P n t).getD []).length then shape P n t else none) l o = some ks := by
            intro l
            induction l with
            | nil => intro o ks h; exact h
            | cons f r ih =>
              intro o ks h
              simp only [shapeFs, Option.bind_eq_some_iff] at h ⊢
              obtain ⟨a, ha, h⟩ := h
              split at h
              · rename_i hc
                refine ⟨a, by rw [ha]; simp [hc.2], ?_⟩
                rw [if_pos hc]
                simp only [Option.map_eq_some_iff] at h ⊢
                obtain ⟨b, hb, rfl⟩ := h
                exact ⟨b, ih _ _ hb, rfl⟩
              · cases h
          exact key _ _ _ h
        · obtain ⟨j, hj, rfl⟩ := List.mem_iff_getElem.1 hfm
          have := hf j fs.toList[j] (by simp at hj; simp [hj])
          simp at hj
          exact ⟨xs[j]'(by omega), by rw [this]; simp [hxl, hj]⟩
      | array q e =>
        simp only [Option.bind_eq_some_iff] at h
        obtain ⟨a, ha, h⟩ := h
        split at h
        · rename_i hc
          simp only [Option.some.injEq] at h
          subst h
          obtain ⟨xs, m', hm, _, hcl, hxl, hf⟩ := DataW.trod_array hu hx
          refine ⟨by omega, fun i k hk => ?_⟩
          obtain ⟨j, h1, h2, h3, h4⟩ := flatten_get a q i k hk
          have hj := hf j h1
          have hxj : xs[j]? = some (xs[j]'(by omega)) := List.getElem?_eq_getElem _
          rw [hxj] at hj
          obtain ⟨c, h5, h6⟩ := (shape_ok n e a m' _ _ ha hc.symm hj).2 _ k h4
          rw [List.getElem?_take] at h5
          split at h5
          · rw [List.getElem?_drop, hc.symm] at h5
            exact ⟨c, by rw [← h5]; congr 1; omega, ShOk.up n k c h6⟩
          · cases h5
        · cases h
      | _ => simp at h

/-- A struct that came in by value: its cells. -/
theorem open_struct {r : Reach} {b0 : Nat} {t : TypeId} {fs : Array Field} {v : Value} {d : DataW H} {p : List MemPlace} (ks : List Sh) (hs : P.underlying t = some (.struct fs)) (hk : shape P 8 t = some ks) (hC : P.cellsOf t = ks.length)
    (hv : Value.okWide P w r b0 t v) (h : DataW.Trod enc P w base spare held t v d p) : ∃ cs : List Value, v = .agg cs.toArray ∧ FitsAt w 8 ks cs := by
  obtain ⟨cs, rfl, hsz⟩ := okWide_struct hs hv
  obtain ⟨fuel, hf⟩ := h
  exact ⟨cs.toList, by simp, shape_ok 8 t ks fuel _ _ hk hC (by simpa [Value.cells] using hf)⟩
/-- A slice that came in. -/
theorem open_rows {r : Reach} {b0 : Nat} {t e : TypeId} {v : Value} {d : DataW H} {p : List MemPlace} (k : Sh) (hs : P.underlying t = some (.slice e)) (hk : shape P 8 t = some [k]) (hC : P.cellsOf t = 1)
    (hv : Value.okWide P w r b0 t v) (h : DataW.Trod enc P w base spare held t v d p) : ShOk w 8 k v := by
  obtain ⟨a, len, cap, rfl⟩ := okWide_slice hs hv
  obtain ⟨fuel, hf⟩ := h
  obtain ⟨c, h1, h2⟩ := (shape_ok 8 t [k] fuel _ _ hk hC (by simpa [Value.cells] using hf)).2 0 k rfl
  simp at h1
  subst h1
  exact h2
end
end Go.Proofs.Ythobfbiobnmceaa.F
