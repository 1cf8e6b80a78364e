/-
  A tree's rows, from the leaves up; two trees with one root are over one list.
-/
import Derived.Test.YtjoilobbopdcpaaTreeI
namespace Go.Proofs.Ytjoilobbopdcpaa.B
open Go.RowKit
set_option linter.unusedVariables false
set_option linter.unusedSimpArgs false

/-- The rows over a row. -/
def Up (k : Option (ByteArray → ByteArray)) (ks : List ByteArray) : List ByteArray → List (List ByteArray) → Prop
  | row, [] => row.length < 2
  | row, b :: rest => 2 ≤ row.length ∧ Nodes k ks row b ∧ Up k ks b rest
theorem Linked.up {k : Option (ByteArray → ByteArray)} {ks : List ByteArray} : ∀ {rest : List (List ByteArray)} {row : List ByteArray}, Linked k ks (row :: rest) → (∃ top, (row :: rest)[(row :: rest).length - 1]? = some top ∧ top.length < 2) → Up k ks row rest
  | [], row, h, ht => by
    obtain ⟨top, h1, h2⟩ := ht
    simp at h1
    subst h1
    exact h2
  | b :: rest, row, h, ht => by
    obtain ⟨h1, h2⟩ := h 0 row b rfl rfl
    refine ⟨h1, h2, Linked.up (fun i x y hx hy => h (i + 1) x y (by simpa using hx) (by simpa using hy)) ?_⟩
    obtain ⟨top, h3, h4⟩ := ht
    exact ⟨top, by simpa using h3, h4⟩
theorem TreeR.up {k : Option (ByteArray → ByteArray)} {ks l : List ByteArray} {rows : List (List ByteArray)} (h : TreeR k ks l rows) : ∃ row rest, rows = row :: rest ∧ Leaves k ks l row ∧ Up k ks row rest := by
  obtain ⟨⟨row, h0, hl⟩, hk, ht⟩ := h
  cases rows with
  | nil => cases h0
  | cons a rest =>
    simp at h0
    subst h0
    exact ⟨a, rest, rfl, hl, hk.up ht⟩
theorem Nodes.fn {k : Option (ByteArray → ByteArray)} {ks row up up' : List ByteArray} (h : Nodes k ks row up) (h' : Nodes k ks row up') : up = up' := by
  apply List.ext_getElem?
  intro i
  by_cases hi : i < up.length
  · have hi' : i < up'.length := by rw [h'.1, ← h.1]; exact hi
    obtain ⟨r, h1, h2⟩ := h.2 i hi
    obtain ⟨r', h3, h4⟩ := h'.2 i hi'
    rw [h1, h3, h2.fn h4]
  · have hi' : ¬ i < up'.length := by rw [h'.1, ← h.1]; exact hi
    rw [List.getElem?_eq_none (by omega), List.getElem?_eq_none (by omega)]
theorem Leaves.fn {k : Option (ByteArray → ByteArray)} {ks l row row' : List ByteArray} (h : Leaves k ks l row) (h' : Leaves k ks l row') : row = row' := by
  apply List.ext_getElem?
  intro i
  by_cases hi : i < l.length
  · obtain ⟨r, h1, h2⟩ := h.2 i _ (List.getElem?_eq_getElem hi)
    obtain ⟨r', h3, h4⟩ := h'.2 i _ (List.getElem?_eq_getElem hi)
    rw [h1, h3, h2.fn h4]
  · rw [List.getElem?_eq_none (by rw [h.1]; omega), List.getElem?_eq_none (by rw [h'.1]; omega)]
theorem Up.fn {k : Option (ByteArray → ByteArray)} {ks : List ByteArray} : ∀ {rest rest' : List (List ByteArray)} {row : List ByteArray}, Up k ks row rest → Up k ks row rest' → rest = rest'
  | [], [], row, h, h' => rfl
  | [], b :: r, row, h, h' => by have := h'.1; unfold Up at h; omega
  | b :: r, [], row, h, h' => by have := h.1; unfold Up at h'; omega
  | b :: r, b' :: r', row, h, h' => by
    obtain rfl := h.2.1.fn h'.2.1
    rw [Up.fn h.2.2 h'.2.2]
theorem TreeR.fn {k : Option (ByteArray → ByteArray)} {ks l : List ByteArray} {rows rows' : List (List ByteArray)} (h : TreeR k ks l rows) (h' : TreeR k ks l rows') : rows = rows' := by
  obtain ⟨row, rest, rfl, h1, h2⟩ := h.up
  obtain ⟨row', rest', rfl, h3, h4⟩ := h'.up
  obtain rfl := h1.fn h3
  rw [h2.fn h4]
theorem topOf_cons (row b : List ByteArray) (rest : List (List ByteArray)) : topOf (row :: b :: rest) = topOf (b :: rest) := by simp [topOf, List.getD]
theorem cat_inj : ∀ {a b : List ByteArray}, a.length = b.length → (∀ s ∈ a, s.size = 32) → (∀ s ∈ b, s.size = 32) → cat a = cat b → a = b
  | [], [], _, _, _, _ => rfl
  | [], _ :: _, h, _, _, _ => by simp at h
  | _ :: _, [], h, _, _, _ => by simp at h
  | x :: a, y :: b, h, ha, hb, he => by
    obtain ⟨h1, h2⟩ := app_inj he (by rw [ha x (by simp), hb y (by simp)])
    rw [h1, cat_inj (by simpa using h) (fun s hs => ha s (by simp [hs])) (fun s hs => hb s (by simp [hs])) h2]
theorem nodeT_inj {a b : List ByteArray} (hl : a.length = b.length) (ha : ∀ s ∈ a, s.size = 32) (hb : ∀ s ∈ b, s.size = 32) (h : nodeT a = nodeT b) : a = b := cat_inj hl ha hb (app_inj h rfl).2
theorem groups_same {a b : List ByteArray} (hl : a.length = b.length) (h : ∀ i, i < (a.length + 3) / 4 → groupL a i = groupL b i) : a = b := by
  apply List.ext_getElem?
  intro j
  by_cases hj : j < a.length
  · have h1 := h (j / 4) (by omega)
    have h2 := congrArg (fun l => l[j % 4]?) h1
    simp only [groupL] at h2
    rw [List.getElem?_take_of_lt (by omega), List.getElem?_take_of_lt (by omega), List.getElem?_drop, List.getElem?_drop, show 4 * (j / 4) + j % 4 = j by omega] at h2
    exact h2
  · rw [List.getElem?_eq_none (by omega), List.getElem?_eq_none (by omega)]
theorem Nodes.inj {ks row row' up : List ByteArray} (hn : ks.length < 100000000000000) (hl : row.length = row'.length) (hr : ∀ s ∈ row, s.size = 32) (hr' : ∀ s ∈ row', s.size = 32) (h : Nodes none ks row up) (h' : Nodes none ks row' up) : row = row' := by
  refine groups_same hl (fun i hi => ?_)
  have hiu : i < up.length := by rw [h.1]; exact hi
  obtain ⟨r, h1, h2⟩ := h.2 i hiu
  obtain ⟨r', h3, h4⟩ := h'.2 i hiu
  rw [h1] at h3
  cases h3
  exact nodeT_inj (by rw [groupL_len, groupL_len, hl]) (fun s hs => hr s (groupL_mem hs)) (fun s hs => hr' s (groupL_mem hs)) (h2.inj hn h4)
theorem Up.inj {ks : List ByteArray} (hn : ks.length < 100000000000000) : ∀ {rest rest' : List (List ByteArray)} {row row' : List ByteArray}, row.length = row'.length → (∀ s ∈ row, s.size = 32) → (∀ s ∈ row', s.size = 32) → Up none ks row rest → Up none ks row' rest' → topOf (row :: rest) = topOf (row' :: rest') → row = row'
  | [], [], row, row', hl, _, _, h, h', ht => by
    unfold Up at h h'
    match row, row', hl, h with
    | [], [], _, _ => rfl
    | [x], [y], _, _ => simp [topOf] at ht; rw [ht]
  | [], b :: r, row, row', hl, _, _, h, h', ht => by have := h'.1; unfold Up at h; omega
  | b :: r, [], row, row', hl, _, _, h, h', ht => by have := h.1; unfold Up at h'; omega
  | b :: r, b' :: r', row, row', hl, hr, hr', h, h', ht => by
    rw [topOf_cons, topOf_cons] at ht
    obtain rfl := Up.inj hn (by rw [h.2.1.1, h'.2.1.1, hl]) (h.2.1.size vk_none) (h'.2.1.size vk_none) h.2.2 h'.2.2 ht
    exact h.2.1.inj hn hl hr hr' h'.2.1
theorem Leaves.inj {ks l l' row : List ByteArray} (hn : ks.length < 100000000000000) (h : Leaves none ks l row) (h' : Leaves none ks l' row) : l = l' := by
  have hl : l.length = l'.length := by rw [← h.1, h'.1]
  apply List.ext_getElem?
  intro i
  by_cases hi : i < l.length
  · obtain ⟨r, h1, h2⟩ := h.2 i _ (List.getElem?_eq_getElem hi)
    obtain ⟨r', h3, h4⟩ := h'.2 i _ (List.getElem?_eq_getElem (by omega : i < l'.length))
    rw [h1] at h3
    cases h3
    rw [List.getElem?_eq_getElem hi, List.getElem?_eq_getElem (by omega : i < l'.length), leafT_inj (h2.inj hn h4)]
  · rw [List.getElem?_eq_none (by omega), List.getElem?_eq_none (by omega)]
/-- The first row's length. -/
theorem TreeR.len0 {k : Option (ByteArray → ByteArray)} {ks l : List ByteArray} {rows : List (List ByteArray)} (h : TreeR k ks l rows) : (rows.getD 0 []).length = l.length := by
  obtain ⟨row, rest, rfl, h1, h2⟩ := h.up
  exact h1.1
theorem TreeR.pos {k : Option (ByteArray → ByteArray)} {ks l : List ByteArray} {rows : List (List ByteArray)} (h : TreeR k ks l rows) : 0 < rows.length := by
  obtain ⟨row, rest, rfl, h1, h2⟩ := h.up
  simp
theorem Up.count {k : Option (ByteArray → ByteArray)} {ks : List ByteArray} : ∀ {rest : List (List ByteArray)} {row : List ByteArray}, Up k ks row rest → rest.length ≤ row.length
  | [], row, h => by simp
  | b :: r, row, h => by
    have h1 := Up.count h.2.2
    have h2 := h.1
    have h3 := h.2.1.1
    simp only [List.length_cons]
    omega
theorem TreeR.count {k : Option (ByteArray → ByteArray)} {ks l : List ByteArray} {rows : List (List ByteArray)} (h : TreeR k ks l rows) : rows.length ≤ l.length + 1 := by
  obtain ⟨row, rest, rfl, h1, h2⟩ := h.up
  have := h2.count
  rw [h1.1] at this
  simp only [List.length_cons]
  omega
theorem Up.top_size {k : Option (ByteArray → ByteArray)} (hk : VK k) {ks : List ByteArray} : ∀ {rest : List (List ByteArray)} {row : List ByteArray}, (∀ s ∈ row, s.size = 32) → Up k ks row rest → (topOf (row :: rest)).size ≤ 32
  | [], [], hr, h => by decide
  | [], x :: r, hr, h => by
    have := hr x (by simp)
    simp [topOf]
    omega
  | b :: r, row, hr, h => by
    rw [topOf_cons]
    exact Up.top_size hk (h.2.1.size hk) h.2.2
theorem TreeR.top_size {k : Option (ByteArray → ByteArray)} (hk : VK k) {ks l : List ByteArray} {rows : List (List ByteArray)} (h : TreeR k ks l rows) : (topOf rows).size ≤ 32 := by
  obtain ⟨row, rest, rfl, h1, h2⟩ := h.up
  exact h2.top_size hk (h1.size hk)
/-- A root of a list's tree. -/
def RootR (k : Option (ByteArray → ByteArray)) (ks l : List ByteArray) (r : ByteArray) : Prop := ∃ rows, TreeR k ks l rows ∧ Hd k ks (rootT l.length (topOf rows)) r
theorem RootR.pre {k : Option (ByteArray → ByteArray)} {ks ks' l : List ByteArray} {r : ByteArray} (h : RootR k ks l r) (hp : ks <+: ks') : RootR k ks' l r := by
  obtain ⟨rows, h1, h2⟩ := h
  exact ⟨rows, h1.pre hp, h2.pre hp⟩
theorem RootR.fn {k : Option (ByteArray → ByteArray)} {ks l : List ByteArray} {r r' : ByteArray} (h : RootR k ks l r) (h' : RootR k ks l r') : r = r' := by
  obtain ⟨rows, h1, h2⟩ := h
  obtain ⟨rows', h3, h4⟩ := h'
  obtain rfl := h1.fn h3
  exact h2.fn h4
theorem RootR.inj {ks l l' : List ByteArray} (hn : ks.length < 100000000000000) (hl : l.length < 1000000000) (hl' : l'.length < 1000000000) {r : ByteArray} (h : RootR none ks l r) (h' : RootR none ks l' r) : l = l' := by
  obtain ⟨rows, h1, h2⟩ := h
  obtain ⟨rows', h3, h4⟩ := h'
  obtain ⟨h5, h6⟩ := rootT_inj (by omega) (by omega) (h2.inj hn h4)
  obtain ⟨row, rest, rfl, h7, h8⟩ := h1.up
  obtain ⟨row', rest', rfl, h9, h10⟩ := h3.up
  obtain rfl := Up.inj hn (by rw [h7.1, h9.1]; omega) (h7.size vk_none) (h9.size vk_none) h8 h10 h6
  exact h7.inj hn h9
end Go.Proofs.Ytjoilobbopdcpaa.B
