/-
  tree.New, walked.
-/
import Derived.Test.YtjoilobbopdcpaaTreeB
namespace Go.Proofs.Ytjoilobbopdcpaa.B
open Go.RowKit
set_option linter.unusedVariables false
set_option linter.unusedSimpArgs false

/-- A vault whose Hash is known, with hashes of 32 bytes. -/
structure VK (k : Option (ByteArray → ByteArray)) : Prop where
  ok : HashOk k
  s32 : ∀ f, k = some f → ∀ t, (f t).size = 32
theorem numberedS_size (n : Int) : (numberedS n 32).size = 32 := by
  have h := putSpec_small n
  rw [numberedS, padSpec, if_neg (by omega), if_neg (by omega)]
  simp only
  rw [ByteArray.size_append, strOfNums_size, List.length_replicate]
  have : (32 : Int).toNat = 32 := rfl
  omega
theorem Hd.size {k : Option (ByteArray → ByteArray)} (hk : VK k) {ks : List ByteArray} {t r : ByteArray} (h : Hd k ks t r) : r.size = 32 := by
  cases k with
  | some f => rw [h]; exact hk.s32 f rfl t
  | none => rw [h.2]; exact numberedS_size _
def Leaves (k : Option (ByteArray → ByteArray)) (ks : List ByteArray) (l row : List ByteArray) : Prop :=
  row.length = l.length ∧ ∀ (i : Nat) s, l[i]? = some s → ∃ r, row[i]? = some r ∧ Hd k ks (leafT s) r
def Nodes (k : Option (ByteArray → ByteArray)) (ks : List ByteArray) (row up : List ByteArray) : Prop :=
  up.length = (row.length + 3) / 4 ∧ ∀ i, i < up.length → ∃ r, up[i]? = some r ∧ Hd k ks (nodeT (groupL row i)) r
def Linked (k : Option (ByteArray → ByteArray)) (ks : List ByteArray) (L : List (List ByteArray)) : Prop :=
  ∀ (i : Nat) a b, L[i]? = some a → L[i + 1]? = some b → 2 ≤ a.length ∧ Nodes k ks a b
/-- The rows of a tree over l. -/
structure TreeR (k : Option (ByteArray → ByteArray)) (ks : List ByteArray) (l : List ByteArray) (rows : List (List ByteArray)) : Prop where
  first : ∃ row, rows[0]? = some row ∧ Leaves k ks l row
  linked : Linked k ks rows
  last : ∃ top, rows[rows.length - 1]? = some top ∧ top.length < 2
theorem Leaves.pre {k : Option (ByteArray → ByteArray)} {ks ks' l row : List ByteArray} (h : Leaves k ks l row) (hp : ks <+: ks') : Leaves k ks' l row :=
  ⟨h.1, fun i s hs => by obtain ⟨r, h1, h2⟩ := h.2 i s hs; exact ⟨r, h1, h2.pre hp⟩⟩
theorem Nodes.pre {k : Option (ByteArray → ByteArray)} {ks ks' row up : List ByteArray} (h : Nodes k ks row up) (hp : ks <+: ks') : Nodes k ks' row up :=
  ⟨h.1, fun i hi => by obtain ⟨r, h1, h2⟩ := h.2 i hi; exact ⟨r, h1, h2.pre hp⟩⟩
theorem Linked.pre {k : Option (ByteArray → ByteArray)} {ks ks' : List ByteArray} {L : List (List ByteArray)} (h : Linked k ks L) (hp : ks <+: ks') : Linked k ks' L :=
  fun i a b h1 h2 => ⟨(h i a b h1 h2).1, (h i a b h1 h2).2.pre hp⟩
theorem TreeR.pre {k : Option (ByteArray → ByteArray)} {ks ks' l : List ByteArray} {rows : List (List ByteArray)} (h : TreeR k ks l rows) (hp : ks <+: ks') : TreeR k ks' l rows := by
  obtain ⟨⟨row, h1, h2⟩, h3, h4⟩ := h
  exact ⟨⟨row, h1, h2.pre hp⟩, h3.pre hp, h4⟩
theorem Leaves.size {k : Option (ByteArray → ByteArray)} (hk : VK k) {ks l row : List ByteArray} (h : Leaves k ks l row) : ∀ s ∈ row, s.size = 32 := by
  intro s hs
  obtain ⟨i, hi⟩ := List.getElem?_of_mem hs
  have hlt : i < l.length := by rw [← h.1]; exact (List.getElem?_eq_some_iff.1 hi).1
  obtain ⟨r, h1, h2⟩ := h.2 i l[i] (List.getElem?_eq_getElem hlt)
  rw [hi] at h1
  cases h1
  exact h2.size hk
theorem Nodes.size {k : Option (ByteArray → ByteArray)} (hk : VK k) {ks row up : List ByteArray} (h : Nodes k ks row up) : ∀ s ∈ up, s.size = 32 := by
  intro s hs
  obtain ⟨i, hi⟩ := List.getElem?_of_mem hs
  obtain ⟨r, h1, h2⟩ := h.2 i (List.getElem?_eq_some_iff.1 hi).1
  rw [hi] at h1
  cases h1
  exact h2.size hk
theorem Row.isCells {w : World} {e : TypeId} {size : Nat} {v : Value} {n : Nat} {xs : List Value} (h : Row w e size v n xs) : ∀ b, v.ownBlock = some b → ∃ cs t fr, w.heap[b]? = some (.cells cs t fr) := by
  intro b hb
  rcases h.2 with ⟨rfl, _⟩ | ⟨g, cap, cur, lo, hi, rfl, hg, _⟩
  · simp [Value.ownBlock] at hb
  · simp [Value.ownBlock] at hb
    subst hb
    exact ⟨_, _, _, hg⟩
theorem Own.ran {b0 : Nat} {w w' : World} {e : TypeId} {size : Nat} {v : Value} {n : Nat} {xs : List Value} {B g gh c : Nat} {k : Option (ByteArray → ByteArray)} {ks ks' : List ByteArray} (h : Own b0 w e size v n xs) (hv : Vlt w B g gh k ks) (hr : Ran B g gh k c ks ks' w w') : Own b0 w' e size v n xs :=
  ⟨h.row.kept hr.kp (fun b hb => hv.no b (h.row.isCells b hb)), h.base⟩
/-- A tree in memory: its block gt, its rows, all from b0 on. -/
structure TreeM (b0 gt g : Nat) (rows : List (List ByteArray)) (vr : Value) (vs : List Value) (W : World) : Prop where
  blk : W.heap[gt]? = some (.cells #[.pointer (some ⟨g, 0, none⟩), vr] 69 (0, 0))
  base : b0 ≤ gt
  outer : Own b0 W 22 1 vr vs.length vs
  len : vs.length = rows.length
  inner : ∀ (i : Nat) v row, vs[i]? = some v → rows[i]? = some row → Own b0 W 9 1 v row.length (strs row)
  dist : ∀ (i j : Nat) v v' b, vs[i]? = some v → vs[j]? = some v' → v.ownBlock = some b → v'.ownBlock = some b → i = j
theorem TreeM.keeps {b0 gt g : Nat} {rows : List (List ByteArray)} {vr : Value} {vs : List Value} {W W' : World} {S : Nat → Prop} (h : TreeM b0 gt g rows vr vs W) (hk : Keeps S W W') (hS : ∀ i, (∃ cs t fr, W.heap[i]? = some (.cells cs t fr)) → ¬ S i) : TreeM b0 gt g rows vr vs W' :=
  ⟨hk.at_ h.blk (hS _ ⟨_, _, _, h.blk⟩), h.base, ⟨h.outer.row.kept hk (fun b hb => hS b (h.outer.row.isCells b hb)), h.outer.base⟩, h.len,
   fun i v row h1 h2 => ⟨(h.inner i v row h1 h2).row.kept hk (fun b hb => hS b ((h.inner i v row h1 h2).row.isCells b hb)), (h.inner i v row h1 h2).base⟩, h.dist⟩
theorem TreeM.ran {b0 gt g' : Nat} {rows : List (List ByteArray)} {vr : Value} {vs : List Value} {W W' : World} {B g gh c : Nat} {k : Option (ByteArray → ByteArray)} {ks ks' : List ByteArray} (h : TreeM b0 gt g' rows vr vs W) (hv : Vlt W B g gh k ks) (hr : Ran B g gh k c ks ks' W W') : TreeM b0 gt g' rows vr vs W' :=
  h.keeps hr.kp (fun i hi => hv.no i hi)
theorem TreeM.below {b0 gt g : Nat} {rows : List (List ByteArray)} {vr : Value} {vs : List Value} {W W' : World} (h : TreeM b0 gt g rows vr vs W) (hb : Below W.heap.size W W') : TreeM b0 gt g rows vr vs W' :=
  h.keeps (Keeps.of_below (S := fun _ => False) hb) (fun _ _ h => h)
theorem infoStr : (Try.prog.info? 9).map (fun i => (i.zero, i.size, i.bytes)) = some (some (.string ⟨#[]⟩), 1, 16) := by kernel_rfl
theorem infoStrs : (Try.prog.info? 22).map (fun i => (i.zero, i.size, i.bytes)) = some (some (.slice none 0 0), 1, 24) := by kernel_rfl

/-- The leaves' hashes, so far. -/
structure LeafI (w : World) (B g gh : Nat) (k : Option (ByteArray → ByteArray)) (ks0 : List ByteArray) (l : List ByteArray) (gt q : Nat) (v : Value) (row ks : List ByteArray) (W : World) : Prop where
  ran : Ran B g gh k q ks0 ks w W
  blk : W.heap[gt]? = some (.cells #[.pointer (some ⟨g, 0, none⟩), .slice none 0 0] 69 (0, 0))
  out : Own w.heap.size W 9 1 v q (strs row)
  len : row.length = q
  is : ∀ (i : Nat) s, i < q → l[i]? = some s → ∃ r, row[i]? = some r ∧ Hd k ks (leafT s) r
theorem Row.ne_row {w : World} {e1 e2 : TypeId} {s1 s2 n1 n2 : Nat} {v1 v2 : Value} {xs1 xs2 : List Value} (h1 : Row w e1 s1 v1 n1 xs1) (h2 : Row w e2 s2 v2 n2 xs2) (hne : e1 ≠ e2) {b : Nat} (hb : v1.ownBlock = some b) : v2.ownBlock ≠ some b := by
  rcases h1.2 with ⟨rfl, _⟩ | ⟨g, cap, cur, lo, hi, rfl, hg, _⟩
  · simp [Value.ownBlock] at hb
  · simp [Value.ownBlock] at hb
    subst hb
    intro h
    exact h2.ne_type hg (fun e => hne e.symm) h.symm
theorem snoc_get {α : Type} (l : List α) (x : α) (i : Nat) (y : α) (h : (l ++ [x])[i]? = some y) : l[i]? = some y ∨ (i = l.length ∧ y = x) := by
  by_cases hi : i < l.length
  · rw [List.getElem?_append_left hi] at h; exact .inl h
  · rw [List.getElem?_append_right (by omega)] at h
    have : i - l.length = 0 := by
      apply Classical.byContradiction
      intro hne
      rw [List.getElem?_eq_none (by simp; omega)] at h
      cases h
    rw [this] at h
    simp at h
    exact .inr ⟨by omega, h.symm⟩
theorem TreeM.push {b0 gt g m cap capr : Nat} {ao aor : Option Addr} {rows : List (List ByteArray)} {cur : List ByteArray} {vc : Value} {vs : List Value} {W w5 : World} (h : TreeM b0 gt g rows (.slice aor m capr) vs W) (hm : m = vs.length) (hc : Own b0 W 9 1 vc cur.length (strs cur)) (hd : ∀ (i : Nat) v b, vs[i]? = some v → v.ownBlock = some b → vc.ownBlock ≠ some b) (o : Obj)
    (hown : Row w5 22 1 (.slice ao (m + 1) cap) (m + 1) (vs ++ [vc])) (hgrow : (W.alloc o).grownBy w5 (Value.slice aor m capr).ownBlock) (hat : (Value.slice ao (m + 1) cap).ownBlock = (Value.slice aor m capr).ownBlock ∨ (Value.slice ao (m + 1) cap).ownBlock = some (W.heap.size + 1)) (hb0 : b0 ≤ W.heap.size) :
    TreeM b0 gt g (rows ++ [cur]) (.slice ao (m + 1) cap) (vs ++ [vc]) (w5.setCell ⟨gt, 1, none⟩ (.slice ao (m + 1) cap)) ∧ Own b0 (w5.setCell ⟨gt, 1, none⟩ (.slice ao (m + 1) cap)) 9 1 vc cur.length (strs cur) := by
  have hal : Below W.heap.size W (W.alloc o) := (Below.refl _ _).alloc (Nat.le_refl _) _
  have hk1 : Keeps (fun i => (Value.slice aor m capr).ownBlock = some i) W w5 := (Keeps.of_below hal).trans (Keeps.of_grown hgrow (fun k hk => hk)) (fun _ _ h => h)
  have hgtn : ∀ b, (Value.slice aor m capr).ownBlock = some b → b ≠ gt := fun b hb he => by
    subst he
    exact h.outer.row.ne_type h.blk (by decide) hb.symm
  have hb5 : w5.heap[gt]? = _ := hk1.at_ h.blk (fun he => hgtn gt he rfl)
  have hk2 : Keeps (fun i => (Value.slice aor m capr).ownBlock = some i ∨ i = gt) W (w5.setCell ⟨gt, 1, none⟩ (.slice ao (m + 1) cap)) :=
    (hk1.mono (fun _ _ h => .inl h)).setCell (fun _ => .inr rfl) _
  have hstr : ∀ v row, Own b0 W 9 1 v row.length (strs row) → Own b0 (w5.setCell ⟨gt, 1, none⟩ (.slice ao (m + 1) cap)) 9 1 v row.length (strs row) := fun v row hv =>
    ⟨hv.row.kept hk2 (fun b hb hs => by
      rcases hs with hs | hs
      · exact h.outer.row.ne_row hv.row (by decide) hs hb
      · subst hs
        exact hv.row.ne_type h.blk (by decide) hb.symm), hv.base⟩
  refine ⟨⟨(blk_set hb5 1 _).trans rfl, h.base, ?_, by rw [List.length_append, List.length_append, h.len]; rfl, ?_, ?_⟩, hstr _ _ hc⟩
  · rw [List.length_append, List.length_singleton, ← hm]
    refine ⟨hown.kept (S := fun i => i = gt) (Keeps.setCell (S := fun i => i = gt) (Keeps.refl _ _) (fun _ => rfl) _) (fun b hb he => ?_), fun b hb => ?_⟩
    · subst he
      exact hown.ne_type hb5 (by decide) hb.symm
    · rcases hat with e | e
      · exact h.outer.base b (by rw [← e]; exact hb)
      · rw [hb] at e; cases e; omega
  · intro i v row h1 h2
    rcases snoc_get _ _ _ _ h1 with k1 | ⟨hi, k1⟩
    · rcases snoc_get _ _ _ _ h2 with k2 | ⟨hi, k2⟩
      · exact hstr _ _ (h.inner i v row k1 k2)
      · have := (List.getElem?_eq_some_iff.1 k1).1
        rw [h.len] at this; omega
    · rcases snoc_get _ _ _ _ h2 with k2 | ⟨hi2, k2⟩
      · have := (List.getElem?_eq_some_iff.1 k2).1
        rw [h.len] at hi; omega
      · rw [k1, k2]; exact hstr _ _ hc
  · intro i j v v' b h1 h2 h3 h4
    rcases snoc_get _ _ _ _ h1 with k1 | ⟨hi, k1⟩
    · rcases snoc_get _ _ _ _ h2 with k2 | ⟨hj, k2⟩
      · exact h.dist i j v v' b k1 k2 h3 h4
      · rw [k2] at h4
        exact absurd h4 (hd i v b k1 h3)
    · rcases snoc_get _ _ _ _ h2 with k2 | ⟨hj, k2⟩
      · rw [k1] at h3
        exact absurd h3 (hd j v' b k2 h4)
      · omega
/-- What stands ahead of each row that is laid into the tree. -/
structure NewI (w : World) (B g gh : Nat) (k : Option (ByteArray → ByteArray)) (ks0 l : List ByteArray) (gt n c : Nat) (rows : List (List ByteArray)) (cur : List ByteArray) (vr vc : Value) (vs : List Value) (ks : List ByteArray) (W : World) : Prop where
  ran : Ran B g gh k c ks0 ks w W
  tree : TreeM w.heap.size gt g rows vr vs W
  crow : Own w.heap.size W 9 1 vc cur.length (strs cur)
  bud : c + 2 * cur.length ≤ 3 * n
  first : ∃ row, (rows ++ [cur])[0]? = some row ∧ Leaves k ks l row
  linked : Linked k ks (rows ++ [cur])
  dist : ∀ (i : Nat) v b, vs[i]? = some v → v.ownBlock = some b → vc.ownBlock ≠ some b
  sz : ∀ s ∈ cur, s.size = 32
/-- The nodes above a row, so far. -/
structure UpI (W6 : World) (B g gh : Nat) (k : Option (ByteArray → ByteArray)) (ks1 cur : List ByteArray) (q : Nat) (v : Value) (up ks : List ByteArray) (W : World) : Prop where
  ran : Ran B g gh k q ks1 ks W6 W
  out : Own W6.heap.size W 9 1 v q (strs up)
  len : up.length = q
  is : ∀ (i : Nat), i < q → ∃ r, up[i]? = some r ∧ Hd k ks (nodeT (groupL cur i)) r
theorem UpI.app {W6 W W1 w5 : World} {B g gh : Nat} {k : Option (ByteArray → ByteArray)} {ks1 cur : List ByteArray} {q cap cap2 H : Nat} {ao ao2 : Option Addr} {up ks ks' : List ByteArray} {r : ByteArray} (hB : B ≤ W6.heap.size) (h : UpI W6 B g gh k ks1 cur q (.slice ao2 q cap2) up ks W) (hr : Ran B g gh k 1 ks ks' W W1) (hd : Hd k ks' (nodeT (groupL cur q)) r) (o : Obj)
    (hown : Row w5 9 1 (.slice ao (q + 1) cap) (q + 1) (strs up ++ [.string r])) (hgrow : (W1.alloc o).grownBy w5 (Value.slice ao2 q cap2).ownBlock) (hat : (Value.slice ao (q + 1) cap).ownBlock = (Value.slice ao2 q cap2).ownBlock ∨ (Value.slice ao (q + 1) cap).ownBlock = some H) (hH : H = W1.heap.size + 1) :
    UpI W6 B g gh k ks1 cur (q + 1) (.slice ao (q + 1) cap) (up ++ [r]) ks' w5 := by
  have hra := h.ran.trans hr
  have hal : Below W1.heap.size W1 (W1.alloc o) := (Below.refl _ _).alloc (Nat.le_refl _) _
  refine ⟨(hra.below hal).own hgrow h.out.base hB, ?_, by rw [List.length_append, h.len]; rfl, fun i hi => ?_⟩
  · rw [strs_app]
    exact Own.app h.out.base hown hat (by rw [hH]; have := hra.kp.size; omega)
  · by_cases hiq : i < q
    · obtain ⟨r', h1, h2⟩ := h.is i hiq
      exact ⟨r', by rw [List.getElem?_append_left (by rw [h.len]; exact hiq)]; exact h1, h2.pre hr.pre⟩
    · obtain rfl : i = q := by omega
      exact ⟨r, by rw [List.getElem?_append_right (by rw [h.len]; exact Nat.le_refl _), h.len, Nat.sub_self]; rfl, hd⟩
theorem Linked.snoc {k : Option (ByteArray → ByteArray)} {ks : List ByteArray} {L : List (List ByteArray)} {cur up : List ByteArray} (h : Linked k ks (L ++ [cur])) (h2 : 2 ≤ cur.length) (hn : Nodes k ks cur up) : Linked k ks (L ++ [cur] ++ [up]) := by
  intro i a b ha hb
  rcases snoc_get _ _ _ _ hb with kb | ⟨hi, kb⟩
  · rcases snoc_get _ _ _ _ ha with ka | ⟨hi, ka⟩
    · exact h i a b ka kb
    · have := (List.getElem?_eq_some_iff.1 kb).1; omega
  · rcases snoc_get _ _ _ _ ha with ka | ⟨hi2, ka⟩
    · rw [List.length_append, List.length_singleton] at hi
      have hl : i = L.length := by omega
      rw [hl, List.getElem?_append_right (Nat.le_refl _), Nat.sub_self] at ka
      simp at ka
      rw [kb, ← ka]
      exact ⟨h2, hn⟩
    · omega
/-- A row that is done is the next one's start. -/
theorem NewI.next {w W6 W : World} {B g gh : Nat} {k : Option (ByteArray → ByteArray)} (hk : VK k) {ks0 l : List ByteArray} {gt n c q : Nat} {rows : List (List ByteArray)} {cur up : List ByteArray} {vr vu : Value} {vs : List Value} {ks1 ks : List ByteArray}
    (hran : Ran B g gh k c ks0 ks1 w W6) (htree : TreeM w.heap.size gt g (rows ++ [cur]) vr vs W6) (hbud : c + 2 * cur.length ≤ 3 * n) (hfirst : ∃ row, (rows ++ [cur])[0]? = some row ∧ Leaves k ks1 l row) (hlinked : Linked k ks1 (rows ++ [cur])) (h2 : 2 ≤ cur.length)
    (hu : UpI W6 B g gh k ks1 cur q vu up ks W) (hq : q = (cur.length + 3) / 4) : NewI w B g gh k ks0 l gt n (c + q) (rows ++ [cur]) up vr vu vs ks W := by
  have hnodes : Nodes k ks cur up := ⟨by rw [hu.len, hq], fun i hi => hu.is i (by rw [← hu.len]; exact hi)⟩
  refine ⟨hran.trans hu.ran, htree.ran hran.vlt hu.ran, ⟨by rw [hu.len]; exact hu.out.row, fun b hb => Nat.le_trans hran.kp.size (hu.out.base b hb)⟩, by rw [hu.len]; omega, ?_, (hlinked.pre hu.ran.pre).snoc h2 hnodes, ?_, hnodes.size hk⟩
  · obtain ⟨row, h3, h4⟩ := hfirst
    exact ⟨row, by rw [List.getElem?_append_left (by simp)]; exact h3, h4.pre hu.ran.pre⟩
  · intro i v b h3 h4 h5
    have hi : i < (rows ++ [cur]).length := by rw [← htree.len]; exact (List.getElem?_eq_some_iff.1 h3).1
    have := (htree.inner i v _ h3 (List.getElem?_eq_getElem hi)).row.lt b h4
    have := hu.out.base b h5
    omega
theorem LeafI.app {w W W1 w5 : World} {B g gh : Nat} {k : Option (ByteArray → ByteArray)} {ks0 l : List ByteArray} {gt q cap cap2 H : Nat} {ao ao2 : Option Addr} {row ks ks' : List ByteArray} {s r : ByteArray} (hB : B ≤ w.heap.size) (hgt : gt = w.heap.size) (h : LeafI w B g gh k ks0 l gt q (.slice ao2 q cap2) row ks W) (hr : Ran B g gh k 1 ks ks' W W1) (hs : l[q]? = some s) (hd : Hd k ks' (leafT s) r) (o : Obj)
    (hown : Row w5 9 1 (.slice ao (q + 1) cap) (q + 1) (strs row ++ [.string r])) (hgrow : (W1.alloc o).grownBy w5 (Value.slice ao2 q cap2).ownBlock) (hat : (Value.slice ao (q + 1) cap).ownBlock = (Value.slice ao2 q cap2).ownBlock ∨ (Value.slice ao (q + 1) cap).ownBlock = some H) (hH : H = W1.heap.size + 1) :
    LeafI w B g gh k ks0 l gt (q + 1) (.slice ao (q + 1) cap) (row ++ [r]) ks' w5 := by
  have hra := h.ran.trans hr
  have hal : Below W1.heap.size W1 (W1.alloc o) := (Below.refl _ _).alloc (Nat.le_refl _) _
  have hgh := h.ran.vlt.2.2.1
  have hblk1 := hr.at_ h.blk (by omega)
  have hown1 := (h.out.ran h.ran.vlt hr).step hal
  refine ⟨(hra.below hal).own hgrow h.out.base hB, ?_, ?_, by rw [List.length_append, h.len]; rfl, fun i t hi ht => ?_⟩
  · exact (hgrow.block gt (by have := blk_lt hblk1; simp; omega) (hown1.row.ne_type (get_below hblk1) (by decide))).trans (get_below hblk1)
  · rw [strs_app]
    exact Own.app h.out.base hown hat (by rw [hH]; have := hra.kp.size; omega)
  · by_cases hiq : i < q
    · obtain ⟨r', h1, h2⟩ := h.is i t hiq ht
      exact ⟨r', by rw [List.getElem?_append_left (by rw [h.len]; exact hiq)]; exact h1, h2.pre hr.pre⟩
    · obtain rfl : i = q := by omega
      rw [hs] at ht
      cases ht
      exact ⟨r, by rw [List.getElem?_append_right (by rw [h.len]; exact Nat.le_refl _), h.len, Nat.sub_self]; rfl, hd⟩
set_option maxRecDepth 100000 in
set_option maxHeartbeats 3200000 in
theorem New_any {k : Option (ByteArray → ByteArray)} (HK : VK k) (B g gh : Nat) (ks : List ByteArray) (v : Value) (l : List ByteArray) (w : World) (h : Vlt w B g gh k ks) (hv : Strs w v l) (hl : l.length ≤ 1000) (hs : ∀ s ∈ l, s.size ≤ 500) (hn : ks.length < 1000000000) :
    Calls Try.prog 14 #[.pointer (some ⟨g, 0, none⟩), v] w fun e w' => ∃ gt ks' rows vr vs, e = .returned (.pointer (some ⟨gt, 0, none⟩)) ∧ TreeR k ks' l rows ∧ TreeM w.heap.size gt g rows vr vs w' ∧ Ran B g gh k (3 * l.length) ks ks' w w' := by
  obtain ⟨ao, cap, rfl, hcap, hmax⟩ := hv.form
  have hB := h.1
  have hgh := h.2.2.1
  obtain ⟨n, hnl⟩ : ∃ n, n = l.length := ⟨_, rfl⟩
  rw [← hnl] at hcap hl hv
  rw [← hnl]
  have hal := (Below.refl _ w).alloc (Nat.le_refl _) (.cells #[.pointer (some ⟨g, 0, none⟩), .slice none 0 0] 69 (0, 0))
  have HI0 := Lib.hid (show LeafI w B g gh k ks l w.heap.size 0 (.slice none 0 0) [] ks (w.alloc (.cells #[.pointer (some ⟨g, 0, none⟩), .slice none 0 0] 69 (0, 0))) from
    ⟨(Ran.refl h).below hal, get_top rfl, Own.nil _ _ _ _, rfl, fun i s hi _ => by omega⟩)
  have HN := Lib.hid hnl
  have HV := Lib.hid h
  have HL := Lib.hid hv
  have HS := Lib.hid hs
  have HK2 := Lib.hid HK
  obtain ⟨gt, hgt⟩ : ∃ g, g = w.heap.size := ⟨_, rfl⟩
  have HGT := Lib.hid hgt
  clear hnl hv hmax h hal hs HK
  go_enter Try.func14, Try.ntmps14
  go_wp2_with fail
  rw [← hgt] at HI0 ⊢
  generalize (w.alloc (.cells #[.pointer (some ⟨g, 0, none⟩), .slice none 0 0] 69 (0, 0))) = W0 at HI0 ⊢
  have HB := Lib.hid hB
  have HGH := Lib.hid hgh
  clear hgt hB hgh
  go_loopg [6, 16] n (fun j b i wr => ∃ (q : Nat) (v : Value) (row ks1 : List ByteArray), j + q = n ∧ i = .int .i64 (q : Int) ∧ b = v ∧ LeafI w B g gh k ks l gt q v row ks1 wr)
  case atStart => exact ⟨0, _, _, _, by omega, rfl, rfl, HI0.out⟩
  case round =>
    clear HI0
    obtain ⟨q, v, row, ks1, hk, rfl, hbv, hI⟩ := hrel
    have hbv := hbv.symm
    subst hbv
    by_cases hlt : q < n
    · obtain ⟨j, rfl⟩ : ∃ j, gk = j + 1 := ⟨gk - 1, by omega⟩
      have hlen : q < l.length := by rw [← HN.out]; exact hlt
      obtain ⟨gl, oo, rfl, hg, x0⟩ := (HL.out.ran HV.out hI.ran).get (i := q) hlen
      obtain ⟨f, hf⟩ : ∃ f, f = l[q] := ⟨_, rfl⟩
      have hfs : f.size ≤ 500 := by rw [hf]; exact HS.out _ (List.getElem_mem hlen)
      have hlq : l[q]? = some f := by rw [hf]; exact List.getElem?_eq_getElem hlen
      rw [← hf] at x0
      have u2 : (0 : Int) ≤ (q : Int) := by omega
      have u3 : (q : Int) < (n : Int) := by omega
      have hkj : j + (q + 1) = n := by omega
      have HKJ := Lib.hid hkj
      obtain ⟨ao2, cap2, rfl, hc2⟩ := hI.out.row.form
      have HLF := Lib.hid (leaf_any HK2.out.ok B g gh ks1 f wr hI.ran.vlt (by omega) (by have := hI.ran.len; omega))
      have HFC := Lib.hid hI
      have HLQ := Lib.hid hlq
      obtain ⟨i0, hi, hz0, hz1, hz2⟩ := info_parts infoStr
      have HII := Lib.hid hi
      have HZ0 := Lib.hid hz0
      have HZ1 := Lib.hid hz1
      have HZ2 := Lib.hid hz2
      have hq1000 : q ≤ 1000 := by omega
      clear hI hk hlt hkj hf hi hz0 hz1 hz2 hlq hlen
      go_wp2_with fail
      refine HLF.out.mono ?_
      rintro e W1 ⟨ks2, r, rfl, hd, hr⟩
      have HD := Lib.hid hd
      have HR := Lib.hid hr
      have HROW := Lib.hid (HFC.out.out.ran HFC.out.ran.vlt hr).row
      clear hd hr HLF
      go_wp2_with (refine wpList_append_row _ (by rfl) _ _ _ _ (by rfl) 9 i0 (.string ⟨#[]⟩) 1 16 Try.underlying22 HII.out HZ0.out HZ1.out HZ2.out rfl (by omega) _ q _ (by rfl) (HROW.out.alloc _) _ (by rfl) 1 [.string r] (Feeds.slice Try.underlying22 ⟨W1.heap.size, 0, none⟩ 1 1 _ (by rfl) (by simp [Value.oneCell']) (World.news_of_block (cs := #[.string r]) (t := 9) (fr := (0, 0)) (get_top rfl))) (by unfold maxLen; omega) (by omega) (W1.heap.size + 1) (by simp) ?_; intro ao5 cap5 w5 hown5 hgrow5 hat5; have HO5 := Lib.hid hown5; have HG5 := Lib.hid hgrow5; have HA5 := Lib.hid hat5; clear hown5 hgrow5 hat5)
      go_roundg j
      case measure => omega
      case rel => exact ⟨q + 1, _, row ++ [r], ks2, HKJ.out, by go_num, rfl, LeafI.app HB.out HGT.out HFC.out HR.out HLQ.out HD.out _ HO5.out HG5.out HA5.out rfl⟩
    · obtain rfl : gk = 0 := by omega
      obtain rfl : q = n := by omega
      have hN0 : NewI w B g gh k ks l gt q q [] row (.slice none 0 0) v [] ks1 wr := by
        have hlv : Leaves k ks1 l row := ⟨by rw [hI.len, HN.out], fun i s hs => hI.is i s (by rw [HN.out]; exact (List.getElem?_eq_some_iff.1 hs).1) hs⟩
        refine ⟨hI.ran, ⟨hI.blk, by rw [HGT.out]; exact Nat.le_refl _, Own.nil _ _ _ _, rfl, by simp, by simp⟩, by rw [hI.len]; exact hI.out, by rw [hI.len]; omega, ⟨row, rfl, hlv⟩, ?_, by simp, hlv.size HK2.out⟩
        intro i a b ha hb
        simp at hb
      have hl0 : row.length ≤ q := by rw [hI.len]; exact Nat.le_refl _
      have HN0 := Lib.hid hN0
      have HL0 := Lib.hid hl0
      clear hI hN0 hl0 hk hlt
      go_wp2_with fail
      go_loopg [6] q (fun j b wr => ∃ (c : Nat) (rows : List (List ByteArray)) (cur : List ByteArray) (vr vc : Value) (vs : List Value) (ks1 : List ByteArray), cur.length ≤ j ∧ rows.length + j = q ∧ b = vc ∧ NewI w B g gh k ks l gt q c rows cur vr vc vs ks1 wr)
      case atStart => exact ⟨_, _, _, _, _, _, _, HL0.out, by simp, rfl, HN0.out⟩
      case round =>
        clear HN0 HL0
        obtain ⟨c, rows, cur, vr, vc, vs, ks1, hcl, hrl, rfl, hI⟩ := hrel
        obtain ⟨m, hm⟩ : ∃ m, m = vs.length := ⟨_, rfl⟩
        have hmr : m ≤ 1000 := by rw [hm, hI.tree.len]; omega
        have hor := hI.tree.outer.row
        rw [← hm] at hor
        obtain ⟨aor, capr, rfl, hcr⟩ := hor.form
        obtain ⟨p, hp⟩ : ∃ p, p = cur.length := ⟨_, rfl⟩
        have hcr2 := hI.crow.row
        rw [← hp] at hcr2
        obtain ⟨aoc, capc, rfl, hcc⟩ := hcr2.form
        have b1 := (blk_cell hI.tree.blk 1).trans rfl
        have hgh := HGH.out
        have hgt0 := HGT.out
        have HFC := Lib.hid hI
        have HM := Lib.hid hm
        have HP := Lib.hid hp
        have HROW := Lib.hid hor
        have HBLK := Lib.hid hI.tree.blk
        have HNE := Lib.hid (hor.ne_type hI.tree.blk (by decide))
        rw [← hp] at hcl
        obtain ⟨i0, hi, hz0, hz1, hz2⟩ := info_parts infoStrs
        have HII := Lib.hid hi
        have HZ0 := Lib.hid hz0
        have HZ1 := Lib.hid hz1
        have HZ2 := Lib.hid hz2
        have hp1000 : p ≤ 1000 := by omega
        have HHG := Lib.hid hgh
        have HHT := Lib.hid hgt0
        clear hI hm hp hor hi hz0 hz1 hz2 hcr2 hgh hgt0
        by_cases h2 : p < 2
        · have i2 : (p : Int) < 2 := by omega
          go_wp2_with (refine wpList_append_row _ (by rfl) _ _ _ _ (by rfl) 22 i0 (.slice none 0 0) 1 24 Try.underlying67 HII.out HZ0.out HZ1.out HZ2.out rfl (by omega) _ m _ (by rfl) (HROW.out.alloc _) _ (by rfl) 1 [.slice aoc p capc] (Feeds.slice Try.underlying67 ⟨wr.heap.size, 0, none⟩ 1 1 _ (by rfl) (by simp [Value.oneCell']) (World.news_of_block (cs := #[.slice aoc p capc]) (t := 22) (fr := (0, 0)) (get_top rfl))) (by unfold maxLen; omega) (by omega) (wr.heap.size + 1) (by simp) ?_; intro ao5 cap5 w5 hown5 hgrow5 hat5; have hb5 := (hgrow5.block gt (by have := blk_lt HBLK.out; simp; omega) HNE.out).trans (get_below HBLK.out); have d1 := (blk_cell hb5 1).trans rfl; have f1 := blk_frozen hb5 1; have HO5 := Lib.hid hown5; have HG5 := Lib.hid hgrow5; have HA5 := Lib.hid hat5; clear hown5 hgrow5 hat5 hb5)
          go_ret
          have hpush := TreeM.push HFC.out.tree HM.out HFC.out.crow HFC.out.dist _ HO5.out HG5.out HA5.out HFC.out.ran.kp.size
          refine ⟨gt, ks1, rows ++ [cur], _, _, rfl, ⟨HFC.out.first, HFC.out.linked, ⟨cur, by simp, by rw [← HP.out]; exact h2⟩⟩, hpush.1, ?_⟩
          exact (((HFC.out.ran.below ((Below.refl _ wr).alloc (Nat.le_refl _) _)).own HG5.out HFC.out.tree.outer.base HB.out).set (p := ⟨gt, 1, none⟩) (by rw [HGT.out]; exact Nat.le_refl _) HB.out _).mono (by have := HFC.out.bud; omega)
        · have i2 : ¬ (p : Int) < 2 := by omega
          obtain ⟨j, rfl⟩ : ∃ j, gk = j + 1 := ⟨gk - 1, by omega⟩
          have w1 : wrap64 ((p : Int) + 4) = (p : Int) + 4 := IntWalk.wrap64_in _ ⟨by omega, by omega⟩
          have w2 : wrap64 ((p : Int) + 4 - 1) = (p : Int) + 4 - 1 := IntWalk.wrap64_in _ ⟨by omega, by omega⟩
          go_wp2_with (refine wpList_append_row _ (by rfl) _ _ _ _ (by rfl) 22 i0 (.slice none 0 0) 1 24 Try.underlying67 HII.out HZ0.out HZ1.out HZ2.out rfl (by omega) _ m _ (by rfl) (HROW.out.alloc _) _ (by rfl) 1 [.slice aoc p capc] (Feeds.slice Try.underlying67 ⟨wr.heap.size, 0, none⟩ 1 1 _ (by rfl) (by simp [Value.oneCell']) (World.news_of_block (cs := #[.slice aoc p capc]) (t := 22) (fr := (0, 0)) (get_top rfl))) (by unfold maxLen; omega) (by omega) (wr.heap.size + 1) (by simp) ?_; intro ao5 cap5 w5 hown5 hgrow5 hat5; have hb5 := (hgrow5.block gt (by have := blk_lt HBLK.out; simp; omega) HNE.out).trans (get_below HBLK.out); have d1 := (blk_cell hb5 1).trans rfl; have f1 := blk_frozen hb5 1; have HO5 := Lib.hid hown5; have HG5 := Lib.hid hgrow5; have HA5 := Lib.hid hat5; clear hown5 hgrow5 hat5 hb5)
          have hpush := TreeM.push HFC.out.tree HM.out HFC.out.crow HFC.out.dist _ HO5.out HG5.out HA5.out HFC.out.ran.kp.size
          have HT6 := Lib.hid hpush.1
          have HC6 := Lib.hid hpush.2
          have HR6 := Lib.hid (((HFC.out.ran.below ((Below.refl _ wr).alloc (Nat.le_refl _) _)).own HG5.out HFC.out.tree.outer.base HB.out).set (p := ⟨gt, 1, none⟩) (by rw [HGT.out]; exact Nat.le_refl _) HB.out (.slice ao5 (m + 1) cap5))
          obtain ⟨M, hM⟩ : ∃ M : Nat, M = (p + 3) / 4 := ⟨_, rfl⟩
          have hM2 : ((p : Int) + 4 - 1) / 4 = (M : Int) := by omega
          have HM3 := Lib.hid hM
          have hMj : M ≤ j := by omega
          have hMp : ∀ q2, q2 < M → 4 * q2 < p := by intro q2 h; omega
          have HMP := Lib.hid hMp
          have HMJ := Lib.hid hMj
          have HH2 := Lib.hid h2
          have HRL := Lib.hid hrl
          have HSZ := Lib.hid HFC.out.sz
          have HBUD := Lib.hid HFC.out.bud
          have HFI := Lib.hid HFC.out.first
          have HLI := Lib.hid HFC.out.linked
          have hM300 : M ≤ 1000 := by omega
          rw [hM2]
          clear hpush hM hM2 hMp hMj d1 f1 HO5 HG5 HA5 HROW HBLK HNE b1 HFC h2 hrl i2 w1 w2 HM hcl
          generalize (w5.setCell ⟨gt, 1, none⟩ (.slice ao5 (m + 1) cap5)) = W6 at HT6 HC6 HR6 ⊢
          go_loopg [9, 46] M (fun j b i wr => ∃ (q2 : Nat) (v2 : Value) (up ks2 : List ByteArray), j + q2 = M ∧ i = .int .i64 (q2 : Int) ∧ b = v2 ∧ UpI W6 B g gh k ks1 cur q2 v2 up ks2 wr)
          case atStart => exact ⟨0, _, [], ks1, by omega, rfl, rfl, ⟨Ran.refl HR6.out.vlt, Own.nil _ _ _ _, rfl, fun i hi => by omega⟩⟩
          case round =>
            obtain ⟨q2, v2, up, ks2, hk2, rfl, hbv, hU⟩ := hrel
            have hbv := hbv.symm
            subst hbv
            by_cases hlt2 : q2 < M
            · obtain ⟨j2, rfl⟩ : ∃ j, gk = j + 1 := ⟨gk - 1, by omega⟩
              have hst : Strs wr (.slice aoc p capc) cur := (Strs.of_row HC6.out.row).ran HR6.out.vlt hU.ran
              have hb1000 : ks2.length < 1000000000000 := by
                have := hU.ran.len
                have := HR6.out.len
                have := HBUD.out
                omega
              have HGR := Lib.hid (group_any _ cur q2 wr hst (by rw [← HP.out]; exact HMP.out q2 hlt2) (by rw [← HP.out]; omega))
              have HND := Lib.hid (fun (v' : Value) (h : Strs wr v' (groupL cur q2)) => node_any HK2.out.ok B g gh ks2 v' (groupL cur q2) wr hU.ran.vlt h (by rw [groupL_len]; omega) (fun s hs => by have := HSZ.out s (groupL_mem hs); omega) hb1000)
              have u2 : (0 : Int) ≤ (q2 : Int) := by omega
              have u3 : (q2 : Int) < (M : Int) := by omega
              have hkj : j2 + (q2 + 1) = M := by omega
              have HKJ := Lib.hid hkj
              obtain ⟨ao2, cap2, rfl, hc2⟩ := hU.out.row.form
              have HU := Lib.hid hU
              obtain ⟨i1, hi, hz0, hz1, hz2⟩ := info_parts infoStr
              have HJI := Lib.hid hi
              have HJ0 := Lib.hid hz0
              have HJ1 := Lib.hid hz1
              have HJ2 := Lib.hid hz2
              have hq1000 : q2 ≤ 1000 := by omega
              clear hU hst hk2 hlt2 hkj hi hz0 hz1 hz2 hb1000
              go_wp2_with fail
              refine HGR.out.mono ?_
              rintro e W7 ⟨v7, rfl, hs7, hw7⟩
              subst hw7
              obtain ⟨ao7, cap7, rfl, _, _⟩ := hs7.form
              have HND2 := Lib.hid (HND.out _ hs7)
              clear hs7 HGR HND
              go_wp2_with fail
              refine HND2.out.mono ?_
              rintro e W8 ⟨ks3, r, rfl, hd, hr⟩
              have HD := Lib.hid hd
              have HR := Lib.hid hr
              have HROU := Lib.hid (HU.out.out.ran HU.out.ran.vlt hr).row
              clear hd hr HND2
              go_wp2_with (refine wpList_append_row _ (by rfl) _ _ _ _ (by rfl) 9 i1 (.string ⟨#[]⟩) 1 16 Try.underlying22 HJI.out HJ0.out HJ1.out HJ2.out rfl (by omega) _ q2 _ (by rfl) (HROU.out.alloc _) _ (by rfl) 1 [.string r] (Feeds.slice Try.underlying22 ⟨W8.heap.size, 0, none⟩ 1 1 _ (by rfl) (by simp [Value.oneCell']) (World.news_of_block (cs := #[.string r]) (t := 9) (fr := (0, 0)) (get_top rfl))) (by unfold maxLen; omega) (by omega) (W8.heap.size + 1) (by simp) ?_; intro ao8 cap8 w8 hown8 hgrow8 hat8; have HO8 := Lib.hid hown8; have HG8 := Lib.hid hgrow8; have HA8 := Lib.hid hat8; clear hown8 hgrow8 hat8)
              go_roundg j2
              case measure => omega
              case rel => exact ⟨q2 + 1, _, up ++ [r], ks3, HKJ.out, by go_num, rfl, UpI.app (by have := HR6.out.vlt.1; exact this) HU.out HR.out HD.out _ HO8.out HG8.out HA8.out rfl⟩
            · obtain rfl : gk = 0 := by omega
              obtain rfl : q2 = M := by omega
              have hN := NewI.next HK2.out HR6.out HT6.out HBUD.out HFI.out HLI.out (by rw [← HP.out]; have := HH2.out; omega) hU (by rw [← HP.out]; exact HM3.out)
              have hup : up.length ≤ j := by rw [hU.len]; exact HMJ.out
              obtain ⟨ao2, cap2, rfl, hc2⟩ := hU.out.row.form
              have HNX := Lib.hid hN
              have HUP := Lib.hid hup
              clear hU hN hup hk2 hlt2
              go_wp2_with fail
              go_roundg j
              case measure => omega
              case rel => exact ⟨_, _, _, _, _, _, _, HUP.out, by have := HRL.out; simp; omega, rfl, HNX.out⟩
end Go.Proofs.Ytjoilobbopdcpaa.B
