/-
  tree.Set over the real vault, walked.
-/
import Derived.Test.YtjoilobbopdcpaaVaultR
import Derived.Test.YtjoilobbopdcpaaTreeP
import Derived.Deep.RegionHeld3
namespace Go.Proofs.Ytjoilobbopdcpaa.B
open Go.RowKit
set_option linter.unusedVariables false
set_option linter.unusedSimpArgs false

theorem Vlt.anyks {W : World} {B g gh : Nat} {f : ByteArray → ByteArray} {ks : List ByteArray} (ks' : List ByteArray) (h : Vlt W B g gh (some f) ks) : Vlt W B g gh (some f) ks' := h
theorem Row.set {w : World} {e : TypeId} {n cap g : Nat} {xs : List Value} (h : Row w e 1 (.slice (some ⟨g, 0, none⟩) n cap) n xs) (i : Nat) (u : Value) : Row (w.setCell ⟨g, i, none⟩ u) e 1 (.slice (some ⟨g, 0, none⟩) n cap) n (xs.set i u) := by
  obtain ⟨h1, h2⟩ := h
  refine ⟨by rw [List.length_set]; exact h1, ?_⟩
  rcases h2 with ⟨hz, _⟩ | ⟨g', cap', cur, lo, hi, he, hg, hf, hc, hm, hs, ht⟩
  · cases hz
  · simp at he
    obtain ⟨rfl, rfl⟩ := he
    refine .inr ⟨g, cap, cur.setIfInBounds i u, lo, hi, rfl, blk_set hg i u, hf, hc, hm, by simp [hs], ?_⟩
    rw [← ht, Array.toList_setIfInBounds, List.take_set]
theorem Row.frozen {w : World} {e : TypeId} {n cap g : Nat} {xs : List Value} (h : Row w e 1 (.slice (some ⟨g, 0, none⟩) n cap) n xs) {j : Nat} (hj : j < n) : w.frozen? ⟨g, j, none⟩ = false := by
  obtain ⟨h1, h2⟩ := h
  rcases h2 with ⟨hz, _⟩ | ⟨g', cap', cur, lo, hi, he, hg, hf, hc, hm, hs, ht⟩
  · cases hz
  · simp at he
    obtain ⟨rfl, rfl⟩ := he
    unfold World.frozen?
    simp only [hg]
    rcases hf with hf | hf
    · simp; omega
    · simp; omega
theorem strs_set (l : List ByteArray) (i : Nat) (x : ByteArray) : strs (l.set i x) = (strs l).set i (.string x) := by simp [strs, List.map_set]
theorem set_get {α : Type} {l : List α} {k i : Nat} {x y : α} (h : (l.set k x)[i]? = some y) : (i = k ∧ y = x ∧ k < l.length) ∨ (i ≠ k ∧ l[i]? = some y) := by
  by_cases hi : i = k
  · subst hi
    have hlt : i < l.length := by
      have := (List.getElem?_eq_some_iff.1 h).1
      rwa [List.length_set] at this
    rw [List.getElem?_set_self hlt] at h
    exact .inl ⟨rfl, (Option.some.inj h).symm, hlt⟩
  · rw [List.getElem?_set_ne (fun e => hi e.symm)] at h
    exact .inr ⟨hi, h⟩
theorem TreeM.set {b0 gt g : Nat} {R : List (List ByteArray)} {vr : Value} {vs : List Value} {W : World} (h : TreeM b0 gt g R vr vs W) {k i bq n cap : Nat} {row : List ByteArray} (hv : vs[k]? = some (.slice (some ⟨bq, 0, none⟩) n cap)) (hr : R[k]? = some row) (hn : n = row.length) (x : ByteArray) :
    TreeM b0 gt g (R.set k (row.set i x)) vr vs (W.setCell ⟨bq, i, none⟩ (.string x)) := by
  have hk : Keeps (fun b => b = bq) W (W.setCell ⟨bq, i, none⟩ (.string x)) := Keeps.setCell (S := fun b => b = bq) (Keeps.refl _ _) (fun _ => rfl) _
  have hin := h.inner k _ row hv hr
  subst hn
  refine ⟨hk.at_ h.blk (fun e => hin.row.ne_type h.blk (by decide) (by rw [e]; rfl)), h.base, ⟨h.outer.row.kept hk (fun b hb e => h.outer.row.ne_row hin.row (by decide) hb (by rw [e]; rfl)), h.outer.base⟩, by rw [List.length_set]; exact h.len, ?_, h.dist⟩
  intro j v rw' h1 h2
  rcases set_get h2 with ⟨rfl, rfl, _⟩ | ⟨hne, h3⟩
  · rw [hv] at h1
    cases h1
    rw [List.length_set, strs_set]
    exact ⟨hin.row.set i _, hin.base⟩
  · have ho := h.inner j v rw' h1 h3
    exact ⟨ho.row.kept hk (fun b hb e => hne (h.dist j k v _ b h1 hv hb (by rw [e]; rfl))), ho.base⟩
/-- Its rows' hashes have 32 bytes. -/
theorem Linked.sizes {R : List (List ByteArray)} {l : List ByteArray} (h0 : ∃ row, R[0]? = some row ∧ Leaves (some shaF) [] l row) : ∀ (p : Nat), (∀ a x y, a < p → R[a]? = some x → R[a + 1]? = some y → 2 ≤ x.length ∧ Nodes (some shaF) [] x y) → ∀ x, R[p]? = some x → p < R.length → ∀ t ∈ x, t.size = 32
  | 0, _, x, hx, _ => by
    obtain ⟨row, h1, h2⟩ := h0
    rw [hx] at h1
    cases h1
    exact h2.size vk_real
  | p + 1, h, x, hx, hl => by
    have := h p (R[p]'(by omega)) x (by omega) (List.getElem?_eq_getElem _) hx
    exact this.2.size vk_real
/-- The blocks of the tree's rows. -/
def TS (vs : List Value) (k : Nat) : Prop := ∃ (i : Nat) (v : Value), vs[i]? = some v ∧ v.ownBlock = some k
theorem TreeM.ts {b0 gt g : Nat} {R : List (List ByteArray)} {vr : Value} {vs : List Value} {W : World} (h : TreeM b0 gt g R vr vs W) {k : Nat} (hk : TS vs k) : b0 ≤ k ∧ k < W.heap.size ∧ ∃ cs fr, W.heap[k]? = some (.cells cs 9 fr) := by
  obtain ⟨i, v, h1, h2⟩ := hk
  have hi : i < R.length := by rw [← h.len]; exact (List.getElem?_eq_some_iff.1 h1).1
  have ho := h.inner i v _ h1 (List.getElem?_eq_getElem hi)
  refine ⟨ho.base k h2, ho.row.lt k h2, ?_⟩
  rcases ho.row.2 with ⟨rfl, _⟩ | ⟨g, cap, cur, lo, hi, rfl, hg, _⟩
  · simp [Value.ownBlock] at h2
  · simp [Value.ownBlock] at h2
    subst h2
    exact ⟨_, _, hg⟩
/-- What stands at a round of Set. -/
structure SetI (B b0 gt g gh : Nat) (l : List ByteArray) (rows R : List (List ByteArray)) (vr : Value) (vs : List Value) (w W : World) (p j : Nat) : Prop where
  vlt : Vlt W B g gh (some shaF) []
  mem : TreeM b0 gt g R vr vs W
  kp : Keeps (TS vs) w W
  len : R.length = rows.length
  first : ∃ row, R[0]? = some row ∧ Leaves (some shaF) [] l row
  linked : ∀ a x y, a < p → R[a]? = some x → R[a + 1]? = some y → 2 ≤ x.length ∧ Nodes (some shaF) [] x y
  rest : ∀ a, p < a → R[a]? = rows[a]?
  cur : ∃ x y, R[p]? = some x ∧ rows[p]? = some y ∧ j < y.length ∧ x.length = y.length ∧ ∀ q, q ≠ j → x[q]? = y[q]?
theorem SetI.size {B b0 gt g gh : Nat} {l : List ByteArray} {rows R : List (List ByteArray)} {vr : Value} {vs : List Value} {w W : World} {p j : Nat} (h : SetI B b0 gt g gh l rows R vr vs w W p j) {x : List ByteArray} (hx : R[p]? = some x) : ∀ t ∈ x, t.size = 32 :=
  Linked.sizes h.first p h.linked x hx (List.getElem?_eq_some_iff.1 hx).1
theorem groupL_same {x y : List ByteArray} {j : Nat} (h : ∀ q, q ≠ j → x[q]? = y[q]?) {p : Nat} (hp : p ≠ j / 4) : groupL x p = groupL y p := by
  apply List.ext_getElem?
  intro q
  simp only [groupL]
  by_cases hq : q < 4
  · rw [List.getElem?_take_of_lt hq, List.getElem?_take_of_lt hq, List.getElem?_drop, List.getElem?_drop]
    exact h _ (by omega)
  · rw [List.getElem?_eq_none (by rw [List.length_take]; omega), List.getElem?_eq_none (by rw [List.length_take]; omega)]
theorem SetI.start {B b0 gt g gh : Nat} {l : List ByteArray} {rows : List (List ByteArray)} {vr : Value} {vs : List Value} {w W1 : World} {i bq n cap : Nat} {s : ByteArray} {row0 : List ByteArray} (ht : TreeR (some shaF) [] l rows) (hv : Vlt W1 B g gh (some shaF) []) (hm : TreeM b0 gt g rows vr vs W1) (hb : Below w.heap.size w W1) (hB : B ≤ b0)
    (h0 : rows[0]? = some row0) (hvs : vs[0]? = some (.slice (some ⟨bq, 0, none⟩) n cap)) (hn : n = row0.length) (hi : i < n) :
    SetI B b0 gt g gh (l.set i s) rows (rows.set 0 (row0.set i (shaF (leafT s)))) vr vs w (W1.setCell ⟨bq, i, none⟩ (.string (shaF (leafT s)))) 0 i := by
  have hbq : b0 ≤ bq := (hm.inner 0 _ row0 hvs h0).base bq rfl
  have hpos : 0 < rows.length := (List.getElem?_eq_some_iff.1 h0).1
  refine ⟨hv.same (by simp [World.setCell]) (fun b hb => Below.heap_setCell _ _ _ _ (by show b ≠ bq; omega)), hm.set hvs h0 hn _, (Keeps.of_below (S := TS vs) hb).setCell (p := ⟨bq, i, none⟩) (fun _ => ⟨0, _, hvs, rfl⟩) _, List.length_set, ⟨row0.set i (shaF (leafT s)), List.getElem?_set_self hpos, ?_⟩, fun a x y ha => by omega, fun a ha => List.getElem?_set_ne (by omega), ⟨_, row0, List.getElem?_set_self hpos, h0, by omega, List.length_set, fun q hq => List.getElem?_set_ne (fun e => hq e.symm)⟩⟩
  obtain ⟨⟨row, h1, h2, h3⟩, _⟩ := ht
  rw [h0] at h1
  cases h1
  refine ⟨by rw [List.length_set, List.length_set]; exact h2, fun a t ha => ?_⟩
  rcases set_get ha with ⟨rfl, rfl, h4⟩ | ⟨hne, h4⟩
  · exact ⟨_, List.getElem?_set_self (by omega), rfl⟩
  · obtain ⟨r, h5, h6⟩ := h3 a t h4
    exact ⟨r, by rw [List.getElem?_set_ne (fun e => hne e.symm)]; exact h5, h6⟩
theorem SetI.next {B b0 gt g gh : Nat} {l l0 : List ByteArray} {rows R : List (List ByteArray)} {vr : Value} {vs : List Value} {w W W1 : World} {p j bq n cap : Nat} {x rq : List ByteArray} (ht : TreeR (some shaF) [] l0 rows) (h : SetI B b0 gt g gh l rows R vr vs w W p j) (hp : p + 1 < rows.length)
    (hx : R[p]? = some x) (hq : rows[p + 1]? = some rq) (hv : Vlt W1 B g gh (some shaF) []) (hb : Below W.heap.size W W1) (hB : B ≤ b0) (hbW : b0 ≤ W.heap.size) (hvs : vs[p + 1]? = some (.slice (some ⟨bq, 0, none⟩) n cap)) (hn : n = rq.length) :
    SetI B b0 gt g gh l rows (R.set (p + 1) (rq.set (j / 4) (shaF (nodeT (groupL x (j / 4)))))) vr vs w (W1.setCell ⟨bq, j / 4, none⟩ (.string (shaF (nodeT (groupL x (j / 4)))))) (p + 1) (j / 4) := by
  have hm := h.mem.below hb
  have hRq : R[p + 1]? = some rq := by rw [h.rest _ (by omega)]; exact hq
  have hbq : b0 ≤ bq := (hm.inner (p + 1) _ rq hvs hRq).base bq rfl
  have hlt : p + 1 < R.length := by rw [h.len]; exact hp
  obtain ⟨x', y, k1, k2, k3, k4, k5⟩ := h.cur
  rw [hx] at k1
  cases k1
  have hnod := ht.linked p y rq k2 hq
  have hjl : j / 4 < rq.length := by rw [hnod.2.1]; omega
  refine ⟨hv.same (by simp [World.setCell]) (fun b hb => Below.heap_setCell _ _ _ _ (by show b ≠ bq; omega)), hm.set hvs hRq hn _, (h.kp.trans (Keeps.of_below (S := TS vs) hb) (fun _ _ h => h)).setCell (p := ⟨bq, j / 4, none⟩) (fun _ => ⟨p + 1, _, hvs, rfl⟩) _, by rw [List.length_set]; exact h.len, ?_, ?_, fun a ha => by rw [List.getElem?_set_ne (by omega)]; exact h.rest a (by omega), ⟨_, rq, List.getElem?_set_self hlt, hq, hjl, List.length_set, fun q hq => List.getElem?_set_ne (fun e => hq e.symm)⟩⟩
  · obtain ⟨row, h1, h2⟩ := h.first
    exact ⟨row, by rw [List.getElem?_set_ne (by omega)]; exact h1, h2⟩
  · intro a u v ha hu hv'
    rw [List.getElem?_set_ne (by omega)] at hu
    rcases set_get hv' with ⟨he, rfl, _⟩ | ⟨hne, h4⟩
    · obtain rfl : a = p := by omega
      rw [hx] at hu
      cases hu
      refine ⟨by rw [k4]; exact hnod.1, by rw [List.length_set, k4]; exact hnod.2.1, fun q hql => ?_⟩
      by_cases hqj : q = j / 4
      · subst hqj
        exact ⟨_, List.getElem?_set_self hjl, rfl⟩
      · rw [List.length_set] at hql
        obtain ⟨r, h5, h6⟩ := hnod.2.2 q hql
        rw [List.getElem?_set_ne (fun e => hqj e.symm), groupL_same k5 hqj]
        exact ⟨r, h5, h6⟩
    · exact h.linked a u v (by omega) hu h4
theorem SetI.done {B b0 gt g gh : Nat} {l l0 : List ByteArray} {rows R : List (List ByteArray)} {vr : Value} {vs : List Value} {w W : World} {p j : Nat} (ht : TreeR (some shaF) [] l0 rows) (h : SetI B b0 gt g gh l rows R vr vs w W p j) (hp : p + 1 = rows.length) : TreeR (some shaF) [] l R := by
  refine ⟨h.first, fun a x y h1 h2 => h.linked a x y ?_ h1 h2, ?_⟩
  · have := (List.getElem?_eq_some_iff.1 h2).1
    rw [h.len] at this
    omega
  · obtain ⟨x, y, k1, k2, k3, k4, k5⟩ := h.cur
    obtain ⟨top, h1, h2⟩ := ht.last
    rw [show rows.length - 1 = p by omega, k2] at h1
    cases h1
    exact ⟨x, by rw [h.len, show rows.length - 1 = p by omega]; exact k1, by omega⟩
theorem set_far (w : World) {a b : Nat} (h : a ≠ b) (i j : Nat) (u : Value) : (w.setCell ⟨b, i, none⟩ u).cell? ⟨a, j, none⟩ = w.cell? ⟨a, j, none⟩ := World.cell?_of_block (Below.heap_setCell _ _ _ _ h)
def SetPost (B b0 gt g gh : Nat) (l : List ByteArray) (vr : Value) (vs : List Value) (w : World) (e : Ending) (W : World) : Prop :=
  e = .returned (.int .i64 0) ∧ ∃ rows, TreeR (some shaF) [] l rows ∧ TreeM b0 gt g rows vr vs W ∧ Vlt W B g gh (some shaF) [] ∧ Keeps (TS vs) w W
set_option maxRecDepth 100000 in
set_option maxHeartbeats 6400000 in
theorem Set_in (B b0 gt g gh : Nat) (l : List ByteArray) (rows : List (List ByteArray)) (vr : Value) (vs : List Value) (w : World) (hv : Vlt w B g gh (some shaF) []) (ht : TreeR (some shaF) [] l rows) (hm : TreeM b0 gt g rows vr vs w) (hB : B ≤ b0) (hbw : b0 ≤ w.heap.size) (hl : l.length ≤ 1000) (i0 : Nat) (hi : i0 < l.length) (s : ByteArray) (hs : s.size ≤ 500) :
    Calls Try.prog 20 #[.pointer (some ⟨gt, 0, none⟩), .int .i64 i0, .string s] w (SetPost B b0 gt g gh (l.set i0 s) vr vs w) := by
  have hn := ht.pos
  have hcn := ht.count
  have hl0 := ht.len0
  obtain ⟨ob, capr, v0, rfl, hob, hv0, x0, ho0⟩ := hm.at_ hn
  obtain ⟨row0, hr0⟩ : ∃ r, r = rows.getD 0 [] := ⟨_, rfl⟩
  have hg0 : rows[0]? = some row0 := by rw [hr0]; simp [List.getD, hn]
  rw [← hr0] at ho0 hl0
  obtain ⟨bq, cap0, rfl, hc0, hlt0⟩ := ho0.row.form_pos (by omega)
  have y0 : w.cell? ⟨bq, i0, none⟩ = some (.string (row0[i0]'(by omega))) := ho0.row.cells i0 _ (by simp [strs])
  have f0 := ho0.row.frozen (j := i0) (by omega)
  obtain ⟨n, hnn⟩ : ∃ n, n = rows.length := ⟨_, rfl⟩
  obtain ⟨m, hmm⟩ : ∃ m, m = row0.length := ⟨_, rfl⟩
  have hlt : i0 < m := by omega
  have hm1000 : m ≤ 1000 := by omega
  generalize row0[i0]'(by omega) = old at y0
  have hcap : m ≤ cap0 := by omega
  rw [← hmm] at ho0 x0 hv0
  rw [← hnn] at hn hcn
  have b1 := (blk_cell hm.blk 1).trans rfl
  have b2 := (blk_cell hm.blk 0).trans rfl
  rw [← hnn] at b1
  have HTN := Lib.hid (tnone_any gt g _ n capr w (by rw [hnn]; exact hm.blk) hn (by omega))
  have HLF := Lib.hid (fun W (hb : Below w.heap.size w W) => leaf_any hash_real B g gh [] s W (hv.same hb.size (fun i hi => hb.block i (Nat.lt_of_lt_of_le hi hv.1))) (by omega) (by decide))
  have HM := Lib.hid hm
  have HT := Lib.hid ht
  have HN := Lib.hid hnn
  have HST := Lib.hid (fun W1 (hb : Below w.heap.size w W1) (hvv : Vlt W1 B g gh (some shaF) []) => SetI.start (s := s) (i := i0) ht hvv (hm.below hb) hb hB hg0 hv0 hmm hlt)
  have z1 : ¬ (i0 : Int) < 0 := by omega
  have z2 : ¬ (m : Int) ≤ (i0 : Int) := by omega
  have z3 : (i0 : Int) < (m : Int) := by omega
  have z4 : (0 : Int) ≤ (i0 : Int) := by omega
  have hn1000 : n ≤ 1001 := by omega
  have zn : (0 : Int) < (n : Int) := by omega
  have HG := Lib.hid (And.intro hob (And.intro hlt0 (And.intro (blk_lt hm.blk) (And.intro (fun e : ob = bq => hm.outer.row.ne_row ho0.row (by decide) (b := bq) (by rw [e]; rfl) rfl) (fun e : gt = bq => ho0.row.ne_type hm.blk (by decide) (by rw [e]; rfl))))))
  have HI0 := Lib.hid hi
  have HLEN := Lib.hid hl
  have HBW := Lib.hid hbw
  have HBB := Lib.hid hB
  clear hv ht hm hl ho0 hv0 hr0 hg0 hnn hmm hlt hcn hl0 hc0 hi hob hlt0
  go_enter Try.func20, Try.ntmps20
  go_wp2_with fail
  refine HTN.out.mono ?_
  rintro e W1 ⟨rfl, rfl⟩
  go_wp2_with fail
  have hne1 : gt ≠ bq := HG.out.2.2.2.2
  have hne2 : ob ≠ bq := HG.out.2.2.2.1
  go_region_held3 (fun w' => w'.cell? ⟨gt, 0, none⟩ = some (.pointer (some ⟨g, 0, none⟩)) ∧ w'.cell? ⟨gt, 1, none⟩ = some (.slice (some ⟨ob, 0, none⟩) n capr) ∧ w'.cell? ⟨ob, 0, none⟩ = some (.slice (some ⟨bq, 0, none⟩) m cap0)) (first | exact ⟨b2, b1, x0⟩ | exact x7 | exact ⟨(set_far _ hne1 _ _ _).trans x7.1, (set_far _ hne1 _ _ _).trans x7.2.1, (set_far _ hne2 _ _ _).trans x7.2.2⟩) (first | (go_at_call 26; refine (HLF.out _ (by first | exact Below.refl _ _ | exact (Below.refl _ _).drew)).mono ?_; rintro e W7 ⟨ks', r, rfl, hd, hR⟩; have hb7 := hR.real; have x7 : W7.cell? ⟨gt, 0, none⟩ = some (.pointer (some ⟨g, 0, none⟩)) ∧ W7.cell? ⟨gt, 1, none⟩ = some (.slice (some ⟨ob, 0, none⟩) n capr) ∧ W7.cell? ⟨ob, 0, none⟩ = some (.slice (some ⟨bq, 0, none⟩) m cap0) := ⟨(hb7.cell (p := ⟨gt, 0, none⟩) HG.out.2.2.1).trans b2, (hb7.cell (p := ⟨gt, 1, none⟩) HG.out.2.2.1).trans b1, (hb7.cell (p := ⟨ob, 0, none⟩) HG.out.1).trans x0⟩; have y7 := (hb7.cell (p := ⟨bq, i0, none⟩) HG.out.2.1).trans y0; have f7 := (hb7.frozen (p := ⟨bq, i0, none⟩) HG.out.2.1).trans f0; have HB7 := Lib.hid hb7; have HV7 := Lib.hid hR.vlt; have HD7 := Lib.hid hd; clear hb7 hR hd))
  obtain rfl := HD7.out
  have hI1 := HST.out W7 ((Below.refl _ W1).drew.trans HB7.out) (HV7.out.anyks [])
  have HI1 := Lib.hid hI1
  clear hI1 HST HLF HB7 HV7 HD7 x7 y7 f7 b1 b2 x0 y0 f0 hne1 hne2 z1 z2 z3 z4 HTN HM
  generalize (W7.setCell ⟨bq, i0, none⟩ (.string (shaF (leafT s)))) = W8 at HI1 ⊢
  generalize (rows.set 0 (row0.set i0 (shaF (leafT s)))) = R1 at HI1
  go_wp2_with fail
  go_loopg [1, 7] (n - 1) (fun j ti tk wr => ∃ (p i : Nat) (R : List (List ByteArray)), j + p = n - 1 ∧ ti = .int .i64 (i : Int) ∧ tk = .int .i64 ((p + 1 : Nat) : Int) ∧ SetI B b0 gt g gh (l.set i0 s) rows R (.slice (some ⟨ob, 0, none⟩) rows.length capr) vs W1 wr p i)
  case atStart => exact ⟨0, i0, R1, by omega, rfl, rfl, HI1.out⟩
  case round =>
    clear HI1
    obtain ⟨p, i, R, hk, rfl, rfl, hI⟩ := hrel
    have hblk := hI.mem.blk
    rw [← HN.out] at hblk
    have b1 := (blk_cell hblk 1).trans rfl
    have b2 := (blk_cell hblk 0).trans rfl
    by_cases hlt : p < n - 1
    · obtain ⟨j, rfl⟩ : ∃ j, gk = j + 1 := ⟨gk - 1, by omega⟩
      have hkj : j + (p + 1) = n - 1 := by omega
      have HKJ := Lib.hid hkj
      have hrl := hI.len
      obtain ⟨_, _, vp, he, _, hvp, xp, hop⟩ := hI.mem.at_ (i := p) (by rw [hrl, ← HN.out]; omega)
      simp at he
      obtain ⟨rfl, hnx, rfl⟩ := he
      obtain ⟨_, _, vq, he, _, hvq, xq, hoq⟩ := hI.mem.at_ (i := p + 1) (by rw [hrl, ← HN.out]; omega)
      simp at he
      obtain ⟨rfl, hnx2, rfl⟩ := he
      obtain ⟨x, y, k1, k2, k3, k4, k5⟩ := hI.cur
      have hpl : p < R.length := by rw [hrl, ← HN.out]; omega
      have hql : p + 1 < R.length := by rw [hrl, ← HN.out]; omega
      have hgx : R.getD p [] = x := by rw [List.getD, k1]; rfl
      obtain ⟨rq, hrq⟩ : ∃ r, r = R.getD (p + 1) [] := ⟨_, rfl⟩
      have hRq : R[p + 1]? = some rq := by rw [hrq]; simp [List.getD, hql]
      have hrq2 : rows[p + 1]? = some rq := by rw [← hI.rest (p + 1) (by omega)]; exact hRq
      rw [hgx] at hop
      rw [← hrq] at hoq
      have hnod := HT.out.linked p y rq k2 hrq2
      have hyl : y.length ≤ 1000000000 := by
        have := HT.out.rowlen p
        rw [show rows.getD p [] = y by rw [List.getD, k2]; rfl] at this
        have := HLEN.out
        omega
      have hql4 : i / 4 < rq.length := by rw [hnod.2.1]; omega
      have hi1000 : i ≤ 1000 := by
        have := HT.out.rowlen p
        rw [show rows.getD p [] = y by rw [List.getD, k2]; rfl] at this
        have := HLEN.out
        omega
      have hsz : ∀ t ∈ x, t.size = 32 := by
        intro t ht
        exact SetI.size hI k1 t ht
      obtain ⟨ap, cp, rfl, hcp⟩ := hop.row.form
      obtain ⟨bq2, capq, rfl, hcq, hltq⟩ := hoq.row.form_pos (by omega)
      have yq : wr.cell? ⟨bq2, i / 4, none⟩ = some (.string (rq[i / 4]'hql4)) := hoq.row.cells (i / 4) _ (by simp [strs])
      have fq := hoq.row.frozen (j := i / 4) hql4
      generalize rq[i / 4]'hql4 = old2 at yq
      have hop2 := Strs.of_row hop.row
      have HGR := Lib.hid (fun W (hb : Below wr.heap.size wr W) => group_any _ x (i / 4) W (hop2.below hb) (by omega) (by omega))
      have HND := Lib.hid (fun W (hb : Below wr.heap.size wr W) v7 (hs : Strs W v7 (groupL x (i / 4))) => node_any hash_real B g gh [] v7 (groupL x (i / 4)) W (hI.vlt.same hb.size (fun i hi => hb.block i (Nat.lt_of_lt_of_le hi hI.vlt.1))) hs (by rw [groupL_len]; omega) (fun t ht => by have := hsz t (groupL_mem ht); omega) (by decide))
      have hbW : b0 ≤ wr.heap.size := Nat.le_trans HBW.out hI.kp.size
      obtain ⟨nq, hnq⟩ : ∃ n, n = rq.length := ⟨_, rfl⟩
      obtain ⟨np, hnp⟩ : ∃ n, n = x.length := ⟨_, rfl⟩
      rw [← hnq] at hvq xq hcq hoq
      rw [← hnp] at HGR xp hvp hcp
      have HNX := Lib.hid (fun W1' (hv : Vlt W1' B g gh (some shaF) []) (hb : Below wr.heap.size wr W1') => SetI.next HT.out hI (by rw [← HN.out]; omega) k1 hrq2 hv hb HBB.out hbW hvq hnq)
      have HG2 := Lib.hid (And.intro HG.out.1 (And.intro hltq (And.intro (blk_lt hI.mem.blk) (And.intro (fun e : ob = bq2 => hI.mem.outer.row.ne_row hoq.row (by decide) (b := bq2) (by rw [e]; rfl) rfl) (fun e : gt = bq2 => hoq.row.ne_type hI.mem.blk (by decide) (by rw [e]; rfl))))))
      have HOB := Lib.hid (Nat.lt_of_lt_of_le HG.out.1 hI.kp.size)
      have hne1 : gt ≠ bq2 := HG2.out.2.2.2.2
      have hne2 : ob ≠ bq2 := HG2.out.2.2.2.1
      obtain ⟨Q, hQ⟩ : ∃ Q, Q = p + 1 := ⟨_, rfl⟩
      rw [← hQ] at xq ⊢
      have HQ := Lib.hid hQ
      obtain ⟨i4, hi4⟩ : ∃ j, j = i / 4 := ⟨_, rfl⟩
      rw [← hi4] at yq fq HGR HND HNX hql4
      have HI4 := Lib.hid hi4
      have d4 : (i : Int) / 4 = (i4 : Int) := by omega
      have u1 : (Q : Int) < (n : Int) := by omega
      have u2 : (0 : Int) ≤ (Q : Int) := by omega
      have u3 : (p : Int) < (n : Int) := by omega
      have u4 : (0 : Int) ≤ (p : Int) := by omega
      have u5 : (i4 : Int) < (nq : Int) := by omega
      have u6 : (0 : Int) ≤ (i4 : Int) := by omega
      have hQ1000 : Q ≤ 1001 := by omega
      have hp1000 : p ≤ 1001 := by omega
      have hi41000 : i4 ≤ 1001 := by omega
      have w8 : IntKind.i64.wrap (p : Int) = (p : Int) := IntWalk.i64_in _ (by omega)
      have w7 : IntKind.i64.wrap ((Q : Int) - 1) = (p : Int) := by rw [show (Q : Int) - 1 = (p : Int) by omega]; exact w8
      have w6 : (Q : Int) - 1 = (p : Int) := by omega
      clear hI hblk hk hlt hkj hrl hvp hop hvq hoq k1 k2 k3 k4 k5 hpl hql hgx hrq hRq hrq2 hnod hyl hsz hop2 hnq hnp hbW hQ hi4 hcp hcq hltq hnx hnx2 hql4
      go_wp2_with fail
      go_region_held3 (fun w' => w'.cell? ⟨gt, 0, none⟩ = some (.pointer (some ⟨g, 0, none⟩)) ∧ w'.cell? ⟨gt, 1, none⟩ = some (.slice (some ⟨ob, 0, none⟩) n capr) ∧ w'.cell? ⟨ob, Q, none⟩ = some (.slice (some ⟨bq2, 0, none⟩) nq capq) ∧ w'.cell? ⟨ob, p, none⟩ = some (.slice ap np cp)) (first | exact ⟨b2, b1, xq, xp⟩ | exact x8 | exact ⟨(set_far _ hne1 _ _ _).trans x8.1, (set_far _ hne1 _ _ _).trans x8.2.1, (set_far _ hne2 _ _ _).trans x8.2.2.1, (set_far _ hne2 _ _ _).trans x8.2.2.2⟩) (first | (go_at_call 28; refine (HGR.out _ (by first | exact Below.refl _ _ | exact (Below.refl _ _).drew)).mono ?_; rintro e W7 ⟨v7, rfl, hs7, hw7⟩; subst hw7; have HS7 := Lib.hid hs7; clear hs7) | (go_at_call 27; refine (HND.out _ (by first | exact Below.refl _ _ | exact (Below.refl _ _).drew) _ HS7.out).mono ?_; rintro e W8 ⟨ks', r, rfl, hd, hR⟩; have hb8 := ((Below.refl _ wr).drew).trans hR.real; have x8 : W8.cell? ⟨gt, 0, none⟩ = some (.pointer (some ⟨g, 0, none⟩)) ∧ W8.cell? ⟨gt, 1, none⟩ = some (.slice (some ⟨ob, 0, none⟩) n capr) ∧ W8.cell? ⟨ob, Q, none⟩ = some (.slice (some ⟨bq2, 0, none⟩) nq capq) ∧ W8.cell? ⟨ob, p, none⟩ = some (.slice ap np cp) := ⟨(hb8.cell (p := ⟨gt, 0, none⟩) HG2.out.2.2.1).trans b2, (hb8.cell (p := ⟨gt, 1, none⟩) HG2.out.2.2.1).trans b1, (hb8.cell (p := ⟨ob, Q, none⟩) HOB.out).trans xq, (hb8.cell (p := ⟨ob, p, none⟩) HOB.out).trans xp⟩; have y8 := (hb8.cell (p := ⟨bq2, i4, none⟩) HG2.out.2.1).trans yq; have f8 := (hb8.frozen (p := ⟨bq2, i4, none⟩) HG2.out.2.1).trans fq; have HB8 := Lib.hid hb8; have HV8 := Lib.hid hR.vlt; have HD8 := Lib.hid hd; clear hb8 hR hd))
      obtain rfl := HD8.out
      have hN := HNX.out W8 (HV8.out.anyks []) HB8.out
      have HN8 := Lib.hid hN
      have hq4 := HI4.out
      clear hN HNX HGR HND HB8 HV8 HD8 x8 y8 f8 b1 b2 xp xq yq fq hne1 hne2
      generalize (W8.setCell ⟨bq2, i4, none⟩ (.string (shaF (nodeT (groupL x i4))))) = W9 at HN8 ⊢
      generalize (R.set (p + 1) (rq.set i4 (shaF (nodeT (groupL x i4))))) = R9 at HN8
      go_wp2_with fail
      go_roundg j
      case measure => omega
      case rel => exact ⟨p + 1, i4, R9, HKJ.out, rfl, by rw [HQ.out]; go_num, HN8.out⟩
    · obtain rfl : gk = 0 := by omega
      have hpn : p + 1 = n := by omega
      have hfin := hI.done HT.out (by rw [← HN.out]; exact hpn)
      obtain ⟨Q, hQ⟩ : ∃ Q, Q = p + 1 := ⟨_, rfl⟩
      rw [← hQ] at hpn ⊢
      subst hpn
      have HFIN := Lib.hid (show SetPost B b0 gt g gh (l.set i0 s) (.slice (some ⟨ob, 0, none⟩) rows.length capr) vs W1 (.returned (.int .i64 0)) wr from ⟨rfl, R, hfin, hI.mem, hI.vlt, hI.kp⟩)
      have u1 : ¬ (Q : Int) < (Q : Int) := by omega
      clear hI hfin hblk hk hlt hQ
      go_wp2_with fail
      go_ret
      exact HFIN.out
set_option maxRecDepth 100000 in
theorem Set_out (gt g : Nat) (b0 : Nat) (rows : List (List ByteArray)) (vr : Value) (vs : List Value) (w : World) (h : TreeM b0 gt g rows vr vs w) (hn : 0 < rows.length) (hn2 : rows.length ≤ 1000000000) (i : Int) (hi : i < 0 ∨ ((rows.getD 0 []).length : Int) ≤ i) (s : ByteArray) :
    Calls Try.prog 20 #[.pointer (some ⟨gt, 0, none⟩), .int .i64 i, .string s] w fun e w' => e = .returned (.int .i64 2) ∧ w' = w := by
  obtain ⟨ob, cap, v, rfl, hob, hv, c2, hrow⟩ := h.at_ hn
  obtain ⟨ao, cap2, rfl, hc2⟩ := hrow.row.form
  have HT := Lib.hid (tnone_any gt g _ _ _ w h.blk hn hn2)
  have c0 := (blk_cell h.blk 0).trans rfl
  have c1 := (blk_cell h.blk 1).trans rfl
  obtain ⟨m, hm⟩ : ∃ m, m = rows.length := ⟨_, rfl⟩
  obtain ⟨q, hq⟩ : ∃ q, q = (rows.getD 0 []).length := ⟨_, rfl⟩
  rw [← hm] at c0 c1 hn
  rw [← hq] at c2 hi hc2
  have z : (0 : Int) < (m : Int) := by omega
  clear h hrow hv hm hq
  by_cases h0 : i < 0
  · clear hi
    go_enter Try.func20, Try.ntmps20
    go_wp2_with fail
    refine HT.out.mono ?_
    rintro e W1 ⟨rfl, hw⟩
    subst hw
    go_wp2_with fail
    go_ret
    exact ⟨rfl, rfl⟩
  · have h1 : (q : Int) ≤ i := by omega
    clear hi
    go_enter Try.func20, Try.ntmps20
    go_wp2_with fail
    refine HT.out.mono ?_
    rintro e W1 ⟨rfl, hw⟩
    subst hw
    go_wp2_with fail
    go_ret
    exact ⟨rfl, rfl⟩
end Go.Proofs.Ytjoilobbopdcpaa.B
