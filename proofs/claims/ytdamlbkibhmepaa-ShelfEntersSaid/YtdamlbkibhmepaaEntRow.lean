/-
  A []Entry, as a list of entries; law's same, walked: two lists that are one.
-/
import Derived.Test.YtdamlbkibhmepaaStrRow
import Derived.Test.YtdamlbkibhmepaaPackE
namespace Go.Proofs.Ytdamlbkibhmepaa.B
open Go.RowKit
set_option linter.unusedVariables false
set_option linter.unusedSimpArgs false

structure Ent where
  nm : ByteArray
  a : Int
  b : Int
deriving DecidableEq
def Ent.zero : Ent := ⟨⟨#[]⟩, 0, 0⟩
def Ent.cells (x : Ent) : List Value := [.string x.nm, .int .i64 x.a, .int .i64 x.b]
def in64 (n : Int) : Prop := -9223372036854775808 ≤ n ∧ n ≤ 9223372036854775807
def Ent.wf (x : Ent) : Prop := x.nm.size ≤ maxLen ∧ in64 x.a ∧ in64 x.b
theorem wfI {n : Int} (h : (Lit.int .i64 n).wf = true) : in64 n := by
  simp [Lit.wf, IntKind.min, IntKind.max, IntKind.signed, IntKind.bits] at h
  exact ⟨by omega, by omega⟩
/-- v reads as the entries l. -/
def EntRow (w : World) (v : Value) (l : List Ent) : Prop :=
  ∃ ao cap, v = .slice ao l.length cap ∧ l.length ≤ cap ∧ l.length ≤ maxLen ∧
    (0 < l.length → ∃ g o, ao = some ⟨g, o, none⟩ ∧ g < w.heap.size ∧ ∀ i x, l[i]? = some x → x.wf ∧ ∀ j u, x.cells[j]? = some u → w.cell? ⟨g, o + (i * 3 + j), none⟩ = some u)
theorem EntRow.below {w w1 : World} {v : Value} {l : List Ent} (h : EntRow w v l) (hb : Below w.heap.size w w1) : EntRow w1 v l := by
  obtain ⟨ao, cap, he, h1, h2, h3⟩ := h
  refine ⟨ao, cap, he, h1, h2, fun h0 => ?_⟩
  obtain ⟨g, o, e, hg, hc⟩ := h3 h0
  refine ⟨g, o, e, Nat.lt_of_lt_of_le hg hb.size, fun i f hf => ⟨(hc i f hf).1, fun j u hu => ?_⟩⟩
  have := (hc i f hf).2 j u hu
  rw [← this]
  exact World.cell?_of_block (hb.block g hg)
theorem EntRow.form {w : World} {v : Value} {l : List Ent} (h : EntRow w v l) : ∃ ao cap, v = .slice ao l.length cap ∧ l.length ≤ cap ∧ l.length ≤ maxLen := by
  obtain ⟨ao, cap, he, h1, h2, h3⟩ := h
  exact ⟨ao, cap, he, h1, h2⟩
theorem EntRow.get {w : World} {ao : Option Addr} {n cap : Nat} {l : List Ent} (h : EntRow w (.slice ao n cap) l) {i : Nat} (hi : i < l.length) : ∃ g o, ao = some ⟨g, o, none⟩ ∧ g < w.heap.size ∧ (l.getD i .zero).wf ∧ (∀ k, k < l.length → ∀ j u, (l.getD k .zero).cells[j]? = some u → w.cell? ⟨g, o + (k * 3 + j), none⟩ = some u) := by
  obtain ⟨ao', cap', he, _, _, hc⟩ := h
  simp at he
  obtain ⟨rfl, rfl, rfl⟩ := he
  obtain ⟨g, o, e, hg, hc⟩ := hc (by omega)
  have hget : ∀ k, k < l.length → l[k]? = some (l.getD k .zero) := fun k hk => by simp [List.getD, hk]
  exact ⟨g, o, e, hg, (hc i _ (hget i hi)).1, fun k hk j u hu => (hc k _ (hget k hk)).2 j u hu⟩
theorem EntRow.nil (w : World) : EntRow w (.slice none 0 0) [] := ⟨none, 0, rfl, Nat.le_refl _, by simp, fun h => by simp at h⟩
theorem EntRow.take {w : World} {ao : Option Addr} {m cap n : Nat} {l : List Ent} (h : EntRow w (.slice ao m cap) l) (hn : n ≤ l.length) : EntRow w (.slice ao n cap) (l.take n) := by
  obtain ⟨ao', cap', he, h1, h2, h3⟩ := h
  simp at he
  obtain ⟨rfl, rfl, rfl⟩ := he
  have hl : (l.take n).length = n := by simp; omega
  refine ⟨ao, cap, by rw [hl], by omega, by omega, fun h0 => ?_⟩
  obtain ⟨g, o, e, hg, hc⟩ := h3 (by omega)
  refine ⟨g, o, e, hg, fun i f hf => hc i f ?_⟩
  rw [List.getElem?_take] at hf
  split at hf
  · exact hf
  · cases hf
theorem EntRow.all {w : World} {v : Value} {l : List Ent} (h : EntRow w v l) : ∀ f ∈ l, f.wf := by
  intro f hf
  obtain ⟨ao, cap, rfl, h1, h2, h3⟩ := h
  obtain ⟨i, hi⟩ := List.getElem?_of_mem hf
  have hlt : i < l.length := (List.getElem?_eq_some_iff.1 hi).1
  obtain ⟨g, o, e, hg, hc⟩ := h3 (by omega)
  exact (hc i f hi).1
theorem entRow_of {w : World} {n : Nat} {v : Value} (h : F.ShOk w (n + 1 + 1) (.rows [.str, .int .i64, .int .i64]) v) : ∃ l, EntRow w v l := by
  rcases h with rfl | ⟨a, len, cap, rfl, h1, h2, h3⟩
  · exact ⟨[], EntRow.nil w⟩
  · have hc : ∀ i, i < len → ∃ x : Ent, x.wf ∧ ∀ j, j < 3 → ∀ u, x.cells[j]? = some u → w.cell? (a.add (i * 3 + j)) = some u := fun i hi => by
      obtain ⟨c0, h4, s, rfl, h5⟩ := h3 i hi 0 .str rfl
      obtain ⟨c1, h6, z1, rfl, h7⟩ := h3 i hi 1 (.int .i64) rfl
      obtain ⟨c2, h8, z2, rfl, h9⟩ := h3 i hi 2 (.int .i64) rfl
      refine ⟨⟨s, z1, z2⟩, ⟨h5, wfI h7, wfI h9⟩, fun j hj u hu => ?_⟩
      match j, hj, hu with
      | 0, _, hu => exact h4.trans (by simpa [Ent.cells] using hu)
      | 1, _, hu => exact h6.trans (by simpa [Ent.cells] using hu)
      | 2, _, hu => exact h8.trans (by simpa [Ent.cells] using hu)
    have hg : ∃ f : Nat → Ent, ∀ i, i < len → (f i).wf ∧ ∀ j, j < 3 → ∀ u, (f i).cells[j]? = some u → w.cell? (a.add (i * 3 + j)) = some u :=
      ⟨fun i => if hi : i < len then Classical.choose (hc i hi) else .zero, fun i hi => by
        simp only [hi, dif_pos]
        exact Classical.choose_spec (hc i hi)⟩
    obtain ⟨f, hf⟩ := hg
    refine ⟨(List.range len).map f, some a, cap, by simp, by simpa using h1, by simp; omega, fun h0 => ?_⟩
    have h0' : 0 < len := by simpa using h0
    have hz := (hf 0 h0').2 0 (by omega) _ rfl
    obtain ⟨g, o, ha, h6, _⟩ := F.addr_none (w := w) (a := a) (i := 0) ⟨_, hz⟩ hz
    refine ⟨g, o, by rw [ha], h6, fun i x hx => ?_⟩
    have hi : i < len := by simpa using (List.getElem?_eq_some_iff.1 hx).1
    obtain rfl : f i = x := by simpa [List.getElem?_range hi] using hx
    refine ⟨(hf i hi).1, fun j u hu => ?_⟩
    have hj : j < 3 := (List.getElem?_eq_some_iff.1 hu).1
    rw [← (hf i hi).2 j hj u hu, ha]
    congr 1
    unfold Addr.add
    split
    · rename_i he
      rw [he, Nat.add_zero]
    · rfl

/-! ### A row of the call's own -/
def ecells (l : List Ent) : List Value := l.flatMap Ent.cells
theorem ecells_length (l : List Ent) : (ecells l).length = l.length * 3 := by
  induction l with
  | nil => rfl
  | cons f r ih =>
    have : ecells (f :: r) = f.cells ++ ecells r := rfl
    rw [this, List.length_append, ih]
    simp [Ent.cells]; omega
theorem ecells_append (l m : List Ent) : ecells (l ++ m) = ecells l ++ ecells m := by simp [ecells]
theorem ecells_get : ∀ (l : List Ent) (i j : Nat) (f : Ent), l[i]? = some f → j < 3 → (ecells l)[i * 3 + j]? = f.cells[j]?
  | [], i, j, f, h, _ => by simp at h
  | x :: r, 0, j, f, h, hj => by
    obtain rfl : x = f := by simpa using h
    have : ecells (x :: r) = x.cells ++ ecells r := rfl
    rw [this, List.getElem?_append_left (by simp [Ent.cells]; omega)]
    congr 1
    omega
  | x :: r, i + 1, j, f, h, hj => by
    have : ecells (x :: r) = x.cells ++ ecells r := rfl
    rw [this, List.getElem?_append_right (by simp [Ent.cells]; omega), ← ecells_get r i j f (by simpa using h) hj]
    congr 1
    simp [Ent.cells]; omega
theorem entRow_row {w : World} {v : Value} {l : List Ent} (h : Row w 37 3 v l.length (ecells l)) (hf : ∀ f ∈ l, f.wf) : EntRow w v l := by
  obtain ⟨h1, h2⟩ := id h
  rcases h2 with ⟨rfl, h0⟩ | ⟨g, cap, cur, lo, hi, rfl, hg, _, hc, hm, _⟩
  · have : l = [] := List.eq_nil_of_length_eq_zero h0
    subst this
    exact EntRow.nil w
  · refine ⟨_, cap, rfl, hc, by omega, fun _ => ⟨g, 0, rfl, blk_lt hg, fun i f hi => ⟨hf f (List.mem_of_getElem? hi), fun j u hu => ?_⟩⟩⟩
    have hj : j < 3 := (List.getElem?_eq_some_iff.1 hu).1
    rw [Nat.zero_add]
    exact Row.cells h _ _ ((ecells_get l i j f hi hj).trans hu)
theorem infoEntry : (Try.prog.info? 37).map (fun i => (i.zero, i.size, i.bytes)) = some (some (.agg #[.string ⟨#[]⟩, .int .i64 0, .int .i64 0]), 3, 32) := by kernel_rfl

theorem str_eq {a b : ByteArray} : a.toList = b.toList ↔ a = b := ⟨fun h => by
    rw [ByteArray.toList_eq, ByteArray.toList_eq] at h
    exact ByteArray.ext (Array.toList_inj.mp h), fun h => by rw [h]⟩
theorem str_beq (s t : ByteArray) : (s.toList == t.toList) = decide (s = t) := by
  by_cases h : s = t
  · subst h; simp
  · have : s.toList ≠ t.toList := fun h' => h (str_eq.1 h')
    simp [h, this]
theorem str_empty (s : ByteArray) : s.toList.isEmpty = decide (s.size = 0) := by
  rw [ByteArray.toList_eq]
  have : s.size = s.data.toList.length := by rw [Array.length_toList]; rfl
  rw [this]
  cases s.data.toList <;> simp
theorem neq_ent (f : Ent) (W : World) : (binOp .neq 37 (.agg #[.string f.nm, .int .i64 f.a, .int .i64 f.b]) (.agg #[.string f.nm, .int .i64 f.a, .int .i64 f.b])).run Try.prog W = .ok (.bool false) W := by
  have hu := Try.underlying37
  have hi := Try.underlying3
  have hs := Try.underlying9
  simp [go_sem]

/-! ### same -/
structure SameI (w : World) (v1 v2 : Value) (l : List Ent) (W : World) : Prop where
  bel : Below w.heap.size w W
  r1 : EntRow W v1 l
  r2 : EntRow W v2 l
set_option maxRecDepth 100000 in
set_option maxHeartbeats 3200000 in
theorem same_any (v1 v2 : Value) (l : List Ent) (w : World) (h1 : EntRow w v1 l) (h2 : EntRow w v2 l) (hsz : l.length ≤ 100000000000) :
    Calls Try.prog 13 #[v1, v2] w fun e w' => e = .returned (.bool true) ∧ Below w.heap.size w w' := by
  obtain ⟨ao1, cap1, rfl, hc1, _⟩ := h1.form
  obtain ⟨ao2, cap2, rfl, hc2, _⟩ := h2.form
  have hu54 := Try.underlying37
  obtain ⟨n, hn⟩ : ∃ n, n = l.length := ⟨_, rfl⟩
  rw [← hn] at hc1 hc2 hsz h1 h2
  rw [← hn]
  have HN := Lib.hid hn
  have HI0 := Lib.hid (show SameI w (.slice ao1 n cap1) (.slice ao2 n cap2) l w from ⟨Below.refl _ _, h1, h2⟩)
  clear hn h1 h2
  have u9 : (n : Int) ≤ 100000000000 := by omega
  go_enter Try.func13, Try.ntmps13
  go_wp2_with fail
  go_loopg [5] n (fun j i wr => ∃ k : Nat, j + k = n ∧ i = .int .i64 (k : Int) ∧ SameI w (.slice ao1 n cap1) (.slice ao2 n cap2) l wr)
  case atStart => exact ⟨0, by omega, rfl, HI0.out⟩
  case round =>
    clear HI0
    obtain ⟨k, hk, rfl, hI⟩ := hrel
    by_cases hlt : k < n
    · obtain ⟨j, rfl⟩ : ∃ j, gk = j + 1 := ⟨gk - 1, by omega⟩
      obtain ⟨g, o, rfl, hg, _, hc⟩ := hI.r1.get (i := k) (by rw [← HN.out]; omega)
      obtain ⟨g2, o2, rfl, hg2, _, hc2⟩ := hI.r2.get (i := k) (by rw [← HN.out]; omega)
      have e1 := hc k (by rw [← HN.out]; omega)
      have e2 := hc2 k (by rw [← HN.out]; omega)
      obtain ⟨f, hf⟩ : ∃ f, f = l.getD k .zero := ⟨_, rfl⟩
      rw [← hf] at e1 e2
      have x0 : wr.cell? ⟨g, o + k * 3, none⟩ = some (.string f.nm) := e1 0 _ rfl
      have x1 : wr.cell? ⟨g, o + k * 3 + 1, none⟩ = some (.int .i64 f.a) := e1 1 _ rfl
      have x2 : wr.cell? ⟨g, o + k * 3 + 2, none⟩ = some (.int .i64 f.b) := e1 2 _ rfl
      have y0 : wr.cell? ⟨g2, o2 + k * 3, none⟩ = some (.string f.nm) := e2 0 _ rfl
      have y1 : wr.cell? ⟨g2, o2 + k * 3 + 1, none⟩ = some (.int .i64 f.a) := e2 1 _ rfl
      have y2 : wr.cell? ⟨g2, o2 + k * 3 + 2, none⟩ = some (.int .i64 f.b) := e2 2 _ rfl
      have hE := neq_ent f
      have HI := Lib.hid hI
      have u2 : (0 : Int) ≤ (k : Int) := by omega
      have u3 : (k : Int) < (n : Int) := by omega
      have hkj : j + (k + 1) = n := by omega
      have HKJ := Lib.hid hkj
      clear hI e1 e2 hc hc2 hf hk hkj hlt
      go_wp2_with fail
      go_quiet (fail)
      go_wp2_with fail
      go_roundg j
      case measure => omega
      case rel => exact ⟨k + 1, HKJ.out, by go_num, ⟨bdrewN HI.out.bel _, HI.out.r1, HI.out.r2⟩⟩
    · have HI := Lib.hid hI
      obtain rfl : gk = 0 := by omega
      obtain rfl : k = n := by omega
      clear hI
      go_wp2_with fail
      go_ret
      exact ⟨rfl, HI.out.bel⟩
end Go.Proofs.Ytdamlbkibhmepaa.B
