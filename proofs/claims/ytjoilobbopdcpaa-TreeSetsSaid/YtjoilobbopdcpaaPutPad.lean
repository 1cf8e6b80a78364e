/-
  PutPad: what is wanted of Base, Bytes, Writer, Put, Cursor, Get, RefPut, Pad, LawsA, EntryAny.
-/
import Derived.WalkKit
import Derived.WalkSpells
import Derived.WalkLawsBesides
import Derived.KernelRfl
import Derived.Lib.Hide
import Derived.Lib.ConvBytes
import Derived.Lib.AppendStr
import Derived.Deep.RegionHeld3
import Derived.Deep.RegionLaw
import Derived.ArgAppend
import Derived.Deep.LoopGhost
import Derived.Deep.QuietTactic
import Derived.BigQuiet
import Derived.Outline
import Derived.Deep.AppendLies
import Derived.Test.YtjoilobbopdcpaaProg
import Derived.Lib.Strings
import Derived.Recover
namespace Go.Proofs.Ytjoilobbopdcpaa.B
open Go.RowKit
set_option linter.unusedVariables false
/-- From w to w' nothing was written but in the blocks of S and in new ones. -/
structure Keeps (S : Nat → Prop) (w w' : World) : Prop where
  os : w'.os = w.os
  tape : w'.tape = w.tape
  output : w'.output = w.output
  size : w.heap.size ≤ w'.heap.size
  block : ∀ k, k < w.heap.size → ¬ S k → w'.heap[k]? = w.heap[k]?
theorem Keeps.refl (S : Nat → Prop) (w : World) : Keeps S w w := ⟨rfl, rfl, rfl, Nat.le_refl _, fun _ _ _ => rfl⟩
theorem Keeps.trans {S S' : Nat → Prop} {a b c : World} (h : Keeps S a b) (k : Keeps S' b c) (hS : ∀ i, i < a.heap.size → S' i → S i) : Keeps S a c :=
  ⟨k.os.trans h.os, k.tape.trans h.tape, k.output.trans h.output, Nat.le_trans h.size k.size,
   fun i hi hn => (k.block i (Nat.lt_of_lt_of_le hi h.size) (fun hs => hn (hS i hi hs))).trans (h.block i hi hn)⟩
theorem Keeps.mono {S S' : Nat → Prop} {a b : World} (h : Keeps S a b) (hS : ∀ i, i < a.heap.size → S i → S' i) : Keeps S' a b :=
  ⟨h.os, h.tape, h.output, h.size, fun i hi hn => h.block i hi (fun hs => hn (hS i hi hs))⟩
theorem Keeps.below {S : Nat → Prop} {a b : World} {B : Nat} (h : Keeps S a b) (hB : B ≤ a.heap.size) (hS : ∀ i, i < B → ¬ S i) : Below B a b :=
  ⟨h.os, h.tape, h.output, h.size, fun i hi => h.block i (by omega) (hS i hi)⟩
theorem Keeps.of_below {S : Nat → Prop} {a b : World} (h : Below a.heap.size a b) : Keeps S a b := ⟨h.os, h.tape, h.output, h.size, fun i hi _ => h.block i hi⟩
theorem Keeps.of_grown {S : Nat → Prop} {a b : World} {row : Option Nat} (h : a.grownBy b row) (hS : ∀ k, row = some k → S k) : Keeps S a b :=
  ⟨h.os, h.tape, h.output, h.size, fun i hi hn => h.block i hi (fun e => hn (hS i e.symm))⟩
theorem Keeps.alloc {S : Nat → Prop} {a b : World} (h : Keeps S a b) (o : Obj) : Keeps S a (b.alloc o) :=
  h.trans (S' := S) ⟨rfl, rfl, rfl, by simp, fun k hk _ => Below.heap_alloc _ _ _ hk⟩ (fun _ _ h => h)
theorem Keeps.drew {S : Nat → Prop} {a b : World} (h : Keeps S a b) : Keeps S a b.drew := ⟨h.os, h.tape, h.output, h.size, h.block⟩
theorem Keeps.drewN {S : Nat → Prop} {a b : World} (h : Keeps S a b) (n : Nat) : Keeps S a (b.drewN n) := ⟨h.os, h.tape, h.output, h.size, h.block⟩
theorem Keeps.setCell {S : Nat → Prop} {a b : World} (h : Keeps S a b) {p : Addr} (hp : p.block < a.heap.size → S p.block) (u : Value) : Keeps S a (b.setCell p u) :=
  ⟨h.os, h.tape, h.output, by simpa [World.setCell] using h.size, fun k hk hn => (Below.heap_setCell _ _ _ _ (fun e => hn (by subst e; exact hp hk))).trans (h.block k hk hn)⟩
theorem Keeps.at_ {S : Nat → Prop} {a b : World} (h : Keeps S a b) {k : Nat} {o : Obj} (hk : a.heap[k]? = some o) (hn : ¬ S k) : b.heap[k]? = some o :=
  (h.block k (Array.getElem?_eq_some_iff.1 hk).1 hn).trans hk
theorem Keeps.cell {S : Nat → Prop} {a b : World} (h : Keeps S a b) {p : Addr} (hl : p.block < a.heap.size) (hn : ¬ S p.block) : b.cell? p = a.cell? p := World.cell?_of_block (w := a) (h.block _ hl hn)
theorem blk_lt {w : World} {g : Nat} {o : Obj} (h : w.heap[g]? = some o) : g < w.heap.size := (Array.getElem?_eq_some_iff.1 h).1
theorem blk_cell {w : World} {g : Nat} {t : TypeId} {cs : Array Value} {fr : Nat × Nat} (h : w.heap[g]? = some (.cells cs t fr)) (i : Nat) : w.cell? ⟨g, i, none⟩ = cs[i]? := cell_of_row w g i cs t fr h
theorem blk_frozen {w : World} {g : Nat} {t : TypeId} {cs : Array Value} (h : w.heap[g]? = some (.cells cs t (0, 0))) (i : Nat) : w.frozen? ⟨g, i, none⟩ = false := by simp [World.frozen?, h]
theorem blk_set {w : World} {g : Nat} {t : TypeId} {cs : Array Value} {fr : Nat × Nat} (h : w.heap[g]? = some (.cells cs t fr)) (i : Nat) (u : Value) : (w.setCell ⟨g, i, none⟩ u).heap[g]? = some (.cells (cs.setIfInBounds i u) t fr) := by
  simp [World.setCell, Array.getElem?_modify, h]
theorem bdrewN {B : Nat} {w W : World} (h : Below B w W) (n : Nat) : Below B w (W.drewN n) := ⟨h.os, h.tape, h.output, h.size, h.block⟩
/-- The slice v leads to n elements of type e, size cells each: the cells xs; it begins at a block's head, and no cell of the block is frozen. -/
def Row (w : World) (e : TypeId) (size : Nat) (v : Value) (n : Nat) (xs : List Value) : Prop :=
  xs.length = n * size ∧
  ((v = .slice none 0 0 ∧ n = 0) ∨
   ∃ g cap cur lo hi, v = .slice (some ⟨g, 0, none⟩) n cap ∧ w.heap[g]? = some (.cells cur e (lo, hi)) ∧ (hi ≤ lo ∨ cap * size ≤ lo) ∧ n ≤ cap ∧ cap ≤ maxLen ∧ cur.size = cap * size ∧ cur.toList.take (n * size) = xs)
theorem Row.nil (w : World) (e : TypeId) (size : Nat) : Row w e size (.slice none 0 0) 0 [] := ⟨by simp, .inl ⟨rfl, rfl⟩⟩
theorem Row.of_own {w : World} {base : Nat} {e : TypeId} {size : Nat} {v : Value} {n : Nat} {xs : List Value} (h : w.ownsRow base e size v n xs) : Row w e size v n xs := by
  refine ⟨h.1, ?_⟩
  rcases h.2 with h | ⟨g, cap, cur, h1, _, h3, h4, h5, h6, h7⟩
  · exact .inl h
  · exact .inr ⟨g, cap, cur, 0, 0, h1, h3, .inl (Nat.le_refl _), h4, h5, h6, h7⟩
theorem Row.kept {S : Nat → Prop} {w w' : World} {e : TypeId} {size : Nat} {v : Value} {n : Nat} {xs : List Value} (h : Row w e size v n xs) (hk : Keeps S w w') (hn : ∀ k, v.ownBlock = some k → ¬ S k) : Row w' e size v n xs := by
  refine ⟨h.1, ?_⟩
  rcases h.2 with hz | ⟨g, cap, cur, lo, hi, rfl, hg, rest⟩
  · exact .inl hz
  · exact .inr ⟨g, cap, cur, lo, hi, rfl, hk.at_ hg (hn g rfl), rest⟩
theorem Row.drew {w : World} {e : TypeId} {size : Nat} {v : Value} {n : Nat} {xs : List Value} (h : Row w e size v n xs) : Row w.drew e size v n xs := h
theorem Row.alloc {w : World} {e : TypeId} {size : Nat} {v : Value} {n : Nat} {xs : List Value} (h : Row w e size v n xs) (o : Obj) : Row (w.alloc o) e size v n xs :=
  h.kept (S := fun _ => False) ((Keeps.refl _ w).alloc o) (fun _ _ h => h)
theorem Row.lt {w : World} {e : TypeId} {size : Nat} {v : Value} {n : Nat} {xs : List Value} (h : Row w e size v n xs) : ∀ k, v.ownBlock = some k → k < w.heap.size := by
  intro k hk
  rcases h.2 with ⟨rfl, _⟩ | ⟨g, cap, cur, lo, hi, rfl, hg, _⟩
  · simp [Value.ownBlock] at hk
  · simp [Value.ownBlock] at hk
    subst hk
    exact blk_lt hg
theorem Row.form {w : World} {e : TypeId} {size : Nat} {v : Value} {n : Nat} {xs : List Value} (h : Row w e size v n xs) : ∃ a cap, v = .slice a n cap ∧ n ≤ cap := by
  rcases h.2 with ⟨rfl, rfl⟩ | ⟨g, cap, cur, lo, hi, rfl, _, _, hc, _⟩
  · exact ⟨_, _, rfl, Nat.le_refl _⟩
  · exact ⟨_, _, rfl, hc⟩
theorem Row.form_pos {w : World} {e : TypeId} {size : Nat} {v : Value} {n : Nat} {xs : List Value} (h : Row w e size v n xs) (hn : 0 < n) : ∃ g cap, v = .slice (some ⟨g, 0, none⟩) n cap ∧ n ≤ cap ∧ g < w.heap.size := by
  rcases h.2 with ⟨rfl, rfl⟩ | ⟨g, cap, cur, lo, hi, rfl, hg, _, hc, _⟩
  · omega
  · exact ⟨_, _, rfl, hc, blk_lt hg⟩
/-- The cells that it leads to. -/
theorem Row.cells {w : World} {e : TypeId} {size : Nat} {n cap g : Nat} {xs : List Value} (h : Row w e size (.slice (some ⟨g, 0, none⟩) n cap) n xs) : ∀ j u, xs[j]? = some u → w.cell? ⟨g, j, none⟩ = some u := by
  intro j u hu
  rcases h.2 with ⟨hz, _⟩ | ⟨g', cap', cur, lo, hi, he, hg, _, _, _, _, ht⟩
  · simp at hz
  · simp at he
    obtain ⟨rfl, rfl⟩ := he
    rw [blk_cell hg, ← Array.getElem?_toList]
    rw [← ht, List.getElem?_take] at hu
    split at hu
    · exact hu
    · cases hu
/-- A block of another type is another block. -/
theorem Row.ne_type {w : World} {e : TypeId} {size : Nat} {v : Value} {n : Nat} {xs : List Value} (h : Row w e size v n xs) {g : Nat} {cs : Array Value} {t : TypeId} {fr : Nat × Nat} (hg : w.heap[g]? = some (.cells cs t fr)) (hne : e ≠ t) : some g ≠ v.ownBlock := by
  intro he
  rcases h.2 with ⟨rfl, _⟩ | ⟨g', cap', cur, lo, hi, rfl, hg', _⟩
  · simp [Value.ownBlock] at he
  · simp [Value.ownBlock] at he
    subst he
    rw [hg] at hg'
    simp at hg'
    exact hne hg'.2.1.symm
/-- The row that []byte(s) makes. -/
theorem Row.bytes (w : World) (e : TypeId) (s : ByteArray) (hs : s.size ≤ maxLen) : Row (Lib.bytesWorld w e s) e 1 (.slice (some ⟨w.heap.size, 0, none⟩) s.size (grownCap w s.size 0 e)) s.size (s.data.toList.map fun b => .int .u8 b.toNat) := by
  have hge := grownCap_ge w s.size 0 e
  have hsz : (Lib.bytesCells w e s).size = grownCap w s.size 0 e := by
    have : s.data.size = s.size := rfl
    simp [Lib.bytesCells, this]; omega
  refine ⟨by simp, .inr ⟨w.heap.size, _, _, _, _, rfl, Lib.bytesWorld_at_new w e s, .inr (by omega), hge, grownCap_le_maxLen w _ _ _ hs, by omega, ?_⟩⟩
  have : s.data.toList.length = s.size := by rw [Array.length_toList]; rfl
  simp [Lib.bytesCells, this]
theorem get_top {w : World} {o : Obj} {i : Nat} (h : i = w.heap.size) : (w.alloc o).heap[i]? = some o := by subst h; exact heap_alloc_new w o
theorem get_below {w : World} {o x : Obj} {i : Nat} (h : w.heap[i]? = some x) : (w.alloc o).heap[i]? = some x := (Below.heap_alloc w o i (blk_lt h)).trans h
/-- A row that a literal made. -/
theorem Row.lit {w : World} {g : Nat} {cs : Array Value} {e : TypeId} (h : w.heap[g]? = some (.cells cs e (0, 0))) (n : Nat) (hn : cs.size = n) (hm : n ≤ maxLen) : Row w e 1 (.slice (some ⟨g, 0, none⟩) n n) n cs.toList :=
  ⟨by simp [hn], .inr ⟨g, n, cs, 0, 0, rfl, h, .inl (Nat.le_refl _), Nat.le_refl _, hm, by omega, by rw [Nat.mul_one, ← hn, ← Array.length_toList, List.take_length]⟩⟩
/-- x gives m elements, the cells news, in w and in every world with w's heap. -/
structure Feeds (P : Program) (tx : TypeId) (size : Nat) (w : World) (x : Value) (m : Nat) (news : List Value) : Prop where
  ty : ∃ d, P.underlying tx = some d ∧ ∀ k, d ≠ .int k
  len : news.length = m * size
  one : ∀ u ∈ news, u.oneCell' = true
  count : ∀ W, (Builtin.lenOf x).run P W = .ok m W
  first : ∀ W, W.heap = w.heap → (Builtin.firstCells size m x).run P W = .ok news.toArray W
theorem Feeds.slice {P : Program} {tx e : TypeId} {size : Nat} {w : World} (hu : P.underlying tx = some (.slice e)) (a : Addr) (m c : Nat) (news : List Value) (hl : news.length = m * size) (h1 : ∀ u ∈ news, u.oneCell' = true) (hc : ∀ j u, news[j]? = some u → w.cell? (a.add j) = some u) :
    Feeds P tx size w (.slice (some a) m c) m news :=
  ⟨⟨_, hu, fun k h => by cases h⟩, hl, h1, fun W => rfl, fun W hW => run_firstCells_some (P := P) W size m a m c news hl (fun j u hj => by simpa [World.cell?, hW] using hc j u hj)⟩
theorem Feeds.nil {P : Program} {tx e : TypeId} {size : Nat} {w : World} (hu : P.underlying tx = some (.slice e)) : Feeds P tx size w (.slice none 0 0) 0 [] :=
  ⟨⟨_, hu, fun k h => by cases h⟩, by simp, by simp, fun W => rfl, fun W hW => rfl⟩
theorem Feeds.str {P : Program} {tx : TypeId} {w : World} (hu : P.underlying tx = some .string) (s : ByteArray) : Feeds P tx 1 w (.string s) s.size (Lib.strCells s) :=
  ⟨⟨_, hu, fun k h => by cases h⟩, by simp [Lib.strCells_length], Lib.strCells_oneCell s, fun W => rfl, fun W hW => Lib.run_firstCells_string W 1 s⟩
theorem Feeds.row {P : Program} {tx e : TypeId} {size : Nat} {w : World} {v : Value} {n : Nat} {xs : List Value} (hu : P.underlying tx = some (.slice e)) (h : Row w e size v n xs) (h1 : ∀ u ∈ xs, u.oneCell' = true) : Feeds P tx size w v n xs := by
  rcases h.2 with ⟨rfl, rfl⟩ | ⟨g, cap, cur, lo, hi, rfl, hg, _, hc, _⟩
  · obtain rfl : xs = [] := List.eq_nil_of_length_eq_zero (by simpa using h.1)
    exact Feeds.nil hu
  · exact Feeds.slice hu _ _ _ _ h.1 h1 (fun j u hj => by rw [Addr.add_lit]; simpa using Row.cells h j u hj)
theorem setCells_heap (b : Nat) : ∀ (vs : List Value) (o : Nat) (w : World) (cur : Array Value) (e : TypeId) (fr : Nat × Nat), w.heap[b]? = some (.cells cur e fr) → o + vs.length ≤ cur.size →
    ∃ cur' : Array Value, (w.setCells b o vs).heap[b]? = some (.cells cur' e fr) ∧ cur'.size = cur.size ∧ cur'.toList = cur.toList.take o ++ vs ++ cur.toList.drop (o + vs.length)
  | [], o, w, cur, e, fr, h, _ => ⟨cur, h, rfl, by simp⟩
  | v :: r, o, w, cur, e, fr, h, hl => by
    simp only [List.length_cons] at hl
    obtain ⟨cur', h1, h2, h3⟩ := setCells_heap b r (o + 1) (w.setCell ⟨b, o, none⟩ v) (cur.setIfInBounds o v) e fr (blk_set h o v) (by simp; omega)
    refine ⟨cur', h1, by simpa using h2, ?_⟩
    rw [h3]
    have hlt : o < cur.toList.length := by rw [Array.length_toList]; omega
    simp only [Array.toList_setIfInBounds, List.length_cons]
    rw [List.take_set, List.drop_set_of_lt (by omega), List.take_add_one, List.getElem?_eq_getElem hlt, Option.toList_some, List.set_append_right _ _ (by simp; omega)]
    have : o - (cur.toList.take o).length = 0 := by simp; omega
    rw [this, List.set_cons_zero, show o + (r.length + 1) = o + 1 + r.length by omega]
    simp
theorem setCells_size (b : Nat) : ∀ (vs : List Value) (o : Nat) (w : World), (w.setCells b o vs).heap.size = w.heap.size
  | [], _, _ => rfl
  | v :: r, o, w => by rw [World.setCells, setCells_size b r]; simp [World.setCell]
theorem setCells_far (b : Nat) : ∀ (vs : List Value) (o : Nat) (w : World) (k : Nat), k ≠ b → (w.setCells b o vs).heap[k]? = w.heap[k]?
  | [], _, _, _, _ => rfl
  | v :: r, o, w, k, h => by rw [World.setCells, setCells_far b r _ _ k h]; exact Below.heap_setCell _ _ _ _ h
theorem setCells_grown (b : Nat) : ∀ (vs : List Value) (o : Nat) (w : World), w.grownBy (w.setCells b o vs) (some b)
  | [], _, w => ⟨rfl, rfl, rfl, Nat.le_refl _, fun _ _ _ => rfl⟩
  | v :: r, o, w => by
    have h := setCells_grown b r (o + 1) (w.setCell ⟨b, o, none⟩ v)
    exact ⟨h.os, h.tape, h.output, by rw [setCells_size]; exact Nat.le_refl _, fun k hk hn => setCells_far b (v :: r) o w k (fun e => hn (by rw [e]))⟩
/-- append onto a row, whatever is appended. -/
theorem run_append_row {P : Program} (w : World) (t tx ty e : TypeId) (i : TypeInfo) (z : Value) (size bytes : Nat) (ht : P.underlying t = some (.slice e)) (hi : P.info? e = some i) (hz : i.zero = some z)
    (hsize : i.size = size) (hby : i.bytes = bytes) (hzs : z.cells.size = size) (hbp : bytes ≠ 0)
    (v : Value) (n : Nat) (xs : List Value) (hown : Row w e size v n xs) (x : Value) (m : Nat) (news : List Value) (hf : Feeds P tx size w x m news)
    (h63 : n + m ≤ maxLen) (hbytes : (n + m) * bytes ≤ 140737488355328) :
    ∃ v' w', (Builtin.append_ #[t, tx] ty #[v, x]).run P w = .ok v' w' ∧ Row w' e size v' (n + m) (xs ++ news) ∧ w.grownBy w' v.ownBlock ∧
      (v'.ownBlock = v.ownBlock ∨ v'.ownBlock = some w.heap.size) := by
  obtain ⟨d, hd, hdk⟩ := hf.ty
  have hlen := hf.count
  have hsmall : n + m ≤ 9223372036854775807 := by simp only [maxLen] at h63; omega
  have hl2 : (xs ++ news).length = (n + m) * size := by rw [List.length_append, hown.1, hf.len, Nat.add_mul]
  have grown : ∀ (old : Nat), old < n + m → ∀ (row : Option Nat),
      Row (w.drew.alloc (.cells (xs.toArray ++ news.toArray ++ Builtin.zeroCells z.cells (grownCap w (n + m) old e - (n + m))) e)) e size
        (.slice (some ⟨w.heap.size, 0, none⟩) (n + m) (grownCap w (n + m) old e)) (n + m) (xs ++ news) ∧
      w.grownBy (w.drew.alloc (.cells (xs.toArray ++ news.toArray ++ Builtin.zeroCells z.cells (grownCap w (n + m) old e - (n + m))) e)) row := by
    intro old ho row
    have hge := grownCap_ge w (n + m) old e
    have hcm : grownCap w (n + m) old e ≤ maxLen := grownCap_le_maxLen w (n + m) old e h63
    refine ⟨⟨hl2, .inr ⟨w.heap.size, _, _, 0, 0, rfl, heap_alloc_new w.drew _, .inl (Nat.le_refl _), hge, hcm, ?_, ?_⟩⟩, ⟨rfl, rfl, rfl, by simp, fun k hk _ => Below.heap_alloc w.drew _ k hk⟩⟩
    · simp only [Array.size_append, List.size_toArray, size_zeroCells, hzs, hown.1, hf.len, ← Nat.add_mul]
      congr 1
      omega
    · simp only [Array.toList_append, List.append_assoc]
      rw [← List.append_assoc, ← hl2]
      exact List.take_left
  rcases hown.2 with ⟨rfl, rfl⟩ | ⟨g, cap, cur, lo, hi', rfl, hg, hmk, hnc, hcm, hcs, htake⟩
  · obtain rfl : xs = [] := List.eq_nil_of_length_eq_zero (by simpa using hown.1)
    have hfi := hf.first w rfl
    by_cases hm : m = 0
    · subst hm
      obtain rfl : news = [] := List.eq_nil_of_length_eq_zero (by simpa using hf.len)
      refine ⟨.slice none 0 0, w, ?_, Row.nil w e size, ⟨rfl, rfl, rfl, Nat.le_refl _, fun _ _ _ => rfl⟩, .inl rfl⟩
      simp [Builtin.append_, run_underlying ht, run_underlying hd, sizeOf, typeInfo, hi, hsize, hlen, hfi]
    · have hnn : ¬ (m ≤ 0) := by omega
      have h63' : ¬ (9223372036854775807 < (m : Int)) := by omega
      have h48' : ¬ (281474976710656 < Builtin.nextslicecap m 0 * i.bytes) := by
        have := growslice_fits (need := m) (old := 0) (bytes := bytes) (by omega) (by simpa using hbytes)
        rw [hby]; omega
      have hfi := hf.first w.drew rfl
      have hgr := grown 0 (by omega) none
      simp only [Nat.zero_add, List.nil_append, Array.empty_append] at hgr
      refine ⟨_, _, ?_, by simpa using hgr.1, by simpa [Value.ownBlock] using hgr.2, .inr rfl⟩
      have hm' : m ≠ 0 := hm
      simp [Builtin.append_, run_underlying ht, run_underlying hd, sizeOf, typeInfo, zeroValue, hi, hsize, hz, hlen, hm', h63', h48', Question.forced, run_firstCells_none, hfi, newRow, grownCap]
  · have hfi := hf.first w rfl
    by_cases hroom : n + m ≤ cap
    · have hfit : n * size + news.length ≤ cur.size := by rw [hf.len, hcs, ← Nat.add_mul]; exact Nat.mul_le_mul_right _ hroom
      have hst := run_storeCells_cells (P := P) g (n * size) news 0 w
        (fun j hj => by rw [blk_cell hg]; simp; omega)
        (fun j hj => by
          simp [World.frozen?, hg]
          intro h1
          rcases hmk with h | h
          · omega
          · have := hcs; omega) hf.one
      simp only [Nat.add_zero] at hst
      obtain ⟨cur', q1, q2, q3⟩ := setCells_heap g news (n * size) w cur e (lo, hi') hg hfit
      refine ⟨.slice (some ⟨g, 0, none⟩) (n + m) cap, w.setCells g (n * size) news, ?_, ⟨hl2, .inr ⟨g, cap, cur', lo, hi', rfl, q1, hmk, hroom, hcm, by rw [q2, hcs], ?_⟩⟩, setCells_grown g news _ w, .inl rfl⟩
      · simp [Builtin.append_, run_underlying ht, run_underlying hd, sizeOf, typeInfo, hi, hsize, hlen, hroom, hfi, Addr.add_lit, hst]
      · rw [q3, htake, ← hl2, List.take_left]
    · have hnn : ¬ (n + m ≤ cap) := hroom
      have h63' : ¬ (9223372036854775807 < ((n : Int) + (m : Int))) := by omega
      have h48' : ¬ (281474976710656 < Builtin.nextslicecap (n + m) cap * i.bytes) := by
        have := growslice_fits (need := n + m) (old := cap) (bytes := bytes) (by omega) hbytes
        rw [hby]; omega
      have hfd := hf.first w.drew rfl
      have hfo := run_firstCells_some (P := P) w.drew size n ⟨g, 0, none⟩ n cap xs hown.1 (fun j u hj => by
        rw [Addr.add_lit, Nat.zero_add]
        have := Row.cells hown j u hj
        simpa using this)
      have hgr := grown cap (by omega) (Value.ownBlock (.slice (some ⟨g, 0, none⟩) n cap))
      refine ⟨_, _, ?_, hgr.1, hgr.2, .inr rfl⟩
      simp [Builtin.append_, run_underlying ht, run_underlying hd, sizeOf, typeInfo, zeroValue, hi, hsize, hz, hlen, hnn, h63', h48', Question.forced, hfd, hfo, newRow, grownCap]
      congr 2
      apply Array.ext'
      simp [List.append_assoc]
/-- The same at the operation. -/
theorem wp_append_row {P : Program} (w : World) {o : Oper} {a : Act} {K : Act → World → Prop} {Q : Exit → Act → World → Prop} (s x : Operand) (t tx : TypeId)
    (ho : o.op = .call { callee := .builtin .append, args := #[s, x], argTypes := #[t, tx] })
    (e : TypeId) (i : TypeInfo) (z : Value) (size bytes : Nat) (ht : P.underlying t = some (.slice e)) (hi : P.info? e = some i) (hz : i.zero = some z)
    (hsize : i.size = size) (hby : i.bytes = bytes) (hzs : z.cells.size = size) (hbp : bytes ≠ 0)
    (v : Value) (n : Nat) (xs : List Value) (hs : a.eval s = v) (hown : Row w e size v n xs) (xv : Value) (hx : a.eval x = xv) (m : Nat) (news : List Value) (hf : Feeds P tx size w xv m news)
    (h63 : n + m ≤ maxLen) (hbytes : (n + m) * bytes ≤ 140737488355328) (H : Nat) (hH : w.heap.size = H)
    (h : ∀ ao cap w', Row w' e size (.slice ao (n + m) cap) (n + m) (xs ++ news) → w.grownBy w' v.ownBlock → ((Value.slice ao (n + m) cap).ownBlock = v.ownBlock ∨ (Value.slice ao (n + m) cap).ownBlock = some H) → K (a.put o.dst (.slice ao (n + m) cap)) w') : o.wp P a w K Q := by
  obtain ⟨v', w', hr, h2, h3, h4⟩ := run_append_row (P := P) w t tx o.type e i z size bytes ht hi hz hsize hby hzs hbp v n xs hown xv m news hf h63 hbytes
  obtain ⟨ao, cap, rfl, _⟩ := h2.form
  unfold Oper.wp execOp
  simp only [ho, resolve, invoke, builtin, Sem.run_bind, Sem.run_pure, Result.andThen_ok, List.map_toArray, List.map_cons, List.map_nil, hs, hx, hr]
  exact h ao cap w' h2 h3 (by rw [← hH]; exact h4)
/-- At the list of a plain region's operations. -/
theorem wpList_append_row {P : Program} (w : World) {ops : Array Oper} {rest : List Oper} {o : Oper} {a : Act} {Q : Exit → Act → World → Prop} (hgd : o.guard = none) (s x : Operand) (t tx : TypeId)
    (ho : o.op = .call { callee := .builtin .append, args := #[s, x], argTypes := #[t, tx] })
    (e : TypeId) (i : TypeInfo) (z : Value) (size bytes : Nat) (ht : P.underlying t = some (.slice e)) (hi : P.info? e = some i) (hz : i.zero = some z)
    (hsize : i.size = size) (hby : i.bytes = bytes) (hzs : z.cells.size = size) (hbp : bytes ≠ 0)
    (v : Value) (n : Nat) (xs : List Value) (hs : a.eval s = v) (hown : Row w e size v n xs) (xv : Value) (hx : a.eval x = xv) (m : Nat) (news : List Value) (hf : Feeds P tx size w xv m news)
    (h63 : n + m ≤ maxLen) (hbytes : (n + m) * bytes ≤ 140737488355328) (H : Nat) (hH : w.heap.size = H)
    (h : ∀ ao cap w', Row w' e size (.slice ao (n + m) cap) (n + m) (xs ++ news) → w.grownBy w' v.ownBlock → ((Value.slice ao (n + m) cap).ownBlock = v.ownBlock ∨ (Value.slice ao (n + m) cap).ownBlock = some H) → wpList P ops Q rest (a.put o.dst (.slice ao (n + m) cap)) w') : wpList P ops Q (o :: rest) a w :=
  wpList_plain hgd fun _ hK => wp_append_row w s x t tx ho e i z size bytes ht hi hz hsize hby hzs hbp v n xs hs hown xv hx m news hf h63 hbytes H hH fun ao cap w' h2 h3 h4 => hK _ _ (h ao cap w' h2 h3 h4)
/-- At a step of a region that draws its order. -/
theorem step_append_row {P : Program} {w : World} {ops : Array Oper} {o : Oper} {a : Act} {K : Act → World → Prop} {Q : Exit → Act → World → Prop} {E : Prop} (hgd : o.guard = none) (s x : Operand) (t tx : TypeId)
    (ho : o.op = .call { callee := .builtin .append, args := #[s, x], argTypes := #[t, tx] })
    (e : TypeId) (i : TypeInfo) (z : Value) (size bytes : Nat) (ht : P.underlying t = some (.slice e)) (hi : P.info? e = some i) (hz : i.zero = some z)
    (hsize : i.size = size) (hby : i.bytes = bytes) (hzs : z.cells.size = size) (hbp : bytes ≠ 0)
    (v : Value) (n : Nat) (xs : List Value) (hs : a.eval s = v) (hown : Row w e size v n xs) (xv : Value) (hx : a.eval x = xv) (m : Nat) (news : List Value) (hf : Feeds P tx size w xv m news)
    (h63 : n + m ≤ maxLen) (hbytes : (n + m) * bytes ≤ 140737488355328) (H : Nat) (hH : w.heap.size = H)
    (h : ∀ ao cap w', Row w' e size (.slice ao (n + m) cap) (n + m) (xs ++ news) → w.grownBy w' v.ownBlock → ((Value.slice ao (n + m) cap).ownBlock = v.ownBlock ∨ (Value.slice ao (n + m) cap).ownBlock = some H) → K (a.put o.dst (.slice ao (n + m) cap)) w') :
    if Region.wanted o (yielded ops a.tmps) = true then Oper.wp P o a w K Q else E := by
  have hw : Region.wanted o (yielded ops a.tmps) = true := by simp [Region.wanted, hgd]
  rw [if_pos hw]
  exact wp_append_row w s x t tx ho e i z size bytes ht hi hz hsize hby hzs hbp v n xs hs hown xv hx m news hf h63 hbytes H hH h
/-- A row of the call's own: w0 is the world in which the call began. -/
structure Loc (w0 w : World) (e : TypeId) (size : Nat) (v : Value) (n : Nat) (xs : List Value) : Prop where
  row : Row w e size v n xs
  below : Below w0.heap.size w0 w
  base : ∀ g, v.ownBlock = some g → w0.heap.size ≤ g
theorem Loc.nil {w0 w : World} (h : Below w0.heap.size w0 w) (e : TypeId) (size : Nat) : Loc w0 w e size (.slice none 0 0) 0 [] := ⟨Row.nil _ _ _, h, by simp [Value.ownBlock]⟩
theorem Loc.app {w0 w wm w1 : World} {e : TypeId} {size : Nat} {v : Value} {n m cap H : Nat} {xs news : List Value} {ao : Option Addr} (h : Loc w0 w e size v n xs) (hm : Below w.heap.size w wm)
    (hown : Row w1 e size (.slice ao (n + m) cap) (n + m) (xs ++ news)) (hgrow : wm.grownBy w1 v.ownBlock)
    (hat : (Value.slice ao (n + m) cap).ownBlock = v.ownBlock ∨ (Value.slice ao (n + m) cap).ownBlock = some H) (hH : w.heap.size ≤ H) : Loc w0 w1 e size (.slice ao (n + m) cap) (n + m) (xs ++ news) := by
  have h0 := h.below.size
  refine ⟨hown, (h.below.trans (hm.mono h0)).grown hgrow (by have := hm.size; omega) (fun k hk => h.base k hk), fun g hg => ?_⟩
  rcases hat with e | e
  · exact h.base g (by rw [← e]; exact hg)
  · rw [hg] at e; cases e; omega
theorem Loc.step {w0 w w1 : World} {e : TypeId} {size : Nat} {v : Value} {n : Nat} {xs : List Value} (h : Loc w0 w e size v n xs) (hb : Below w.heap.size w w1) : Loc w0 w1 e size v n xs :=
  ⟨h.row.kept (S := fun _ => False) (Keeps.of_below hb) (fun _ _ h => h), h.below.trans (hb.mono h.below.size), h.base⟩
/-- Bytes as values, and back: what a row of bytes gives as a string. -/
def nums (xs : List Int) : List Value := xs.map fun x => .int .u8 x
theorem nums_length (xs : List Int) : (nums xs).length = xs.length := by simp [nums]
theorem nums_append (xs ys : List Int) : nums (xs ++ ys) = nums xs ++ nums ys := by simp [nums]
theorem nums_one (xs : List Int) : ∀ u ∈ nums xs, u.oneCell' = true := by
  intro u hu
  simp only [nums, List.mem_map] at hu
  obtain ⟨x, _, rfl⟩ := hu
  rfl
theorem row_string {P : Program} {w : World} {src dst e : TypeId} {v : Value} {n : Nat} {xs : List Int} (hs : P.underlying src = some (.slice e)) (he : P.underlying e = some (.int .u8)) (hd : P.underlying dst = some .string) (h : Row w e 1 v n (nums xs)) :
    (convert src dst v).run P w = .ok (.string (strOfNums xs)) w := by
  have hl : xs.length = n := by simpa [nums] using h.1
  rcases h.2 with ⟨rfl, rfl⟩ | ⟨g, cap, cur, lo, hi, rfl, hg, _⟩
  · obtain rfl : xs = [] := List.eq_nil_of_length_eq_zero hl
    exact run_convert_bytes_nil w src e hs he 0 0 dst hd
  · refine run_convert_bytes_arg w src e hs he g 0 n cap xs hl (fun j hj => ?_) dst hd
    rw [Nat.zero_add]
    refine Row.cells h j _ ?_
    have : j < xs.length := by omega
    simp [nums, List.getElem?_eq_getElem this, List.getD]
/-- A text's bytes as numbers. -/
def bytesOf (s : ByteArray) : List Int := s.data.toList.map fun b => (b.toNat : Int)
theorem bytesOf_length (s : ByteArray) : (bytesOf s).length = s.size := by rw [bytesOf, List.length_map, Array.length_toList]; rfl
theorem nums_bytesOf (s : ByteArray) : nums (bytesOf s) = s.data.toList.map fun b => Value.int .u8 b.toNat := by simp [nums, bytesOf]
theorem strOfNums_bytesOf (s : ByteArray) : strOfNums (bytesOf s) = s := by
  have : (List.map ((fun n => UInt8.ofNat n.toNat) ∘ fun b => ((b : UInt8).toNat : Int)) s.data.toList) = s.data.toList := by
    conv => rhs; rw [← List.map_id s.data.toList]
    refine List.map_congr_left fun b _ => ?_
    simp
  unfold strOfNums bytesOf
  rw [List.map_map, this]
theorem strOfNums_append (xs ys : List Int) : strOfNums (xs ++ ys) = strOfNums xs ++ strOfNums ys := by
  apply ByteArray.ext
  simp [strOfNums]
theorem bytes_below (w : World) (e : TypeId) (s : ByteArray) : Below w.heap.size w (Lib.bytesWorld w e s) := by
  refine ⟨?_, ?_, ?_, by rw [Lib.bytesWorld_size]; omega, fun k hk => Lib.bytesWorld_at_old w e s k hk⟩ <;> simp [Lib.bytesWorld, World.freeze] <;> rfl
theorem infoByte : (Try.prog.info? 5).map (fun i => (i.zero, i.size, i.bytes)) = some (some (.int .u8 0), 1, 1) := by kernel_rfl
theorem bytesOf_strOfNums (xs : List Int) (h : ∀ x ∈ xs, 0 ≤ x ∧ x < 256) : bytesOf (strOfNums xs) = xs := by
  rw [bytesOf, strOfNums_data, List.map_map]
  refine (List.map_congr_left (g := id) fun x hx => ?_).trans (List.map_id _)
  have := h x hx
  simp
  omega
theorem bytesOf_extract (s : ByteArray) (a b : Nat) : bytesOf (s.extract a b) = ((bytesOf s).drop a).take (b - a) := by
  simp only [bytesOf, Lib.extract_data, List.map_take, List.map_drop]
theorem toList_eq {a b : ByteArray} : a.toList = b.toList ↔ a = b := ⟨fun h => by
    rw [ByteArray.toList_eq, ByteArray.toList_eq] at h
    exact ByteArray.ext (Array.toList_inj.mp h), fun h => by rw [h]⟩
/-- A writer: block g holds the slice v of the bytes xs, and whether something had no room. -/
structure Wr (w : World) (g : Nat) (v : Value) (xs : List Int) (bad : Bool) : Prop where
  blk : w.heap[g]? = some (.cells #[v, .bool bad] 96 (0, 0))
  own : Row w 5 1 v xs.length (nums xs)
  ne : some g ≠ v.ownBlock
theorem Wr.kept {S : Nat → Prop} {w w' : World} {g : Nat} {v : Value} {xs : List Int} {bad : Bool} (h : Wr w g v xs bad) (hk : Keeps S w w') (hg : ¬ S g) (hn : ∀ k, v.ownBlock = some k → ¬ S k) : Wr w' g v xs bad :=
  ⟨hk.at_ h.blk hg, h.own.kept hk hn, h.ne⟩
theorem Wr.lt {w : World} {g : Nat} {v : Value} {xs : List Int} {bad : Bool} (h : Wr w g v xs bad) : g < w.heap.size := blk_lt h.blk
/-- The lowest k bytes of a number. -/
def le (n : Int) (k : Nat) : List Int := (List.range k).map fun i => (n / 2 ^ (8 * i)) % 256
theorem le_length (n : Int) (k : Nat) : (le n k).length = k := by simp [le]
theorem le_succ (n : Int) (k : Nat) : le n (k + 1) = le n k ++ [(n / 2 ^ (8 * k)) % 256] := by simp [le, List.range_succ]
/-- From w to w' the writer at g (its row there: v) has come to hold xs' and bad'; nothing else was written. -/
def WrTo (g : Nat) (v : Value) (w : World) (xs' : List Int) (bad' : Bool) (w' : World) : Prop :=
  ∃ v', Wr w' g v' xs' bad' ∧ Keeps (fun i => i = g ∨ some i = v.ownBlock) w w' ∧ (v'.ownBlock = v.ownBlock ∨ ∃ b, v'.ownBlock = some b ∧ w.heap.size ≤ b)
theorem WrTo.refl {g : Nat} {v : Value} {w : World} {xs : List Int} {bad : Bool} (h : Wr w g v xs bad) : WrTo g v w xs bad w := ⟨v, h, Keeps.refl _ _, .inl rfl⟩
theorem WrTo.trans {g : Nat} {v v' : Value} {w w1 w2 : World} {xs : List Int} {bad : Bool}
    (hK : Keeps (fun i => i = g ∨ some i = v.ownBlock) w w1) (hv : v'.ownBlock = v.ownBlock ∨ ∃ b, v'.ownBlock = some b ∧ w.heap.size ≤ b)
    (h : WrTo g v' w1 xs bad w2) : WrTo g v w xs bad w2 := by
  obtain ⟨v2, h1, h2, h3⟩ := h
  refine ⟨v2, h1, hK.trans h2 ?_, ?_⟩
  · intro i hi hs
    rcases hs with hs | hs
    · exact .inl hs
    · rcases hv with e | ⟨b, e, hb⟩
      · exact .inr (hs.trans e)
      · rw [e] at hs; cases hs; omega
  · rcases h3 with e | ⟨b, e, hb⟩
    · rcases hv with e2 | ⟨b, e2, hb⟩
      · exact .inl (e.trans e2)
      · exact .inr ⟨b, e.trans e2, hb⟩
    · exact .inr ⟨b, e, by have := hK.size; omega⟩
/-- Something has no room: the flag. -/
theorem flag_to {g : Nat} {v : Value} {w : World} {xs : List Int} {bad : Bool} (h : Wr w g v xs bad) : WrTo g v w xs true (w.setCell ⟨g, 1, none⟩ (.bool true)) := by
  have hk : Keeps (fun i => i = g) w (w.setCell ⟨g, 1, none⟩ (.bool true)) := (Keeps.refl (fun i => i = g) w).setCell (p := ⟨g, 1, none⟩) (fun _ => rfl) _
  refine ⟨v, ⟨?_, h.own.kept hk (fun k hk e => h.ne (by rw [hk, e])), h.ne⟩, hk.mono (fun i _ h => .inl h), .inl rfl⟩
  rw [blk_set h.blk]; simp
/-- An append to the row and its store: whatever is appended. -/
theorem step_to {g : Nat} {v : Value} {w wm w1 : World} {xs ys : List Int} {bad : Bool} {ao : Option Addr} {m cap : Nat} (h : Wr w g v xs bad) (hm : Below w.heap.size w wm) (hys : ys.length = m)
    (hown : Row w1 5 1 (.slice ao (xs.length + m) cap) (xs.length + m) (nums xs ++ nums ys)) (hgrow : wm.grownBy w1 v.ownBlock)
    (hat : (Value.slice ao (xs.length + m) cap).ownBlock = v.ownBlock ∨ (Value.slice ao (xs.length + m) cap).ownBlock = some wm.heap.size) :
    WrTo g v w (xs ++ ys) bad (w1.setCell ⟨g, 0, none⟩ (.slice ao (xs.length + m) cap)) := by
  have hlt := h.lt
  have hsz := hm.size
  have hb : w1.heap[g]? = some (.cells #[v, .bool bad] 96 (0, 0)) := by
    rw [hgrow.block g (by omega) h.ne, hm.block g hlt]
    exact h.blk
  have hne : some g ≠ (Value.slice ao (xs.length + m) cap).ownBlock := by
    rcases hat with e | e
    · rw [e]; exact h.ne
    · rw [e]; intro h; cases h; omega
  have hk1 : Keeps (fun i => i = g ∨ some i = v.ownBlock) w (w1.setCell ⟨g, 0, none⟩ (.slice ao (xs.length + m) cap)) := by
    refine Keeps.setCell ?_ (fun _ => .inl rfl) _
    exact (Keeps.of_below (S := fun i => i = g ∨ some i = v.ownBlock) hm).trans (Keeps.of_grown (S := fun i => some i = v.ownBlock) hgrow (fun k hk => hk.symm)) (fun i _ h => .inr h)
  refine ⟨.slice ao (xs.length + m) cap, ⟨?_, ?_, hne⟩, hk1, ?_⟩
  · rw [blk_set hb]; simp
  · have hl : (xs ++ ys).length = xs.length + m := by simp [hys]
    rw [hl, nums_append]
    exact hown.kept ((Keeps.refl (fun i => i = g) w1).setCell (p := ⟨g, 0, none⟩) (fun _ => rfl) _) (fun k hk e => hne (by rw [hk, e]))
  · rcases hat with e | e
    · exact .inl e
    · exact .inr ⟨_, e, hsz⟩
set_option maxRecDepth 100000 in
theorem put_neg (g : Nat) (v : Value) (xs : List Int) (bad : Bool) (n width : Int) (w : World) (h : Wr w g v xs bad) (hn : n < 0) :
    Calls Try.prog 49 #[.pointer (some ⟨g, 0, none⟩), .int .i64 n, .int .i64 width] w fun e w' => e = .returned (.tuple #[]) ∧ WrTo g v w xs true w' := by
  have hw := flag_to h
  have hc := blk_cell h.blk 1
  have hf := blk_frozen h.blk 1
  have hl := h.lt
  clear h
  go_enter Try.func49, Try.ntmps49
  go_wp2
  refine bodyPost_ret (results_none rfl _ _ _) rfl ?_
  exact ⟨rfl, hw⟩
set_option maxRecDepth 100000 in
theorem put_over (g : Nat) (v : Value) (xs : List Int) (bad : Bool) (n width : Int) (w : World) (h : Wr w g v xs bad) (hn : 0 ≤ n) (hn2 : n ≤ 9223372036854775807) (h0 : 0 ≤ width) (h6 : width ≤ 6)
    (hs : (n / 2 ^ (8 * width).toNat != 0) = true) :
    Calls Try.prog 49 #[.pointer (some ⟨g, 0, none⟩), .int .i64 n, .int .i64 width] w fun e w' => e = .returned (.tuple #[]) ∧ WrTo g v w xs true w' := by
  have hw := flag_to h
  have hc := blk_cell h.blk 1
  have hf := blk_frozen h.blk 1
  have hl := h.lt
  clear h
  go_enter Try.func49, Try.ntmps49
  go_wp2
  refine bodyPost_ret (results_none rfl _ _ _) rfl ?_
  exact ⟨rfl, hw⟩
set_option maxRecDepth 100000 in
theorem put_good (g : Nat) (v : Value) (xs : List Int) (bad : Bool) (n width : Int) (w : World) (h : Wr w g v xs bad) (hx : xs.length ≤ 1000000) (hn : 0 ≤ n) (hn2 : n ≤ 9223372036854775807) (h0 : 0 ≤ width) (h6 : width ≤ 6)
    (hs : (n / 2 ^ (8 * width).toNat != 0) = false) :
    Calls Try.prog 49 #[.pointer (some ⟨g, 0, none⟩), .int .i64 n, .int .i64 width] w fun e w' => e = .returned (.tuple #[]) ∧ WrTo g v w (xs ++ le n width.toNat) bad w' := by
  obtain ⟨i0, hi, hz0, hz1, hz2⟩ := info_parts infoByte
  have HI := Lib.hid hi
  have HZ0 := Lib.hid hz0
  have HZ1 := Lib.hid hz1
  have HZ2 := Lib.hid hz2
  clear hi hz0 hz1 hz2
  go_enter Try.func49, Try.ntmps49
  go_wp2
  go_loopw [6, 20] (fun a i wr => ∃ k : Nat, (k : Int) ≤ width ∧ i = .int .i64 k ∧ WrTo g v w (xs ++ le n k) bad wr) (fun _ i _ => width.toNat - (intOf i).toNat)
  case atStart => exact ⟨0, h0, rfl, by simpa [le] using WrTo.refl h⟩
  case round =>
    obtain ⟨k, hk, rfl, v', hW, hK, hv⟩ := hrel
    by_cases hlt : (k : Int) < width
    · have hc := blk_cell hW.blk 0
      have hf := blk_frozen hW.blk 0
      have hl := hW.lt
      have hh : k ≤ 5 := by omega
      have HW := Lib.hid hW
      have hlen : (xs ++ le n k).length ≤ 1000006 := by rw [List.length_append, le_length]; omega
      go_wp2
      have hw8 : IntKind.i64.wrap (8 * (k : Int)) = 8 * (k : Int) := IntWalk.i64_in _ (by omega)
      have hp8 : (0 : Int) ≤ 8 * (k : Int) := by omega
      have ht8 : (8 * (k : Int)).toNat = 8 * k := by omega
      have hm8 : min (8 * k) 64 = 8 * k := by omega
      clear hW
      go_region_law
        ((refine step_append_row (by rfl) _ _ _ _ (by rfl) 5 i0 (.int .u8 0) 1 1 Try.underlying84 HI.out HZ0.out HZ1.out HZ2.out rfl (by omega) v' _ _ (by rfl) ((HW.out.own.alloc _).drew) _ (by rfl) 1 [.int .u8 (IntKind.u8.wrap (n / 2 ^ (8 * k)))] (Feeds.slice Try.underlying84 ⟨wr.heap.size, 0, none⟩ 1 1 _ (by rfl) (by simp [Value.oneCell']) (World.news_of_block (cs := #[.int .u8 (IntKind.u8.wrap (n / 2 ^ (8 * k)))]) (t := 5) (fr := (0, 0)) (heap_alloc_new wr _))) (by unfold maxLen; omega) (by omega) (wr.heap.size + 1) (by simp) ?_; intro ao cap w1 hown1 hgrow hat; have hcz : w1.cell? ⟨g, 0, none⟩ = some v' := (hgrow.cell_far ⟨g, 0, none⟩ (by simp; omega) HW.out.ne).trans ((World.cell?_of_block (w := wr) (Below.heap_alloc wr _ g hl)).trans hc); have hfz : w1.frozen? ⟨g, 0, none⟩ = false := (hgrow.frozen_far ⟨g, 0, none⟩ (by simp; omega) HW.out.ne).trans ((World.frozen?_of_block (w := wr) (Below.heap_alloc wr _ g hl)).trans hf)))
      all_goals
        have hstep := step_to (ys := [(n / 2 ^ (8 * k)) % 256]) HW.out (((Below.refl _ wr).alloc (Nat.le_refl _) _).drew) rfl (by simpa [nums, IntKind.wrap, IntKind.bits, IntKind.signed] using hown1) hgrow (by simpa using hat)
        rw [List.append_assoc, ← le_succ] at hstep
        have hs2 := WrTo.trans hK hv hstep
        have hlq : (xs ++ le n k).length = xs.length + (le n k).length := List.length_append
        rw [hlq] at hs2
        have HS := Lib.hid hs2
        clear hgrow hown1 hat hstep hs2 hlq
        go_wp2
        go_roundw
        case rel => exact ⟨k + 1, by omega, by go_num, HS.out⟩
        case measure => simp [intOf]; omega
    · go_wp2
      have hkw : k = width.toNat := by omega
      subst hkw
      refine bodyPost_end (results_none rfl _ _ _) rfl ?_
      exact ⟨rfl, v', hW, hK, hv⟩
set_option maxRecDepth 100000 in
/-- So many bytes 0 behind. -/
theorem full_any (g : Nat) (v : Value) (xs : List Int) (bad : Bool) (n : Int) (w : World) (h : Wr w g v xs bad) (hx : xs.length ≤ 1000000) (h0 : 0 ≤ n) (hn : n ≤ 1000000) :
    Calls Try.prog 66 #[.pointer (some ⟨g, 0, none⟩), .int .i64 n] w fun e w' => e = .returned (.string (strOfNums (xs ++ List.replicate (n.toNat - xs.length) 0))) ∧ WrTo g v w (xs ++ List.replicate (n.toNat - xs.length) 0) bad w' := by
  obtain ⟨i0, hi, hz0, hz1, hz2⟩ := info_parts infoByte
  have HI := Lib.hid hi
  have HZ0 := Lib.hid hz0
  have HZ1 := Lib.hid hz1
  have HZ2 := Lib.hid hz2
  clear hi hz0 hz1 hz2
  go_enter Try.func66, Try.ntmps66
  go_wp2
  go_loopg [5] (n.toNat - xs.length) (fun j p wr => ∃ k, j + k = n.toNat - xs.length ∧ WrTo g v w (xs ++ List.replicate k 0) bad wr)
  case atStart => exact ⟨0, rfl, by simpa using WrTo.refl h⟩
  case round =>
    obtain ⟨k, hk, v', hW, hK, hv⟩ := hrel
    obtain ⟨ys, hys⟩ : ∃ ys, ys = xs ++ List.replicate k (0 : Int) := ⟨_, rfl⟩
    rw [← hys] at hW
    have hlen : ys.length = xs.length + k := by rw [hys]; simp
    obtain ⟨ao, cap, rfl, hcap⟩ := hW.own.form
    have hc := blk_cell hW.blk 0
    have hf := blk_frozen hW.blk 0
    have hl := hW.lt
    have HW := Lib.hid hW
    have HL := Lib.hid hlen
    have HY := Lib.hid hys
    by_cases hlt : xs.length + k < n.toNat
    · have ht : (ys.length : Int) < n := by rw [hlen]; omega
      have hlq : ys.length ≤ 2000000 := by rw [hlen]; omega
      clear hW hlen hys
      go_wp2_with (at_builtin; go_must (refine wpList_append_row _ (by rfl) _ _ _ _ (by rfl) 5 i0 (.int .u8 0) 1 1 Try.underlying84 HI.out HZ0.out HZ1.out HZ2.out rfl (by omega) _ _ _ (by rfl) (HW.out.own.alloc _) _ (by rfl) 1 [.int .u8 0] (Feeds.slice Try.underlying84 ⟨wr.heap.size, 0, none⟩ 1 1 _ rfl (by simp [Value.oneCell']) (World.news_of_block (cs := #[.int .u8 0]) (t := 5) (fr := (0, 0)) (heap_alloc_new wr _))) (by unfold maxLen; omega) (by omega) (wr.heap.size + 1) (by simp) ?_); go_must (intro ao2 cap2 w1 hown1 hgrow hat); go_must (have hcz := (hgrow.cell_far ⟨g, 0, none⟩ (by simp; omega) HW.out.ne).trans ((World.cell?_of_block (w := wr) (Below.heap_alloc wr _ g hl)).trans hc)); go_must (have hfz : w1.frozen? ⟨g, 0, none⟩ = false := (hgrow.frozen_far ⟨g, 0, none⟩ (by simp; omega) HW.out.ne).trans ((World.frozen?_of_block (w := wr) (Below.heap_alloc wr _ g hl)).trans hf)); go_must (have HS := Lib.hid (step_to (ys := [0]) (m := 1) HW.out ((Below.refl _ wr).alloc (Nat.le_refl _) _) rfl (by simpa [nums] using hown1) hgrow (by simpa using hat))); go_must (clear hgrow hown1 hat))
      have hyk : ys ++ [0] = xs ++ List.replicate (k + 1) 0 := by rw [HY.out, List.append_assoc, List.replicate_succ']
      have hs2 := WrTo.trans hK hv HS.out
      rw [hyk] at hs2
      have HS2 := Lib.hid hs2
      clear hs2 HS hyk
      go_roundg (gk - 1)
      case measure => omega
      case rel => exact ⟨k + 1, by omega, HS2.out⟩
    · have ht : ¬ (ys.length : Int) < n := by rw [hlen]; omega
      have hcs := row_string (P := Try.prog) Try.underlying84 Try.underlying5 Try.underlying9 hW.own
      have hkw : k = n.toNat - xs.length := by omega
      have HK := Lib.hid hkw
      clear hW hlen hys hkw
      go_wp2
      refine bodyPost_ret (results_tmp rfl _ _ _) rfl ?_
      refine ⟨?_, ?_⟩
      · rw [← HK.out, ← HY.out]
        rfl
      · rw [← HK.out, ← HY.out]
        exact ⟨_, HW.out, hK, hv⟩
/-- What a writer that was just made holds. -/
theorem Wr.made (w : World) : Wr (w.alloc (.cells #[.slice none 0 0, .bool false] 96)) w.heap.size (.slice none 0 0) [] false :=
  ⟨heap_alloc_new w _, Row.nil _ _ _, by simp [Value.ownBlock]⟩
/-- Has a number room in so many bytes? -/
def fits (n : Int) (k : Nat) : Bool := decide (0 ≤ n) && (n / 2 ^ (8 * k) == 0)
/-- What stands behind a put. -/
def putXs (xs : List Int) (n : Int) (k : Nat) : List Int := if fits n k = true then xs ++ le n k else xs
def putBad (bad : Bool) (n : Int) (k : Nat) : Bool := if fits n k = true then bad else true
theorem put_any (g : Nat) (v : Value) (xs : List Int) (bad : Bool) (n width : Int) (w : World) (h : Wr w g v xs bad) (hx : xs.length ≤ 1000000) (hn : -9223372036854775808 ≤ n) (hn2 : n ≤ 9223372036854775807) (h0 : 0 ≤ width) (h6 : width ≤ 6) :
    Calls Try.prog 49 #[.pointer (some ⟨g, 0, none⟩), .int .i64 n, .int .i64 width] w fun e w' => e = .returned (.tuple #[]) ∧ WrTo g v w (putXs xs n width.toNat) (putBad bad n width.toNat) w' := by
  have hpow : (8 * width).toNat = 8 * width.toNat := by omega
  by_cases hneg : n < 0
  · have hf : fits n width.toNat = false := by simp [fits]; omega
    rw [putXs, putBad, hf]
    exact put_neg g v xs bad n width w h hneg
  · by_cases hov : n / 2 ^ (8 * width.toNat) = 0
    · have hf : fits n width.toNat = true := by simp [fits, hov]; omega
      rw [putXs, putBad, hf]
      exact put_good g v xs bad n width w h hx (by omega) hn2 h0 h6 (by rw [hpow, hov]; rfl)
    · have hf : fits n width.toNat = false := by simp [fits, hov]
      rw [putXs, putBad, hf]
      exact put_over g v xs bad n width w h (by omega) hn2 h0 h6 (by rw [hpow]; simpa using hov)
/-- What Put answers. -/
def putSpec (n width : Int) : ByteArray × Int := if width < 1 ∨ 6 < width then (⟨#[]⟩, 1) else if fits n width.toNat = true then (strOfNums (le n width.toNat), 0) else (⟨#[]⟩, 2)
/-- What is left of the world behind a call that worked on a writer of its own. -/
theorem WrTo.below {w w1 : World} {o : Obj} {xs : List Int} {bad : Bool} (h : WrTo w.heap.size (.slice none 0 0) (w.alloc o) xs bad w1) : Below w.heap.size w w1 := by
  obtain ⟨v', _, hk, _⟩ := h
  have h1 : Below w.heap.size (w.alloc o) w1 := hk.below (by simp) (fun i hi hs => by
    rcases hs with hs | hs
    · omega
    · simp [Value.ownBlock] at hs)
  exact ((Below.refl _ w).alloc (Nat.le_refl _) o).trans h1
set_option maxRecDepth 100000 in
theorem Put_any (n width : Int) (hn : -9223372036854775808 ≤ n) (hn2 : n ≤ 9223372036854775807) (w : World) :
    Calls Try.prog 40 #[.int .i64 n, .int .i64 width] w fun e w' => e = .returned (.tuple #[.string (putSpec n width).1, .int .i64 (putSpec n width).2]) ∧ Below w.heap.size w w' := by
  by_cases h1 : width < 1
  · have hs : putSpec n width = (⟨#[]⟩, 1) := by simp [putSpec, h1]
    have HS := Lib.hid hs
    clear hs
    go_enter Try.func40, Try.ntmps40
    go_wp2
    go_ret2
    rw [HS.out]
    exact ⟨rfl, Below.refl _ _⟩
  by_cases h6 : 6 < width
  · have hs : putSpec n width = (⟨#[]⟩, 1) := by simp [putSpec, h6]
    have HS := Lib.hid hs
    clear hs
    go_enter Try.func40, Try.ntmps40
    go_wp2
    go_ret2
    rw [HS.out]
    exact ⟨rfl, Below.refl _ _⟩
  have hw := Wr.made w
  have HW := Lib.hid hw
  clear hw
  by_cases hf : fits n width.toNat = true
  · have hs : putSpec n width = (strOfNums (le n width.toNat), 0) := by rw [putSpec, if_neg (by omega), if_pos hf]
    have HS := Lib.hid hs
    have hx : putXs [] n width.toNat = le n width.toNat := by rw [putXs, if_pos hf]; rfl
    have hb : putBad false n width.toNat = false := by rw [putBad, if_pos hf]
    have HX := Lib.hid hx
    have HB := Lib.hid hb
    clear hs hx hb hf
    go_enter Try.func40, Try.ntmps40
    go_wp2_with fail
    refine (put_any _ _ _ _ n width _ HW.out (by simp) hn hn2 (by omega) (by omega)).mono ?_
    rintro e w1 ⟨rfl, hw1⟩
    rw [HX.out, HB.out] at hw1
    have HB1 := Lib.hid (WrTo.below hw1)
    obtain ⟨v', hW, hK, hv⟩ := hw1
    obtain ⟨ao, cap, rfl, hcap⟩ := hW.own.form
    have hc0 := blk_cell hW.blk 0
    have hc1 := blk_cell hW.blk 1
    have hcs := row_string (P := Try.prog) Try.underlying84 Try.underlying5 Try.underlying9 hW.own
    clear hW hK hv
    go_wp2
    go_ret2
    rw [HS.out]
    exact ⟨rfl, HB1.out⟩
  · have hs : putSpec n width = (⟨#[]⟩, 2) := by rw [putSpec, if_neg (by omega), if_neg hf]
    have HS := Lib.hid hs
    have hb : putBad false n width.toNat = true := by rw [putBad, if_neg hf]
    have HB := Lib.hid hb
    clear hs hb hf
    go_enter Try.func40, Try.ntmps40
    go_wp2_with fail
    refine (put_any _ _ _ _ n width _ HW.out (by simp) hn hn2 (by omega) (by omega)).mono ?_
    rintro e w1 ⟨rfl, hw1⟩
    rw [HB.out] at hw1
    have HB1 := Lib.hid (WrTo.below hw1)
    obtain ⟨v', hW, hK, hv⟩ := hw1
    have hc1 := blk_cell hW.blk 1
    clear hW hK hv
    go_wp2
    go_ret2
    rw [HS.out]
    exact ⟨rfl, HB1.out⟩
end Go.Proofs.Ytjoilobbopdcpaa.B
namespace Go.Proofs.Ytjoilobbopdcpaa.B
open Go.RowKit
set_option linter.unusedVariables false
theorem div_step (n : Int) (k : Nat) : n / 2 ^ (8 * k) / 256 = n / 2 ^ (8 * (k + 1)) := by
  rw [Int.ediv_ediv_of_nonneg (by exact_mod_cast Nat.zero_le _), show 8 * (k + 1) = 8 * k + 8 by omega, Int.pow_add]
  rfl
theorem div_pow_nonneg {n : Int} (h : 0 ≤ n) (k : Nat) : 0 ≤ n / 2 ^ (8 * k) := Int.ediv_nonneg h (by exact_mod_cast Nat.zero_le _)
theorem div_pow_le {n : Int} (h : 0 ≤ n) (k : Nat) : n / 2 ^ (8 * k) ≤ n := Int.ediv_le_self _ h
set_option maxRecDepth 100000 in
theorem refPut_loop (n width : Int) (hn : 0 ≤ n) (hn2 : n ≤ 9223372036854775807) (h0 : 1 ≤ width) (h6 : width ≤ 6) (w : World) :
    Calls Try.prog 43 #[.int .i64 n, .int .i64 width] w fun e w' => e = .returned (.tuple #[.string (putSpec n width).1, .int .i64 (putSpec n width).2]) ∧ Below w.heap.size w w' := by
  obtain ⟨i0, hi, hz0, hz1, hz2⟩ := info_parts infoByte
  have HI := Lib.hid hi
  have HZ0 := Lib.hid hz0
  have HZ1 := Lib.hid hz1
  have HZ2 := Lib.hid hz2
  clear hi hz0 hz1 hz2
  go_enter Try.func43, Try.ntmps43
  go_wp2
  go_loopg [0, 6, 7] width.toNat (fun j q b i wr => ∃ (k : Nat) (v : Value), (j : Int) + k = width ∧ q = .int .i64 (n / 2 ^ (8 * k)) ∧ i = .int .i64 k ∧ b = v ∧ Loc w wr 5 1 v k (nums (le n k)))
  case atStart => exact ⟨0, .slice none 0 0, by omega, by simp, rfl, rfl, Loc.nil (Below.refl _ _) _ _⟩
  case round =>
    obtain ⟨k, v, hk, rfl, rfl, rfl, hA⟩ := hrel
    have hq0 := div_pow_nonneg hn k
    have hq1 := div_pow_le hn k
    have hkb : k ≤ 6 := by omega
    by_cases hlt : (k : Int) < width
    · obtain ⟨q, hq⟩ : ∃ q, q = n / 2 ^ (8 * k) := ⟨_, rfl⟩
      rw [← hq]
      rw [← hq] at hq0 hq1
      have HQ := Lib.hid hq
      clear hq
      go_wp2_with (at_builtin; go_must (refine wpList_append_row _ (by rfl) _ _ _ _ (by rfl) 5 i0 (.int .u8 0) 1 1 Try.underlying84 HI.out HZ0.out HZ1.out HZ2.out rfl (by omega) _ _ _ (by rfl) (hA.row.alloc _) _ (by rfl) 1 [.int .u8 (q % 256)] (Feeds.slice Try.underlying84 ⟨wr.heap.size, 0, none⟩ 1 1 _ rfl (by simp [Value.oneCell']) (World.news_of_block (cs := #[.int .u8 (q % 256)]) (t := 5) (fr := (0, 0)) (heap_alloc_new wr _))) (by unfold maxLen; omega) (by omega) (wr.heap.size + 1) (by simp) ?_); intro ao2 cap2 w1 hown1 hgrow hat)
      have hloc := hA.app ((Below.refl _ wr).alloc (Nat.le_refl _) _) hown1 hgrow hat (by omega)
      have hL : nums (le n k) ++ [.int .u8 (q % 256)] = nums (le n (k + 1)) := by rw [le_succ, nums_append, HQ.out]; rfl
      have hQ : q / 256 = n / 2 ^ (8 * (k + 1)) := by rw [HQ.out, div_step]
      rw [hL] at hloc
      go_roundg (gk - 1)
      case measure => omega
      case rel => exact ⟨k + 1, _, by omega, by rw [hQ], by go_num, rfl, hloc⟩
    · obtain rfl : gk = 0 := by omega
      have hkw : width.toNat = k := by omega
      have hs : putSpec n width = if fits n k = true then (strOfNums (le n k), 0) else (⟨#[]⟩, 2) := by rw [putSpec, if_neg (by omega), hkw]
      by_cases hf : fits n k = true
      · have hz : n / 2 ^ (8 * k) = 0 := by simpa [fits, hn] using hf
        rw [if_pos hf] at hs
        have HS := Lib.hid hs
        have hcs := row_string (P := Try.prog) Try.underlying84 Try.underlying5 Try.underlying9 hA.row
        rw [hz]
        clear hs hf hkw
        go_wp2
        go_ret2
        rw [HS.out]
        exact ⟨rfl, hA.below⟩
      · have hz : 0 < n / 2 ^ (8 * k) := by
          rcases Int.lt_or_eq_of_le hq0 with h | h
          · exact h
          · exact absurd (by simp [fits, hn, ← h]) hf
        rw [if_neg hf] at hs
        have HS := Lib.hid hs
        clear hs hf hkw
        go_wp2
        go_ret2
        rw [HS.out]
        exact ⟨rfl, hA.below⟩
set_option maxRecDepth 100000 in
theorem refPut_any (n width : Int) (hn2 : n ≤ 9223372036854775807) (w : World) :
    Calls Try.prog 43 #[.int .i64 n, .int .i64 width] w fun e w' => e = .returned (.tuple #[.string (putSpec n width).1, .int .i64 (putSpec n width).2]) ∧ Below w.heap.size w w' := by
  by_cases h1 : width < 1
  · have hs : putSpec n width = (⟨#[]⟩, 1) := by simp [putSpec, h1]
    have HS := Lib.hid hs
    clear hs
    go_enter Try.func43, Try.ntmps43
    go_wp2
    go_ret2
    rw [HS.out]
    exact ⟨rfl, Below.refl _ _⟩
  by_cases h6 : 6 < width
  · have hs : putSpec n width = (⟨#[]⟩, 1) := by simp [putSpec, h6]
    have HS := Lib.hid hs
    clear hs
    go_enter Try.func43, Try.ntmps43
    go_wp2
    go_ret2
    rw [HS.out]
    exact ⟨rfl, Below.refl _ _⟩
  by_cases hn : n < 0
  · have hs : putSpec n width = (⟨#[]⟩, 2) := by
      rw [putSpec, if_neg (by omega), if_neg]
      simp [fits]
      omega
    have HS := Lib.hid hs
    clear hs
    go_enter Try.func43, Try.ntmps43
    go_wp2
    go_ret2
    rw [HS.out]
    exact ⟨rfl, Below.refl _ _⟩
  exact refPut_loop n width (by omega) hn2 (by omega) (by omega) w
/-- What Pad answers. -/
def padSpec (s : ByteArray) (n : Int) : ByteArray × Int :=
  if n < 0 ∨ 4096 < n then (⟨#[]⟩, 1) else if n < s.size then (⟨#[]⟩, 4) else (s ++ strOfNums (List.replicate (n.toNat - s.size) 0), 0)
/-- A writer that begins with a text's bytes. -/
theorem Wr.bytes (w : World) (s : ByteArray) (hs : s.size ≤ maxLen) :
    Wr ((Lib.bytesWorld w 5 s).alloc (.cells #[.slice (some ⟨w.heap.size, 0, none⟩) s.size (grownCap w s.size 0 5), .bool false] 96)) (w.heap.size + 1)
      (.slice (some ⟨w.heap.size, 0, none⟩) s.size (grownCap w s.size 0 5)) (bytesOf s) false := by
  have hrow := Row.bytes w 5 s hs
  rw [← nums_bytesOf, ← bytesOf_length s] at hrow
  refine ⟨?_, ?_, by simp [Value.ownBlock]⟩
  · have := heap_alloc_new (Lib.bytesWorld w 5 s) (.cells #[.slice (some ⟨w.heap.size, 0, none⟩) s.size (grownCap w s.size 0 5), .bool false] 96)
    rwa [Lib.bytesWorld_size] at this
  · rw [← bytesOf_length s] at *
    exact hrow.alloc _
set_option maxRecDepth 100000 in
theorem Pad_ok (s : ByteArray) (n : Int) (h0 : ¬ n < 0) (h4 : ¬ 4096 < n) (hl : ¬ n < s.size) (w : World) :
    Calls Try.prog 64 #[.string s, .int .i64 n] w fun e w' => e = .returned (.tuple #[.string (s ++ strOfNums (List.replicate (n.toNat - s.size) 0)), .int .i64 0]) ∧ Below w.heap.size w w' := by
  have hcv := Lib.run_convert_string_bytes (P := Try.prog) w 9 84 5 s Try.underlying9 Try.underlying84 Try.underlying5
  have hsz := Lib.bytesWorld_size w 5 s
  have hsm : s.size ≤ maxLen := by unfold maxLen; omega
  have HW := Lib.hid (Wr.bytes w s hsm)
  have hlb : (bytesOf s).length ≤ 1000000 := by rw [bytesOf_length]; omega
  go_enter Try.func64, Try.ntmps64
  go_wp2_with fail
  refine (full_any _ _ _ _ n _ HW.out hlb h0 (by omega)).mono ?_
  rintro e w1 ⟨rfl, v', hW, hK, hv⟩
  have hB : Below w.heap.size w w1 := by
    refine ((bytes_below w 5 s).alloc (by rw [hsz]; omega) _).trans (hK.below (by simp; omega) ?_)
    intro i hi hs
    simp [Value.ownBlock] at hs
    omega
  have HB := Lib.hid hB
  clear hK hW hv hB
  rw [strOfNums_append, strOfNums_bytesOf, bytesOf_length]
  go_wp2
  go_ret2
  exact ⟨rfl, HB.out⟩
set_option maxRecDepth 100000 in
theorem Pad_any (s : ByteArray) (n : Int) (hs : s.size ≤ 140737488351232) (w : World) :
    Calls Try.prog 64 #[.string s, .int .i64 n] w fun e w' => e = .returned (.tuple #[.string (padSpec s n).1, .int .i64 (padSpec s n).2]) ∧ Below w.heap.size w w' := by
  by_cases h0 : n < 0
  · have h : padSpec s n = (⟨#[]⟩, 1) := by rw [padSpec, if_pos (.inl h0)]
    have H := Lib.hid h
    clear h
    go_enter Try.func64, Try.ntmps64
    go_wp2
    go_ret2
    rw [H.out]
    exact ⟨rfl, Below.refl _ _⟩
  by_cases h4 : 4096 < n
  · have h : padSpec s n = (⟨#[]⟩, 1) := by rw [padSpec, if_pos (.inr h4)]
    have H := Lib.hid h
    clear h
    go_enter Try.func64, Try.ntmps64
    go_wp2
    go_ret2
    rw [H.out]
    exact ⟨rfl, Below.refl _ _⟩
  by_cases hl : n < s.size
  · have h : padSpec s n = (⟨#[]⟩, 4) := by rw [padSpec, if_neg (by omega), if_pos hl]
    have H := Lib.hid h
    clear h
    go_enter Try.func64, Try.ntmps64
    go_wp2
    go_ret2
    rw [H.out]
    exact ⟨rfl, Below.refl _ _⟩
  have h : padSpec s n = (s ++ strOfNums (List.replicate (n.toNat - s.size) 0), 0) := by rw [padSpec, if_neg (by omega), if_neg hl]
  rw [h]
  exact Pad_ok s n h0 h4 hl w
theorem noughts_row {w : World} {e : TypeId} {v : Value} {k : Nat} (h : w.ownsRow 0 e 1 v k (madeCells (Value.int .u8 0).cells (k * 1)).toList) : Row w e 1 v k (nums (List.replicate k 0)) := by
  have h2 := Row.of_own h
  rw [Nat.mul_one, show (Value.int .u8 0).cells = #[.int .u8 0] from rfl, toList_madeCells_one] at h2
  simpa [nums] using h2
set_option maxRecDepth 100000 in
theorem Noughts_any (n : Int) (h0 : 0 ≤ n) (hn : n ≤ 1000000) (w : World) :
    Calls Try.prog 58 #[.int .i64 n] w fun e w' => e = .returned (.string (strOfNums (List.replicate n.toNat 0))) ∧ Below w.heap.size w w' := by
  obtain ⟨i0, hi, hz0, hz1, hz2⟩ := info_parts infoByte
  have HI := Lib.hid hi
  have HZ0 := Lib.hid hz0
  have HZ1 := Lib.hid hz1
  have HZ2 := Lib.hid hz2
  clear hi hz0 hz1 hz2
  obtain ⟨k, rfl⟩ := Int.eq_ofNat_of_zero_le h0
  go_enter Try.func58, Try.ntmps58
  go_wp2_with (at_make; go_must (refine wpList_make_full _ (by rfl) _ _ _ (by rfl) 0 5 i0 (.int .u8 0) 1 Try.underlying84 HI.out HZ0.out HZ1.out .i64 .i64 _ _ k (by rfl) (by rfl) rfl rfl (by rw [HZ2.out]; omega) (by unfold maxLen; omega) (Nat.zero_le _) ?_); intro w1 hown hgrow; have hcs := row_string (P := Try.prog) Try.underlying84 Try.underlying5 Try.underlying9 (noughts_row hown); have HG := Lib.hid hgrow; clear hown hgrow)
  go_ret
  exact ⟨by simp, (Below.refl _ w).grown HG.out (Nat.le_refl _) (by simp)⟩
theorem mod_pow_succ (n : Int) (h : 0 ≤ n) (k : Nat) : n % 2 ^ (8 * (k + 1)) = n % 2 ^ (8 * k) + (n / 2 ^ (8 * k)) % 256 * 2 ^ (8 * k) := by
  obtain ⟨m, rfl⟩ := Int.eq_ofNat_of_zero_le h
  have := Nat.mod_mul (x := m) (a := 2 ^ (8 * k)) (b := 256)
  have h3 : ((2 : Int) ^ (8 * k)) = ((2 ^ (8 * k) : Nat) : Int) := (Int.natCast_pow 2 (8 * k)).symm
  have h2 : (2 : Int) ^ (8 * (k + 1)) = ((2 ^ (8 * k) * 256 : Nat) : Int) := by
    rw [show 8 * (k + 1) = 8 * k + 8 by omega, Int.pow_add, Int.natCast_mul, h3]
    rfl
  rw [h2, h3, ← Int.natCast_emod, this, ← Int.natCast_emod, ← Int.natCast_ediv, show (256 : Int) = ((256 : Nat) : Int) from rfl, ← Int.natCast_emod, ← Int.natCast_mul, ← Int.natCast_add, Nat.mul_comm (m / 2 ^ (8 * k) % 256)]
theorem fits_mod {n : Int} {k : Nat} (h : fits n k = true) : 0 ≤ n ∧ n % 2 ^ (8 * k) = n := by
  simp only [fits, Bool.and_eq_true, decide_eq_true_eq, beq_iff_eq] at h
  refine ⟨h.1, ?_⟩
  have := Int.emod_add_mul_ediv n (2 ^ (8 * k))
  rw [h.2] at this
  omega
theorem le_range (n : Int) (k : Nat) : ∀ x ∈ le n k, 0 ≤ x ∧ x < 256 := by
  intro x hx
  simp only [le, List.mem_map] at hx
  obtain ⟨i, _, rfl⟩ := hx
  omega
theorem le_mod {n m : Int} (hn : 0 ≤ n) (hm : 0 ≤ m) {k : Nat} (h : le n k = le m k) : ∀ j, j ≤ k → n % 2 ^ (8 * j) = m % 2 ^ (8 * j)
  | 0, _ => by simp
  | j + 1, hj => by
    have h1 : (le n k)[j]? = (le m k)[j]? := by rw [h]
    simp only [le, List.getElem?_map, List.getElem?_range (show j < k by omega), Option.map_some, Option.some.injEq] at h1
    rw [mod_pow_succ n hn, mod_pow_succ m hm, le_mod hn hm h j (by omega), h1]
theorem le_inj {n m : Int} {k : Nat} (hn : fits n k = true) (hm : fits m k = true) (h : le n k = le m k) : n = m := by
  obtain ⟨h0, h1⟩ := fits_mod hn
  obtain ⟨g0, g1⟩ := fits_mod hm
  rw [← h1, ← g1]
  exact le_mod h0 g0 h k (Nat.le_refl _)
end Go.Proofs.Ytjoilobbopdcpaa.B
