/-
  PackE: what is wanted of Base, Bytes, Writer, Put, Cursor, Get, RefPut, Pad, LawsA, Head, Laid, RefHead, Super, Entry, EntryAny, CursorText, Reads, Rest, EntryOf, SuperOf, RefRead, RefSuperOf, RefEntryOf, Region, RefEntry, Canon, NumBack, Builder, RepOf.
-/
import Derived.WalkKit
import Derived.WalkSpells
import Derived.WalkLawsBesides
import Derived.KernelRfl
import Derived.Lib.Hide
import Derived.Lib.ConvBytes
import Derived.Lib.AppendStr
import Derived.Deep.RegionHeld3
import Derived.Deep.RegionLaw
import Derived.ArgAppend
import Derived.Deep.LoopGhost
import Derived.Deep.QuietTactic
import Derived.BigQuiet
import Derived.Outline
import Derived.Deep.AppendLies
import Derived.Test.YtdamlbkibhmepaaProg
import Derived.Lib.Strings
import Derived.Recover
import Derived.Lib.SlBytesConst
import Derived.BigRegion
import Derived.StillTailTactics
import Derived.Deep.RegionHeld2
import Derived.Deep.RegionHeldLaw
import Derived.Lib.Builder
import Derived.Lib.UnsafeStr
import Derived.RegionTactic
import Derived.ChangeAlike
import Derived.Laws.Externs
namespace Go.Proofs.Ytdamlbkibhmepaa.B
open Go.RowKit
set_option linter.unusedVariables false
/-- From w to w' nothing was written but in the blocks of S and in new ones. -/
structure Keeps (S : Nat → Prop) (w w' : World) : Prop where
  os : w'.os = w.os
  tape : w'.tape = w.tape
  output : w'.output = w.output
  size : w.heap.size ≤ w'.heap.size
  block : ∀ k, k < w.heap.size → ¬ S k → w'.heap[k]? = w.heap[k]?
theorem Keeps.refl (S : Nat → Prop) (w : World) : Keeps S w w := ⟨rfl, rfl, rfl, Nat.le_refl _, fun _ _ _ => rfl⟩
theorem Keeps.trans {S S' : Nat → Prop} {a b c : World} (h : Keeps S a b) (k : Keeps S' b c) (hS : ∀ i, i < a.heap.size → S' i → S i) : Keeps S a c :=
  ⟨k.os.trans h.os, k.tape.trans h.tape, k.output.trans h.output, Nat.le_trans h.size k.size,
   fun i hi hn => (k.block i (Nat.lt_of_lt_of_le hi h.size) (fun hs => hn (hS i hi hs))).trans (h.block i hi hn)⟩
theorem Keeps.mono {S S' : Nat → Prop} {a b : World} (h : Keeps S a b) (hS : ∀ i, i < a.heap.size → S i → S' i) : Keeps S' a b :=
  ⟨h.os, h.tape, h.output, h.size, fun i hi hn => h.block i hi (fun hs => hn (hS i hi hs))⟩
theorem Keeps.below {S : Nat → Prop} {a b : World} {B : Nat} (h : Keeps S a b) (hB : B ≤ a.heap.size) (hS : ∀ i, i < B → ¬ S i) : Below B a b :=
  ⟨h.os, h.tape, h.output, h.size, fun i hi => h.block i (by omega) (hS i hi)⟩
theorem Keeps.of_below {S : Nat → Prop} {a b : World} (h : Below a.heap.size a b) : Keeps S a b := ⟨h.os, h.tape, h.output, h.size, fun i hi _ => h.block i hi⟩
theorem Keeps.of_grown {S : Nat → Prop} {a b : World} {row : Option Nat} (h : a.grownBy b row) (hS : ∀ k, row = some k → S k) : Keeps S a b :=
  ⟨h.os, h.tape, h.output, h.size, fun i hi hn => h.block i hi (fun e => hn (hS i e.symm))⟩
theorem Keeps.alloc {S : Nat → Prop} {a b : World} (h : Keeps S a b) (o : Obj) : Keeps S a (b.alloc o) :=
  h.trans (S' := S) ⟨rfl, rfl, rfl, by simp, fun k hk _ => Below.heap_alloc _ _ _ hk⟩ (fun _ _ h => h)
theorem Keeps.drew {S : Nat → Prop} {a b : World} (h : Keeps S a b) : Keeps S a b.drew := ⟨h.os, h.tape, h.output, h.size, h.block⟩
theorem Keeps.drewN {S : Nat → Prop} {a b : World} (h : Keeps S a b) (n : Nat) : Keeps S a (b.drewN n) := ⟨h.os, h.tape, h.output, h.size, h.block⟩
theorem Keeps.setCell {S : Nat → Prop} {a b : World} (h : Keeps S a b) {p : Addr} (hp : p.block < a.heap.size → S p.block) (u : Value) : Keeps S a (b.setCell p u) :=
  ⟨h.os, h.tape, h.output, by simpa [World.setCell] using h.size, fun k hk hn => (Below.heap_setCell _ _ _ _ (fun e => hn (by subst e; exact hp hk))).trans (h.block k hk hn)⟩
theorem Keeps.at_ {S : Nat → Prop} {a b : World} (h : Keeps S a b) {k : Nat} {o : Obj} (hk : a.heap[k]? = some o) (hn : ¬ S k) : b.heap[k]? = some o :=
  (h.block k (Array.getElem?_eq_some_iff.1 hk).1 hn).trans hk
theorem Keeps.cell {S : Nat → Prop} {a b : World} (h : Keeps S a b) {p : Addr} (hl : p.block < a.heap.size) (hn : ¬ S p.block) : b.cell? p = a.cell? p := World.cell?_of_block (w := a) (h.block _ hl hn)
theorem blk_lt {w : World} {g : Nat} {o : Obj} (h : w.heap[g]? = some o) : g < w.heap.size := (Array.getElem?_eq_some_iff.1 h).1
theorem blk_cell {w : World} {g : Nat} {t : TypeId} {cs : Array Value} {fr : Nat × Nat} (h : w.heap[g]? = some (.cells cs t fr)) (i : Nat) : w.cell? ⟨g, i, none⟩ = cs[i]? := cell_of_row w g i cs t fr h
theorem blk_frozen {w : World} {g : Nat} {t : TypeId} {cs : Array Value} (h : w.heap[g]? = some (.cells cs t (0, 0))) (i : Nat) : w.frozen? ⟨g, i, none⟩ = false := by simp [World.frozen?, h]
theorem blk_set {w : World} {g : Nat} {t : TypeId} {cs : Array Value} {fr : Nat × Nat} (h : w.heap[g]? = some (.cells cs t fr)) (i : Nat) (u : Value) : (w.setCell ⟨g, i, none⟩ u).heap[g]? = some (.cells (cs.setIfInBounds i u) t fr) := by
  simp [World.setCell, Array.getElem?_modify, h]
theorem bdrewN {B : Nat} {w W : World} (h : Below B w W) (n : Nat) : Below B w (W.drewN n) := ⟨h.os, h.tape, h.output, h.size, h.block⟩
/-- The slice v leads to n elements of type e, size cells each: the cells xs; it begins at a block's head, and no cell of the block is frozen. -/
def Row (w : World) (e : TypeId) (size : Nat) (v : Value) (n : Nat) (xs : List Value) : Prop :=
  xs.length = n * size ∧
  ((v = .slice none 0 0 ∧ n = 0) ∨
   ∃ g cap cur lo hi, v = .slice (some ⟨g, 0, none⟩) n cap ∧ w.heap[g]? = some (.cells cur e (lo, hi)) ∧ (hi ≤ lo ∨ cap * size ≤ lo) ∧ n ≤ cap ∧ cap ≤ maxLen ∧ cur.size = cap * size ∧ cur.toList.take (n * size) = xs)
theorem Row.nil (w : World) (e : TypeId) (size : Nat) : Row w e size (.slice none 0 0) 0 [] := ⟨by simp, .inl ⟨rfl, rfl⟩⟩
theorem Row.of_own {w : World} {base : Nat} {e : TypeId} {size : Nat} {v : Value} {n : Nat} {xs : List Value} (h : w.ownsRow base e size v n xs) : Row w e size v n xs := by
  refine ⟨h.1, ?_⟩
  rcases h.2 with h | ⟨g, cap, cur, h1, _, h3, h4, h5, h6, h7⟩
  · exact .inl h
  · exact .inr ⟨g, cap, cur, 0, 0, h1, h3, .inl (Nat.le_refl _), h4, h5, h6, h7⟩
theorem Row.kept {S : Nat → Prop} {w w' : World} {e : TypeId} {size : Nat} {v : Value} {n : Nat} {xs : List Value} (h : Row w e size v n xs) (hk : Keeps S w w') (hn : ∀ k, v.ownBlock = some k → ¬ S k) : Row w' e size v n xs := by
  refine ⟨h.1, ?_⟩
  rcases h.2 with hz | ⟨g, cap, cur, lo, hi, rfl, hg, rest⟩
  · exact .inl hz
  · exact .inr ⟨g, cap, cur, lo, hi, rfl, hk.at_ hg (hn g rfl), rest⟩
theorem Row.drew {w : World} {e : TypeId} {size : Nat} {v : Value} {n : Nat} {xs : List Value} (h : Row w e size v n xs) : Row w.drew e size v n xs := h
theorem Row.alloc {w : World} {e : TypeId} {size : Nat} {v : Value} {n : Nat} {xs : List Value} (h : Row w e size v n xs) (o : Obj) : Row (w.alloc o) e size v n xs :=
  h.kept (S := fun _ => False) ((Keeps.refl _ w).alloc o) (fun _ _ h => h)
theorem Row.lt {w : World} {e : TypeId} {size : Nat} {v : Value} {n : Nat} {xs : List Value} (h : Row w e size v n xs) : ∀ k, v.ownBlock = some k → k < w.heap.size := by
  intro k hk
  rcases h.2 with ⟨rfl, _⟩ | ⟨g, cap, cur, lo, hi, rfl, hg, _⟩
  · simp [Value.ownBlock] at hk
  · simp [Value.ownBlock] at hk
    subst hk
    exact blk_lt hg
theorem Row.form {w : World} {e : TypeId} {size : Nat} {v : Value} {n : Nat} {xs : List Value} (h : Row w e size v n xs) : ∃ a cap, v = .slice a n cap ∧ n ≤ cap := by
  rcases h.2 with ⟨rfl, rfl⟩ | ⟨g, cap, cur, lo, hi, rfl, _, _, hc, _⟩
  · exact ⟨_, _, rfl, Nat.le_refl _⟩
  · exact ⟨_, _, rfl, hc⟩
theorem Row.form_pos {w : World} {e : TypeId} {size : Nat} {v : Value} {n : Nat} {xs : List Value} (h : Row w e size v n xs) (hn : 0 < n) : ∃ g cap, v = .slice (some ⟨g, 0, none⟩) n cap ∧ n ≤ cap ∧ g < w.heap.size := by
  rcases h.2 with ⟨rfl, rfl⟩ | ⟨g, cap, cur, lo, hi, rfl, hg, _, hc, _⟩
  · omega
  · exact ⟨_, _, rfl, hc, blk_lt hg⟩
/-- The cells that it leads to. -/
theorem Row.cells {w : World} {e : TypeId} {size : Nat} {n cap g : Nat} {xs : List Value} (h : Row w e size (.slice (some ⟨g, 0, none⟩) n cap) n xs) : ∀ j u, xs[j]? = some u → w.cell? ⟨g, j, none⟩ = some u := by
  intro j u hu
  rcases h.2 with ⟨hz, _⟩ | ⟨g', cap', cur, lo, hi, he, hg, _, _, _, _, ht⟩
  · simp at hz
  · simp at he
    obtain ⟨rfl, rfl⟩ := he
    rw [blk_cell hg, ← Array.getElem?_toList]
    rw [← ht, List.getElem?_take] at hu
    split at hu
    · exact hu
    · cases hu
/-- A block of another type is another block. -/
theorem Row.ne_type {w : World} {e : TypeId} {size : Nat} {v : Value} {n : Nat} {xs : List Value} (h : Row w e size v n xs) {g : Nat} {cs : Array Value} {t : TypeId} {fr : Nat × Nat} (hg : w.heap[g]? = some (.cells cs t fr)) (hne : e ≠ t) : some g ≠ v.ownBlock := by
  intro he
  rcases h.2 with ⟨rfl, _⟩ | ⟨g', cap', cur, lo, hi, rfl, hg', _⟩
  · simp [Value.ownBlock] at he
  · simp [Value.ownBlock] at he
    subst he
    rw [hg] at hg'
    simp at hg'
    exact hne hg'.2.1.symm
/-- The row that []byte(s) makes. -/
theorem Row.bytes (w : World) (e : TypeId) (s : ByteArray) (hs : s.size ≤ maxLen) : Row (Lib.bytesWorld w e s) e 1 (.slice (some ⟨w.heap.size, 0, none⟩) s.size (grownCap w s.size 0 e)) s.size (s.data.toList.map fun b => .int .u8 b.toNat) := by
  have hge := grownCap_ge w s.size 0 e
  have hsz : (Lib.bytesCells w e s).size = grownCap w s.size 0 e := by
    have : s.data.size = s.size := rfl
    simp [Lib.bytesCells, this]; omega
  refine ⟨by simp, .inr ⟨w.heap.size, _, _, _, _, rfl, Lib.bytesWorld_at_new w e s, .inr (by omega), hge, grownCap_le_maxLen w _ _ _ hs, by omega, ?_⟩⟩
  have : s.data.toList.length = s.size := by rw [Array.length_toList]; rfl
  simp [Lib.bytesCells, this]
theorem get_top {w : World} {o : Obj} {i : Nat} (h : i = w.heap.size) : (w.alloc o).heap[i]? = some o := by subst h; exact heap_alloc_new w o
theorem get_below {w : World} {o x : Obj} {i : Nat} (h : w.heap[i]? = some x) : (w.alloc o).heap[i]? = some x := (Below.heap_alloc w o i (blk_lt h)).trans h
/-- A row that a literal made. -/
theorem Row.lit {w : World} {g : Nat} {cs : Array Value} {e : TypeId} (h : w.heap[g]? = some (.cells cs e (0, 0))) (n : Nat) (hn : cs.size = n) (hm : n ≤ maxLen) : Row w e 1 (.slice (some ⟨g, 0, none⟩) n n) n cs.toList :=
  ⟨by simp [hn], .inr ⟨g, n, cs, 0, 0, rfl, h, .inl (Nat.le_refl _), Nat.le_refl _, hm, by omega, by rw [Nat.mul_one, ← hn, ← Array.length_toList, List.take_length]⟩⟩
/-- x gives m elements, the cells news, in w and in every world with w's heap. -/
structure Feeds (P : Program) (tx : TypeId) (size : Nat) (w : World) (x : Value) (m : Nat) (news : List Value) : Prop where
  ty : ∃ d, P.underlying tx = some d ∧ ∀ k, d ≠ .int k
  len : news.length = m * size
  one : ∀ u ∈ news, u.oneCell' = true
  count : ∀ W, (Builtin.lenOf x).run P W = .ok m W
  first : ∀ W, W.heap = w.heap → (Builtin.firstCells size m x).run P W = .ok news.toArray W
theorem Feeds.slice {P : Program} {tx e : TypeId} {size : Nat} {w : World} (hu : P.underlying tx = some (.slice e)) (a : Addr) (m c : Nat) (news : List Value) (hl : news.length = m * size) (h1 : ∀ u ∈ news, u.oneCell' = true) (hc : ∀ j u, news[j]? = some u → w.cell? (a.add j) = some u) :
    Feeds P tx size w (.slice (some a) m c) m news :=
  ⟨⟨_, hu, fun k h => by cases h⟩, hl, h1, fun W => rfl, fun W hW => run_firstCells_some (P := P) W size m a m c news hl (fun j u hj => by simpa [World.cell?, hW] using hc j u hj)⟩
theorem Feeds.nil {P : Program} {tx e : TypeId} {size : Nat} {w : World} (hu : P.underlying tx = some (.slice e)) : Feeds P tx size w (.slice none 0 0) 0 [] :=
  ⟨⟨_, hu, fun k h => by cases h⟩, by simp, by simp, fun W => rfl, fun W hW => rfl⟩
theorem Feeds.str {P : Program} {tx : TypeId} {w : World} (hu : P.underlying tx = some .string) (s : ByteArray) : Feeds P tx 1 w (.string s) s.size (Lib.strCells s) :=
  ⟨⟨_, hu, fun k h => by cases h⟩, by simp [Lib.strCells_length], Lib.strCells_oneCell s, fun W => rfl, fun W hW => Lib.run_firstCells_string W 1 s⟩
theorem Feeds.row {P : Program} {tx e : TypeId} {size : Nat} {w : World} {v : Value} {n : Nat} {xs : List Value} (hu : P.underlying tx = some (.slice e)) (h : Row w e size v n xs) (h1 : ∀ u ∈ xs, u.oneCell' = true) : Feeds P tx size w v n xs := by
  rcases h.2 with ⟨rfl, rfl⟩ | ⟨g, cap, cur, lo, hi, rfl, hg, _, hc, _⟩
  · obtain rfl : xs = [] := List.eq_nil_of_length_eq_zero (by simpa using h.1)
    exact Feeds.nil hu
  · exact Feeds.slice hu _ _ _ _ h.1 h1 (fun j u hj => by rw [Addr.add_lit]; simpa using Row.cells h j u hj)
theorem setCells_heap (b : Nat) : ∀ (vs : List Value) (o : Nat) (w : World) (cur : Array Value) (e : TypeId) (fr : Nat × Nat), w.heap[b]? = some (.cells cur e fr) → o + vs.length ≤ cur.size →
    ∃ cur' : Array Value, (w.setCells b o vs).heap[b]? = some (.cells cur' e fr) ∧ cur'.size = cur.size ∧ cur'.toList = cur.toList.take o ++ vs ++ cur.toList.drop (o + vs.length)
  | [], o, w, cur, e, fr, h, _ => ⟨cur, h, rfl, by simp⟩
  | v :: r, o, w, cur, e, fr, h, hl => by
    simp only [List.length_cons] at hl
    obtain ⟨cur', h1, h2, h3⟩ := setCells_heap b r (o + 1) (w.setCell ⟨b, o, none⟩ v) (cur.setIfInBounds o v) e fr (blk_set h o v) (by simp; omega)
    refine ⟨cur', h1, by simpa using h2, ?_⟩
    rw [h3]
    have hlt : o < cur.toList.length := by rw [Array.length_toList]; omega
    simp only [Array.toList_setIfInBounds, List.length_cons]
    rw [List.take_set, List.drop_set_of_lt (by omega), List.take_add_one, List.getElem?_eq_getElem hlt, Option.toList_some, List.set_append_right _ _ (by simp; omega)]
    have : o - (cur.toList.take o).length = 0 := by simp; omega
    rw [this, List.set_cons_zero, show o + (r.length + 1) = o + 1 + r.length by omega]
    simp
theorem setCells_size (b : Nat) : ∀ (vs : List Value) (o : Nat) (w : World), (w.setCells b o vs).heap.size = w.heap.size
  | [], _, _ => rfl
  | v :: r, o, w => by rw [World.setCells, setCells_size b r]; simp [World.setCell]
theorem setCells_far (b : Nat) : ∀ (vs : List Value) (o : Nat) (w : World) (k : Nat), k ≠ b → (w.setCells b o vs).heap[k]? = w.heap[k]?
  | [], _, _, _, _ => rfl
  | v :: r, o, w, k, h => by rw [World.setCells, setCells_far b r _ _ k h]; exact Below.heap_setCell _ _ _ _ h
theorem setCells_grown (b : Nat) : ∀ (vs : List Value) (o : Nat) (w : World), w.grownBy (w.setCells b o vs) (some b)
  | [], _, w => ⟨rfl, rfl, rfl, Nat.le_refl _, fun _ _ _ => rfl⟩
  | v :: r, o, w => by
    have h := setCells_grown b r (o + 1) (w.setCell ⟨b, o, none⟩ v)
    exact ⟨h.os, h.tape, h.output, by rw [setCells_size]; exact Nat.le_refl _, fun k hk hn => setCells_far b (v :: r) o w k (fun e => hn (by rw [e]))⟩
/-- append onto a row, whatever is appended. -/
theorem run_append_row {P : Program} (w : World) (t tx ty e : TypeId) (i : TypeInfo) (z : Value) (size bytes : Nat) (ht : P.underlying t = some (.slice e)) (hi : P.info? e = some i) (hz : i.zero = some z)
    (hsize : i.size = size) (hby : i.bytes = bytes) (hzs : z.cells.size = size) (hbp : bytes ≠ 0)
    (v : Value) (n : Nat) (xs : List Value) (hown : Row w e size v n xs) (x : Value) (m : Nat) (news : List Value) (hf : Feeds P tx size w x m news)
    (h63 : n + m ≤ maxLen) (hbytes : (n + m) * bytes ≤ 140737488355328) :
    ∃ v' w', (Builtin.append_ #[t, tx] ty #[v, x]).run P w = .ok v' w' ∧ Row w' e size v' (n + m) (xs ++ news) ∧ w.grownBy w' v.ownBlock ∧
      (v'.ownBlock = v.ownBlock ∨ v'.ownBlock = some w.heap.size) := by
  obtain ⟨d, hd, hdk⟩ := hf.ty
  have hlen := hf.count
  have hsmall : n + m ≤ 9223372036854775807 := by simp only [maxLen] at h63; omega
  have hl2 : (xs ++ news).length = (n + m) * size := by rw [List.length_append, hown.1, hf.len, Nat.add_mul]
  have grown : ∀ (old : Nat), old < n + m → ∀ (row : Option Nat),
      Row (w.drew.alloc (.cells (xs.toArray ++ news.toArray ++ Builtin.zeroCells z.cells (grownCap w (n + m) old e - (n + m))) e)) e size
        (.slice (some ⟨w.heap.size, 0, none⟩) (n + m) (grownCap w (n + m) old e)) (n + m) (xs ++ news) ∧
      w.grownBy (w.drew.alloc (.cells (xs.toArray ++ news.toArray ++ Builtin.zeroCells z.cells (grownCap w (n + m) old e - (n + m))) e)) row := by
    intro old ho row
    have hge := grownCap_ge w (n + m) old e
    have hcm : grownCap w (n + m) old e ≤ maxLen := grownCap_le_maxLen w (n + m) old e h63
    refine ⟨⟨hl2, .inr ⟨w.heap.size, _, _, 0, 0, rfl, heap_alloc_new w.drew _, .inl (Nat.le_refl _), hge, hcm, ?_, ?_⟩⟩, ⟨rfl, rfl, rfl, by simp, fun k hk _ => Below.heap_alloc w.drew _ k hk⟩⟩
    · simp only [Array.size_append, List.size_toArray, size_zeroCells, hzs, hown.1, hf.len, ← Nat.add_mul]
      congr 1
      omega
    · simp only [Array.toList_append, List.append_assoc]
      rw [← List.append_assoc, ← hl2]
      exact List.take_left
  rcases hown.2 with ⟨rfl, rfl⟩ | ⟨g, cap, cur, lo, hi', rfl, hg, hmk, hnc, hcm, hcs, htake⟩
  · obtain rfl : xs = [] := List.eq_nil_of_length_eq_zero (by simpa using hown.1)
    have hfi := hf.first w rfl
    by_cases hm : m = 0
    · subst hm
      obtain rfl : news = [] := List.eq_nil_of_length_eq_zero (by simpa using hf.len)
      refine ⟨.slice none 0 0, w, ?_, Row.nil w e size, ⟨rfl, rfl, rfl, Nat.le_refl _, fun _ _ _ => rfl⟩, .inl rfl⟩
      simp [Builtin.append_, run_underlying ht, run_underlying hd, sizeOf, typeInfo, hi, hsize, hlen, hfi]
    · have hnn : ¬ (m ≤ 0) := by omega
      have h63' : ¬ (9223372036854775807 < (m : Int)) := by omega
      have h48' : ¬ (281474976710656 < Builtin.nextslicecap m 0 * i.bytes) := by
        have := growslice_fits (need := m) (old := 0) (bytes := bytes) (by omega) (by simpa using hbytes)
        rw [hby]; omega
      have hfi := hf.first w.drew rfl
      have hgr := grown 0 (by omega) none
      simp only [Nat.zero_add, List.nil_append, Array.empty_append] at hgr
      refine ⟨_, _, ?_, by simpa using hgr.1, by simpa [Value.ownBlock] using hgr.2, .inr rfl⟩
      have hm' : m ≠ 0 := hm
      simp [Builtin.append_, run_underlying ht, run_underlying hd, sizeOf, typeInfo, zeroValue, hi, hsize, hz, hlen, hm', h63', h48', Question.forced, run_firstCells_none, hfi, newRow, grownCap]
  · have hfi := hf.first w rfl
    by_cases hroom : n + m ≤ cap
    · have hfit : n * size + news.length ≤ cur.size := by rw [hf.len, hcs, ← Nat.add_mul]; exact Nat.mul_le_mul_right _ hroom
      have hst := run_storeCells_cells (P := P) g (n * size) news 0 w
        (fun j hj => by rw [blk_cell hg]; simp; omega)
        (fun j hj => by
          simp [World.frozen?, hg]
          intro h1
          rcases hmk with h | h
          · omega
          · have := hcs; omega) hf.one
      simp only [Nat.add_zero] at hst
      obtain ⟨cur', q1, q2, q3⟩ := setCells_heap g news (n * size) w cur e (lo, hi') hg hfit
      refine ⟨.slice (some ⟨g, 0, none⟩) (n + m) cap, w.setCells g (n * size) news, ?_, ⟨hl2, .inr ⟨g, cap, cur', lo, hi', rfl, q1, hmk, hroom, hcm, by rw [q2, hcs], ?_⟩⟩, setCells_grown g news _ w, .inl rfl⟩
      · simp [Builtin.append_, run_underlying ht, run_underlying hd, sizeOf, typeInfo, hi, hsize, hlen, hroom, hfi, Addr.add_lit, hst]
      · rw [q3, htake, ← hl2, List.take_left]
    · have hnn : ¬ (n + m ≤ cap) := hroom
      have h63' : ¬ (9223372036854775807 < ((n : Int) + (m : Int))) := by omega
      have h48' : ¬ (281474976710656 < Builtin.nextslicecap (n + m) cap * i.bytes) := by
        have := growslice_fits (need := n + m) (old := cap) (bytes := bytes) (by omega) hbytes
        rw [hby]; omega
      have hfd := hf.first w.drew rfl
      have hfo := run_firstCells_some (P := P) w.drew size n ⟨g, 0, none⟩ n cap xs hown.1 (fun j u hj => by
        rw [Addr.add_lit, Nat.zero_add]
        have := Row.cells hown j u hj
        simpa using this)
      have hgr := grown cap (by omega) (Value.ownBlock (.slice (some ⟨g, 0, none⟩) n cap))
      refine ⟨_, _, ?_, hgr.1, hgr.2, .inr rfl⟩
      simp [Builtin.append_, run_underlying ht, run_underlying hd, sizeOf, typeInfo, zeroValue, hi, hsize, hz, hlen, hnn, h63', h48', Question.forced, hfd, hfo, newRow, grownCap]
      congr 2
      apply Array.ext'
      simp [List.append_assoc]
/-- The same at the operation. -/
theorem wp_append_row {P : Program} (w : World) {o : Oper} {a : Act} {K : Act → World → Prop} {Q : Exit → Act → World → Prop} (s x : Operand) (t tx : TypeId)
    (ho : o.op = .call { callee := .builtin .append, args := #[s, x], argTypes := #[t, tx] })
    (e : TypeId) (i : TypeInfo) (z : Value) (size bytes : Nat) (ht : P.underlying t = some (.slice e)) (hi : P.info? e = some i) (hz : i.zero = some z)
    (hsize : i.size = size) (hby : i.bytes = bytes) (hzs : z.cells.size = size) (hbp : bytes ≠ 0)
    (v : Value) (n : Nat) (xs : List Value) (hs : a.eval s = v) (hown : Row w e size v n xs) (xv : Value) (hx : a.eval x = xv) (m : Nat) (news : List Value) (hf : Feeds P tx size w xv m news)
    (h63 : n + m ≤ maxLen) (hbytes : (n + m) * bytes ≤ 140737488355328) (H : Nat) (hH : w.heap.size = H)
    (h : ∀ ao cap w', Row w' e size (.slice ao (n + m) cap) (n + m) (xs ++ news) → w.grownBy w' v.ownBlock → ((Value.slice ao (n + m) cap).ownBlock = v.ownBlock ∨ (Value.slice ao (n + m) cap).ownBlock = some H) → K (a.put o.dst (.slice ao (n + m) cap)) w') : o.wp P a w K Q := by
  obtain ⟨v', w', hr, h2, h3, h4⟩ := run_append_row (P := P) w t tx o.type e i z size bytes ht hi hz hsize hby hzs hbp v n xs hown xv m news hf h63 hbytes
  obtain ⟨ao, cap, rfl, _⟩ := h2.form
  unfold Oper.wp execOp
  simp only [ho, resolve, invoke, builtin, Sem.run_bind, Sem.run_pure, Result.andThen_ok, List.map_toArray, List.map_cons, List.map_nil, hs, hx, hr]
  exact h ao cap w' h2 h3 (by rw [← hH]; exact h4)
/-- At the list of a plain region's operations. -/
theorem wpList_append_row {P : Program} (w : World) {ops : Array Oper} {rest : List Oper} {o : Oper} {a : Act} {Q : Exit → Act → World → Prop} (hgd : o.guard = none) (s x : Operand) (t tx : TypeId)
    (ho : o.op = .call { callee := .builtin .append, args := #[s, x], argTypes := #[t, tx] })
    (e : TypeId) (i : TypeInfo) (z : Value) (size bytes : Nat) (ht : P.underlying t = some (.slice e)) (hi : P.info? e = some i) (hz : i.zero = some z)
    (hsize : i.size = size) (hby : i.bytes = bytes) (hzs : z.cells.size = size) (hbp : bytes ≠ 0)
    (v : Value) (n : Nat) (xs : List Value) (hs : a.eval s = v) (hown : Row w e size v n xs) (xv : Value) (hx : a.eval x = xv) (m : Nat) (news : List Value) (hf : Feeds P tx size w xv m news)
    (h63 : n + m ≤ maxLen) (hbytes : (n + m) * bytes ≤ 140737488355328) (H : Nat) (hH : w.heap.size = H)
    (h : ∀ ao cap w', Row w' e size (.slice ao (n + m) cap) (n + m) (xs ++ news) → w.grownBy w' v.ownBlock → ((Value.slice ao (n + m) cap).ownBlock = v.ownBlock ∨ (Value.slice ao (n + m) cap).ownBlock = some H) → wpList P ops Q rest (a.put o.dst (.slice ao (n + m) cap)) w') : wpList P ops Q (o :: rest) a w :=
  wpList_plain hgd fun _ hK => wp_append_row w s x t tx ho e i z size bytes ht hi hz hsize hby hzs hbp v n xs hs hown xv hx m news hf h63 hbytes H hH fun ao cap w' h2 h3 h4 => hK _ _ (h ao cap w' h2 h3 h4)
/-- At a step of a region that draws its order. -/
theorem step_append_row {P : Program} {w : World} {ops : Array Oper} {o : Oper} {a : Act} {K : Act → World → Prop} {Q : Exit → Act → World → Prop} {E : Prop} (hgd : o.guard = none) (s x : Operand) (t tx : TypeId)
    (ho : o.op = .call { callee := .builtin .append, args := #[s, x], argTypes := #[t, tx] })
    (e : TypeId) (i : TypeInfo) (z : Value) (size bytes : Nat) (ht : P.underlying t = some (.slice e)) (hi : P.info? e = some i) (hz : i.zero = some z)
    (hsize : i.size = size) (hby : i.bytes = bytes) (hzs : z.cells.size = size) (hbp : bytes ≠ 0)
    (v : Value) (n : Nat) (xs : List Value) (hs : a.eval s = v) (hown : Row w e size v n xs) (xv : Value) (hx : a.eval x = xv) (m : Nat) (news : List Value) (hf : Feeds P tx size w xv m news)
    (h63 : n + m ≤ maxLen) (hbytes : (n + m) * bytes ≤ 140737488355328) (H : Nat) (hH : w.heap.size = H)
    (h : ∀ ao cap w', Row w' e size (.slice ao (n + m) cap) (n + m) (xs ++ news) → w.grownBy w' v.ownBlock → ((Value.slice ao (n + m) cap).ownBlock = v.ownBlock ∨ (Value.slice ao (n + m) cap).ownBlock = some H) → K (a.put o.dst (.slice ao (n + m) cap)) w') :
    if Region.wanted o (yielded ops a.tmps) = true then Oper.wp P o a w K Q else E := by
  have hw : Region.wanted o (yielded ops a.tmps) = true := by simp [Region.wanted, hgd]
  rw [if_pos hw]
  exact wp_append_row w s x t tx ho e i z size bytes ht hi hz hsize hby hzs hbp v n xs hs hown xv hx m news hf h63 hbytes H hH h
/-- A row of the call's own: w0 is the world in which the call began. -/
structure Loc (w0 w : World) (e : TypeId) (size : Nat) (v : Value) (n : Nat) (xs : List Value) : Prop where
  row : Row w e size v n xs
  below : Below w0.heap.size w0 w
  base : ∀ g, v.ownBlock = some g → w0.heap.size ≤ g
theorem Loc.nil {w0 w : World} (h : Below w0.heap.size w0 w) (e : TypeId) (size : Nat) : Loc w0 w e size (.slice none 0 0) 0 [] := ⟨Row.nil _ _ _, h, by simp [Value.ownBlock]⟩
theorem Loc.app {w0 w wm w1 : World} {e : TypeId} {size : Nat} {v : Value} {n m cap H : Nat} {xs news : List Value} {ao : Option Addr} (h : Loc w0 w e size v n xs) (hm : Below w.heap.size w wm)
    (hown : Row w1 e size (.slice ao (n + m) cap) (n + m) (xs ++ news)) (hgrow : wm.grownBy w1 v.ownBlock)
    (hat : (Value.slice ao (n + m) cap).ownBlock = v.ownBlock ∨ (Value.slice ao (n + m) cap).ownBlock = some H) (hH : w.heap.size ≤ H) : Loc w0 w1 e size (.slice ao (n + m) cap) (n + m) (xs ++ news) := by
  have h0 := h.below.size
  refine ⟨hown, (h.below.trans (hm.mono h0)).grown hgrow (by have := hm.size; omega) (fun k hk => h.base k hk), fun g hg => ?_⟩
  rcases hat with e | e
  · exact h.base g (by rw [← e]; exact hg)
  · rw [hg] at e; cases e; omega
theorem Loc.step {w0 w w1 : World} {e : TypeId} {size : Nat} {v : Value} {n : Nat} {xs : List Value} (h : Loc w0 w e size v n xs) (hb : Below w.heap.size w w1) : Loc w0 w1 e size v n xs :=
  ⟨h.row.kept (S := fun _ => False) (Keeps.of_below hb) (fun _ _ h => h), h.below.trans (hb.mono h.below.size), h.base⟩
/-- Bytes as values, and back: what a row of bytes gives as a string. -/
def nums (xs : List Int) : List Value := xs.map fun x => .int .u8 x
theorem nums_append (xs ys : List Int) : nums (xs ++ ys) = nums xs ++ nums ys := by simp [nums]
theorem row_string {P : Program} {w : World} {src dst e : TypeId} {v : Value} {n : Nat} {xs : List Int} (hs : P.underlying src = some (.slice e)) (he : P.underlying e = some (.int .u8)) (hd : P.underlying dst = some .string) (h : Row w e 1 v n (nums xs)) :
    (convert src dst v).run P w = .ok (.string (strOfNums xs)) w := by
  have hl : xs.length = n := by simpa [nums] using h.1
  rcases h.2 with ⟨rfl, rfl⟩ | ⟨g, cap, cur, lo, hi, rfl, hg, _⟩
  · obtain rfl : xs = [] := List.eq_nil_of_length_eq_zero hl
    exact run_convert_bytes_nil w src e hs he 0 0 dst hd
  · refine run_convert_bytes_arg w src e hs he g 0 n cap xs hl (fun j hj => ?_) dst hd
    rw [Nat.zero_add]
    refine Row.cells h j _ ?_
    have : j < xs.length := by omega
    simp [nums, List.getElem?_eq_getElem this, List.getD]
/-- A text's bytes as numbers. -/
def bytesOf (s : ByteArray) : List Int := s.data.toList.map fun b => (b.toNat : Int)
theorem bytesOf_length (s : ByteArray) : (bytesOf s).length = s.size := by rw [bytesOf, List.length_map, Array.length_toList]; rfl
theorem nums_bytesOf (s : ByteArray) : nums (bytesOf s) = s.data.toList.map fun b => Value.int .u8 b.toNat := by simp [nums, bytesOf]
theorem strOfNums_bytesOf (s : ByteArray) : strOfNums (bytesOf s) = s := by
  have : (List.map ((fun n => UInt8.ofNat n.toNat) ∘ fun b => ((b : UInt8).toNat : Int)) s.data.toList) = s.data.toList := by
    conv => rhs; rw [← List.map_id s.data.toList]
    refine List.map_congr_left fun b _ => ?_
    simp
  unfold strOfNums bytesOf
  rw [List.map_map, this]
theorem strOfNums_append (xs ys : List Int) : strOfNums (xs ++ ys) = strOfNums xs ++ strOfNums ys := by
  apply ByteArray.ext
  simp [strOfNums]
theorem bytes_below (w : World) (e : TypeId) (s : ByteArray) : Below w.heap.size w (Lib.bytesWorld w e s) := by
  refine ⟨?_, ?_, ?_, by rw [Lib.bytesWorld_size]; omega, fun k hk => Lib.bytesWorld_at_old w e s k hk⟩ <;> simp [Lib.bytesWorld, World.freeze] <;> rfl
theorem infoByte : (Try.prog.info? 5).map (fun i => (i.zero, i.size, i.bytes)) = some (some (.int .u8 0), 1, 1) := by kernel_rfl
theorem bytesOf_strOfNums (xs : List Int) (h : ∀ x ∈ xs, 0 ≤ x ∧ x < 256) : bytesOf (strOfNums xs) = xs := by
  rw [bytesOf, strOfNums_data, List.map_map]
  refine (List.map_congr_left (g := id) fun x hx => ?_).trans (List.map_id _)
  have := h x hx
  simp
  omega
theorem bytesOf_extract (s : ByteArray) (a b : Nat) : bytesOf (s.extract a b) = ((bytesOf s).drop a).take (b - a) := by
  simp only [bytesOf, Lib.extract_data, List.map_take, List.map_drop]
def ints (xs : List Int) : List Value := xs.map fun x => .int .i64 x
theorem infoInt : (Try.prog.info? 3).map (fun i => (i.zero, i.size, i.bytes)) = some (some (.int .i64 0), 1, 8) := by kernel_rfl
/-- A writer: block g holds the slice v of the bytes xs, and whether something had no room. -/
structure Wr (w : World) (g : Nat) (v : Value) (xs : List Int) (bad : Bool) : Prop where
  blk : w.heap[g]? = some (.cells #[v, .bool bad] 66 (0, 0))
  own : Row w 5 1 v xs.length (nums xs)
  ne : some g ≠ v.ownBlock
theorem Wr.kept {S : Nat → Prop} {w w' : World} {g : Nat} {v : Value} {xs : List Int} {bad : Bool} (h : Wr w g v xs bad) (hk : Keeps S w w') (hg : ¬ S g) (hn : ∀ k, v.ownBlock = some k → ¬ S k) : Wr w' g v xs bad :=
  ⟨hk.at_ h.blk hg, h.own.kept hk hn, h.ne⟩
theorem Wr.lt {w : World} {g : Nat} {v : Value} {xs : List Int} {bad : Bool} (h : Wr w g v xs bad) : g < w.heap.size := blk_lt h.blk
/-- The lowest k bytes of a number. -/
def le (n : Int) (k : Nat) : List Int := (List.range k).map fun i => (n / 2 ^ (8 * i)) % 256
theorem le_length (n : Int) (k : Nat) : (le n k).length = k := by simp [le]
theorem le_succ (n : Int) (k : Nat) : le n (k + 1) = le n k ++ [(n / 2 ^ (8 * k)) % 256] := by simp [le, List.range_succ]
/-- From w to w' the writer at g (its row there: v) has come to hold xs' and bad'; nothing else was written. -/
def WrTo (g : Nat) (v : Value) (w : World) (xs' : List Int) (bad' : Bool) (w' : World) : Prop :=
  ∃ v', Wr w' g v' xs' bad' ∧ Keeps (fun i => i = g ∨ some i = v.ownBlock) w w' ∧ (v'.ownBlock = v.ownBlock ∨ ∃ b, v'.ownBlock = some b ∧ w.heap.size ≤ b)
theorem WrTo.refl {g : Nat} {v : Value} {w : World} {xs : List Int} {bad : Bool} (h : Wr w g v xs bad) : WrTo g v w xs bad w := ⟨v, h, Keeps.refl _ _, .inl rfl⟩
theorem WrTo.trans {g : Nat} {v v' : Value} {w w1 w2 : World} {xs : List Int} {bad : Bool}
    (hK : Keeps (fun i => i = g ∨ some i = v.ownBlock) w w1) (hv : v'.ownBlock = v.ownBlock ∨ ∃ b, v'.ownBlock = some b ∧ w.heap.size ≤ b)
    (h : WrTo g v' w1 xs bad w2) : WrTo g v w xs bad w2 := by
  obtain ⟨v2, h1, h2, h3⟩ := h
  refine ⟨v2, h1, hK.trans h2 ?_, ?_⟩
  · intro i hi hs
    rcases hs with hs | hs
    · exact .inl hs
    · rcases hv with e | ⟨b, e, hb⟩
      · exact .inr (hs.trans e)
      · rw [e] at hs; cases hs; omega
  · rcases h3 with e | ⟨b, e, hb⟩
    · rcases hv with e2 | ⟨b, e2, hb⟩
      · exact .inl (e.trans e2)
      · exact .inr ⟨b, e.trans e2, hb⟩
    · exact .inr ⟨b, e, by have := hK.size; omega⟩
/-- Something has no room: the flag. -/
theorem flag_to {g : Nat} {v : Value} {w : World} {xs : List Int} {bad : Bool} (h : Wr w g v xs bad) : WrTo g v w xs true (w.setCell ⟨g, 1, none⟩ (.bool true)) := by
  have hk : Keeps (fun i => i = g) w (w.setCell ⟨g, 1, none⟩ (.bool true)) := (Keeps.refl (fun i => i = g) w).setCell (p := ⟨g, 1, none⟩) (fun _ => rfl) _
  refine ⟨v, ⟨?_, h.own.kept hk (fun k hk e => h.ne (by rw [hk, e])), h.ne⟩, hk.mono (fun i _ h => .inl h), .inl rfl⟩
  rw [blk_set h.blk]; simp
/-- An append to the row and its store: whatever is appended. -/
theorem step_to {g : Nat} {v : Value} {w wm w1 : World} {xs ys : List Int} {bad : Bool} {ao : Option Addr} {m cap : Nat} (h : Wr w g v xs bad) (hm : Below w.heap.size w wm) (hys : ys.length = m)
    (hown : Row w1 5 1 (.slice ao (xs.length + m) cap) (xs.length + m) (nums xs ++ nums ys)) (hgrow : wm.grownBy w1 v.ownBlock)
    (hat : (Value.slice ao (xs.length + m) cap).ownBlock = v.ownBlock ∨ (Value.slice ao (xs.length + m) cap).ownBlock = some wm.heap.size) :
    WrTo g v w (xs ++ ys) bad (w1.setCell ⟨g, 0, none⟩ (.slice ao (xs.length + m) cap)) := by
  have hlt := h.lt
  have hsz := hm.size
  have hb : w1.heap[g]? = some (.cells #[v, .bool bad] 66 (0, 0)) := by
    rw [hgrow.block g (by omega) h.ne, hm.block g hlt]
    exact h.blk
  have hne : some g ≠ (Value.slice ao (xs.length + m) cap).ownBlock := by
    rcases hat with e | e
    · rw [e]; exact h.ne
    · rw [e]; intro h; cases h; omega
  have hk1 : Keeps (fun i => i = g ∨ some i = v.ownBlock) w (w1.setCell ⟨g, 0, none⟩ (.slice ao (xs.length + m) cap)) := by
    refine Keeps.setCell ?_ (fun _ => .inl rfl) _
    exact (Keeps.of_below (S := fun i => i = g ∨ some i = v.ownBlock) hm).trans (Keeps.of_grown (S := fun i => some i = v.ownBlock) hgrow (fun k hk => hk.symm)) (fun i _ h => .inr h)
  refine ⟨.slice ao (xs.length + m) cap, ⟨?_, ?_, hne⟩, hk1, ?_⟩
  · rw [blk_set hb]; simp
  · have hl : (xs ++ ys).length = xs.length + m := by simp [hys]
    rw [hl, nums_append]
    exact hown.kept ((Keeps.refl (fun i => i = g) w1).setCell (p := ⟨g, 0, none⟩) (fun _ => rfl) _) (fun k hk e => hne (by rw [hk, e]))
  · rcases hat with e | e
    · exact .inl e
    · exact .inr ⟨_, e, hsz⟩
set_option maxRecDepth 100000 in
theorem put_neg (g : Nat) (v : Value) (xs : List Int) (bad : Bool) (n width : Int) (w : World) (h : Wr w g v xs bad) (hn : n < 0) :
    Calls Try.prog 44 #[.pointer (some ⟨g, 0, none⟩), .int .i64 n, .int .i64 width] w fun e w' => e = .returned (.tuple #[]) ∧ WrTo g v w xs true w' := by
  have hw := flag_to h
  have hc := blk_cell h.blk 1
  have hf := blk_frozen h.blk 1
  have hl := h.lt
  clear h
  go_enter Try.func44, Try.ntmps44
  go_wp2
  refine bodyPost_ret (results_none rfl _ _ _) rfl ?_
  exact ⟨rfl, hw⟩
set_option maxRecDepth 100000 in
theorem put_over (g : Nat) (v : Value) (xs : List Int) (bad : Bool) (n width : Int) (w : World) (h : Wr w g v xs bad) (hn : 0 ≤ n) (hn2 : n ≤ 9223372036854775807) (h0 : 0 ≤ width) (h6 : width ≤ 6)
    (hs : (n / 2 ^ (8 * width).toNat != 0) = true) :
    Calls Try.prog 44 #[.pointer (some ⟨g, 0, none⟩), .int .i64 n, .int .i64 width] w fun e w' => e = .returned (.tuple #[]) ∧ WrTo g v w xs true w' := by
  have hw := flag_to h
  have hc := blk_cell h.blk 1
  have hf := blk_frozen h.blk 1
  have hl := h.lt
  clear h
  go_enter Try.func44, Try.ntmps44
  go_wp2
  refine bodyPost_ret (results_none rfl _ _ _) rfl ?_
  exact ⟨rfl, hw⟩
set_option maxRecDepth 100000 in
theorem put_good (g : Nat) (v : Value) (xs : List Int) (bad : Bool) (n width : Int) (w : World) (h : Wr w g v xs bad) (hx : xs.length ≤ 1000000) (hn : 0 ≤ n) (hn2 : n ≤ 9223372036854775807) (h0 : 0 ≤ width) (h6 : width ≤ 6)
    (hs : (n / 2 ^ (8 * width).toNat != 0) = false) :
    Calls Try.prog 44 #[.pointer (some ⟨g, 0, none⟩), .int .i64 n, .int .i64 width] w fun e w' => e = .returned (.tuple #[]) ∧ WrTo g v w (xs ++ le n width.toNat) bad w' := by
  obtain ⟨i0, hi, hz0, hz1, hz2⟩ := info_parts infoByte
  have HI := Lib.hid hi
  have HZ0 := Lib.hid hz0
  have HZ1 := Lib.hid hz1
  have HZ2 := Lib.hid hz2
  clear hi hz0 hz1 hz2
  go_enter Try.func44, Try.ntmps44
  go_wp2
  go_loopw [6, 20] (fun a i wr => ∃ k : Nat, (k : Int) ≤ width ∧ i = .int .i64 k ∧ WrTo g v w (xs ++ le n k) bad wr) (fun _ i _ => width.toNat - (intOf i).toNat)
  case atStart => exact ⟨0, h0, rfl, by simpa [le] using WrTo.refl h⟩
  case round =>
    obtain ⟨k, hk, rfl, v', hW, hK, hv⟩ := hrel
    by_cases hlt : (k : Int) < width
    · have hc := blk_cell hW.blk 0
      have hf := blk_frozen hW.blk 0
      have hl := hW.lt
      have hh : k ≤ 5 := by omega
      have HW := Lib.hid hW
      have hlen : (xs ++ le n k).length ≤ 1000006 := by rw [List.length_append, le_length]; omega
      go_wp2
      have hw8 : IntKind.i64.wrap (8 * (k : Int)) = 8 * (k : Int) := IntWalk.i64_in _ (by omega)
      have hp8 : (0 : Int) ≤ 8 * (k : Int) := by omega
      have ht8 : (8 * (k : Int)).toNat = 8 * k := by omega
      have hm8 : min (8 * k) 64 = 8 * k := by omega
      clear hW
      go_region_law
        ((refine step_append_row (by rfl) _ _ _ _ (by rfl) 5 i0 (.int .u8 0) 1 1 Try.underlying44 HI.out HZ0.out HZ1.out HZ2.out rfl (by omega) v' _ _ (by rfl) ((HW.out.own.alloc _).drew) _ (by rfl) 1 [.int .u8 (IntKind.u8.wrap (n / 2 ^ (8 * k)))] (Feeds.slice Try.underlying44 ⟨wr.heap.size, 0, none⟩ 1 1 _ (by rfl) (by simp [Value.oneCell']) (World.news_of_block (cs := #[.int .u8 (IntKind.u8.wrap (n / 2 ^ (8 * k)))]) (t := 5) (fr := (0, 0)) (heap_alloc_new wr _))) (by unfold maxLen; omega) (by omega) (wr.heap.size + 1) (by simp) ?_; intro ao cap w1 hown1 hgrow hat; have hcz : w1.cell? ⟨g, 0, none⟩ = some v' := (hgrow.cell_far ⟨g, 0, none⟩ (by simp; omega) HW.out.ne).trans ((World.cell?_of_block (w := wr) (Below.heap_alloc wr _ g hl)).trans hc); have hfz : w1.frozen? ⟨g, 0, none⟩ = false := (hgrow.frozen_far ⟨g, 0, none⟩ (by simp; omega) HW.out.ne).trans ((World.frozen?_of_block (w := wr) (Below.heap_alloc wr _ g hl)).trans hf)))
      all_goals
        have hstep := step_to (ys := [(n / 2 ^ (8 * k)) % 256]) HW.out (((Below.refl _ wr).alloc (Nat.le_refl _) _).drew) rfl (by simpa [nums, IntKind.wrap, IntKind.bits, IntKind.signed] using hown1) hgrow (by simpa using hat)
        rw [List.append_assoc, ← le_succ] at hstep
        have hs2 := WrTo.trans hK hv hstep
        have hlq : (xs ++ le n k).length = xs.length + (le n k).length := List.length_append
        rw [hlq] at hs2
        have HS := Lib.hid hs2
        clear hgrow hown1 hat hstep hs2 hlq
        go_wp2
        go_roundw
        case rel => exact ⟨k + 1, by omega, by go_num, HS.out⟩
        case measure => simp [intOf]; omega
    · go_wp2
      have hkw : k = width.toNat := by omega
      subst hkw
      refine bodyPost_end (results_none rfl _ _ _) rfl ?_
      exact ⟨rfl, v', hW, hK, hv⟩
/-- Has a number room in so many bytes? -/
def fits (n : Int) (k : Nat) : Bool := decide (0 ≤ n) && (n / 2 ^ (8 * k) == 0)
/-- What stands behind a put. -/
def putXs (xs : List Int) (n : Int) (k : Nat) : List Int := if fits n k = true then xs ++ le n k else xs
def putBad (bad : Bool) (n : Int) (k : Nat) : Bool := if fits n k = true then bad else true
theorem put_any (g : Nat) (v : Value) (xs : List Int) (bad : Bool) (n width : Int) (w : World) (h : Wr w g v xs bad) (hx : xs.length ≤ 1000000) (hn : -9223372036854775808 ≤ n) (hn2 : n ≤ 9223372036854775807) (h0 : 0 ≤ width) (h6 : width ≤ 6) :
    Calls Try.prog 44 #[.pointer (some ⟨g, 0, none⟩), .int .i64 n, .int .i64 width] w fun e w' => e = .returned (.tuple #[]) ∧ WrTo g v w (putXs xs n width.toNat) (putBad bad n width.toNat) w' := by
  have hpow : (8 * width).toNat = 8 * width.toNat := by omega
  by_cases hneg : n < 0
  · have hf : fits n width.toNat = false := by simp [fits]; omega
    rw [putXs, putBad, hf]
    exact put_neg g v xs bad n width w h hneg
  · by_cases hov : n / 2 ^ (8 * width.toNat) = 0
    · have hf : fits n width.toNat = true := by simp [fits, hov]; omega
      rw [putXs, putBad, hf]
      exact put_good g v xs bad n width w h hx (by omega) hn2 h0 h6 (by rw [hpow, hov]; rfl)
    · have hf : fits n width.toNat = false := by simp [fits, hov]
      rw [putXs, putBad, hf]
      exact put_over g v xs bad n width w h (by omega) hn2 h0 h6 (by rw [hpow]; simpa using hov)
/-- What Put answers. -/
def putSpec (n width : Int) : ByteArray × Int := if width < 1 ∨ 6 < width then (⟨#[]⟩, 1) else if fits n width.toNat = true then (strOfNums (le n width.toNat), 0) else (⟨#[]⟩, 2)
/-- What is left of the world behind a call that worked on a writer of its own. -/
theorem WrTo.below {w w1 : World} {o : Obj} {xs : List Int} {bad : Bool} (h : WrTo w.heap.size (.slice none 0 0) (w.alloc o) xs bad w1) : Below w.heap.size w w1 := by
  obtain ⟨v', _, hk, _⟩ := h
  have h1 : Below w.heap.size (w.alloc o) w1 := hk.below (by simp) (fun i hi hs => by
    rcases hs with hs | hs
    · omega
    · simp [Value.ownBlock] at hs)
  exact ((Below.refl _ w).alloc (Nat.le_refl _) o).trans h1
/-- A cursor: block c holds the text s and the place at. -/
def Cu (w : World) (c : Nat) (s : ByteArray) (p : Nat) : Prop := w.heap[c]? = some (.cells #[.string s, .int .i64 p] 59 (0, 0))
/-- The byte at a place. -/
def byteAt (s : ByteArray) (i : Nat) : Int := if h : i < s.size then ((s[i]'h).toNat : Int) else 0
theorem byteAt_of (s : ByteArray) (i : Nat) (h : i < s.size) : ((s[i]'h).toNat : Int) = byteAt s i := by simp [byteAt, h]
/-- The number of k bytes from a place on, the lowest first. -/
def num (s : ByteArray) (p : Nat) : Nat → Int
  | 0 => 0
  | k + 1 => num s p k + byteAt s (p + k) * 2 ^ (8 * k)
theorem byteAt_range (s : ByteArray) (i : Nat) : 0 ≤ byteAt s i ∧ byteAt s i ≤ 255 := by
  unfold byteAt
  split
  · rename_i h
    have := UInt8.toNat_lt (s[i]'h)
    omega
  · omega
theorem num_range (s : ByteArray) (p : Nat) : ∀ k, 0 ≤ num s p k ∧ num s p k < 2 ^ (8 * k)
  | 0 => by simp [num]
  | k + 1 => by
    obtain ⟨h1, h2⟩ := num_range s p k
    obtain ⟨h3, h4⟩ := byteAt_range s (p + k)
    have hp : (0 : Int) < 2 ^ (8 * k) := Int.pow_pos (by decide)
    have h5 : byteAt s (p + k) * 2 ^ (8 * k) ≤ 255 * 2 ^ (8 * k) := Int.mul_le_mul_of_nonneg_right h4 (by omega)
    have h6 : 0 ≤ byteAt s (p + k) * 2 ^ (8 * k) := Int.mul_nonneg h3 (by omega)
    have h7 : (2 : Int) ^ (8 * (k + 1)) = 256 * 2 ^ (8 * k) := by rw [show 8 * (k + 1) = 8 + 8 * k by omega, Int.pow_add]; rfl
    rw [num, h7]
    omega
theorem two_le {a b : Nat} (h : a ≤ b) : (2 : Int) ^ a ≤ 2 ^ b := by exact_mod_cast Nat.pow_le_pow_right (by decide : 0 < 2) h
theorem or_low (j i : Nat) (hj : j ≤ 63) (x y : Int) (hx₀ : 0 ≤ x) (hx : x % 2 ^ i = 0) (hx₁ : x < 2 ^ j) (hy₀ : 0 ≤ y) (hy : y < 2 ^ i) (hy₁ : y < 2 ^ j) : bits .or .i64 y x = y + x := by
  have hk : ∀ n : Int, 0 ≤ n → n < 2 ^ j → IntKind.i64.wrap n = n := fun n h0 h1 => by
    have h2 : (2 : Int) ^ j ≤ 2 ^ 63 := two_le hj
    rw [IntKind.wrap_i64]
    have h3 : (2 : Int) ^ 63 = 9223372036854775808 := rfl
    omega
  have h := bits_join .i64 j (by simp [IntKind.bits]; omega) hk i x y hx₀ hx hx₁ hy₀ hy hy₁
  obtain ⟨a, rfl⟩ := Int.eq_ofNat_of_zero_le hx₀
  obtain ⟨b, rfl⟩ := Int.eq_ofNat_of_zero_le hy₀
  have ha : a < 2 ^ j := by exact_mod_cast hx₁
  have hb : b < 2 ^ j := by exact_mod_cast hy₁
  rw [(bits_nat .i64 j (by simp [IntKind.bits]; omega) hk a b ha hb).2] at h
  rw [(bits_nat .i64 j (by simp [IntKind.bits]; omega) hk b a hb ha).2, Nat.or_comm, h]
  omega
theorem num_or (s : ByteArray) (p k : Nat) (hk : k ≤ 5) (h : p + k < s.size) : bits .or .i64 (num s p k) (wrap64 (wrap64 ((s[p + k]'h).toNat : Int) * 2 ^ (8 * k))) = num s p (k + 1) := by
  obtain ⟨h1, h2⟩ := num_range s p k
  obtain ⟨h3, h4⟩ := byteAt_range s (p + k)
  have hp : (0 : Int) < 2 ^ (8 * k) := Int.pow_pos (by decide)
  have hq : (2 : Int) ^ (8 * k) ≤ 2 ^ 40 := two_le (by omega)
  have hq2 : (2 : Int) ^ 40 = 1099511627776 := rfl
  have h5 : byteAt s (p + k) * 2 ^ (8 * k) ≤ 255 * 2 ^ (8 * k) := Int.mul_le_mul_of_nonneg_right h4 (by omega)
  have h6 : 0 ≤ byteAt s (p + k) * 2 ^ (8 * k) := Int.mul_nonneg h3 (by omega)
  rw [byteAt_of]
  have e1 : wrap64 (byteAt s (p + k)) = byteAt s (p + k) := by unfold wrap64; omega
  rw [e1]
  have e2 : wrap64 (byteAt s (p + k) * 2 ^ (8 * k)) = byteAt s (p + k) * 2 ^ (8 * k) := by unfold wrap64; omega
  rw [e2, or_low 48 (8 * k) (by decide) _ _ h6 (by simp) (by omega) h1 h2 (by omega)]
  rfl
set_option maxRecDepth 100000 in
theorem take_short (c : Nat) (s : ByteArray) (p : Nat) (width : Int) (w : World) (h : Cu w c s p) (hs : s.size ≤ 9223372036854775807) (hp : p ≤ s.size) (hw : (s.size : Int) - p < width) :
    Calls Try.prog 38 #[.pointer (some ⟨c, 0, none⟩), .int .i64 width] w fun e w' => e = .panicked [{ v := .iface 72 (.agg #[]), recovered := false }] ∧ ∃ n, w.drewN n = w' := by
  have hc0 := blk_cell h 0
  have hc1 := blk_cell h 1
  have hf1 := blk_frozen h 1
  have hl := blk_lt h
  clear h
  go_enter Try.func38, Try.ntmps38
  go_wp2
  go_quiet (fail)
  go_wp2
  exact ⟨rfl, rfl, _, rfl⟩
set_option maxRecDepth 100000 in
theorem take_ok (c : Nat) (s : ByteArray) (p : Nat) (width : Int) (w : World) (h : Cu w c s p) (hs : s.size ≤ 9223372036854775807) (h0 : 0 ≤ width) (h6 : width ≤ 6) (hw : (p : Int) + width ≤ s.size) :
    Calls Try.prog 38 #[.pointer (some ⟨c, 0, none⟩), .int .i64 width] w fun e w' => e = .returned (.int .i64 (num s p width.toNat)) ∧ ∃ n, (w.setCell ⟨c, 1, none⟩ (.int .i64 (p + width))).drewN n = w' := by
  have hc0 := blk_cell h 0
  have hc1 := blk_cell h 1
  have hf1 := blk_frozen h 1
  have hl := blk_lt h
  clear h
  go_enter Try.func38, Try.ntmps38
  go_wp2
  go_quiet (fail)
  go_wp2
  go_loopw [5, 22] (fun t i wr => ∃ k : Nat, (k : Int) ≤ width ∧ i = .int .i64 k ∧ t = .int .i64 (num s p k) ∧ ∃ n, w.drewN n = wr) (fun _ i _ => width.toNat - (intOf i).toNat)
  case atStart => exact ⟨0, h0, rfl, rfl, _, rfl⟩
  case round =>
    obtain ⟨k, hk, rfl, rfl, nd, rfl⟩ := hrel
    by_cases hlt : (k : Int) < width
    · have e1 : IntKind.i64.wrap ((p : Int) + (k : Int)) = (p : Int) + (k : Int) := IntWalk.i64_in _ (by omega)
      have e2 : (0 : Int) ≤ (p : Int) + (k : Int) := by omega
      have e3 : (p : Int) + (k : Int) < (s.size : Int) := by omega
      have e4 : ((p : Int) + (k : Int)).toNat = p + k := by omega
      have e5 : p + k < s.size := by omega
      have hw8 : IntKind.i64.wrap (8 * (k : Int)) = 8 * (k : Int) := IntWalk.i64_in _ (by omega)
      have hp8 : (0 : Int) ≤ 8 * (k : Int) := by omega
      have ht8 : (8 * (k : Int)).toNat = 8 * k := by omega
      have hm8 : min (8 * k) 64 = 8 * k := by omega
      go_wp2
      go_quiet (fail)
      go_wp2
      go_roundw
      case rel => exact ⟨k + 1, by omega, by go_num, by rw [num_or s p k (by omega) e5], _, rfl⟩
      case measure => simp [intOf]; omega
    · have e1 : IntKind.i64.wrap ((p : Int) + width) = (p : Int) + width := IntWalk.i64_in _ (by omega)
      go_wp2
      obtain rfl : k = width.toNat := by omega
      go_ret
      exact ⟨rfl, nd, rfl⟩
set_option maxRecDepth 100000 in
theorem gave_nil (w : World) : Calls Try.prog 37 #[.nilIface] w fun e w' => e = .returned (.bool false) ∧ w = w' := by
  go_enter Try.func37, Try.ntmps37
  go_wp2
  go_ret
  exact ⟨rfl, rfl⟩
set_option maxRecDepth 100000 in
theorem gave_short (w : World) : Calls Try.prog 37 #[.iface 72 (.agg #[])] w fun e w' => e = .returned (.bool true) ∧ w.alloc (.cells #[] 72) = w' := by
  have hta : ∀ (v : Value) (W : World), (Instr.typeAssert (.iface 72 v) 20 72 true).run Try.prog W = .ok (.tuple #[v, .bool true]) W := fun v W => by rfl
  go_enter Try.func37, Try.ntmps37
  go_wp2
  go_ret
  exact ⟨rfl, rfl⟩
/-- What Get answers. -/
def getSpec (s : ByteArray) (p width : Int) : Int × Int :=
  if width < 1 ∨ 6 < width then (0, 1) else if p < 0 ∨ (s.size : Int) - p < width then (0, 3) else (num s p.toNat width.toNat, 0)
theorem div_step (n : Int) (k : Nat) : n / 2 ^ (8 * k) / 256 = n / 2 ^ (8 * (k + 1)) := by
  rw [Int.ediv_ediv_of_nonneg (by exact_mod_cast Nat.zero_le _), show 8 * (k + 1) = 8 * k + 8 by omega, Int.pow_add]
  rfl
theorem div_pow_nonneg {n : Int} (h : 0 ≤ n) (k : Nat) : 0 ≤ n / 2 ^ (8 * k) := Int.ediv_nonneg h (by exact_mod_cast Nat.zero_le _)
theorem div_pow_le {n : Int} (h : 0 ≤ n) (k : Nat) : n / 2 ^ (8 * k) ≤ n := Int.ediv_le_self _ h
set_option maxRecDepth 100000 in
theorem refPut_loop (n width : Int) (hn : 0 ≤ n) (hn2 : n ≤ 9223372036854775807) (h0 : 1 ≤ width) (h6 : width ≤ 6) (w : World) :
    Calls Try.prog 49 #[.int .i64 n, .int .i64 width] w fun e w' => e = .returned (.tuple #[.string (putSpec n width).1, .int .i64 (putSpec n width).2]) ∧ Below w.heap.size w w' := by
  obtain ⟨i0, hi, hz0, hz1, hz2⟩ := info_parts infoByte
  have HI := Lib.hid hi
  have HZ0 := Lib.hid hz0
  have HZ1 := Lib.hid hz1
  have HZ2 := Lib.hid hz2
  clear hi hz0 hz1 hz2
  go_enter Try.func49, Try.ntmps49
  go_wp2
  go_loopg [0, 6, 7] width.toNat (fun j q b i wr => ∃ (k : Nat) (v : Value), (j : Int) + k = width ∧ q = .int .i64 (n / 2 ^ (8 * k)) ∧ i = .int .i64 k ∧ b = v ∧ Loc w wr 5 1 v k (nums (le n k)))
  case atStart => exact ⟨0, .slice none 0 0, by omega, by simp, rfl, rfl, Loc.nil (Below.refl _ _) _ _⟩
  case round =>
    obtain ⟨k, v, hk, rfl, rfl, rfl, hA⟩ := hrel
    have hq0 := div_pow_nonneg hn k
    have hq1 := div_pow_le hn k
    have hkb : k ≤ 6 := by omega
    by_cases hlt : (k : Int) < width
    · obtain ⟨q, hq⟩ : ∃ q, q = n / 2 ^ (8 * k) := ⟨_, rfl⟩
      rw [← hq]
      rw [← hq] at hq0 hq1
      have HQ := Lib.hid hq
      clear hq
      go_wp2_with (at_builtin; go_must (refine wpList_append_row _ (by rfl) _ _ _ _ (by rfl) 5 i0 (.int .u8 0) 1 1 Try.underlying44 HI.out HZ0.out HZ1.out HZ2.out rfl (by omega) _ _ _ (by rfl) (hA.row.alloc _) _ (by rfl) 1 [.int .u8 (q % 256)] (Feeds.slice Try.underlying44 ⟨wr.heap.size, 0, none⟩ 1 1 _ rfl (by simp [Value.oneCell']) (World.news_of_block (cs := #[.int .u8 (q % 256)]) (t := 5) (fr := (0, 0)) (heap_alloc_new wr _))) (by unfold maxLen; omega) (by omega) (wr.heap.size + 1) (by simp) ?_); intro ao2 cap2 w1 hown1 hgrow hat)
      have hloc := hA.app ((Below.refl _ wr).alloc (Nat.le_refl _) _) hown1 hgrow hat (by omega)
      have hL : nums (le n k) ++ [.int .u8 (q % 256)] = nums (le n (k + 1)) := by rw [le_succ, nums_append, HQ.out]; rfl
      have hQ : q / 256 = n / 2 ^ (8 * (k + 1)) := by rw [HQ.out, div_step]
      rw [hL] at hloc
      go_roundg (gk - 1)
      case measure => omega
      case rel => exact ⟨k + 1, _, by omega, by rw [hQ], by go_num, rfl, hloc⟩
    · obtain rfl : gk = 0 := by omega
      have hkw : width.toNat = k := by omega
      have hs : putSpec n width = if fits n k = true then (strOfNums (le n k), 0) else (⟨#[]⟩, 2) := by rw [putSpec, if_neg (by omega), hkw]
      by_cases hf : fits n k = true
      · have hz : n / 2 ^ (8 * k) = 0 := by simpa [fits, hn] using hf
        rw [if_pos hf] at hs
        have HS := Lib.hid hs
        have hcs := row_string (P := Try.prog) Try.underlying44 Try.underlying5 Try.underlying9 hA.row
        rw [hz]
        clear hs hf hkw
        go_wp2
        go_ret2
        rw [HS.out]
        exact ⟨rfl, hA.below⟩
      · have hz : 0 < n / 2 ^ (8 * k) := by
          rcases Int.lt_or_eq_of_le hq0 with h | h
          · exact h
          · exact absurd (by simp [fits, hn, ← h]) hf
        rw [if_neg hf] at hs
        have HS := Lib.hid hs
        clear hs hf hkw
        go_wp2
        go_ret2
        rw [HS.out]
        exact ⟨rfl, hA.below⟩
set_option maxRecDepth 100000 in
theorem refPut_any (n width : Int) (hn2 : n ≤ 9223372036854775807) (w : World) :
    Calls Try.prog 49 #[.int .i64 n, .int .i64 width] w fun e w' => e = .returned (.tuple #[.string (putSpec n width).1, .int .i64 (putSpec n width).2]) ∧ Below w.heap.size w w' := by
  by_cases h1 : width < 1
  · have hs : putSpec n width = (⟨#[]⟩, 1) := by simp [putSpec, h1]
    have HS := Lib.hid hs
    clear hs
    go_enter Try.func49, Try.ntmps49
    go_wp2
    go_ret2
    rw [HS.out]
    exact ⟨rfl, Below.refl _ _⟩
  by_cases h6 : 6 < width
  · have hs : putSpec n width = (⟨#[]⟩, 1) := by simp [putSpec, h6]
    have HS := Lib.hid hs
    clear hs
    go_enter Try.func49, Try.ntmps49
    go_wp2
    go_ret2
    rw [HS.out]
    exact ⟨rfl, Below.refl _ _⟩
  by_cases hn : n < 0
  · have hs : putSpec n width = (⟨#[]⟩, 2) := by
      rw [putSpec, if_neg (by omega), if_neg]
      simp [fits]
      omega
    have HS := Lib.hid hs
    clear hs
    go_enter Try.func49, Try.ntmps49
    go_wp2
    go_ret2
    rw [HS.out]
    exact ⟨rfl, Below.refl _ _⟩
  exact refPut_loop n width (by omega) hn2 (by omega) (by omega) w
theorem num_cons (s : ByteArray) (p : Nat) : ∀ k, num s p (k + 1) = byteAt s p + num s (p + 1) k * 256
  | 0 => by simp [num]
  | k + 1 => by
    rw [num, num_cons s p k, num, show p + 1 + k = p + (k + 1) by omega, show 8 * (k + 1) = 8 * k + 8 by omega, Int.pow_add, Int.add_mul]
    have : byteAt s (p + (k + 1)) * (2 ^ (8 * k) * 2 ^ 8) = byteAt s (p + (k + 1)) * 2 ^ (8 * k) * 256 := by rw [Int.mul_assoc]; rfl
    omega
set_option maxRecDepth 100000 in
theorem refGet_loop (s : ByteArray) (p : Nat) (width : Int) (hs : s.size ≤ 9223372036854775807) (h1 : ¬ width < 1) (h6 : ¬ 6 < width) (hw : (p : Int) + width ≤ s.size) (w : World) :
    Calls Try.prog 47 #[.string s, .int .i64 p, .int .i64 width] w fun e w' => e = .returned (.tuple #[.int .i64 (num s p width.toNat), .int .i64 0]) ∧ w = w' := by
  have e0 : ¬ (s.size : Int) < (p : Int) := by omega
  have e1 : ¬ (s.size : Int) - (p : Int) < width := by omega
  go_enter Try.func47, Try.ntmps47
  go_wp2
  go_loop [8, 9] (fun t i => ∃ k : Nat, (k : Int) ≤ width ∧ i = .int .i64 ((k : Int) - 1) ∧ t = .int .i64 (num s (p + k) (width.toNat - k))) (fun _ i => (intOf i + 1).toNat)
  case atStart => exact ⟨width.toNat, by omega, by rw [show ((width.toNat : Nat) : Int) = width by omega], by simp [num]⟩
  case round =>
    obtain ⟨k, hk, rfl, rfl⟩ := hrel
    cases k with
    | zero =>
      go_wp2
      go_ret2
      exact ⟨by simp, rfl⟩
    | succ k =>
      have hnum := num_cons s (p + k) (width.toNat - (k + 1))
      have hb := num_range s (p + (k + 1)) (width.toNat - (k + 1))
      have hp40 : (2 : Int) ^ (8 * (width.toNat - (k + 1))) ≤ 2 ^ 40 := two_le (by omega)
      have hp41 : (2 : Int) ^ 40 = 1099511627776 := rfl
      rw [hp41] at hp40
      have hb1 := hb.1
      have hb2 : num s (p + (k + 1)) (width.toNat - (k + 1)) < 1099511627776 := by omega
      obtain ⟨q, hq⟩ : ∃ q, q = num s (p + (k + 1)) (width.toNat - (k + 1)) := ⟨_, rfl⟩
      rw [show p + k + 1 = p + (k + 1) by omega, ← hq, show width.toNat - (k + 1) + 1 = width.toNat - k by omega] at hnum
      rw [← hq] at hb1 hb2 ⊢
      have HN := Lib.hid hnum
      have hx : p + k < s.size := by omega
      have hx2 : (p : Int) + (k : Int) < (s.size : Int) := by omega
      have hbr := byteAt_range s (p + k)
      have hbe := byteAt_of s (p + k) hx
      clear hnum hb hp40 hp41 hq
      rw [show ((k + 1 : Nat) : Int) - 1 = (k : Int) by omega]
      go_wp2
      exact ⟨⟨k, by omega, rfl, by rw [HN.out, Int.add_comm]⟩, by simp [intOf]⟩
set_option maxRecDepth 100000 in
theorem refGet_any (s : ByteArray) (p : Int) (width : Int) (hs : s.size ≤ 9223372036854775807) (w : World) :
    Calls Try.prog 47 #[.string s, .int .i64 p, .int .i64 width] w fun e w' => e = .returned (.tuple #[.int .i64 (getSpec s p width).1, .int .i64 (getSpec s p width).2]) ∧ w = w' := by
  by_cases h1 : width < 1
  · have h : getSpec s p width = (0, 1) := by simp [getSpec, h1]
    have H := Lib.hid h
    clear h
    go_enter Try.func47, Try.ntmps47
    go_wp2
    go_ret2
    rw [H.out]
    exact ⟨rfl, rfl⟩
  by_cases h6 : 6 < width
  · have h : getSpec s p width = (0, 1) := by simp [getSpec, h6]
    have H := Lib.hid h
    clear h
    go_enter Try.func47, Try.ntmps47
    go_wp2
    go_ret2
    rw [H.out]
    exact ⟨rfl, rfl⟩
  by_cases h0 : p < 0
  · have h : getSpec s p width = (0, 3) := by rw [getSpec, if_neg (by omega), if_pos (.inl h0)]
    have H := Lib.hid h
    clear h
    go_enter Try.func47, Try.ntmps47
    go_wp2
    go_ret2
    rw [H.out]
    exact ⟨rfl, rfl⟩
  by_cases hl : (s.size : Int) < p
  · have h : getSpec s p width = (0, 3) := by rw [getSpec, if_neg (by omega), if_pos (.inr (by omega))]
    have H := Lib.hid h
    clear h
    go_enter Try.func47, Try.ntmps47
    go_wp2
    go_ret2
    rw [H.out]
    exact ⟨rfl, rfl⟩
  obtain ⟨q, rfl⟩ := Int.eq_ofNat_of_zero_le (by omega : 0 ≤ p)
  by_cases hw : (s.size : Int) - q < width
  · have h : getSpec s q width = (0, 3) := by rw [getSpec, if_neg (by omega), if_pos (.inr hw)]
    have H := Lib.hid h
    clear h
    have e0 : ¬ (s.size : Int) < (q : Int) := by omega
    go_enter Try.func47, Try.ntmps47
    go_wp2
    go_ret2
    rw [H.out]
    exact ⟨rfl, rfl⟩
  · have h : getSpec s q width = (num s q width.toNat, 0) := by rw [getSpec, if_neg (by omega), if_neg (by omega)]; rfl
    rw [h]
    exact refGet_loop s q width hs h1 h6 (by omega) w
/-- A writer that begins with a text's bytes. -/
theorem Wr.bytes (w : World) (s : ByteArray) (hs : s.size ≤ maxLen) :
    Wr ((Lib.bytesWorld w 5 s).alloc (.cells #[.slice (some ⟨w.heap.size, 0, none⟩) s.size (grownCap w s.size 0 5), .bool false] 66)) (w.heap.size + 1)
      (.slice (some ⟨w.heap.size, 0, none⟩) s.size (grownCap w s.size 0 5)) (bytesOf s) false := by
  have hrow := Row.bytes w 5 s hs
  rw [← nums_bytesOf, ← bytesOf_length s] at hrow
  refine ⟨?_, ?_, by simp [Value.ownBlock]⟩
  · have := heap_alloc_new (Lib.bytesWorld w 5 s) (.cells #[.slice (some ⟨w.heap.size, 0, none⟩) s.size (grownCap w s.size 0 5), .bool false] 66)
    rwa [Lib.bytesWorld_size] at this
  · rw [← bytesOf_length s] at *
    exact hrow.alloc _
theorem noughts_row {w : World} {e : TypeId} {v : Value} {k : Nat} (h : w.ownsRow 0 e 1 v k (madeCells (Value.int .u8 0).cells (k * 1)).toList) : Row w e 1 v k (nums (List.replicate k 0)) := by
  have h2 := Row.of_own h
  rw [Nat.mul_one, show (Value.int .u8 0).cells = #[.int .u8 0] from rfl, toList_madeCells_one] at h2
  simpa [nums] using h2
set_option maxRecDepth 100000 in
theorem Noughts_any (n : Int) (h0 : 0 ≤ n) (hn : n ≤ 1000000) (w : World) :
    Calls Try.prog 42 #[.int .i64 n] w fun e w' => e = .returned (.string (strOfNums (List.replicate n.toNat 0))) ∧ Below w.heap.size w w' := by
  obtain ⟨i0, hi, hz0, hz1, hz2⟩ := info_parts infoByte
  have HI := Lib.hid hi
  have HZ0 := Lib.hid hz0
  have HZ1 := Lib.hid hz1
  have HZ2 := Lib.hid hz2
  clear hi hz0 hz1 hz2
  obtain ⟨k, rfl⟩ := Int.eq_ofNat_of_zero_le h0
  go_enter Try.func42, Try.ntmps42
  go_wp2_with (at_make; go_must (refine wpList_make_full _ (by rfl) _ _ _ (by rfl) 0 5 i0 (.int .u8 0) 1 Try.underlying44 HI.out HZ0.out HZ1.out .i64 .i64 _ _ k (by rfl) (by rfl) rfl rfl (by rw [HZ2.out]; omega) (by unfold maxLen; omega) (Nat.zero_le _) ?_); intro w1 hown hgrow; have hcs := row_string (P := Try.prog) Try.underlying44 Try.underlying5 Try.underlying9 (noughts_row hown); have HG := Lib.hid hgrow; clear hown hgrow)
  go_ret
  exact ⟨by simp, (Below.refl _ w).grown HG.out (Nat.le_refl _) (by simp)⟩
theorem byteAt_list (s : ByteArray) (i : Nat) : byteAt s i = ((s.data.toList.getD i 0).toNat : Int) := by
  unfold byteAt
  have hsz : s.data.toList.length = s.size := by rw [Array.length_toList]; rfl
  split
  · rename_i h
    rw [List.getD, List.getElem?_eq_getElem (by omega)]
    simp
    rfl
  · rename_i h
    rw [List.getD, List.getElem?_eq_none (by omega)]
    rfl
theorem byteAt_mid (a b : ByteArray) (xs : List Int) (hx : ∀ x ∈ xs, 0 ≤ x ∧ x < 256) (i : Nat) (hi : i < xs.length) : byteAt (a ++ strOfNums xs ++ b) (a.size + i) = xs.getD i 0 := by
  have hsz : a.data.toList.length = a.size := by rw [Array.length_toList]; rfl
  have hm := hx _ (List.getElem_mem hi)
  rw [byteAt_list]
  simp only [ByteArray.data_append, Array.toList_append, strOfNums_data, List.append_assoc]
  rw [List.getD, List.getD, List.getElem?_append_right (by omega), hsz, Nat.add_sub_cancel_left, List.getElem?_append_left (by simpa using hi), List.getElem?_map, List.getElem?_eq_getElem hi]
  simp
  omega
theorem mod_pow_succ (n : Int) (h : 0 ≤ n) (k : Nat) : n % 2 ^ (8 * (k + 1)) = n % 2 ^ (8 * k) + (n / 2 ^ (8 * k)) % 256 * 2 ^ (8 * k) := by
  obtain ⟨m, rfl⟩ := Int.eq_ofNat_of_zero_le h
  have := Nat.mod_mul (x := m) (a := 2 ^ (8 * k)) (b := 256)
  have h3 : ((2 : Int) ^ (8 * k)) = ((2 ^ (8 * k) : Nat) : Int) := (Int.natCast_pow 2 (8 * k)).symm
  have h2 : (2 : Int) ^ (8 * (k + 1)) = ((2 ^ (8 * k) * 256 : Nat) : Int) := by
    rw [show 8 * (k + 1) = 8 * k + 8 by omega, Int.pow_add, Int.natCast_mul, h3]
    rfl
  rw [h2, h3, ← Int.natCast_emod, this, ← Int.natCast_emod, ← Int.natCast_ediv, show (256 : Int) = ((256 : Nat) : Int) from rfl, ← Int.natCast_emod, ← Int.natCast_mul, ← Int.natCast_add, Nat.mul_comm (m / 2 ^ (8 * k) % 256)]
theorem num_back (a b : ByteArray) (n : Int) (h : 0 ≤ n) (k : Nat) : ∀ j, j ≤ k → num (a ++ strOfNums (le n k) ++ b) a.size j = n % 2 ^ (8 * j)
  | 0, _ => by simp [num]
  | j + 1, hj => by
    rw [num, num_back a b n h k j (by omega), mod_pow_succ n h j]
    congr 2
    rw [byteAt_mid a b (le n k) (by
      intro x hx
      simp only [le, List.mem_map] at hx
      obtain ⟨i, _, rfl⟩ := hx
      omega) j (by rw [le_length]; omega)]
    simp [le, List.getD, show j < k by omega]
/-- Numbers, each in its width: have all room; their bytes. -/
def good (fs : List (Int × Nat)) : Bool := fs.all fun f => fits f.1 f.2
def lay (fs : List (Int × Nat)) : List Int := fs.flatMap fun f => le f.1 f.2
/-- What a writer holds behind them. -/
def putsXs (xs : List Int) : List (Int × Nat) → List Int
  | [] => xs
  | f :: r => putsXs (putXs xs f.1 f.2) r
def putsBad (bad : Bool) : List (Int × Nat) → Bool
  | [] => bad
  | f :: r => putsBad (putBad bad f.1 f.2) r
theorem putsBad_true : ∀ fs, putsBad true fs = true
  | [] => rfl
  | f :: r => by rw [putsBad, putBad]; split <;> exact putsBad_true r
theorem putsBad_eq : ∀ fs, putsBad false fs = !good fs
  | [] => rfl
  | f :: r => by
    rw [putsBad, putBad]
    by_cases h : fits f.1 f.2 = true
    · rw [if_pos h, putsBad_eq r]; simp [good, h]
    · rw [if_neg h, putsBad_true]; simp [good, h]
theorem putsXs_good : ∀ (fs : List (Int × Nat)) (xs : List Int), good fs = true → putsXs xs fs = xs ++ lay fs
  | [], xs, _ => by simp [putsXs, lay]
  | f :: r, xs, h => by
    have h2 : fits f.1 f.2 = true ∧ good r = true := by simpa [good] using h
    rw [putsXs, putXs, if_pos h2.1, putsXs_good r _ h2.2]
    simp [lay]
theorem putXs_length (xs : List Int) (n : Int) (k : Nat) : (putXs xs n k).length ≤ xs.length + k := by
  rw [putXs]; split <;> simp [le_length]
theorem lay_length : ∀ fs : List (Int × Nat), (lay fs).length = (fs.map Prod.snd).sum
  | [] => rfl
  | f :: r => by
    have h := lay_length r
    simp only [lay, List.flatMap_cons, List.length_append, le_length, List.map_cons, List.sum_cons] at h ⊢
    omega
/-- A writer at work: p is the block that holds what was handed in, w0 the world in which the call began. -/
structure At (w0 W : World) (p : Nat) (o : Obj) (g : Nat) (v : Value) (xs : List Int) (bad : Bool) : Prop where
  par : W.heap[p]? = some o
  wr : Wr W g v xs bad
  bel : Below w0.heap.size w0 W
  hpg : p ≠ g
  hpv : v.ownBlock ≠ some p
  hg : w0.heap.size ≤ g
  hv : ∀ k, v.ownBlock = some k → w0.heap.size ≤ k
theorem At.step {w0 W W' : World} {p : Nat} {o : Obj} {g : Nat} {v : Value} {xs xs' : List Int} {bad bad' : Bool} (h : At w0 W p o g v xs bad) (ht : WrTo g v W xs' bad' W') : ∃ v', At w0 W' p o g v' xs' bad' := by
  obtain ⟨v', h1, h2, h3⟩ := ht
  have hp : p < W.heap.size := blk_lt h.par
  have hs := h.bel.size
  refine ⟨v', h2.at_ h.par ?_, h1, h.bel.trans (h2.below h.bel.size ?_), h.hpg, ?_, h.hg, ?_⟩
  · rintro (e | e)
    · exact h.hpg e
    · exact h.hpv e.symm
  · rintro i hi (e | e)
    · have := h.hg; omega
    · have := h.hv i e.symm; omega
  · rcases h3 with e | ⟨b, e, hb⟩
    · rw [e]; exact h.hpv
    · rw [e]; intro e2; cases e2; omega
  · intro k hk
    rcases h3 with e | ⟨b, e, hb⟩
    · exact h.hv k (by rw [← e]; exact hk)
    · rw [e] at hk; cases hk; omega
theorem At.put {w0 W W' : World} {p : Nat} {o : Obj} {g : Nat} {v : Value} {xs : List Int} {bad : Bool} {n : Int} {k N : Nat} (h : At w0 W p o g v xs bad) (hl : xs.length ≤ N) (ht : WrTo g v W (putXs xs n k) (putBad bad n k) W') :
    ∃ v' xs' bad', At w0 W' p o g v' xs' bad' ∧ xs'.length ≤ N + k ∧ xs' = putXs xs n k ∧ bad' = putBad bad n k := by
  obtain ⟨v', h2⟩ := h.step ht
  exact ⟨v', _, _, h2, Nat.le_trans (putXs_length _ _ _) (by omega), rfl, rfl⟩
/-- Numbers and widths, side by side. -/
def sides (l : List Int) (ws : List Int) : List (Int × Nat) := (l.zip ws).map fun p => (p.1, p.2.toNat)
theorem putSpec_good (n w : Int) (h1 : 1 ≤ w) (h6 : w ≤ 6) : putSpec n w = if fits n w.toNat = true then (strOfNums (le n w.toNat), 0) else (⟨#[]⟩, 2) := by rw [putSpec, if_neg (by omega)]
def laidSpec (fs : List (Int × Nat)) : ByteArray × Bool := if good fs = true then (strOfNums (lay fs), true) else (⟨#[]⟩, false)
theorem good_append (a b : List (Int × Nat)) : good (a ++ b) = (good a && good b) := by simp [good]
theorem lay_append (a b : List (Int × Nat)) : lay (a ++ b) = lay a ++ lay b := by simp [lay]
theorem sides_take (l ws : List Int) (k : Nat) (h1 : k < l.length) (h2 : k < ws.length) : (sides l ws).take (k + 1) = (sides l ws).take k ++ [(l.getD k 0, (ws.getD k 0).toNat)] := by
  have hk : k < (sides l ws).length := by simp [sides]; omega
  rw [List.take_add_one, List.getElem?_eq_getElem hk]
  simp [sides, List.getD, List.getElem?_eq_getElem h1, List.getElem?_eq_getElem h2]
theorem good_take {fs : List (Int × Nat)} (k : Nat) (h : good fs = true) : good (fs.take k) = true := by
  simp only [good, List.all_eq_true] at h ⊢
  exact fun x hx => h x (List.mem_of_mem_take hx)
theorem lay_small (l ws : List Int) (k : Nat) (hk : k ≤ 1000) (hw : ∀ x ∈ ws, 1 ≤ x ∧ x ≤ 6) : (lay ((sides l ws).take k)).length ≤ 100000000 := by
  have h : ∀ fs : List (Int × Nat), (∀ f ∈ fs, f.2 ≤ 6) → (lay fs).length ≤ 6 * fs.length := by
    intro fs
    induction fs with
    | nil => intro _; simp [lay]
    | cons f r ih =>
      intro hf
      have h1 := hf f (by simp)
      have h2 := ih (fun g hg => hf g (by simp [hg]))
      have h3 : lay (f :: r) = le f.1 f.2 ++ lay r := rfl
      rw [h3, List.length_append, le_length, List.length_cons]
      omega
  have h2 := h ((sides l ws).take k) (fun f hf => by
    have := List.mem_of_mem_take hf
    simp only [sides, List.mem_map] at this
    obtain ⟨p, hp, rfl⟩ := this
    have := hw p.2 (List.of_mem_zip hp).2
    show p.2.toNat ≤ 6
    omega)
  have h3 : ((sides l ws).take k).length ≤ k := List.length_take_le _ _
  omega
theorem laid_any (v1 v2 : Value) (l ws : List Int) (w : World) (h1 : Row w 3 1 v1 l.length (ints l)) (h2 : Row w 3 1 v2 ws.length (ints ws)) (hlen : l.length = ws.length) (hl : l.length ≤ 1000)
    (hr : ∀ x ∈ l, -9223372036854775808 ≤ x ∧ x ≤ 9223372036854775807) (hw : ∀ x ∈ ws, 1 ≤ x ∧ x ≤ 6) :
    Calls Try.prog 46 #[v1, v2] w fun e w' => e = .returned (.tuple #[.string (laidSpec (sides l ws)).1, .bool (laidSpec (sides l ws)).2]) ∧ Below w.heap.size w w' := by
  obtain ⟨a1, c1, rfl, hc1⟩ := h1.form
  obtain ⟨a2, c2, rfl, hc2⟩ := h2.form
  have R1 := Lib.hid h1
  have R2 := Lib.hid h2
  have HL := Lib.hid hlen
  have HW := Lib.hid hw
  clear h1 h2 hlen
  go_enter Try.func46, Try.ntmps46
  go_wp2
  go_loopg [6, 7] l.length (fun j s i wr => ∃ k : Nat, j + k = l.length ∧ i = .int .i64 k ∧ s = .string (strOfNums (lay ((sides l ws).take k))) ∧ Aside (good ((sides l ws).take k) = true ∧ Below w.heap.size w wr))
  case atStart => exact ⟨0, rfl, rfl, rfl, rfl, Below.refl _ _⟩
  case round =>
    obtain ⟨k, hk, rfl, rfl, hA⟩ := hrel
    by_cases hlt : k < l.length
    · have hk2 : k < ws.length := by rw [← HL.out]; exact hlt
      obtain ⟨g1, q1, e1, _, hg1⟩ := R1.out.form_pos (by omega)
      obtain ⟨g2, q2, e2, _, hg2⟩ := R2.out.form_pos (by omega)
      simp only [Value.slice.injEq, true_and] at e1 e2
      obtain ⟨rfl, rfl⟩ := e1
      obtain ⟨rfl, rfl⟩ := e2
      have hcell1 : wr.cell? ⟨g1, k, none⟩ = some (.int .i64 (l.getD k 0)) := by
        rw [hA.out.2.cell (p := ⟨g1, k, none⟩) hg1]
        exact R1.out.cells k _ (by simp [ints, List.getD, List.getElem?_eq_getElem hlt])
      have hcell2 : wr.cell? ⟨g2, k, none⟩ = some (.int .i64 (ws.getD k 0)) := by
        rw [hA.out.2.cell (p := ⟨g2, k, none⟩) hg2]
        exact R2.out.cells k _ (by simp [ints, List.getD, List.getElem?_eq_getElem hk2])
      have hx := hr (l.getD k 0) (by simp [List.getD, List.getElem?_eq_getElem hlt])
      have hy := hw (ws.getD k 0) (by simp [List.getD, List.getElem?_eq_getElem hk2])
      have hst := sides_take l ws k hlt hk2
      obtain ⟨x, hxe⟩ : ∃ x, x = l.getD k 0 := ⟨_, rfl⟩
      obtain ⟨y, hye⟩ : ∃ y, y = ws.getD k 0 := ⟨_, rfl⟩
      rw [← hxe] at hcell1 hx hst
      rw [← hye] at hcell2 hy hst
      have HST := Lib.hid hst
      have b1 : (0 : Int) ≤ (k : Int) := by omega
      have b2 : (k : Int) < (l.length : Int) := by omega
      have b3 : (k : Int) < (ws.length : Int) := by omega
      have l1 := Nat.lt_of_lt_of_le hg1 hA.out.2.size
      have l2 := Nat.lt_of_lt_of_le hg2 hA.out.2.size
      clear hst hxe hye hr hw
      by_cases hf : fits x y.toNat = true
      · have hp : putSpec x y = (strOfNums (le x y.toNat), 0) := by rw [putSpec_good _ _ hy.1 hy.2, if_pos hf]
        have HP := Lib.hid hp
        have HF := Lib.hid hf
        clear hp hf
        go_wp2
        go_region_held3 (fun w' => w'.cell? ⟨g1, k, none⟩ = some (.int .i64 x) ∧ w'.cell? ⟨g2, k, none⟩ = some (.int .i64 y)) (first | go_keep | (refine ⟨?_, ?_⟩ <;> (rw [hbc.cell (by simpa using ‹_›)]; assumption)))
          ((go_at_call 49; refine (refPut_any x y hx.2 _).mono ?_; rw [HP.out]; rintro e w1 ⟨rfl, hbc⟩))
        have HB := Lib.hid (show Below w.heap.size w w1 from hA.out.2.drew.trans (hbc.mono hA.out.2.size))
        have hcat : strOfNums (lay ((sides l ws).take k)) ++ strOfNums (le x y.toNat) = strOfNums (lay ((sides l ws).take (k + 1))) := by rw [HST.out, lay_append, strOfNums_append]; simp [lay]
        have hgd : good ((sides l ws).take (k + 1)) = true := by rw [HST.out, good_append, hA.out.1]; simp [good, HF.out]
        have hsz1 : (strOfNums (lay ((sides l ws).take k))).size ≤ 100000000 := by rw [strOfNums_size]; exact lay_small _ _ _ (by omega) HW.out
        have hsz2 : (strOfNums (le x y.toNat)).size ≤ 6 := by rw [strOfNums_size, le_length]; omega
        have HC := Lib.hid hcat
        have HG := Lib.hid hgd
        clear hcat hgd hbc
        go_wp2
        go_roundg (gk - 1)
        case measure => omega
        case rel => exact ⟨k + 1, by omega, by go_num, by rw [HC.out], HG.out, HB.out⟩
      · have hp : putSpec x y = (⟨#[]⟩, 2) := by rw [putSpec_good _ _ hy.1 hy.2, if_neg hf]
        have hs : laidSpec (sides l ws) = (⟨#[]⟩, false) := by
          rw [laidSpec, if_neg]
          intro hgd
          refine hf ?_
          have := good_take (k + 1) hgd
          rw [HST.out, good_append] at this
          simpa [good] using (Bool.and_eq_true_iff.1 this).2
        have HP := Lib.hid hp
        have HS := Lib.hid hs
        clear hp hf hs
        go_wp2
        go_region_held3 (fun w' => w'.cell? ⟨g1, k, none⟩ = some (.int .i64 x) ∧ w'.cell? ⟨g2, k, none⟩ = some (.int .i64 y)) (first | go_keep | (refine ⟨?_, ?_⟩ <;> (rw [hbc.cell (by simpa using ‹_›)]; assumption)))
          ((go_at_call 49; refine (refPut_any x y hx.2 _).mono ?_; rw [HP.out]; rintro e w1 ⟨rfl, hbc⟩))
        have HB := Lib.hid (show Below w.heap.size w w1 from hA.out.2.drew.trans (hbc.mono hA.out.2.size))
        clear hbc
        go_wp2
        go_ret2
        rw [HS.out]
        exact ⟨rfl, HB.out⟩
    · obtain rfl : gk = 0 := by omega
      have hkl : (sides l ws).take k = sides l ws := List.take_of_length_le (by simp [sides]; have := HL.out; omega)
      have hs : laidSpec (sides l ws) = (strOfNums (lay (sides l ws)), true) := by rw [laidSpec, if_pos (by rw [← hkl]; exact hA.out.1)]
      rw [hkl]
      have HS := Lib.hid hs
      clear hs hkl
      go_wp2
      go_ret2
      rw [HS.out]
      exact ⟨rfl, hA.out.2⟩
end Go.Proofs.Ytdamlbkibhmepaa.B
namespace Go.Proofs.Ytdamlbkibhmepaa.B
open Go.RowKit
set_option linter.unusedVariables false
theorem strCells_eq (s : ByteArray) : Lib.strCells s = nums (bytesOf s) := by rw [nums_bytesOf]; rfl
/-- A writer that begins with one byte. -/
theorem At.one (w : World) (o : Obj) (n : Int) : At w (((w.alloc o).alloc (.cells #[.int .u8 (n)] 5)).alloc (.cells #[.slice (some ⟨w.heap.size + 1, 0, none⟩) 1 1, .bool false] 66)) w.heap.size o (w.heap.size + 1 + 1) (.slice (some ⟨w.heap.size + 1, 0, none⟩) 1 1) [n] false := by
  refine ⟨get_below (get_below (get_top rfl)), ⟨get_top (by simp), Row.lit (get_below (get_top (by simp))) 1 rfl (by decide), by simp [Value.ownBlock]⟩, (((Below.refl _ w).alloc (Nat.le_refl _) _).alloc (by simp) _).alloc (by simp; omega) _, by omega, by simp [Value.ownBlock], by omega, by intro k hk; simp [Value.ownBlock] at hk; omega⟩
def entryFs (a1 a2 : Int) : List (Int × Nat) := [(a1, 4), (a2, 4)]
/-- An entry's bytes. -/
def entryXs (s : ByteArray) (a1 a2 : Int) : List Int := [(s.size : Int)] ++ bytesOf s ++ List.replicate (19 - s.size) 0 ++ lay (entryFs a1 a2)
def entrySpec (s : ByteArray) (a1 a2 : Int) : ByteArray × Int :=
  if 19 < s.size then (⟨#[]⟩, 4) else if s.size = 0 ∧ (a1 ≠ 0 ∨ a2 ≠ 0) then (⟨#[]⟩, 5) else if good (entryFs a1 a2) = true then (strOfNums (entryXs s a1 a2), 0) else (⟨#[]⟩, 2)
theorem empty_of_size {s : ByteArray} (h : s.size = 0) : s = ⟨#[]⟩ := by
  apply ByteArray.ext
  exact Array.eq_empty_of_size_eq_zero h
set_option maxHeartbeats 1600000 in
theorem Entry_refused (s : ByteArray) (a1 a2 : Int) (h : 19 < s.size ∨ (s.size = 0 ∧ (a1 ≠ 0 ∨ a2 ≠ 0))) (w : World) :
    Calls Try.prog 27 #[.agg #[.string s, .int .i64 a1, .int .i64 a2]] w fun e w' => e = .returned (.tuple #[.string (entrySpec s a1 a2).1, .int .i64 (entrySpec s a1 a2).2]) ∧ Below w.heap.size w w' := by
  have hu := Try.underlying37
  by_cases h19 : 19 < s.size
  · have hs : entrySpec s a1 a2 = (⟨#[]⟩, 4) := by rw [entrySpec, if_pos h19]
    have HS := Lib.hid hs
    clear hs h
    go_enter Try.func27, Try.ntmps27
    go_wp2
    go_ret2
    rw [HS.out]
    exact ⟨rfl, (Below.refl _ w).alloc (Nat.le_refl _) _⟩
  · obtain ⟨h0, h12⟩ := h.resolve_left h19
    have hs : entrySpec s a1 a2 = (⟨#[]⟩, 5) := by rw [entrySpec, if_neg h19, if_pos ⟨h0, h12⟩]
    obtain rfl := empty_of_size h0
    have HS := Lib.hid hs
    clear hs h h0 h19
    by_cases h1 : a1 = 0
    · have h2 : (a2 != 0) = true := by
        rcases h12 with h | h
        · exact absurd h1 h
        · simpa using h
      subst h1
      clear h12
      go_enter Try.func27, Try.ntmps27
      go_wp2
      go_ret2
      rw [HS.out]
      exact ⟨rfl, (Below.refl _ w).alloc (Nat.le_refl _) _⟩
    · have h2 : (a1 != 0) = true := by simpa using h1
      clear h12 h1
      go_enter Try.func27, Try.ntmps27
      go_wp2
      go_ret2
      rw [HS.out]
      exact ⟨rfl, (Below.refl _ w).alloc (Nat.le_refl _) _⟩
set_option maxHeartbeats 1600000 in
theorem Entry_some (s : ByteArray) (a1 a2 : Int) (h19 : ¬ 19 < s.size) (h0 : ¬ s.size = 0) (m1 : -9223372036854775808 ≤ a1) (n1 : a1 ≤ 9223372036854775807) (m2 : -9223372036854775808 ≤ a2) (n2 : a2 ≤ 9223372036854775807) (w : World) :
    Calls Try.prog 27 #[.agg #[.string s, .int .i64 a1, .int .i64 a2]] w fun e w' => e = .returned (.tuple #[.string (entrySpec s a1 a2).1, .int .i64 (entrySpec s a1 a2).2]) ∧ Below w.heap.size w w' := by
  have hu := Try.underlying37
  obtain ⟨i0, hi, hz0, hz1, hz2⟩ := info_parts infoByte
  have HI := Lib.hid hi
  have HZ0 := Lib.hid hz0
  have HZ1 := Lib.hid hz1
  have HZ2 := Lib.hid hz2
  clear hi hz0 hz1 hz2
  have he : ¬ s.toList = [] := by
    intro h
    rw [ByteArray.toList_eq] at h
    exact h0 (by rw [← bytesOf_length, bytesOf, h]; rfl)
  have hla := At.one w (.cells #[.string s, .int .i64 a1, .int .i64 a2] 37) (s.size : Int)
  have HA := Lib.hid hla
  have hcl := blk_cell hla.wr.blk 0
  have hfl := blk_frozen hla.wr.blk 0
  have hgl := hla.wr.lt
  have hl20 : 1 + s.size ≤ 20 := by omega
  clear hla
  go_enter Try.func27, Try.ntmps27
  go_wp2_with (at_builtin; go_must (refine wpList_append_row _ (by rfl) _ _ _ _ (by rfl) 5 i0 (.int .u8 0) 1 1 Try.underlying44 HI.out HZ0.out HZ1.out HZ2.out rfl (by omega) _ _ _ (by rfl) HA.out.wr.own _ (by rfl) s.size _ (Feeds.str Try.underlying9 s) (by unfold maxLen; simp; omega) (by simp; omega) (w.heap.size + 1 + 1 + 1) (by simp) ?_); intro ao2 cap2 u5 hown1 hgrow hat; have hcz := (hgrow.cell_far ⟨w.heap.size + 1 + 1, 0, none⟩ hgl HA.out.wr.ne).trans hcl; have hfz := (hgrow.frozen_far ⟨w.heap.size + 1 + 1, 0, none⟩ hgl HA.out.wr.ne).trans hfl)
  have hst := step_to (ys := bytesOf s) HA.out.wr (Below.refl _ _) (bytesOf_length s) (by rw [strCells_eq] at hown1; exact hown1) hgrow (by simpa using hat)
  obtain ⟨v6, h6⟩ := HA.out.step hst
  have H6 := Lib.hid h6
  clear h6 hst hgrow hown1 hat hcz hfz hcl hfl
  go_loopg [34] (19 - s.size) (fun j p wr => ∃ k v, j + k = 19 - s.size ∧ At w wr w.heap.size (.cells #[.string s, .int .i64 a1, .int .i64 a2] 37) (w.heap.size + 1 + 1) v ([(s.size : Int)] ++ bytesOf s ++ List.replicate k 0) false)
  case atStart => exact ⟨0, v6, rfl, by rw [show List.replicate 0 (0 : Int) = [] from rfl, List.append_nil]; exact H6.out⟩
  case round =>
    obtain ⟨k, v', hk, hW⟩ := hrel
    obtain ⟨ys, hys⟩ : ∃ ys, ys = [(s.size : Int)] ++ bytesOf s ++ List.replicate k (0 : Int) := ⟨_, rfl⟩
    rw [← hys] at hW
    have hlen : ys.length = 1 + s.size + k := by rw [hys]; simp [bytesOf_length]; omega
    obtain ⟨ao, cap, rfl, hcap⟩ := hW.wr.own.form
    have hc := blk_cell hW.wr.blk 0
    have hf := blk_frozen hW.wr.blk 0
    have hl := hW.wr.lt
    have HW := Lib.hid hW
    have HL := Lib.hid hlen
    have HY := Lib.hid hys
    by_cases hlt : s.size + k < 19
    · have ht : (ys.length : Int) < 20 := by rw [hlen]; omega
      have hlq : ys.length ≤ 2000000 := by rw [hlen]; omega
      clear hW hlen hys
      go_wp2_with (at_builtin; go_must (refine wpList_append_row _ (by rfl) _ _ _ _ (by rfl) 5 i0 (.int .u8 0) 1 1 Try.underlying44 HI.out HZ0.out HZ1.out HZ2.out rfl (by omega) _ _ _ (by rfl) (HW.out.wr.own.alloc _) _ (by rfl) 1 [.int .u8 0] (Feeds.slice Try.underlying44 ⟨wr.heap.size, 0, none⟩ 1 1 _ rfl (by simp [Value.oneCell']) (World.news_of_block (cs := #[.int .u8 0]) (t := 5) (fr := (0, 0)) (heap_alloc_new wr _))) (by unfold maxLen; omega) (by omega) (wr.heap.size + 1) (by simp) ?_); intro ao2 cap2 w1 hown1 hgrow hat; have hcz := (hgrow.cell_far ⟨w.heap.size + 1 + 1, 0, none⟩ (by simp; omega) HW.out.wr.ne).trans ((World.cell?_of_block (w := wr) (Below.heap_alloc wr _ _ hl)).trans hc); have hfz := (hgrow.frozen_far ⟨w.heap.size + 1 + 1, 0, none⟩ (by simp; omega) HW.out.wr.ne).trans ((World.frozen?_of_block (w := wr) (Below.heap_alloc wr _ _ hl)).trans hf); have HS := Lib.hid (step_to (ys := [0]) (m := 1) HW.out.wr ((Below.refl _ wr).alloc (Nat.le_refl _) _) rfl (by simpa [nums] using hown1) hgrow (by simpa using hat)); clear hgrow hown1 hat)
      have hyk : ys ++ [0] = [(s.size : Int)] ++ bytesOf s ++ List.replicate (k + 1) 0 := by rw [HY.out, List.append_assoc _ (List.replicate k (0 : Int)), List.replicate_succ']
      obtain ⟨v7, h7⟩ := HW.out.step HS.out
      rw [hyk] at h7
      have H7 := Lib.hid h7
      clear h7 HS hyk
      go_roundg (gk - 1)
      case measure => omega
      case rel => exact ⟨k + 1, v7, by omega, H7.out⟩
    · have ht : ¬ (ys.length : Int) < 20 := by rw [hlen]; omega
      have hlq : ys.length ≤ 20 := by rw [hlen]; omega
      have hkw : k = 19 - s.size := by omega
      have hyy : ys = [(s.size : Int)] ++ bytesOf s ++ List.replicate (19 - s.size) 0 := by rw [hys, hkw]
      have HYY := Lib.hid hyy
      have H0 := HW
      have L0 := Lib.hid hlq
      have c0 := blk_cell HW.out.par 1
      clear hW hlen hys hkw hyy hlq
      go_wp2_with fail
      refine (put_any _ _ _ _ a1 4 _ H0.out.wr (Nat.le_trans L0.out (by omega)) (by omega) (by omega) (by omega) (by omega)).mono ?_
      rintro e u1 ⟨rfl, t1⟩
      obtain ⟨v1, x1, b1, h1, l1, ex1, eb1⟩ := H0.out.put L0.out t1
      have H1 := Lib.hid h1
      have L1 := Lib.hid l1
      have E1 := Lib.hid ex1
      have F1 := Lib.hid eb1
      have c1 := blk_cell h1.par 2
      clear t1 h1 l1 ex1 eb1
      go_wp2_with fail
      refine (put_any _ _ _ _ a2 4 _ H1.out.wr (Nat.le_trans L1.out (by omega)) (by omega) (by omega) (by omega) (by omega)).mono ?_
      rintro e u2 ⟨rfl, t2⟩
      obtain ⟨v2, x2, b2, h2, l2, ex2, eb2⟩ := H1.out.put L1.out t2
      have H2 := Lib.hid h2
      have L2 := Lib.hid l2
      have E2 := Lib.hid ex2
      have F2 := Lib.hid eb2
      clear t2 h2 l2 ex2 eb2 c1
      have ex : x2 = putsXs ys (entryFs a1 a2) := by rw [E2.out, E1.out]; rfl
      have eb : b2 = !good (entryFs a1 a2) := by rw [← putsBad_eq, F2.out, F1.out]; rfl
      by_cases hgood : good (entryFs a1 a2) = true
      · have hs : entrySpec s a1 a2 = (strOfNums (entryXs s a1 a2), 0) := by rw [entrySpec, if_neg (by omega), if_neg (by exact fun h => h0 h.1), if_pos hgood]
        have hx : x2 = entryXs s a1 a2 := by rw [ex, putsXs_good _ _ hgood, HYY.out]; rfl
        rw [hgood] at eb
        obtain rfl : b2 = false := eb
        have HS := Lib.hid hs
        have HX := Lib.hid hx
        obtain ⟨ao3, cap3, rfl, hcap3⟩ := H2.out.wr.own.form
        have c1 := blk_cell H2.out.wr.blk 0
        have c2 := blk_cell H2.out.wr.blk 1
        have hcs := row_string (P := Try.prog) Try.underlying44 Try.underlying5 Try.underlying9 H2.out.wr.own
        clear hs hx ex hgood
        go_wp2
        go_ret2
        rw [HS.out, HX.out]
        exact ⟨rfl, H2.out.bel⟩
      · have hs : entrySpec s a1 a2 = (⟨#[]⟩, 2) := by rw [entrySpec, if_neg (by omega), if_neg (by exact fun h => h0 h.1), if_neg hgood]
        have hgf : good (entryFs a1 a2) = false := by simpa using hgood
        rw [hgf] at eb
        obtain rfl : b2 = true := eb
        have HS := Lib.hid hs
        have c2 := blk_cell H2.out.wr.blk 1
        clear hs ex hgood hgf
        go_wp2
        go_ret2
        rw [HS.out]
        exact ⟨rfl, H2.out.bel⟩
set_option maxHeartbeats 1600000 in
theorem Entry_none  (w : World) :
    Calls Try.prog 27 #[.agg #[.string (⟨#[]⟩ : ByteArray), .int .i64 0, .int .i64 0]] w fun e w' => e = .returned (.tuple #[.string (entrySpec (⟨#[]⟩ : ByteArray) 0 0).1, .int .i64 (entrySpec (⟨#[]⟩ : ByteArray) 0 0).2]) ∧ Below w.heap.size w w' := by
  have hu := Try.underlying37
  obtain ⟨i0, hi, hz0, hz1, hz2⟩ := info_parts infoByte
  have HI := Lib.hid hi
  have HZ0 := Lib.hid hz0
  have HZ1 := Lib.hid hz1
  have HZ2 := Lib.hid hz2
  clear hi hz0 hz1 hz2
  have h00 : (⟨#[]⟩ : ByteArray).size = 0 := rfl
  have hla := At.one w (.cells #[.string (⟨#[]⟩ : ByteArray), .int .i64 0, .int .i64 0] 37) ((⟨#[]⟩ : ByteArray).size : Int)
  have HA := Lib.hid hla
  have hcl := blk_cell hla.wr.blk 0
  have hfl := blk_frozen hla.wr.blk 0
  have hgl := hla.wr.lt
  have hl20 : 1 + (⟨#[]⟩ : ByteArray).size ≤ 20 := by omega
  clear hla
  go_enter Try.func27, Try.ntmps27
  go_wp2_with (at_builtin; go_must (refine wpList_append_row _ (by rfl) _ _ _ _ (by rfl) 5 i0 (.int .u8 0) 1 1 Try.underlying44 HI.out HZ0.out HZ1.out HZ2.out rfl (by omega) _ _ _ (by rfl) HA.out.wr.own _ (by rfl) (⟨#[]⟩ : ByteArray).size _ (Feeds.str Try.underlying9 (⟨#[]⟩ : ByteArray)) (by unfold maxLen; simp; omega) (by simp; omega) (w.heap.size + 1 + 1 + 1) (by simp) ?_); intro ao2 cap2 u5 hown1 hgrow hat; have hcz := (hgrow.cell_far ⟨w.heap.size + 1 + 1, 0, none⟩ hgl HA.out.wr.ne).trans hcl; have hfz := (hgrow.frozen_far ⟨w.heap.size + 1 + 1, 0, none⟩ hgl HA.out.wr.ne).trans hfl)
  have hst := step_to (ys := bytesOf (⟨#[]⟩ : ByteArray)) HA.out.wr (Below.refl _ _) (bytesOf_length (⟨#[]⟩ : ByteArray)) (by rw [strCells_eq] at hown1; exact hown1) hgrow (by simpa using hat)
  obtain ⟨v6, h6⟩ := HA.out.step hst
  have H6 := Lib.hid h6
  clear h6 hst hgrow hown1 hat hcz hfz hcl hfl
  go_loopg [34] (19 - (⟨#[]⟩ : ByteArray).size) (fun j p wr => ∃ k v, j + k = 19 - (⟨#[]⟩ : ByteArray).size ∧ At w wr w.heap.size (.cells #[.string (⟨#[]⟩ : ByteArray), .int .i64 0, .int .i64 0] 37) (w.heap.size + 1 + 1) v ([((⟨#[]⟩ : ByteArray).size : Int)] ++ bytesOf (⟨#[]⟩ : ByteArray) ++ List.replicate k 0) false)
  case atStart => exact ⟨0, v6, rfl, by rw [show List.replicate 0 (0 : Int) = [] from rfl, List.append_nil]; exact H6.out⟩
  case round =>
    obtain ⟨k, v', hk, hW⟩ := hrel
    obtain ⟨ys, hys⟩ : ∃ ys, ys = [((⟨#[]⟩ : ByteArray).size : Int)] ++ bytesOf (⟨#[]⟩ : ByteArray) ++ List.replicate k (0 : Int) := ⟨_, rfl⟩
    rw [← hys] at hW
    have hlen : ys.length = 1 + (⟨#[]⟩ : ByteArray).size + k := by rw [hys]; simp [bytesOf_length]; omega
    obtain ⟨ao, cap, rfl, hcap⟩ := hW.wr.own.form
    have hc := blk_cell hW.wr.blk 0
    have hf := blk_frozen hW.wr.blk 0
    have hl := hW.wr.lt
    have HW := Lib.hid hW
    have HL := Lib.hid hlen
    have HY := Lib.hid hys
    by_cases hlt : (⟨#[]⟩ : ByteArray).size + k < 19
    · have ht : (ys.length : Int) < 20 := by rw [hlen]; omega
      have hlq : ys.length ≤ 2000000 := by rw [hlen]; omega
      clear hW hlen hys
      go_wp2_with (at_builtin; go_must (refine wpList_append_row _ (by rfl) _ _ _ _ (by rfl) 5 i0 (.int .u8 0) 1 1 Try.underlying44 HI.out HZ0.out HZ1.out HZ2.out rfl (by omega) _ _ _ (by rfl) (HW.out.wr.own.alloc _) _ (by rfl) 1 [.int .u8 0] (Feeds.slice Try.underlying44 ⟨wr.heap.size, 0, none⟩ 1 1 _ rfl (by simp [Value.oneCell']) (World.news_of_block (cs := #[.int .u8 0]) (t := 5) (fr := (0, 0)) (heap_alloc_new wr _))) (by unfold maxLen; omega) (by omega) (wr.heap.size + 1) (by simp) ?_); intro ao2 cap2 w1 hown1 hgrow hat; have hcz := (hgrow.cell_far ⟨w.heap.size + 1 + 1, 0, none⟩ (by simp; omega) HW.out.wr.ne).trans ((World.cell?_of_block (w := wr) (Below.heap_alloc wr _ _ hl)).trans hc); have hfz := (hgrow.frozen_far ⟨w.heap.size + 1 + 1, 0, none⟩ (by simp; omega) HW.out.wr.ne).trans ((World.frozen?_of_block (w := wr) (Below.heap_alloc wr _ _ hl)).trans hf); have HS := Lib.hid (step_to (ys := [0]) (m := 1) HW.out.wr ((Below.refl _ wr).alloc (Nat.le_refl _) _) rfl (by simpa [nums] using hown1) hgrow (by simpa using hat)); clear hgrow hown1 hat)
      have hyk : ys ++ [0] = [((⟨#[]⟩ : ByteArray).size : Int)] ++ bytesOf (⟨#[]⟩ : ByteArray) ++ List.replicate (k + 1) 0 := by rw [HY.out, List.append_assoc _ (List.replicate k (0 : Int)), List.replicate_succ']
      obtain ⟨v7, h7⟩ := HW.out.step HS.out
      rw [hyk] at h7
      have H7 := Lib.hid h7
      clear h7 HS hyk
      go_roundg (gk - 1)
      case measure => omega
      case rel => exact ⟨k + 1, v7, by omega, H7.out⟩
    · have ht : ¬ (ys.length : Int) < 20 := by rw [hlen]; omega
      have hlq : ys.length ≤ 20 := by rw [hlen]; omega
      have hkw : k = 19 - (⟨#[]⟩ : ByteArray).size := by omega
      have hyy : ys = [((⟨#[]⟩ : ByteArray).size : Int)] ++ bytesOf (⟨#[]⟩ : ByteArray) ++ List.replicate (19 - (⟨#[]⟩ : ByteArray).size) 0 := by rw [hys, hkw]
      have HYY := Lib.hid hyy
      have H0 := HW
      have L0 := Lib.hid hlq
      have c0 := blk_cell HW.out.par 1
      clear hW hlen hys hkw hyy hlq
      go_wp2_with fail
      refine (put_any _ _ _ _ 0 4 _ H0.out.wr (Nat.le_trans L0.out (by omega)) (by omega) (by omega) (by omega) (by omega)).mono ?_
      rintro e u1 ⟨rfl, t1⟩
      obtain ⟨v1, x1, b1, h1, l1, ex1, eb1⟩ := H0.out.put L0.out t1
      have H1 := Lib.hid h1
      have L1 := Lib.hid l1
      have E1 := Lib.hid ex1
      have F1 := Lib.hid eb1
      have c1 := blk_cell h1.par 2
      clear t1 h1 l1 ex1 eb1
      go_wp2_with fail
      refine (put_any _ _ _ _ 0 4 _ H1.out.wr (Nat.le_trans L1.out (by omega)) (by omega) (by omega) (by omega) (by omega)).mono ?_
      rintro e u2 ⟨rfl, t2⟩
      obtain ⟨v2, x2, b2, h2, l2, ex2, eb2⟩ := H1.out.put L1.out t2
      have H2 := Lib.hid h2
      have L2 := Lib.hid l2
      have E2 := Lib.hid ex2
      have F2 := Lib.hid eb2
      clear t2 h2 l2 ex2 eb2 c1
      have ex : x2 = putsXs ys (entryFs 0 0) := by rw [E2.out, E1.out]; rfl
      have eb : b2 = !good (entryFs 0 0) := by rw [← putsBad_eq, F2.out, F1.out]; rfl
      by_cases hgood : good (entryFs 0 0) = true
      · have hs : entrySpec (⟨#[]⟩ : ByteArray) 0 0 = (strOfNums (entryXs (⟨#[]⟩ : ByteArray) 0 0), 0) := by rw [entrySpec, if_neg (by omega), if_neg (by simp), if_pos hgood]
        have hx : x2 = entryXs (⟨#[]⟩ : ByteArray) 0 0 := by rw [ex, putsXs_good _ _ hgood, HYY.out]; rfl
        rw [hgood] at eb
        obtain rfl : b2 = false := eb
        have HS := Lib.hid hs
        have HX := Lib.hid hx
        obtain ⟨ao3, cap3, rfl, hcap3⟩ := H2.out.wr.own.form
        have c1 := blk_cell H2.out.wr.blk 0
        have c2 := blk_cell H2.out.wr.blk 1
        have hcs := row_string (P := Try.prog) Try.underlying44 Try.underlying5 Try.underlying9 H2.out.wr.own
        clear hs hx ex hgood
        go_wp2
        go_ret2
        rw [HS.out, HX.out]
        exact ⟨rfl, H2.out.bel⟩
      · have hs : entrySpec (⟨#[]⟩ : ByteArray) 0 0 = (⟨#[]⟩, 2) := by rw [entrySpec, if_neg (by omega), if_neg (by simp), if_neg hgood]
        have hgf : good (entryFs 0 0) = false := by simpa using hgood
        rw [hgf] at eb
        obtain rfl : b2 = true := eb
        have HS := Lib.hid hs
        have c2 := blk_cell H2.out.wr.blk 1
        clear hs ex hgood hgf
        go_wp2
        go_ret2
        rw [HS.out]
        exact ⟨rfl, H2.out.bel⟩
theorem Entry_any (s : ByteArray) (a1 a2 : Int) (m1 : -9223372036854775808 ≤ a1) (n1 : a1 ≤ 9223372036854775807) (m2 : -9223372036854775808 ≤ a2) (n2 : a2 ≤ 9223372036854775807) (w : World) :
    Calls Try.prog 27 #[.agg #[.string s, .int .i64 a1, .int .i64 a2]] w fun e w' => e = .returned (.tuple #[.string (entrySpec s a1 a2).1, .int .i64 (entrySpec s a1 a2).2]) ∧ Below w.heap.size w w' := by
  by_cases h19 : 19 < s.size
  · exact Entry_refused s a1 a2 (.inl h19) w
  by_cases h0 : s.size = 0
  · by_cases h12 : a1 ≠ 0 ∨ a2 ≠ 0
    · exact Entry_refused s a1 a2 (.inr ⟨h0, h12⟩) w
    · obtain rfl := empty_of_size h0
      obtain rfl : a1 = 0 := by omega
      obtain rfl : a2 = 0 := by omega
      exact Entry_none w
  · exact Entry_some s a1 a2 h19 h0 m1 n1 m2 n2 w
set_option maxRecDepth 100000 in
theorem text_short (c : Nat) (s : ByteArray) (p : Nat) (n : Int) (w : World) (h : Cu w c s p) (hs : s.size ≤ 9223372036854775807) (hp : p ≤ s.size) (hw : (s.size : Int) - p < n) :
    Calls Try.prog 39 #[.pointer (some ⟨c, 0, none⟩), .int .i64 n] w fun e w' => e = .panicked [{ v := .iface 72 (.agg #[]), recovered := false }] ∧ ∃ n, w.drewN n = w' := by
  have hc0 := blk_cell h 0
  have hc1 := blk_cell h 1
  have hl := blk_lt h
  clear h
  go_enter Try.func39, Try.ntmps39
  go_wp2
  go_quiet (fail)
  go_wp2
  exact ⟨rfl, rfl, _, rfl⟩
set_option maxRecDepth 100000 in
theorem text_ok (c : Nat) (s : ByteArray) (p : Nat) (n : Int) (w : World) (h : Cu w c s p) (hs : s.size ≤ 9223372036854775807) (h0 : 0 ≤ n) (hw : (p : Int) + n ≤ s.size) :
    Calls Try.prog 39 #[.pointer (some ⟨c, 0, none⟩), .int .i64 n] w fun e w' => e = .returned (.string (s.extract p (p + n.toNat))) ∧ ∃ nd, (w.setCell ⟨c, 1, none⟩ (.int .i64 (p + n))).drewN nd = w' := by
  have hc0 := blk_cell h 0
  have hc1 := blk_cell h 1
  have hf1 := blk_frozen h 1
  have hl := blk_lt h
  have e1 : IntKind.i64.wrap ((p : Int) + n) = (p : Int) + n := IntWalk.i64_in _ (by omega)
  have e2 : (0 : Int) ≤ (p : Int) + n := by omega
  have e3 : (p : Int) + n ≤ (s.size : Int) := by omega
  have e4 : ((p : Int) + n).toNat = p + n.toNat := by omega
  have e5 : p + n.toNat ≤ s.size := by omega
  clear h
  go_enter Try.func39, Try.ntmps39
  go_wp2
  go_quiet (fail)
  go_wp2
  go_quiet (fail)
  go_wp2
  go_ret
  exact ⟨rfl, _, rfl⟩
theorem take_any (c : Nat) (s : ByteArray) (p : Nat) (width : Int) (w : World) (h : Cu w c s p) (hs : s.size ≤ 9223372036854775807) (hp : p ≤ s.size) (h0 : 0 ≤ width) (h6 : width ≤ 6) :
    Calls Try.prog 38 #[.pointer (some ⟨c, 0, none⟩), .int .i64 width] w fun e w' =>
      ((p : Int) + width ≤ s.size ∧ e = .returned (.int .i64 (num s p width.toNat)) ∧ ∃ n, (w.setCell ⟨c, 1, none⟩ (.int .i64 (p + width))).drewN n = w') ∨
      ((s.size : Int) - p < width ∧ e = .panicked [{ v := .iface 72 (.agg #[]), recovered := false }] ∧ ∃ n, w.drewN n = w') := by
  by_cases hw : (s.size : Int) - p < width
  · exact (take_short c s p width w h hs hp hw).mono fun e w' h => .inr ⟨hw, h⟩
  · exact (take_ok c s p width w h hs h0 h6 (by omega)).mono fun e w' h => .inl ⟨by omega, h⟩
theorem text_any (c : Nat) (s : ByteArray) (p : Nat) (n : Int) (w : World) (h : Cu w c s p) (hs : s.size ≤ 9223372036854775807) (hp : p ≤ s.size) (h0 : 0 ≤ n) :
    Calls Try.prog 39 #[.pointer (some ⟨c, 0, none⟩), .int .i64 n] w fun e w' =>
      ((p : Int) + n ≤ s.size ∧ e = .returned (.string (s.extract p (p + n.toNat))) ∧ ∃ nd, (w.setCell ⟨c, 1, none⟩ (.int .i64 (p + n))).drewN nd = w') ∨
      ((s.size : Int) - p < n ∧ e = .panicked [{ v := .iface 72 (.agg #[]), recovered := false }] ∧ ∃ n, w.drewN n = w') := by
  by_cases hw : (s.size : Int) - p < n
  · exact (text_short c s p n w h hs hp hw).mono fun e w' h => .inr ⟨hw, h⟩
  · exact (text_ok c s p n w h hs h0 (by omega)).mono fun e w' h => .inl ⟨by omega, h⟩
/-- A reader at work: its own boxes stand, the cursor behind them. -/
structure Rd (w0 : World) (os : List Obj) (s : ByteArray) (p : Nat) (W : World) : Prop where
  bel : Below w0.heap.size w0 W
  box : ∀ (i : Nat) (o : Obj), os[i]? = some o → W.heap[w0.heap.size + i]? = some o
  cu : Cu W (w0.heap.size + os.length) s p
theorem Rd.drew {w0 W : World} {os : List Obj} {s : ByteArray} {p : Nat} (h : Rd w0 os s p W) (n : Nat) : Rd w0 os s p (W.drewN n) := ⟨bdrewN h.bel n, fun i o hi => h.box i o hi, h.cu⟩
theorem Rd.step {w0 W : World} {os : List Obj} {s : ByteArray} {p : Nat} (h : Rd w0 os s p W) (k : Int) (q : Nat) (hq : (p : Int) + k = q) (n : Nat) : Rd w0 os s q ((W.setCell ⟨w0.heap.size + os.length, 1, none⟩ (.int .i64 (p + k))).drewN n) := by
  have hc := h.cu
  unfold Cu at hc
  refine ⟨bdrewN (h.bel.setCell (by simp) _) n, fun i o hi => ?_, ?_⟩
  · have hlt : i < os.length := (List.getElem?_eq_some_iff.mp hi).1
    rw [← h.box i o hi]
    exact Below.heap_setCell W _ _ _ (by simp; omega)
  · show (W.setCell _ _).heap[_]? = _
    rw [hq]
    exact (blk_set hc 1 _).trans (by simp)
theorem Rd.alloc {w0 W : World} {os : List Obj} {s : ByteArray} {p : Nat} (h : Rd w0 os s p W) (o : Obj) : Rd w0 os s p (W.alloc o) := ⟨h.bel.alloc h.bel.size _, fun i x hi => get_below (h.box i x hi), get_below h.cu⟩
/-- The deferred literal, where the reader gave up: the error is laid. -/
theorem EntryOf1_panicking (p : Addr) (x : Value) (older : List PanicEntry) (w : World) (hc : w.cell? p = some x) (hz : w.frozen? p = false) (hp : p.block < w.heap.size) :
    CallsD Try.prog 36 #[.pointer (some p)] (.panicking ({ v := .iface 72 (.agg #[]), recovered := false } :: older)) w fun e u' w' =>
      e = .returned (.tuple #[]) ∧ u' = .panicking ({ v := .iface 72 (.agg #[]), recovered := true } :: older) ∧ w' = (w.alloc (.cells #[] 72)).setCell p (.int .i64 3) := by
  refine callsD_of_wpS Try.func36 rfl fun c₀ cs hu => ?_
  apply wpS_seq
  apply wpS_region
  simp [wpOpsS, go_sem, recoverD, hu, Try.ntmps36, Exit.thenS]
  refine (gave_short _).mono ?_
  rintro e w1 ⟨rfl, rfl⟩
  have hc1 : (w.alloc (.cells #[] 72)).cell? p = some x := (World.cell?_of_block (w := w) (Below.heap_alloc w _ _ hp)).trans hc
  have hz1 : (w.alloc (.cells #[] 72)).frozen? p = false := (World.frozen?_of_block (w := w) (Below.heap_alloc w _ _ hp)).trans hz
  dsimp only
  refine wpS_cond (t := true) (by simp [Act.eval, Array.replicate]) ?_
  simp only [if_true]
  apply wpS_region
  simp [wpOpsS, go_sem, hc1, hz1, bodyPostS, results, Try.results36]
theorem EntryOf1_idle (p : Addr) (w : World) :
    CallsD Try.prog 36 #[.pointer (some p)] .returning w fun e u' w' => e = .returned (.tuple #[]) ∧ u' = .returning ∧ w' = w := by
  refine callsD_of_wpS Try.func36 rfl fun c₀ cs hu => ?_
  apply wpS_seq
  apply wpS_region
  simp [wpOpsS, go_sem, recoverD, hu, Try.ntmps36, Exit.thenS]
  refine (gave_nil _).mono ?_
  rintro e w1 ⟨rfl, rfl⟩
  dsimp only
  refine wpS_cond (t := false) (by simp [Act.eval, Array.replicate]) ?_
  simp only [Bool.false_eq_true, if_false]
  refine wpS_of_wp (wp_skip ?_)
  cases c₀
  simp_all [bodyPostS, results, Try.results36]
theorem Rd.made2 (w : World) (o1 o2 : Obj) (s : ByteArray) : Rd w [o1, o2] s 0 (((w.alloc o1).alloc o2).alloc (.cells #[.string s, .int .i64 0] 59)) := by
  refine ⟨(((Below.refl _ w).alloc (Nat.le_refl _) _).alloc (by simp) _).alloc (by simp; omega) _, fun i o hi => ?_, get_top (by simp)⟩
  match i, hi with
  | 0, hi => obtain rfl : o1 = o := by simpa using hi
             exact get_below (get_below (get_top rfl))
  | 1, hi => obtain rfl : o2 = o := by simpa using hi
             exact get_below (get_top (by simp))
  | n + 2, hi => simp at hi
/-- Are all bytes from a place on 0? -/
def restSpec (s : ByteArray) (p : Nat) : Bool := (bytesOf (s.extract p s.size)).all (· == 0)
set_option maxHeartbeats 1600000 in
theorem rest_any (c : Nat) (s : ByteArray) (p : Nat) (w : World) (h : Cu w c s p) (hs : s.size ≤ 9223372036854775807) (hp : p ≤ s.size) :
    Calls Try.prog 40 #[.pointer (some ⟨c, 0, none⟩)] w fun e w' => e = .returned (.bool (restSpec s p)) ∧ Below w.heap.size w w' := by
  have hc0 := blk_cell h 0
  have hc1 := blk_cell h 1
  have hl := blk_lt h
  have q1 : (0 : Int) ≤ (p : Int) := by omega
  have q2 : (p : Int) ≤ (s.size : Int) := by omega
  obtain ⟨x, hx⟩ : ∃ x, x = s.extract p s.size := ⟨_, rfl⟩
  have hxs : x.size ≤ maxLen := by rw [hx, ByteArray.size_extract]; unfold maxLen; omega
  have hxm : x.size ≤ 9223372036854775807 := by unfold maxLen at hxs; omega
  have hcv : ∀ W, (convert 9 44 (.string x)).run Try.prog W = .ok (.slice (some ⟨W.heap.size, 0, none⟩) x.size (grownCap W x.size 0 5)) (Lib.bytesWorld W 5 x) := fun W => Lib.run_convert_string_bytes (P := Try.prog) W 9 44 5 x Try.underlying9 Try.underlying44 Try.underlying5
  rw [restSpec, ← hx]
  have hx' := hx.symm
  have HX := Lib.hid hx
  clear hx h
  obtain ⟨ys, hys⟩ : ∃ ys, ys = bytesOf x := ⟨_, rfl⟩
  rw [← hys]
  have HYS := Lib.hid hys
  clear hys
  go_enter Try.func40, Try.ntmps40
  go_wp2
  go_region
  have hrow := Row.bytes w.drew 5 x hxs
  rw [← nums_bytesOf] at hrow
  have hbel : Below w.heap.size w (Lib.bytesWorld w.drew 5 x) := (Below.refl _ w).drew.trans (bytes_below w.drew _ x)
  have hcap : x.size ≤ grownCap w.drew x.size 0 5 := by have := grownCap_ge w.drew x.size 0 5; omega
  have hlt := hbel.size
  have hnw : w.heap.size < (Lib.bytesWorld w.drew 5 x).heap.size := by rw [Lib.bytesWorld_size]; simp
  generalize Lib.bytesWorld w.drew 5 x = W at *
  generalize grownCap w.drew x.size 0 5 = cap at *
  have hlen : (bytesOf x).length = x.size := bytesOf_length x
  have hys := HYS.out
  rw [← hys] at hrow hlen
  have hyr : ∀ y ∈ ys, 0 ≤ y ∧ y < 256 := by
    intro y hy
    rw [hys] at hy
    simp only [bytesOf, List.mem_map] at hy
    obtain ⟨b, _, rfl⟩ := hy
    have := UInt8.toNat_lt b
    omega
  have HR := Lib.hid hrow
  have HB := Lib.hid hbel
  have HY := Lib.hid hyr
  have HLN := Lib.hid hlen
  clear hrow hbel hyr hys hlen hc0 hc1 hcv hx' HX
  go_wp2
  go_loopg [16] x.size (fun j i wr => ∃ k : Nat, j + k = x.size ∧ i = .int .i64 k ∧ Aside ((ys.take k).all (· == 0) = true ∧ Below W.heap.size W wr))
  case atStart => exact ⟨0, rfl, rfl, by simp, Below.refl _ _⟩
  case round =>
    obtain ⟨k, hk, rfl, hA⟩ := hrel
    by_cases hlt' : k < x.size
    · have hcell : wr.cell? ⟨w.heap.size, k, none⟩ = some (.int .u8 (ys.getD k 0)) := by
        rw [hA.out.2.cell (p := ⟨w.heap.size, k, none⟩) hnw]
        exact HR.out.cells k _ (by simp [nums, List.getD, List.getElem?_eq_getElem (show k < ys.length by rw [HLN.out]; exact hlt')])
      have htk : ys.take (k + 1) = ys.take k ++ [ys.getD k 0] := by
        have hh : k < ys.length := by rw [HLN.out]; exact hlt'
        rw [List.take_add_one, List.getElem?_eq_getElem hh]
        simp [List.getD, List.getElem?_eq_getElem hh]
      have l2 := Nat.lt_of_lt_of_le hnw hA.out.2.size
      obtain ⟨y, hy⟩ : ∃ y, y = ys.getD k 0 := ⟨_, rfl⟩
      rw [← hy] at hcell htk
      have b1 : (0 : Int) ≤ (k : Int) := by omega
      have b2 : (k : Int) < (x.size : Int) := by omega
      have HTK := Lib.hid htk
      by_cases hz : y = 0
      · have hzb : (y != 0) = false := by simp [hz]
        clear htk hy
        go_wp2
        go_roundg (gk - 1)
        case measure => omega
        case rel => exact ⟨k + 1, by omega, by go_num, by rw [HTK.out, List.all_append, hA.out.1]; simp [hz], hA.out.2⟩
      · have hzb : (y != 0) = true := by simp [hz]
        have hr : ys.all (· == 0) = false := by
          rw [List.all_eq_false]
          refine ⟨y, ?_, by simp [hz]⟩
          rw [hy]
          simp [List.getD, List.getElem?_eq_getElem (show k < ys.length by rw [HLN.out]; exact hlt')]
        have HRR := Lib.hid hr
        clear htk hy hr
        go_wp2
        go_ret
        rw [HRR.out]
        exact ⟨rfl, HB.out.trans (hA.out.2.mono HB.out.size)⟩
    · obtain rfl : gk = 0 := by omega
      have hr : ys.all (· == 0) = true := by
        have h := hA.out.1
        rwa [List.take_of_length_le (by rw [HLN.out]; omega)] at h
      have HRR := Lib.hid hr
      clear hr
      go_wp2
      go_ret
      rw [HRR.out]
      exact ⟨rfl, HB.out.trans (hA.out.2.mono HB.out.size)⟩
def allZero (x : ByteArray) : Bool := (bytesOf x).all (· == 0)
theorem restSpec_eq (s : ByteArray) (p : Nat) : restSpec s p = allZero (s.extract p s.size) := rfl
def entryVal (x : ByteArray) (i g : Int) : Value := .agg #[.string x, .int .i64 i, .int .i64 g]
/-- What an entry's bytes say: the name, the two numbers, and the error. -/
def entryOfSpec (s : ByteArray) : ByteArray × Int × Int × Int :=
  if 28 < s.size then (⟨#[]⟩, 0, 0, 4) else if s.size < 28 then (⟨#[]⟩, 0, 0, 3)
  else if 19 < (num s 0 1).toNat then (⟨#[]⟩, 0, 0, 5)
  else if allZero (s.extract (1 + (num s 0 1).toNat) 20) = false ∨ ((num s 0 1).toNat = 0 ∧ (num s 20 4 ≠ 0 ∨ num s 24 4 ≠ 0)) then (⟨#[]⟩, 0, 0, 5)
  else (s.extract 1 (1 + (num s 0 1).toNat), num s 20 4, num s 24 4, 0)
theorem sets3e {W : World} {g h : Nat} {t t' : TypeId} {c0 c1 c2 x : Value} (n0 n1 n2 m : Value) (hg : W.heap[g]? = some (.cells #[c0, c1, c2] t (0, 0))) (hh : W.heap[h]? = some (.cells #[x] t' (0, 0))) (hne : g ≠ h) :
    ∃ W', ((((W.setCell ⟨g, 0, none⟩ n0).setCell ⟨g, 1, none⟩ n1).setCell ⟨g, 2, none⟩ n2).setCell ⟨h, 0, none⟩ m) = W' ∧ W'.heap[g]? = some (.cells #[n0, n1, n2] t (0, 0)) ∧ W'.heap[h]? = some (.cells #[m] t' (0, 0)) ∧ (∀ i, i ≠ g → i ≠ h → W'.heap[i]? = W.heap[i]?) ∧ ∀ (B : Nat) (a : World), Below B a W → B ≤ g → B ≤ h → Below B a W' := by
  have q0 := hg
  have q1 : (W.setCell ⟨g, 0, none⟩ n0).heap[g]? = some (.cells #[n0, c1, c2] t (0, 0)) := blk_set q0 0 n0
  have q2 : ((W.setCell ⟨g, 0, none⟩ n0).setCell ⟨g, 1, none⟩ n1).heap[g]? = some (.cells #[n0, n1, c2] t (0, 0)) := blk_set q1 1 n1
  have q3 : (((W.setCell ⟨g, 0, none⟩ n0).setCell ⟨g, 1, none⟩ n1).setCell ⟨g, 2, none⟩ n2).heap[g]? = some (.cells #[n0, n1, n2] t (0, 0)) := blk_set q2 2 n2
  refine ⟨_, rfl, (Below.heap_setCell _ _ _ _ hne).trans q3, blk_set ((Below.heap_setCell _ ⟨g, 2, none⟩ n2 _ (Ne.symm hne)).trans ((Below.heap_setCell _ ⟨g, 1, none⟩ n1 _ (Ne.symm hne)).trans ((Below.heap_setCell _ ⟨g, 0, none⟩ n0 _ (Ne.symm hne)).trans hh))) 0 m, fun i hi hj => ?_, fun B a hb hbg hbh => (((hb.setCell (p := ⟨g, 0, none⟩) hbg n0).setCell (p := ⟨g, 1, none⟩) hbg n1).setCell (p := ⟨g, 2, none⟩) hbg n2).setCell (p := ⟨h, 0, none⟩) hbh m⟩
  simp [Below.heap_setCell, hi, hj]
set_option maxRecDepth 100000 in
set_option maxHeartbeats 1600000 in
theorem EntryOf_any (s : ByteArray) (hS : s.size ≤ 9223372036854775807) (w : World) :
    Calls Try.prog 25 #[.string s] w fun e w' => e = .returned (.tuple #[entryVal (entryOfSpec s).1 (entryOfSpec s).2.1 (entryOfSpec s).2.2.1, .int .i64 (entryOfSpec s).2.2.2]) ∧ Below w.heap.size w w' := by
  have hmf : ∀ (fn : Fn) (first cap : Array Value) (w : World), (Instr.makeFunc fn first cap).run Try.prog w = .ok (.func fn first cap) w := fun _ _ _ _ => rfl
  have hu := Try.underlying37
  by_cases hlong : 28 < s.size
  · have h : entryOfSpec s = (⟨#[]⟩, 0, 0, 4) := by rw [entryOfSpec, if_pos hlong]
    have H := Lib.hid h
    clear h
    go_enter Try.func25, Try.ntmps25
    go_wp2
    refine bodyPost_ret (v := .tuple #[entryVal ⟨#[]⟩ 0 0, .int .i64 4]) (by simp [results, Try.results25, go_sem, entryVal]) rfl ?_
    rw [H.out]
    exact ⟨rfl, ((Below.refl _ w).alloc (Nat.le_refl _) _).alloc (by simp) _⟩
  have hl : ¬ (28 : Int) < (s.size : Int) := by omega
  have HL := Lib.hid hlong
  have HS := Lib.hid hS
  clear hlong hS
  go_enter_defers Try.func25, Try.ntmps25
  go_wp2_with fail
  have R0 := Rd.made2 w (.cells #[.string ⟨#[]⟩, .int .i64 0, .int .i64 0] 37 (0, 0)) (.cells #[.int .i64 0] 23 (0, 0)) s
  refine (take_any (w.heap.size + 1 + 1) s 0 1 _ R0.cu HS.out (by omega) (by omega) (by omega)).mono ?_
  rintro e w1 (⟨hp, rfl, nd, hw⟩ | ⟨hp, rfl, nd, hw⟩)
  rotate_left
  · have R1 := hw ▸ R0.drew nd
    clear hw R0
    have hsp : entryOfSpec s = (⟨#[]⟩, 0, 0, 3) := by rw [entryOfSpec, if_neg HL.out, if_pos (by omega)]
    have HSP := Lib.hid hsp
    clear hsp hp
    have b0 := R1.box 0 _ rfl
    have b1 := R1.box 1 _ rfl
    have c0 := blk_cell b1 0
    have z0 := blk_frozen b1 0
    have l0 := blk_lt b1
    go_wp2
    refine leaves_cons (f := 36) (args := #[.pointer (some ⟨w.heap.size + 1, 0, none⟩)]) (by simp) (by simp [go_sem]) ?_
    refine (EntryOf1_panicking ⟨w.heap.size + 1, 0, none⟩ (.int .i64 0) [] _ c0 z0 l0).mono ?_
    rintro e u' w'' ⟨rfl, rfl, rfl⟩
    have k0 : ((w1.alloc (.cells #[] 72)).setCell ⟨w.heap.size + 1, 0, none⟩ (.int .i64 3)).heap[w.heap.size]? = _ := (Below.heap_setCell _ _ _ _ (by simp)).trans (get_below b0)
    have k1 : ((w1.alloc (.cells #[] 72)).setCell ⟨w.heap.size + 1, 0, none⟩ (.int .i64 3)).heap[w.heap.size + 1]? = _ := blk_set (get_below b1) 0 _
    have hB : Below w.heap.size w ((w1.alloc (.cells #[] 72)).setCell ⟨w.heap.size + 1, 0, none⟩ (.int .i64 3)) := (R1.bel.alloc R1.bel.size _).setCell (by simp) _
    generalize ((w1.alloc (.cells #[] 72)).setCell ⟨w.heap.size + 1, 0, none⟩ (.int .i64 3)) = W at k0 k1 hB ⊢
    have d0 := blk_cell k0 0
    have d1 := blk_cell k0 1
    have d2 := blk_cell k0 2
    have e0 := blk_cell k1 0
    rw [HSP.out]
    simp [Leaves, settle, results, Try.results25, go_sem, d0, d1, d2, e0, entryVal]
    exact hB
  have R1' := hw ▸ R0.step 1 1 rfl nd
  have R0 := R1'
  clear R1' hw
  have RH := Lib.hid R0
  have HP := Lib.hid hp
  clear R0 hp
  go_wp2_with fail
  have R0 := RH.out
  have hp := HP.out
  clear HP
  refine (text_any (w.heap.size + 1 + 1) s 1 19 _ R0.cu HS.out (by omega) (by omega)).mono ?_
  rintro e w2 (⟨hp, rfl, nd, hw⟩ | ⟨hp, rfl, nd, hw⟩)
  rotate_left
  · have R1 := hw ▸ R0.drew nd
    clear hw R0
    have hsp : entryOfSpec s = (⟨#[]⟩, 0, 0, 3) := by rw [entryOfSpec, if_neg HL.out, if_pos (by omega)]
    have HSP := Lib.hid hsp
    clear hsp hp
    have b0 := R1.box 0 _ rfl
    have b1 := R1.box 1 _ rfl
    have c0 := blk_cell b1 0
    have z0 := blk_frozen b1 0
    have l0 := blk_lt b1
    go_wp2
    refine leaves_cons (f := 36) (args := #[.pointer (some ⟨w.heap.size + 1, 0, none⟩)]) (by simp) (by simp [go_sem]) ?_
    refine (EntryOf1_panicking ⟨w.heap.size + 1, 0, none⟩ (.int .i64 0) [] _ c0 z0 l0).mono ?_
    rintro e u' w'' ⟨rfl, rfl, rfl⟩
    have k0 : ((w2.alloc (.cells #[] 72)).setCell ⟨w.heap.size + 1, 0, none⟩ (.int .i64 3)).heap[w.heap.size]? = _ := (Below.heap_setCell _ _ _ _ (by simp)).trans (get_below b0)
    have k1 : ((w2.alloc (.cells #[] 72)).setCell ⟨w.heap.size + 1, 0, none⟩ (.int .i64 3)).heap[w.heap.size + 1]? = _ := blk_set (get_below b1) 0 _
    have hB : Below w.heap.size w ((w2.alloc (.cells #[] 72)).setCell ⟨w.heap.size + 1, 0, none⟩ (.int .i64 3)) := (R1.bel.alloc R1.bel.size _).setCell (by simp) _
    generalize ((w2.alloc (.cells #[] 72)).setCell ⟨w.heap.size + 1, 0, none⟩ (.int .i64 3)) = W at k0 k1 hB ⊢
    have d0 := blk_cell k0 0
    have d1 := blk_cell k0 1
    have d2 := blk_cell k0 2
    have e0 := blk_cell k1 0
    rw [HSP.out]
    simp [Leaves, settle, results, Try.results25, go_sem, d0, d1, d2, e0, entryVal]
    exact hB
  have R1' := hw ▸ R0.step 19 20 rfl nd
  have R0 := R1'
  clear R1' hw
  have RH := Lib.hid R0
  have HP := Lib.hid hp
  clear R0 hp
  go_wp2_with fail
  have R0 := RH.out
  have hp := HP.out
  clear HP
  refine (take_any (w.heap.size + 1 + 1) s 20 4 _ R0.cu HS.out (by omega) (by omega) (by omega)).mono ?_
  rintro e w3 (⟨hp, rfl, nd, hw⟩ | ⟨hp, rfl, nd, hw⟩)
  rotate_left
  · have R1 := hw ▸ R0.drew nd
    clear hw R0
    have hsp : entryOfSpec s = (⟨#[]⟩, 0, 0, 3) := by rw [entryOfSpec, if_neg HL.out, if_pos (by omega)]
    have HSP := Lib.hid hsp
    clear hsp hp
    have b0 := R1.box 0 _ rfl
    have b1 := R1.box 1 _ rfl
    have c0 := blk_cell b1 0
    have z0 := blk_frozen b1 0
    have l0 := blk_lt b1
    go_wp2
    refine leaves_cons (f := 36) (args := #[.pointer (some ⟨w.heap.size + 1, 0, none⟩)]) (by simp) (by simp [go_sem]) ?_
    refine (EntryOf1_panicking ⟨w.heap.size + 1, 0, none⟩ (.int .i64 0) [] _ c0 z0 l0).mono ?_
    rintro e u' w'' ⟨rfl, rfl, rfl⟩
    have k0 : ((w3.alloc (.cells #[] 72)).setCell ⟨w.heap.size + 1, 0, none⟩ (.int .i64 3)).heap[w.heap.size]? = _ := (Below.heap_setCell _ _ _ _ (by simp)).trans (get_below b0)
    have k1 : ((w3.alloc (.cells #[] 72)).setCell ⟨w.heap.size + 1, 0, none⟩ (.int .i64 3)).heap[w.heap.size + 1]? = _ := blk_set (get_below b1) 0 _
    have hB : Below w.heap.size w ((w3.alloc (.cells #[] 72)).setCell ⟨w.heap.size + 1, 0, none⟩ (.int .i64 3)) := (R1.bel.alloc R1.bel.size _).setCell (by simp) _
    generalize ((w3.alloc (.cells #[] 72)).setCell ⟨w.heap.size + 1, 0, none⟩ (.int .i64 3)) = W at k0 k1 hB ⊢
    have d0 := blk_cell k0 0
    have d1 := blk_cell k0 1
    have d2 := blk_cell k0 2
    have e0 := blk_cell k1 0
    rw [HSP.out]
    simp [Leaves, settle, results, Try.results25, go_sem, d0, d1, d2, e0, entryVal]
    exact hB
  have R1' := hw ▸ R0.step 4 24 rfl nd
  have R0 := R1'
  clear R1' hw
  have RH := Lib.hid R0
  have HP := Lib.hid hp
  clear R0 hp
  go_wp2_with fail
  have R0 := RH.out
  have hp := HP.out
  clear HP
  refine (take_any (w.heap.size + 1 + 1) s 24 4 _ R0.cu HS.out (by omega) (by omega) (by omega)).mono ?_
  rintro e w4 (⟨hp, rfl, nd, hw⟩ | ⟨hp, rfl, nd, hw⟩)
  rotate_left
  · have R1 := hw ▸ R0.drew nd
    clear hw R0
    have hsp : entryOfSpec s = (⟨#[]⟩, 0, 0, 3) := by rw [entryOfSpec, if_neg HL.out, if_pos (by omega)]
    have HSP := Lib.hid hsp
    clear hsp hp
    have b0 := R1.box 0 _ rfl
    have b1 := R1.box 1 _ rfl
    have c0 := blk_cell b1 0
    have z0 := blk_frozen b1 0
    have l0 := blk_lt b1
    go_wp2
    refine leaves_cons (f := 36) (args := #[.pointer (some ⟨w.heap.size + 1, 0, none⟩)]) (by simp) (by simp [go_sem]) ?_
    refine (EntryOf1_panicking ⟨w.heap.size + 1, 0, none⟩ (.int .i64 0) [] _ c0 z0 l0).mono ?_
    rintro e u' w'' ⟨rfl, rfl, rfl⟩
    have k0 : ((w4.alloc (.cells #[] 72)).setCell ⟨w.heap.size + 1, 0, none⟩ (.int .i64 3)).heap[w.heap.size]? = _ := (Below.heap_setCell _ _ _ _ (by simp)).trans (get_below b0)
    have k1 : ((w4.alloc (.cells #[] 72)).setCell ⟨w.heap.size + 1, 0, none⟩ (.int .i64 3)).heap[w.heap.size + 1]? = _ := blk_set (get_below b1) 0 _
    have hB : Below w.heap.size w ((w4.alloc (.cells #[] 72)).setCell ⟨w.heap.size + 1, 0, none⟩ (.int .i64 3)) := (R1.bel.alloc R1.bel.size _).setCell (by simp) _
    generalize ((w4.alloc (.cells #[] 72)).setCell ⟨w.heap.size + 1, 0, none⟩ (.int .i64 3)) = W at k0 k1 hB ⊢
    have d0 := blk_cell k0 0
    have d1 := blk_cell k0 1
    have d2 := blk_cell k0 2
    have e0 := blk_cell k1 0
    rw [HSP.out]
    simp [Leaves, settle, results, Try.results25, go_sem, d0, d1, d2, e0, entryVal]
    exact hB
  have R1' := hw ▸ R0.step 4 28 rfl nd
  have R0 := R1'
  clear R1' hw
  have RH := Lib.hid R0
  have HP := Lib.hid hp
  clear R0 hp
  have hsz : s.size = 28 := by have := HP.out; have := HL.out; omega
  obtain ⟨N, hN⟩ : ∃ N : Nat, num s 0 1 = (N : Int) := ⟨(num s 0 1).toNat, by have := (num_range s 0 1).1; omega⟩
  have hspec : entryOfSpec s = if 19 < N then (⟨#[]⟩, 0, 0, 5) else if allZero (s.extract (1 + N) 20) = false ∨ (N = 0 ∧ (num s 20 4 ≠ 0 ∨ num s 24 4 ≠ 0)) then (⟨#[]⟩, 0, 0, 5) else (s.extract 1 (1 + N), num s 20 4, num s 24 4, 0) := by
    rw [entryOfSpec, if_neg (by omega), if_neg (by omega), hN, Int.toNat_natCast]
  have HSPEC := Lib.hid hspec
  have HSZ := Lib.hid hsz
  rw [show num s 24 (Int.toNat 4) = num s 24 4 from rfl, hN]
  have r0 := RH.out.box 0 _ rfl
  have r1 := RH.out.box 1 _ rfl
  have b0 : w4.heap[w.heap.size]? = some (.cells #[.string ⟨#[]⟩, .int .i64 0, .int .i64 0] 37 (0, 0)) := r0
  have b1 : w4.heap[w.heap.size + 1]? = some (.cells #[.int .i64 0] 23 (0, 0)) := r1
  have h4 : w.heap.size + 1 + 1 < w4.heap.size := by
    have := RH.out.cu
    exact blk_lt this
  have hbel := RH.out.bel
  clear hspec HL HS hl HP hN r0 r1
  generalize num s 20 4 = n1 at *
  generalize num s 24 4 = n2 at *
  have c0 := blk_cell b0 0
  have c1 := blk_cell b0 1
  have c2 := blk_cell b0 2
  have z0 := blk_frozen b0 0
  have z1 := blk_frozen b0 1
  have z2 := blk_frozen b0 2
  have ce := blk_cell b1 0
  have ze := blk_frozen b1 0
  have l0 := blk_lt b0
  have l1 := blk_lt b1
  have hne : w.heap.size ≠ w4.heap.size := by omega
  have hne1 : w.heap.size + 1 ≠ w4.heap.size := by omega
  have HB0 := Lib.hid b0
  have HB1 := Lib.hid b1
  have HBEL := Lib.hid hbel
  have HH4 := Lib.hid h4
  by_cases h19 : 19 < N
  · have hsp : entryOfSpec s = (⟨#[]⟩, 0, 0, 5) := by rw [HSPEC.out, if_pos h19]
    have HSP := Lib.hid hsp
    have hb : ((19 : Int) < (N : Int)) = True := by simp; omega
    clear hsp HSPEC b0 b1 hbel
    go_wp2
    refine leaves_cons (f := 36) (args := #[.pointer (some ⟨w.heap.size + 1, 0, none⟩)]) (by simp) (by simp [go_sem]) ?_
    refine (EntryOf1_idle ⟨w.heap.size + 1, 0, none⟩ _).mono ?_
    rintro e u' w'' ⟨rfl, rfl, rfl⟩
    rw [HSP.out]
    obtain ⟨W, hW, j0, j1, _, hB⟩ := sets3e (.string ⟨#[]⟩) (.int .i64 0) (.int .i64 0) (.int .i64 5) HB0.out HB1.out (by omega)
    rw [hW]
    have hB := (hB _ _ HBEL.out (by omega) (by omega))
    have hB2 := hB.alloc hB.size (.cells #[.string ⟨#[]⟩, .int .i64 n1, .int .i64 n2] 37)
    have d0 := blk_cell (get_below (o := .cells #[.string ⟨#[]⟩, .int .i64 n1, .int .i64 n2] 37) j0) 0
    have d1 := blk_cell (get_below (o := .cells #[.string ⟨#[]⟩, .int .i64 n1, .int .i64 n2] 37) j0) 1
    have d2 := blk_cell (get_below (o := .cells #[.string ⟨#[]⟩, .int .i64 n1, .int .i64 n2] 37) j0) 2
    have d8 := blk_cell (get_below (o := .cells #[.string ⟨#[]⟩, .int .i64 n1, .int .i64 n2] 37) j1) 0
    clear hW j0 j1
    generalize W.alloc (.cells #[.string ⟨#[]⟩, .int .i64 n1, .int .i64 n2] 37) = W2 at *
    simp [Leaves, settle, results, Try.results25, go_sem, entryVal, d0, d1, d2, d8]
    exact hB2
  · have hb : ¬ (19 : Int) < (N : Int) := by omega
    have hnn : (0 : Int) ≤ (N : Int) := by omega
    have hle : (N : Int) ≤ 19 := by omega
    have hle2 : N ≤ 19 := by omega
    obtain ⟨t, ht⟩ : ∃ t, t = s.extract 1 20 := ⟨_, rfl⟩
    have htsz : t.size = 19 := by rw [ht, ByteArray.size_extract, HSZ.out]; rfl
    have hx1 : s.extract 1 (1 + N) = t.extract 0 N := by rw [ht, ByteArray.extract_extract]; congr 1; omega
    have hx2 : s.extract (1 + N) 20 = t.extract N 19 := by rw [ht, ByteArray.extract_extract, show min (1 + 19) 20 = 20 from rfl]
    obtain ⟨y, hy⟩ : ∃ y, y = t.extract N 19 := ⟨_, rfl⟩
    have hysz : y.size ≤ 19 := by rw [hy, ByteArray.size_extract]; omega
    have hrs : restSpec y 0 = allZero y := by rw [restSpec_eq, ByteArray.extract_zero_size]
    have hspec : entryOfSpec s = if allZero y = false ∨ (N = 0 ∧ (n1 ≠ 0 ∨ n2 ≠ 0)) then (⟨#[]⟩, 0, 0, 5) else (t.extract 0 N, n1, n2, 0) := by rw [HSPEC.out, if_neg h19, hx1, hx2, ← hy]
    have HSP0 := Lib.hid hspec
    have HRS := Lib.hid hrs
    have hy' := hy.symm
    rw [← ht]
    clear hspec hrs HSPEC b0 b1 hbel ht hx1 hx2 hy h19
    go_wp2_with fail
    refine (rest_any (w4.heap.size + 1) y 0 _ (get_top (by simp)) (by omega) (by omega)).mono ?_
    rw [HRS.out]
    rintro e w6 ⟨rfl, hb6⟩
    have b0 : w6.heap[w.heap.size]? = some (.cells #[.string ⟨#[]⟩, .int .i64 0, .int .i64 0] 37 (0, 0)) := (hb6.block _ (by simp; omega)).trans (get_below (get_below HB0.out))
    have b1 : w6.heap[w.heap.size + 1]? = some (.cells #[.int .i64 0] 23 (0, 0)) := (hb6.block _ (by simp; omega)).trans (get_below (get_below HB1.out))
    have k0 : w6.heap[w4.heap.size]? = some (.cells #[.string (t.extract 0 N), .int .i64 n1, .int .i64 n2] 37 (0, 0)) := (hb6.block _ (by simp; omega)).trans (get_below (get_top rfl))
    have hbel : Below w.heap.size w w6 := (((HBEL.out.alloc HBEL.out.size _).alloc (by have := HBEL.out.size; simp; omega) _).trans (hb6.mono (by have := HBEL.out.size; simp; omega)))
    clear c0 c1 c2 z0 z1 z2 ce ze l0 l1 HBEL HB0 HB1
    have c0 := blk_cell b0 0
    have c1 := blk_cell b0 1
    have c2 := blk_cell b0 2
    have z0 := blk_frozen b0 0
    have z1 := blk_frozen b0 1
    have z2 := blk_frozen b0 2
    have ce := blk_cell b1 0
    have ze := blk_frozen b1 0
    have l0 := blk_lt b0
    have l1 := blk_lt b1
    have l6 := blk_lt k0
    have x0 := blk_cell k0 0
    have x1 := blk_cell k0 1
    have x2 := blk_cell k0 2
    have HB0 := Lib.hid b0
    have HB1 := Lib.hid b1
    have HBEL := Lib.hid hbel
    clear b0 b1 k0 hbel hb6 hy' hysz
    by_cases hz : allZero y = false
    · have hsp : entryOfSpec s = (⟨#[]⟩, 0, 0, 5) := by rw [HSP0.out, if_pos (.inl hz)]
      have HSP := Lib.hid hsp
      rw [hz]
      clear hsp hz HSP0 HRS
      go_wp2
      refine leaves_cons (f := 36) (args := #[.pointer (some ⟨w.heap.size + 1, 0, none⟩)]) (by simp) (by simp [go_sem]) ?_
      refine (EntryOf1_idle ⟨w.heap.size + 1, 0, none⟩ _).mono ?_
      rintro e u' w'' ⟨rfl, rfl, rfl⟩
      rw [HSP.out]
      obtain ⟨W, hW, j0, j1, _, hB⟩ := sets3e (.string ⟨#[]⟩) (.int .i64 0) (.int .i64 0) (.int .i64 5) HB0.out HB1.out (by omega)
      rw [hW]
      have hB := hB _ _ HBEL.out (by omega) (by omega)
      have d0 := blk_cell j0 0
      have d1 := blk_cell j0 1
      have d2 := blk_cell j0 2
      have d8 := blk_cell j1 0
      clear hW j0 j1
      simp [Leaves, settle, results, Try.results25, go_sem, entryVal, d0, d1, d2, d8]
      exact hB
    · have hz' : allZero y = true := by simpa using hz
      rw [hz']
      by_cases hN0 : N = 0
      · by_cases hn1 : n1 = 0
        · by_cases hn2 : n2 = 0
          · have hsp : entryOfSpec s = (t.extract 0 N, n1, n2, 0) := by rw [HSP0.out, if_neg (by simp [hz', hn1, hn2])]
            have HSP := Lib.hid hsp
            have f0 : ((N : Int) == 0) = true := by simp [hN0]
            have f1 : (n1 != 0) = false := by simp [hn1]
            have f2 : (n2 != 0) = false := by simp [hn2]
            clear hsp hz hz' HSP0 HRS hN0 hn1 hn2
            generalize t.extract 0 N = nm at *
            go_wp2
            refine leaves_cons (f := 36) (args := #[.pointer (some ⟨w.heap.size + 1, 0, none⟩)]) (by simp) (by simp [go_sem]) ?_
            refine (EntryOf1_idle ⟨w.heap.size + 1, 0, none⟩ _).mono ?_
            rintro e u' w'' ⟨rfl, rfl, rfl⟩
            rw [HSP.out]
            obtain ⟨W, hW, j0, j1, _, hB⟩ := sets3e (.string nm) (.int .i64 n1) (.int .i64 n2) (.int .i64 0) HB0.out HB1.out (by omega)
            rw [hW]
            have hB := hB _ _ HBEL.out (by omega) (by omega)
            have d0 := blk_cell j0 0
            have d1 := blk_cell j0 1
            have d2 := blk_cell j0 2
            have d8 := blk_cell j1 0
            clear hW j0 j1
            simp [Leaves, settle, results, Try.results25, go_sem, entryVal, d0, d1, d2, d8]
            exact hB
          · have hsp : entryOfSpec s = (⟨#[]⟩, 0, 0, 5) := by rw [HSP0.out, if_pos (.inr ⟨hN0, .inr hn2⟩)]
            have HSP := Lib.hid hsp
            have f0 : ((N : Int) == 0) = true := by simp [hN0]
            have f1 : (n1 != 0) = false := by simp [hn1]
            have f2 : (n2 != 0) = true := by simp [hn2]
            clear hsp hz hz' HSP0 HRS hN0 hn1 hn2
            go_wp2
            refine leaves_cons (f := 36) (args := #[.pointer (some ⟨w.heap.size + 1, 0, none⟩)]) (by simp) (by simp [go_sem]) ?_
            refine (EntryOf1_idle ⟨w.heap.size + 1, 0, none⟩ _).mono ?_
            rintro e u' w'' ⟨rfl, rfl, rfl⟩
            rw [HSP.out]
            obtain ⟨W, hW, j0, j1, _, hB⟩ := sets3e (.string ⟨#[]⟩) (.int .i64 0) (.int .i64 0) (.int .i64 5) HB0.out HB1.out (by omega)
            rw [hW]
            have hB := hB _ _ HBEL.out (by omega) (by omega)
            have d0 := blk_cell j0 0
            have d1 := blk_cell j0 1
            have d2 := blk_cell j0 2
            have d8 := blk_cell j1 0
            clear hW j0 j1
            simp [Leaves, settle, results, Try.results25, go_sem, entryVal, d0, d1, d2, d8]
            exact hB
        · have hsp : entryOfSpec s = (⟨#[]⟩, 0, 0, 5) := by rw [HSP0.out, if_pos (.inr ⟨hN0, .inl hn1⟩)]
          have HSP := Lib.hid hsp
          have f0 : ((N : Int) == 0) = true := by simp [hN0]
          have f1 : (n1 != 0) = true := by simp [hn1]
          clear hsp hz hz' HSP0 HRS hN0 hn1
          go_wp2
          refine leaves_cons (f := 36) (args := #[.pointer (some ⟨w.heap.size + 1, 0, none⟩)]) (by simp) (by simp [go_sem]) ?_
          refine (EntryOf1_idle ⟨w.heap.size + 1, 0, none⟩ _).mono ?_
          rintro e u' w'' ⟨rfl, rfl, rfl⟩
          rw [HSP.out]
          obtain ⟨W, hW, j0, j1, _, hB⟩ := sets3e (.string ⟨#[]⟩) (.int .i64 0) (.int .i64 0) (.int .i64 5) HB0.out HB1.out (by omega)
          rw [hW]
          have hB := hB _ _ HBEL.out (by omega) (by omega)
          have d0 := blk_cell j0 0
          have d1 := blk_cell j0 1
          have d2 := blk_cell j0 2
          have d8 := blk_cell j1 0
          clear hW j0 j1
          simp [Leaves, settle, results, Try.results25, go_sem, entryVal, d0, d1, d2, d8]
          exact hB
      · have hsp : entryOfSpec s = (t.extract 0 N, n1, n2, 0) := by rw [HSP0.out, if_neg (by simp [hz', hN0])]
        have HSP := Lib.hid hsp
        have f0 : ((N : Int) == 0) = false := by simp [hN0]
        clear hsp hz hz' HSP0 HRS hN0
        generalize t.extract 0 N = nm at *
        go_wp2
        refine leaves_cons (f := 36) (args := #[.pointer (some ⟨w.heap.size + 1, 0, none⟩)]) (by simp) (by simp [go_sem]) ?_
        refine (EntryOf1_idle ⟨w.heap.size + 1, 0, none⟩ _).mono ?_
        rintro e u' w'' ⟨rfl, rfl, rfl⟩
        rw [HSP.out]
        obtain ⟨W, hW, j0, j1, _, hB⟩ := sets3e (.string nm) (.int .i64 n1) (.int .i64 n2) (.int .i64 0) HB0.out HB1.out (by omega)
        rw [hW]
        have hB := hB _ _ HBEL.out (by omega) (by omega)
        have d0 := blk_cell j0 0
        have d1 := blk_cell j0 1
        have d2 := blk_cell j0 2
        have d8 := blk_cell j1 0
        clear hW j0 j1
        simp [Leaves, settle, results, Try.results25, go_sem, entryVal, d0, d1, d2, d8]
        exact hB
end Go.Proofs.Ytdamlbkibhmepaa.B
namespace Go.Proofs.Ytdamlbkibhmepaa.B
open Go.RowKit
set_option linter.unusedVariables false
/-- The numbers of such widths, one behind the other, from a place on. -/
def numsAt (s : ByteArray) : Nat → List Int → List Int
  | _, [] => []
  | p, x :: r => num s p x.toNat :: numsAt s (p + x.toNat) r
def lens (ws : List Int) : Nat := (ws.map Int.toNat).sum
theorem lens_cons (x : Int) (r : List Int) : lens (x :: r) = x.toNat + lens r := by simp [lens]
theorem lens_append (a b : List Int) : lens (a ++ b) = lens a + lens b := by simp [lens]
theorem numsAt_append (s : ByteArray) : ∀ (a b : List Int) (p : Nat), numsAt s p (a ++ b) = numsAt s p a ++ numsAt s (p + lens a) b
  | [], b, p => by simp [numsAt, lens]
  | x :: a, b, p => by rw [List.cons_append, numsAt, numsAt_append s a b, numsAt, List.cons_append, lens_cons, Nat.add_assoc]
theorem take_more (ws : List Int) (k : Nat) (h : k < ws.length) : ws.take (k + 1) = ws.take k ++ [ws.getD k 0] := by
  rw [List.take_add_one, List.getElem?_eq_getElem h]
  simp [List.getD, List.getElem?_eq_getElem h]
theorem lens_take_le (ws : List Int) (k : Nat) : lens (ws.take k) ≤ lens ws := by
  have h := lens_append (ws.take k) (ws.drop k)
  rw [List.take_append_drop] at h
  omega
theorem sized_any (s : ByteArray) (n : Nat) (hn : n ≤ 9223372036854775807) (w : World) :
    Calls Try.prog 41 #[.string s, .int .i64 n] w fun e w' => e = .returned (.int .i64 (if n < s.size then 4 else if s.size < n then 3 else 0)) ∧ w = w' := by
  by_cases h1 : n < s.size
  · rw [if_pos h1]
    go_enter Try.func41, Try.ntmps41
    go_wp2
    go_ret
    exact ⟨rfl, rfl⟩
  · by_cases h2 : s.size < n
    · rw [if_neg h1, if_pos h2]
      go_enter Try.func41, Try.ntmps41
      go_wp2
      go_ret
      exact ⟨rfl, rfl⟩
    · rw [if_neg h1, if_neg h2]
      go_enter Try.func41, Try.ntmps41
      go_wp2
      go_ret
      exact ⟨rfl, rfl⟩
set_option maxHeartbeats 1600000 in
theorem read_any (s : ByteArray) (p : Nat) (v2 : Value) (ws : List Int) (hs : s.size ≤ 9223372036854775807) (w : World) (h2 : Row w 3 1 v2 ws.length (ints ws)) (hlen : ws.length ≤ 1000) (hw : ∀ x ∈ ws, 1 ≤ x ∧ x ≤ 6) (hp : p + lens ws ≤ s.size) :
    Calls Try.prog 43 #[.string s, .int .i64 p, v2] w fun e w' => ∃ v, e = .returned v ∧ Loc w w' 3 1 v ws.length (ints (numsAt s p ws)) := by
  obtain ⟨i0, hi, hz0, hz1, hz2⟩ := info_parts infoInt
  have HI := Lib.hid hi
  have HZ0 := Lib.hid hz0
  have HZ1 := Lib.hid hz1
  have HZ2 := Lib.hid hz2
  clear hi hz0 hz1 hz2
  obtain ⟨a2, c2, rfl, hc2⟩ := h2.form
  have R2 := Lib.hid h2
  have HW := Lib.hid hw
  have HP := Lib.hid hp
  have HS := Lib.hid hs
  clear h2 hw hp hs
  go_enter Try.func43, Try.ntmps43
  go_wp2
  go_loopg [1, 7, 8] ws.length (fun j q b i wr => ∃ (k : Nat) (v : Value), j + k = ws.length ∧ q = .int .i64 ((p + lens (ws.take k) : Nat) : Int) ∧ i = .int .i64 k ∧ b = v ∧ Aside (Loc w wr 3 1 v k (ints (numsAt s p (ws.take k)))))
  case atStart => exact ⟨0, .slice none 0 0, rfl, by simp [lens], rfl, rfl, Loc.nil (Below.refl _ _) _ _⟩
  case round =>
    obtain ⟨k, v, hk, rfl, rfl, rfl, hA⟩ := hrel
    by_cases hlt : k < ws.length
    · obtain ⟨g2, q2, e2, _, hg2⟩ := R2.out.form_pos (by omega)
      simp only [Value.slice.injEq, true_and] at e2
      obtain ⟨rfl, rfl⟩ := e2
      have hcell2 : wr.cell? ⟨g2, k, none⟩ = some (.int .i64 (ws.getD k 0)) := by
        rw [hA.out.below.cell (p := ⟨g2, k, none⟩) hg2]
        exact R2.out.cells k _ (by simp [ints, List.getD, List.getElem?_eq_getElem hlt])
      have hy := HW.out (ws.getD k 0) (by simp [List.getD, List.getElem?_eq_getElem hlt])
      have htk := take_more ws k hlt
      have hle := lens_take_le ws (k + 1)
      have HC2 := Lib.hid (show ∀ w1, Below w.heap.size w w1 → w1.cell? ⟨g2, k, none⟩ = some (.int .i64 (ws.getD k 0)) from fun w1 hb => by
        rw [hb.cell (p := ⟨g2, k, none⟩) hg2]
        exact R2.out.cells k _ (by simp [ints, List.getD, List.getElem?_eq_getElem hlt]))
      obtain ⟨y, hye⟩ : ∃ y, y = ws.getD k 0 := ⟨_, rfl⟩
      rw [← hye] at HC2
      rw [← hye] at hcell2 hy htk
      have hln : lens (ws.take (k + 1)) = lens (ws.take k) + y.toNat := by rw [htk, lens_append]; simp [lens]
      have hnx : ints (numsAt s p (ws.take (k + 1))) = ints (numsAt s p (ws.take k)) ++ [.int .i64 (num s (p + lens (ws.take k)) y.toNat)] := by rw [htk, numsAt_append]; simp [ints, numsAt]
      obtain ⟨at', hat⟩ : ∃ a, a = p + lens (ws.take k) := ⟨_, rfl⟩
      rw [← hat] at hnx
      have hln' : p + lens (ws.take (k + 1)) = at' + y.toNat := by omega
      have hfit : at' + y.toNat ≤ s.size := by have := HP.out; omega
      have hget : getSpec s (at' : Int) y = (num s at' y.toNat, 0) := by
        rw [getSpec, if_neg (by omega), if_neg (by omega)]
        rfl
      rw [← hat]
      have HGET := Lib.hid hget
      have HNX := Lib.hid hnx
      have HLN := Lib.hid hln'
      have HFIT := Lib.hid hfit
      have hwy : ((at' + y.toNat : Nat) : Int) = (at' : Int) + y := by omega
      have hwy2 : IntKind.i64.wrap ((at' : Int) + y) = (at' : Int) + y := IntWalk.i64_in _ (by have := HS.out; omega)
      have b1 : (0 : Int) ≤ (k : Int) := by omega
      have b3 : (k : Int) < (ws.length : Int) := by omega
      have l2 := Nat.lt_of_lt_of_le hg2 hA.out.below.size
      clear htk hye hget hnx hln' hfit hln hle hat
      go_wp2_with fail
      refine (refGet_any s at' y HS.out _).mono ?_
      rw [HGET.out]
      rintro e w1 ⟨rfl, rfl⟩
      go_wp2_with (at_builtin; go_must (refine wpList_append_row _ (by rfl) _ _ _ _ (by rfl) 3 i0 (.int .i64 0) 1 8 Try.underlying63 HI.out HZ0.out HZ1.out HZ2.out rfl (by omega) _ _ _ (by rfl) (hA.out.row.alloc _) _ (by rfl) 1 [.int .i64 (num s at' y.toNat)] (Feeds.slice Try.underlying63 ⟨wr.heap.size, 0, none⟩ 1 1 _ rfl (by simp [Value.oneCell']) (World.news_of_block (cs := #[.int .i64 (num s at' y.toNat)]) (t := 3) (fr := (0, 0)) (heap_alloc_new wr _))) (by unfold maxLen; omega) (by omega) (wr.heap.size + 1) (by simp) ?_); intro ao2 cap2 w1 hown1 hgrow hat; have hloc := Lib.hid (hA.out.app ((Below.refl _ wr).alloc (Nat.le_refl _) _) hown1 hgrow hat (by omega)); have hcell3 : w1.cell? ⟨g2, k, none⟩ = some (.int .i64 y) := HC2.out w1 hloc.out.below; have l3 := Nat.lt_of_lt_of_le hg2 hloc.out.below.size)
      go_roundg (gk - 1)
      case measure => omega
      case rel => exact ⟨k + 1, _, by omega, by rw [HLN.out, ← hwy], by go_num, rfl, by rw [HNX.out]; exact hloc.out⟩
    · obtain rfl : gk = 0 := by omega
      obtain rfl : k = ws.length := by omega
      have hL := hA.out
      rw [List.take_length] at hL
      have HL := Lib.hid hL
      clear hL
      go_wp2
      go_ret
      exact ⟨_, rfl, HL.out⟩
theorem rest_zero (s : ByteArray) (p : Nat) (hp : p ≤ s.size) : restSpec s p = true ↔ s.extract p s.size = strOfNums (List.replicate (s.size - p) 0) := by
  have hl : (bytesOf (s.extract p s.size)).length = s.size - p := by rw [bytesOf_length, ByteArray.size_extract]; omega
  constructor
  · intro h
    rw [restSpec, List.all_eq_true] at h
    rw [← strOfNums_bytesOf (s.extract p s.size)]
    congr 1
    exact List.eq_replicate_iff.mpr ⟨hl, fun b hb => by simpa using h b hb⟩
  · intro h
    rw [restSpec, h, bytesOf_strOfNums _ (fun x hx => by rw [List.mem_replicate] at hx; omega)]
    simp
theorem allZero_iff (x : ByteArray) : allZero x = true ↔ x = strOfNums (List.replicate x.size 0) := by
  have h := rest_zero x 0 (Nat.zero_le _)
  rw [restSpec_eq, ByteArray.extract_zero_size, Nat.sub_zero] at h
  exact h
theorem num_one (s : ByteArray) (h : 0 < s.size) : num s 0 1 = ((s[0]'h).toNat : Int) := by
  rw [byteAt_of]
  simp [num]
theorem sets3 {W : World} {g : Nat} {t : TypeId} {c0 c1 c2 : Value} (n0 n1 n2 : Value) (hg : W.heap[g]? = some (.cells #[c0, c1, c2] t (0, 0))) :
    ∃ W', (((W.setCell ⟨g, 0, none⟩ n0).setCell ⟨g, 1, none⟩ n1).setCell ⟨g, 2, none⟩ n2) = W' ∧ W'.heap[g]? = some (.cells #[n0, n1, n2] t (0, 0)) ∧ (∀ i, i ≠ g → W'.heap[i]? = W.heap[i]?) ∧ ∀ (B : Nat) (a : World), Below B a W → B ≤ g → Below B a W' := by
  have q0 := hg
  have q1 : (W.setCell ⟨g, 0, none⟩ n0).heap[g]? = some (.cells #[n0, c1, c2] t (0, 0)) := blk_set q0 0 n0
  have q2 : ((W.setCell ⟨g, 0, none⟩ n0).setCell ⟨g, 1, none⟩ n1).heap[g]? = some (.cells #[n0, n1, c2] t (0, 0)) := blk_set q1 1 n1
  have q3 : (((W.setCell ⟨g, 0, none⟩ n0).setCell ⟨g, 1, none⟩ n1).setCell ⟨g, 2, none⟩ n2).heap[g]? = some (.cells #[n0, n1, n2] t (0, 0)) := blk_set q2 2 n2
  refine ⟨_, rfl, q3, fun i hi => ?_, fun B a hb hbg => (((hb.setCell (p := ⟨g, 0, none⟩) hbg n0).setCell (p := ⟨g, 1, none⟩) hbg n1).setCell (p := ⟨g, 2, none⟩) hbg n2)⟩
  simp [Below.heap_setCell, hi]
set_option maxRecDepth 100000 in
set_option maxHeartbeats 3200000 in
theorem refEntryOf_any (s : ByteArray) (hS : s.size ≤ 9223372036854775807) (w : World) :
    Calls Try.prog 26 #[.string s] w fun e w' => e = .returned (.tuple #[entryVal (entryOfSpec s).1 (entryOfSpec s).2.1 (entryOfSpec s).2.2.1, .int .i64 (entryOfSpec s).2.2.2]) ∧ Below w.heap.size w w' := by
  have hu := Try.underlying37
  by_cases hsz : s.size = 28
  case neg =>
    obtain ⟨n, hn0, hn, hsp⟩ : ∃ n : Int, (n != 0) = true ∧ (if 28 < s.size then (4 : Int) else if s.size < 28 then 3 else 0) = n ∧ entryOfSpec s = (⟨#[]⟩, 0, 0, n) := by
      by_cases h1 : 28 < s.size
      · exact ⟨4, rfl, by rw [if_pos h1], by rw [entryOfSpec, if_pos h1]⟩
      · have h2 : s.size < 28 := by omega
        exact ⟨3, rfl, by rw [if_neg h1, if_pos h2], by rw [entryOfSpec, if_neg h1, if_pos h2]⟩
    have HN := Lib.hid hn
    have HSP := Lib.hid hsp
    clear hn hsp
    go_enter Try.func26, Try.ntmps26
    go_wp2_with fail
    refine (sized_any s 28 (by omega) _).mono ?_
    rw [HN.out]
    rintro e w1 ⟨rfl, rfl⟩
    go_wp2
    refine bodyPost_ret (v := .tuple #[entryVal ⟨#[]⟩ 0 0, .int .i64 n]) (by simp [results, Try.results26, go_sem, entryVal]) rfl ?_
    rw [HSP.out]
    exact ⟨rfl, (Below.refl _ w).alloc (Nat.le_refl _) _⟩
  have hn : (if 28 < s.size then (4 : Int) else if s.size < 28 then 3 else 0) = 0 := by rw [if_neg (by omega), if_neg (by omega)]
  have h0 : 0 < s.size := by omega
  obtain ⟨N, hN⟩ : ∃ N : Nat, (s[0]'h0).toNat = N := ⟨_, rfl⟩
  have hN255 : N ≤ 255 := by have := UInt8.toNat_lt (s[0]'h0); omega
  have hspec : entryOfSpec s = if 19 < N then (⟨#[]⟩, 0, 0, 5) else if allZero (s.extract (1 + N) 20) = false ∨ (N = 0 ∧ (num s 20 4 ≠ 0 ∨ num s 24 4 ≠ 0)) then (⟨#[]⟩, 0, 0, 5) else (s.extract 1 (1 + N), num s 20 4, num s 24 4, 0) := by
    rw [entryOfSpec, if_neg (by omega), if_neg (by omega), num_one s h0, hN, Int.toNat_natCast]
  have hwN : IntKind.i64.wrap (N : Int) = (N : Int) := IntWalk.i64_in _ (by omega)
  have hwN1 : IntKind.i64.wrap (1 + (N : Int)) = 1 + (N : Int) := IntWalk.i64_in _ (by omega)
  have HN := Lib.hid hn
  have HS := Lib.hid hS
  have HSPEC := Lib.hid hspec
  clear hn hS hspec
  by_cases h19 : 19 < N
  · have hsp : entryOfSpec s = (⟨#[]⟩, 0, 0, 5) := by rw [HSPEC.out, if_pos h19]
    have HSP := Lib.hid hsp
    have hb : ((19 : Int) < (N : Int)) = True := by simp; omega
    clear hsp HSPEC
    go_enter Try.func26, Try.ntmps26
    go_wp2_with fail
    refine (sized_any s 28 (by omega) _).mono ?_
    rw [HN.out]
    rintro e w1 ⟨rfl, rfl⟩
    go_wp2_with fail
    go_quiet (fail)
    obtain ⟨w2, hw2⟩ : ∃ w2, (w.alloc (.cells #[.string ⟨#[]⟩, .int .i64 0, .int .i64 0] 37)).drewN nq = w2 := ⟨_, rfl⟩
    rw [hw2]
    have b0 : w2.heap[w.heap.size]? = some (.cells #[.string ⟨#[]⟩, .int .i64 0, .int .i64 0] 37) := by
      rw [← hw2]
      exact heap_alloc_new w _
    have hBB : Below w.heap.size w w2 := by
      rw [← hw2]
      exact bdrewN ((Below.refl _ w).alloc (Nat.le_refl _) _) nq
    clear hw2
    have c0 := blk_cell b0 0
    have z0 := blk_frozen b0 0
    have c1 := blk_cell b0 1
    have z1 := blk_frozen b0 1
    have c2 := blk_cell b0 2
    have z2 := blk_frozen b0 2
    have l0 := blk_lt b0
    have HB0 := Lib.hid b0
    have HBB := Lib.hid hBB
    clear b0 hBB
    obtain ⟨W, hW, j0, _, hB⟩ := sets3 (.string ⟨#[]⟩) (.int .i64 0) (.int .i64 0) (W := w2) HB0.out
    have hB := hB _ _ HBB.out (Nat.le_refl _)
    have d0 := blk_cell j0 0
    have d1 := blk_cell j0 1
    have d2 := blk_cell j0 2
    go_wp2
    clear hW j0
    refine bodyPost_ret (v := .tuple #[entryVal ⟨#[]⟩ 0 0, .int .i64 5]) (by simp [results, Try.results26, go_sem, entryVal, d0, d1, d2]) rfl ?_
    rw [HSP.out]
    exact ⟨rfl, hB⟩
  · have hle : (N : Int) ≤ 19 := by omega
    have hb : ¬ (19 : Int) < (N : Int) := by omega
    have hbf : ((19 : Int) < (N : Int)) = False := by simp; omega
    have hbd : decide ((19 : Int) < (N : Int)) = false := by simp; omega
    have q1 : (0 : Int) ≤ 1 + (N : Int) := by omega
    have q2 : 1 + (N : Int) ≤ 20 := by omega
    have q3 : (1 + (N : Int)).toNat = 1 + N := by omega
    have q4 : (1 : Int) ≤ 1 + (N : Int) := by omega
    have q5 : 1 + (N : Int) ≤ 28 := by omega
    have hw19 : IntKind.i64.wrap (19 - (N : Int)) = 19 - (N : Int) := IntWalk.i64_in _ (by omega)
    obtain ⟨x, hx⟩ : ∃ x, x = s.extract (1 + N) 20 := ⟨_, rfl⟩
    have hxs : x.size = 19 - N := by rw [hx, ByteArray.size_extract]; omega
    have hz := allZero_iff x
    rw [hxs] at hz
    obtain ⟨z, hzz⟩ : ∃ z, z = strOfNums (List.replicate (19 - N) 0) := ⟨_, rfl⟩
    rw [← hzz] at hz
    have hspec : entryOfSpec s = if allZero x = false ∨ (N = 0 ∧ (num s 20 4 ≠ 0 ∨ num s 24 4 ≠ 0)) then (⟨#[]⟩, 0, 0, 5) else (s.extract 1 (1 + N), num s 20 4, num s 24 4, 0) := by rw [HSPEC.out, if_neg h19, ← hx]
    have hzz' : strOfNums (List.replicate (19 - (N : Int)).toNat 0) = z := by rw [hzz]; congr 2; omega
    have HZZ := Lib.hid hzz'
    have HSP0 := Lib.hid hspec
    have HXX := Lib.hid hx
    have hx' := hx.symm
    clear hspec HSPEC hx hxs hzz hzz'
    by_cases hr : allZero x = false
    · have hsp : entryOfSpec s = (⟨#[]⟩, 0, 0, 5) := by rw [HSP0.out, if_pos (.inl hr)]
      have HSP := Lib.hid hsp
      have hc : (x.toList == z.toList) = false := by
        rw [beq_eq_false_iff_ne]
        exact fun h => by
          rw [hz.mpr (ByteArray.ext (Array.toList_inj.mp (by rw [← ByteArray.toList_eq, ← ByteArray.toList_eq]; exact h)))] at hr
          cases hr
      clear hsp hr hz HSP0
      go_enter Try.func26, Try.ntmps26
      go_wp2_with fail
      refine (sized_any s 28 (by omega) _).mono ?_
      rw [HN.out]
      rintro e w1 ⟨rfl, rfl⟩
      go_wp2_with fail
      go_region_held3 (fun w' => True) (first | go_keep | trivial)
        ((go_at_call 42; refine (Noughts_any (19 - (N : Int)) (by omega) (by omega) _).mono ?_; rw [HZZ.out]; rintro e w2 ⟨rfl, hb2⟩))
      have hB4 : Below (w.alloc (.cells #[.string ⟨#[]⟩, .int .i64 0, .int .i64 0] 37)).heap.size (w.alloc (.cells #[.string ⟨#[]⟩, .int .i64 0, .int .i64 0] 37)) w2 := (bdrewN (Below.refl _ _) 1).trans hb2
      have b0 : w2.heap[w.heap.size]? = some (.cells #[.string ⟨#[]⟩, .int .i64 0, .int .i64 0] 37) := (hB4.block _ (by simp)).trans (heap_alloc_new w _)
      have hBB := ((Below.refl _ w).alloc (Nat.le_refl _) _).trans (hB4.mono (by simp))
      clear hb2 hB4
      have c0 := blk_cell b0 0
      have z0 := blk_frozen b0 0
      have c1 := blk_cell b0 1
      have z1 := blk_frozen b0 1
      have c2 := blk_cell b0 2
      have z2 := blk_frozen b0 2
      have l0 := blk_lt b0
      have HB0 := Lib.hid b0
      have HBB := Lib.hid hBB
      clear b0 hBB
      obtain ⟨W, hW, j0, _, hB⟩ := sets3 (.string ⟨#[]⟩) (.int .i64 0) (.int .i64 0) (W := w2) HB0.out
      have hB := hB _ _ HBB.out (Nat.le_refl _)
      have d0 := blk_cell j0 0
      have d1 := blk_cell j0 1
      have d2 := blk_cell j0 2
      go_wp2
      clear hW j0
      refine bodyPost_ret (v := .tuple #[entryVal ⟨#[]⟩ 0 0, .int .i64 5]) (by simp [results, Try.results26, go_sem, entryVal, d0, d1, d2]) rfl ?_
      rw [HSP.out]
      exact ⟨rfl, hB⟩
    · have hc : (x.toList == z.toList) = true := by rw [hz.mp (by simpa using hr)]; simp
      have hr' : allZero x = true := by simpa using hr
      have HSZ := Lib.hid hsz
      clear hr hz
      have hspec : entryOfSpec s = if N = 0 ∧ (num s 20 4 ≠ 0 ∨ num s 24 4 ≠ 0) then (⟨#[]⟩, 0, 0, 5) else (s.extract 1 (1 + N), num s 20 4, num s 24 4, 0) := by rw [HSP0.out, hr']; simp
      have HSP1 := Lib.hid hspec
      clear hspec HSP0 hr'
      go_enter Try.func26, Try.ntmps26
      go_wp2_with fail
      refine (sized_any s 28 (by omega) _).mono ?_
      rw [HN.out]
      rintro e w1 ⟨rfl, rfl⟩
      go_wp2_with fail
      go_region_held3 (fun w' => True) (first | go_keep | trivial)
        ((go_at_call 42; refine (Noughts_any (19 - (N : Int)) (by omega) (by omega) _).mono ?_; rw [HZZ.out]; rintro e w2 ⟨rfl, hb2⟩))
      have hB4 : Below (w.alloc (.cells #[.string ⟨#[]⟩, .int .i64 0, .int .i64 0] 37)).heap.size (w.alloc (.cells #[.string ⟨#[]⟩, .int .i64 0, .int .i64 0] 37)) w2 := (bdrewN (Below.refl _ _) 1).trans hb2
      have HWB := Lib.hid hB4
      clear hB4 hb2
      go_wp2_with fail
      refine (read_any s 20 _ [4, 4] HS.out _ (Row.lit (get_top rfl) 2 rfl (by unfold maxLen; omega)) (by simp) (by simp) (by rw [HSZ.out]; decide)).mono ?_
      rintro e w4 ⟨v, rfl, hL⟩
      rw [show numsAt s 20 [4, 4] = [num s 20 4, num s 24 4] from rfl] at hL
      generalize num s 20 4 = n1 at *
      generalize num s 24 4 = n2 at *
      have hB4 := (HWB.out.alloc HWB.out.size _).trans (hL.below.mono (by have := HWB.out.size; simp at this ⊢; omega))
      have b0 : w4.heap[w.heap.size]? = some (.cells #[.string ⟨#[]⟩, .int .i64 0, .int .i64 0] 37) := (hB4.block _ (by simp)).trans (heap_alloc_new w _)
      have hBB := ((Below.refl _ w).alloc (Nat.le_refl _) _).trans (hB4.mono (by simp))
      obtain ⟨g, cap, rfl, _, hg⟩ := hL.row.form_pos (by simp)
      have hgw : w.heap.size ≠ g := by
        have h1 := hL.base g rfl
        have h2 := HWB.out.size
        simp at h1 h2
        omega
      have hwg : g ≠ w.heap.size := Ne.symm hgw
      have k0 := hL.row.cells 0 (.int .i64 n1) rfl
      have k1 := hL.row.cells 1 (.int .i64 n2) rfl
      clear hL HWB hB4
      by_cases hN0 : N = 0
      · by_cases hn1 : n1 = 0
        · by_cases hn2 : n2 = 0
          · have hsp : entryOfSpec s = (s.extract 1 (1 + N), n1, n2, 0) := by rw [HSP1.out, if_neg (by simp [hn1, hn2])]
            have HSP := Lib.hid hsp
            have f0 : ((N : Int) == 0) = true := by simp [hN0]
            have f1 : (n1 != 0) = false := by simp [hn1]
            have f2 : (n2 != 0) = false := by simp [hn2]
            clear hsp HSP1 hN0 hn1 hn2
            have c0 := blk_cell b0 0
            have z0 := blk_frozen b0 0
            have c1 := blk_cell b0 1
            have z1 := blk_frozen b0 1
            have c2 := blk_cell b0 2
            have z2 := blk_frozen b0 2
            have l0 := blk_lt b0
            have HB0 := Lib.hid b0
            have HBB := Lib.hid hBB
            clear b0 hBB
            go_wp2_with fail
            go_still_tail 11, (by kernel_rfl)
            change wpList _ _ _ _ _ w4.drew
            obtain ⟨W, hW, j0, _, hB⟩ := sets3 (.string (s.extract 1 (1 + N))) (.int .i64 n1) (.int .i64 n2) (W := w4) HB0.out
            have hB := hB _ _ HBB.out (Nat.le_refl _)
            have d0 := blk_cell j0 0
            have d1 := blk_cell j0 1
            have d2 := blk_cell j0 2
            go_wp2
            clear hW j0
            refine bodyPost_ret (v := .tuple #[entryVal (s.extract 1 (1 + N)) n1 n2, .int .i64 0]) (by simp [results, Try.results26, go_sem, entryVal, d0, d1, d2]) rfl ?_
            rw [HSP.out]
            exact ⟨rfl, hB.drew⟩
          · have hsp : entryOfSpec s = (⟨#[]⟩, 0, 0, 5) := by rw [HSP1.out, if_pos ⟨hN0, .inr hn2⟩]
            have HSP := Lib.hid hsp
            have f0 : ((N : Int) == 0) = true := by simp [hN0]
            have f1 : (n1 != 0) = false := by simp [hn1]
            have f2 : (n2 != 0) = true := by simp [hn2]
            clear hsp HSP1 hN0 hn1 hn2
            have c0 := blk_cell b0 0
            have z0 := blk_frozen b0 0
            have c1 := blk_cell b0 1
            have z1 := blk_frozen b0 1
            have c2 := blk_cell b0 2
            have z2 := blk_frozen b0 2
            have l0 := blk_lt b0
            have HB0 := Lib.hid b0
            have HBB := Lib.hid hBB
            clear b0 hBB
            obtain ⟨W, hW, j0, _, hB⟩ := sets3 (.string ⟨#[]⟩) (.int .i64 0) (.int .i64 0) (W := w4) HB0.out
            have hB := hB _ _ HBB.out (Nat.le_refl _)
            have d0 := blk_cell j0 0
            have d1 := blk_cell j0 1
            have d2 := blk_cell j0 2
            go_wp2
            clear hW j0
            refine bodyPost_ret (v := .tuple #[entryVal ⟨#[]⟩ 0 0, .int .i64 5]) (by simp [results, Try.results26, go_sem, entryVal, d0, d1, d2]) rfl ?_
            rw [HSP.out]
            exact ⟨rfl, hB⟩
        · have hsp : entryOfSpec s = (⟨#[]⟩, 0, 0, 5) := by rw [HSP1.out, if_pos ⟨hN0, .inl hn1⟩]
          have HSP := Lib.hid hsp
          have f0 : ((N : Int) == 0) = true := by simp [hN0]
          have f1 : (n1 != 0) = true := by simp [hn1]
          clear hsp HSP1 hN0 hn1
          have c0 := blk_cell b0 0
          have z0 := blk_frozen b0 0
          have c1 := blk_cell b0 1
          have z1 := blk_frozen b0 1
          have c2 := blk_cell b0 2
          have z2 := blk_frozen b0 2
          have l0 := blk_lt b0
          have HB0 := Lib.hid b0
          have HBB := Lib.hid hBB
          clear b0 hBB
          obtain ⟨W, hW, j0, _, hB⟩ := sets3 (.string ⟨#[]⟩) (.int .i64 0) (.int .i64 0) (W := w4) HB0.out
          have hB := hB _ _ HBB.out (Nat.le_refl _)
          have d0 := blk_cell j0 0
          have d1 := blk_cell j0 1
          have d2 := blk_cell j0 2
          go_wp2
          clear hW j0
          refine bodyPost_ret (v := .tuple #[entryVal ⟨#[]⟩ 0 0, .int .i64 5]) (by simp [results, Try.results26, go_sem, entryVal, d0, d1, d2]) rfl ?_
          rw [HSP.out]
          exact ⟨rfl, hB⟩
      · have hsp : entryOfSpec s = (s.extract 1 (1 + N), n1, n2, 0) := by rw [HSP1.out, if_neg (by simp [hN0])]
        have HSP := Lib.hid hsp
        have f0 : ((N : Int) == 0) = false := by simp [hN0]
        clear hsp HSP1 hN0
        have c0 := blk_cell b0 0
        have z0 := blk_frozen b0 0
        have c1 := blk_cell b0 1
        have z1 := blk_frozen b0 1
        have c2 := blk_cell b0 2
        have z2 := blk_frozen b0 2
        have l0 := blk_lt b0
        have HB0 := Lib.hid b0
        have HBB := Lib.hid hBB
        clear b0 hBB
        go_wp2_with fail
        go_still_tail 11, (by kernel_rfl)
        change wpList _ _ _ _ _ w4.drew
        obtain ⟨W, hW, j0, _, hB⟩ := sets3 (.string (s.extract 1 (1 + N))) (.int .i64 n1) (.int .i64 n2) (W := w4) HB0.out
        have hB := hB _ _ HBB.out (Nat.le_refl _)
        have d0 := blk_cell j0 0
        have d1 := blk_cell j0 1
        have d2 := blk_cell j0 2
        go_wp2
        clear hW j0
        refine bodyPost_ret (v := .tuple #[entryVal (s.extract 1 (1 + N)) n1 n2, .int .i64 0]) (by simp [results, Try.results26, go_sem, entryVal, d0, d1, d2]) rfl ?_
        rw [HSP.out]
        exact ⟨rfl, hB.drew⟩
theorem takeH {P : Program} {md : Region.Mode} {ops : Array Oper} {Q : Exit → Act → World → Prop} {S : World → Prop} {i : Nat} {N : Option Tmp} {oi : Oper} {v : Value} {fuel : Nat} {listed : Array Bool} {a : Act} {w : World}
    (hi : ops[i]? = some oi) (hN : oi.dst = N) (hs : Region.noSelect ops = true) (hf : Region.free md ops listed i = true) (hr : (Region.ready md ops listed).contains i = true)
    (hQ : ∀ c a w, Q (.panic c) (a.put N v) w → Q (.panic c) a w) (hy : YieldsIf P ops S oi v a) (hS : S w)
    (h : wpAnyH P md ops Q S fuel (listed.setIfInBounds i true) (a.put N v) w) : wpAnyH P md ops Q S (fuel + 1) listed a w := by
  subst hN
  exact wpAnyH_take hi hs hf hr hQ hy hS h
theorem conv_one {W : World} {g : Nat} {n : Int} (h : W.cell? ⟨g, 0, none⟩ = some (.int .u8 n)) : (convert 44 9 (.slice (some ⟨g, 0, none⟩) 1 1)).run Try.prog W = .ok (.string (strOfNums [n])) W :=
  run_convert_bytes_arg W 44 5 Try.underlying44 Try.underlying5 g 0 1 1 [n] rfl (fun i hi => by
    obtain rfl : i = 0 := Nat.lt_one_iff.mp hi
    exact h) 9 Try.underlying9
theorem below_al3 (w : World) (o1 o2 o3 : Obj) {w1 : World} (h : Below (((w.alloc o1).alloc o2).alloc o3).heap.size (((w.alloc o1).alloc o2).alloc o3) w1) : Below w.heap.size w w1 :=
  ((((Below.refl _ w).alloc (Nat.le_refl _) o1).alloc (by simp) o2).alloc (by simp; omega) o3).trans (h.mono (by simp; omega))
theorem conv_later {W w2 : World} {n : Int} (hb : Below (W.alloc (.cells #[.int .u8 n] 5)).drew.heap.size (W.alloc (.cells #[.int .u8 n] 5)).drew w2) : (convert 44 9 (.slice (some ⟨W.heap.size, 0, none⟩) 1 1)).run Try.prog w2 = .ok (.string (strOfNums [n])) w2 :=
  conv_one ((hb.cell (p := ⟨W.heap.size, 0, none⟩) (by simp)).trans (by simp [go_sem]))
set_option maxRecDepth 100000 in
set_option maxHeartbeats 1600000 in
theorem refEntry_some (s : ByteArray) (a1 a2 : Int) (h19 : ¬ 19 < s.size) (h0 : ¬ s.size = 0) (hi : ∀ x ∈ [a1, a2], -9223372036854775808 ≤ x ∧ x ≤ 9223372036854775807) (w : World) :
    Calls Try.prog 30 #[.agg #[.string s, .int .i64 a1, .int .i64 a2]] w fun e w' => e = .returned (.tuple #[.string (entrySpec s a1 a2).1, .int .i64 (entrySpec s a1 a2).2]) ∧ Below w.heap.size w w' := by
  have hu := Try.underlying37
  have HR := Lib.hid hi
  clear hi
  have he : ¬ s.toList = [] := by
    intro h
    rw [ByteArray.toList_eq] at h
    exact h0 (by rw [← bytesOf_length, bytesOf, h]; rfl)
  by_cases hgood : good (entryFs a1 a2) = true
  · have hld : laidSpec (sides [a1, a2] [4, 4]) = (strOfNums (lay (entryFs a1 a2)), true) := by
      rw [laidSpec, show sides [a1, a2] [4, 4] = entryFs a1 a2 from rfl, if_pos hgood]
    have hs : entrySpec s a1 a2 = (strOfNums [(s.size : Int)] ++ s ++ strOfNums (List.replicate (19 - s.size) 0) ++ strOfNums (lay (entryFs a1 a2)), 0) := by
      rw [entrySpec, if_neg (by omega), if_neg (fun h => h0 h.1), if_pos hgood, entryXs, strOfNums_append, strOfNums_append, strOfNums_append, strOfNums_bytesOf]
    obtain ⟨x, hx⟩ : ∃ x, x = strOfNums (lay (entryFs a1 a2)) := ⟨_, rfl⟩
    have hxs : x.size ≤ 8 := by rw [hx, strOfNums_size, lay_length]; simp [entryFs]
    obtain ⟨z, hz⟩ : ∃ z, z = strOfNums (List.replicate (19 - s.size) (0 : Int)) := ⟨_, rfl⟩
    have hzs : z.size ≤ 19 := by rw [hz, strOfNums_size, List.length_replicate]; omega
    obtain ⟨o, ho⟩ : ∃ o, o = strOfNums [(s.size : Int)] := ⟨_, rfl⟩
    have hos : o.size ≤ 1 := by rw [ho, strOfNums_size]; simp
    have hconv : ∀ W g, World.cell? W ⟨g, 0, none⟩ = some (.int .u8 (s.size : Int)) → (convert 44 9 (.slice (some ⟨g, 0, none⟩) 1 1)).run Try.prog W = .ok (.string o) W := fun W g h => by rw [ho]; exact conv_one h
    have hconv1 : ∀ (W : World) n, (convert 44 9 (.slice (some ⟨W.heap.size, 0, none⟩) 1 1)).run Try.prog ((W.alloc (.cells #[.int .u8 (s.size : Int)] 5)).drewN n) = .ok (.string o) ((W.alloc (.cells #[.int .u8 (s.size : Int)] 5)).drewN n) := fun W n => hconv _ _ (by simp [go_sem])
    have hconv2 : ∀ W : World, (convert 44 9 (.slice (some ⟨W.heap.size, 0, none⟩) 1 1)).run Try.prog (W.alloc (.cells #[.int .u8 (s.size : Int)] 5)) = .ok (.string o) (W.alloc (.cells #[.int .u8 (s.size : Int)] 5)) := fun W => hconv _ _ (by simp [go_sem])
    have hconv3 : ∀ W : World, (convert 44 9 (.slice (some ⟨W.heap.size, 0, none⟩) 1 1)).run Try.prog (W.alloc (.cells #[.int .u8 (s.size : Int)] 5)).drew = .ok (.string o) (W.alloc (.cells #[.int .u8 (s.size : Int)] 5)).drew := fun W => hconv _ _ (by simp [go_sem])
    rw [← hx] at hld hs
    rw [← hz, ← ho] at hs
    have HZ := Lib.hid hz
    have HLD := Lib.hid hld
    have HS := Lib.hid hs
    have q1 : (9223372036854775807 < o.size + s.size) = False := by simp; omega
    have q2 : (9223372036854775807 < o.size + s.size + z.size) = False := by simp; omega
    have q3 : (9223372036854775807 < o.size + s.size + z.size + x.size) = False := by simp; omega
    have hu8 : IntKind.u8.wrap (s.size : Int) = (s.size : Int) := by rw [IntKind.wrap_u8]; omega
    have hsub : IntKind.i64.wrap (19 - (s.size : Int)) = 19 - (s.size : Int) := IntWalk.i64_in _ (by omega)
    clear hld hs hx hgood hz
    have HO := Lib.hid ho
    clear ho
    go_enter Try.func30, Try.ntmps30
    go_wp2_with fail
    refine (laid_any _ _ [a1, a2] [4, 4] _ (by repeat (first | refine Row.drew ?_ | exact Row.lit (get_top (by simp)) 2 rfl (by decide) | exact Row.lit (get_below (get_top (by simp))) 2 rfl (by decide))) (by repeat (first | refine Row.drew ?_ | exact Row.lit (get_top (by simp)) 2 rfl (by decide) | exact Row.lit (get_below (get_top (by simp))) 2 rfl (by decide))) rfl (by simp) HR.out (by decide)).mono ?_
    rw [HLD.out]
    rintro e w1 ⟨rfl, hb⟩
    have HB := Lib.hid hb
    have hblk : w1.heap[w.heap.size]? = some (.cells #[.string s, .int .i64 a1, .int .i64 a2] 37 (0, 0)) := (hb.block _ (by simp; omega)).trans (get_below (get_below (get_top rfl)))
    have cp := blk_cell hblk 0
    have hpl := blk_lt hblk
    have HB1 := Lib.hid (below_al3 w _ _ _ hb)
    clear hb hblk
    go_wp2_with fail
    refine wp_region_held_drew (S := (fun w' => w'.cell? ⟨w.heap.size, 0, none⟩ = some (.string s))) (by kernel_rfl) ?_ (fun hHeld => ?_)
    · (try dsimp only); first | go_keep | (rw [hb2.cell (by simp <;> omega)]; assumption)
    refine takeH (i := 0) (N := some 35) (v := ?_) rfl rfl (by kernel_rfl) (by kernel_rfl) (by kernel_rfl) (fun _ _ _ h => h) (Or.inl ⟨by rfl, ?_⟩) (by assumption) ?_
    rotate_left
    · intro w' hSw; (try dsimp only at hSw); go_simp; with_reducible rfl
    try simp only [Act.put, List.setIfInBounds_toArray, List.set_cons_zero, List.set_cons_succ]
    refine takeH (i := 1) (N := some 36) (v := ?_) rfl rfl (by kernel_rfl) (by kernel_rfl) (by kernel_rfl) (fun _ _ _ h => h) (Or.inl ⟨by rfl, ?_⟩) (by assumption) ?_
    rotate_left
    · intro w' hSw; (try dsimp only at hSw); go_simp; with_reducible rfl
    try simp only [Act.put, List.setIfInBounds_toArray, List.set_cons_zero, List.set_cons_succ]
    refine takeH (i := 2) (N := some 37) (v := ?_) rfl rfl (by kernel_rfl) (by kernel_rfl) (by kernel_rfl) (fun _ _ _ h => h) (Or.inl ⟨by rfl, ?_⟩) (by assumption) ?_
    rotate_left
    · intro w' hSw; (try dsimp only at hSw); go_simp; with_reducible rfl
    try simp only [Act.put, List.setIfInBounds_toArray, List.set_cons_zero, List.set_cons_succ]
    refine takeH (i := 3) (N := some 38) (v := ?_) rfl rfl (by kernel_rfl) (by kernel_rfl) (by kernel_rfl) (fun _ _ _ h => h) (Or.inl ⟨by rfl, ?_⟩) (by assumption) ?_
    rotate_left
    · intro w' hSw; (try dsimp only at hSw); go_simp; with_reducible rfl
    try simp only [Act.put, List.setIfInBounds_toArray, List.set_cons_zero, List.set_cons_succ]
    refine takeH (i := 6) (N := some 41) (v := ?_) rfl rfl (by kernel_rfl) (by kernel_rfl) (by kernel_rfl) (fun _ _ _ h => h) (Or.inl ⟨by rfl, ?_⟩) (by assumption) ?_
    rotate_left
    · intro w' hSw; (try dsimp only at hSw); go_simp; with_reducible rfl
    try simp only [Act.put, List.setIfInBounds_toArray, List.set_cons_zero, List.set_cons_succ]
    refine takeH (i := 7) (N := some 42) (v := ?_) rfl rfl (by kernel_rfl) (by kernel_rfl) (by kernel_rfl) (fun _ _ _ h => h) (Or.inl ⟨by rfl, ?_⟩) (by assumption) ?_
    rotate_left
    · intro w' hSw; (try dsimp only at hSw); go_simp; with_reducible rfl
    try simp only [Act.put, List.setIfInBounds_toArray, List.set_cons_zero, List.set_cons_succ]
    refine takeH (i := 9) (N := some 44) (v := ?_) rfl rfl (by kernel_rfl) (by kernel_rfl) (by kernel_rfl) (fun _ _ _ h => h) (Or.inl ⟨by rfl, ?_⟩) (by assumption) ?_
    rotate_left
    · intro w' hSw; (try dsimp only at hSw); go_simp; with_reducible rfl
    try simp only [Act.put, List.setIfInBounds_toArray, List.set_cons_zero, List.set_cons_succ]
    refine takeH (i := 10) (N := some 45) (v := ?_) rfl rfl (by kernel_rfl) (by kernel_rfl) (by kernel_rfl) (fun _ _ _ h => h) (Or.inl ⟨by rfl, ?_⟩) (by assumption) ?_
    rotate_left
    · intro w' hSw; (try dsimp only at hSw); go_simp; with_reducible rfl
    try simp only [Act.put, List.setIfInBounds_toArray, List.set_cons_zero, List.set_cons_succ]
    refine takeH (i := 11) (N := some 46) (v := ?_) rfl rfl (by kernel_rfl) (by kernel_rfl) (by kernel_rfl) (fun _ _ _ h => h) (Or.inl ⟨by rfl, ?_⟩) (by assumption) ?_
    rotate_left
    · intro w' hSw; (try dsimp only at hSw); go_simp; with_reducible rfl
    try simp only [Act.put, List.setIfInBounds_toArray, List.set_cons_zero, List.set_cons_succ]
    refine takeH (i := 12) (N := some 47) (v := ?_) rfl rfl (by kernel_rfl) (by kernel_rfl) (by kernel_rfl) (fun _ _ _ h => h) (Or.inl ⟨by rfl, ?_⟩) (by assumption) ?_
    rotate_left
    · intro w' hSw; (try dsimp only at hSw); go_simp; with_reducible rfl
    try simp only [Act.put, List.setIfInBounds_toArray, List.set_cons_zero, List.set_cons_succ]
    refine takeH (i := 15) (N := some 50) (v := ?_) rfl rfl (by kernel_rfl) (by kernel_rfl) (by kernel_rfl) (fun _ _ _ h => h) (Or.inl ⟨by rfl, ?_⟩) (by assumption) ?_
    rotate_left
    · intro w' hSw; (try dsimp only at hSw); go_simp; with_reducible rfl
    try simp only [Act.put, List.setIfInBounds_toArray, List.set_cons_zero, List.set_cons_succ]
    refine wpAnyH_ready (rs := [4, 13]) (by kernel_rfl) (by simp) ?_
    refine AllReadyH.cons rfl (fun K hK => ?_) ?_
    · go_simp
      refine hK.out _ _ ?_ (fun hHeld => ?_)
      · (try dsimp only); first | go_keep | (rw [hb2.cell (by simp <;> omega)]; assumption)
      clear hK K
      try simp only [Act.put, List.setIfInBounds_toArray, List.set_cons_zero, List.set_cons_succ]
      refine wpAnyH_ready (rs := [5, 13]) (by kernel_rfl) (by simp) ?_
      refine AllReadyH.cons rfl (fun K hK => ?_) ?_
      · go_simp
        refine hK.out _ _ ?_ (fun hHeld => ?_)
        · (try dsimp only); first | go_keep | (rw [hb2.cell (by simp <;> omega)]; assumption)
        clear hK K
        try simp only [Act.put, List.setIfInBounds_toArray, List.set_cons_zero, List.set_cons_succ]
        refine takeH (i := 8) (N := some 43) (v := ?_) rfl rfl (by kernel_rfl) (by kernel_rfl) (by kernel_rfl) (fun _ _ _ h => h) (Or.inl ⟨by rfl, ?_⟩) (by assumption) ?_
        rotate_left
        · intro w' hSw; (try dsimp only at hSw); go_simp; with_reducible rfl
        try simp only [Act.put, List.setIfInBounds_toArray, List.set_cons_zero, List.set_cons_succ]
        refine wpAnyH_ready (rs := [13]) (by kernel_rfl) (by simp) ?_
        refine AllReadyH.cons rfl (fun K hK => ?_) ?_
        · go_simp; go_at_call 42; refine (Noughts_any (19 - (s.size : Int)) (by omega) (by omega) _).mono ?_; rw [show strOfNums (List.replicate (19 - (s.size : Int)).toNat 0) = z from by rw [HZ.out]; congr 2; omega]; rintro e w2 ⟨rfl, hb2⟩; have hq := hb2.cell (p := ⟨w.heap.size, 0, none⟩) (by simp <;> omega); try (with_reducible have hq3 := conv_later hb2); try (rw [← HO.out] at hq3)
          refine hK.out _ _ ?_ (fun hHeld => ?_)
          · (try dsimp only); first | go_keep | (rw [hb2.cell (by simp <;> omega)]; assumption)
          clear hK K
          try simp only [Act.put, List.setIfInBounds_toArray, List.set_cons_zero, List.set_cons_succ]
          refine takeH (i := 14) (N := some 49) (v := ?_) rfl rfl (by kernel_rfl) (by kernel_rfl) (by kernel_rfl) (fun _ _ _ h => h) (Or.inl ⟨by rfl, ?_⟩) (by assumption) ?_
          rotate_left
          · intro w' hSw; (try dsimp only at hSw); go_simp; with_reducible rfl
          try simp only [Act.put, List.setIfInBounds_toArray, List.set_cons_zero, List.set_cons_succ]
          refine takeH (i := 16) (N := some 51) (v := ?_) rfl rfl (by kernel_rfl) (by kernel_rfl) (by kernel_rfl) (fun _ _ _ h => h) (Or.inl ⟨by rfl, ?_⟩) (by assumption) ?_
          rotate_left
          · intro w' hSw; (try dsimp only at hSw); go_simp; with_reducible rfl
          try simp only [Act.put, List.setIfInBounds_toArray, List.set_cons_zero, List.set_cons_succ]
          refine takeH (i := 17) (N := some 2) (v := ?_) rfl rfl (by kernel_rfl) (by kernel_rfl) (by kernel_rfl) (fun _ _ _ h => h) (Or.inl ⟨by rfl, ?_⟩) (by assumption) ?_
          rotate_left
          · intro w' hSw; (try dsimp only at hSw); go_simp; with_reducible rfl
          try simp only [Act.put, List.setIfInBounds_toArray, List.set_cons_zero, List.set_cons_succ]
          refine takeH (i := 18) (N := some 3) (v := ?_) rfl rfl (by kernel_rfl) (by kernel_rfl) (by kernel_rfl) (fun _ _ _ h => h) (Or.inl ⟨by rfl, ?_⟩) (by assumption) ?_
          rotate_left
          · intro w' hSw; (try dsimp only at hSw); go_simp; with_reducible rfl
          try simp only [Act.put, List.setIfInBounds_toArray, List.set_cons_zero, List.set_cons_succ]
          refine wpAnyH_done (by kernel_rfl) ?_ _
          go_wp2_with fail
          go_ret2
          rw [HS.out]
          exact ⟨rfl, by first | exact ((HB1.out.alloc HB1.out.size _).drew.trans (hb2.mono (by have := HB1.out.size; simp; omega))) | exact (HB1.out.drew.trans (hb2.mono HB1.out.size)).alloc (Nat.le_trans HB1.out.size hb2.size) _⟩
        exact AllReadyH.nil
      refine AllReadyH.cons rfl (fun K hK => ?_) ?_
      · go_simp; go_at_call 42; refine (Noughts_any (19 - (s.size : Int)) (by omega) (by omega) _).mono ?_; rw [show strOfNums (List.replicate (19 - (s.size : Int)).toNat 0) = z from by rw [HZ.out]; congr 2; omega]; rintro e w2 ⟨rfl, hb2⟩; have hq := hb2.cell (p := ⟨w.heap.size, 0, none⟩) (by simp <;> omega); try (with_reducible have hq3 := conv_later hb2); try (rw [← HO.out] at hq3)
        refine hK.out _ _ ?_ (fun hHeld => ?_)
        · (try dsimp only); first | go_keep | (rw [hb2.cell (by simp <;> omega)]; assumption)
        clear hK K
        try simp only [Act.put, List.setIfInBounds_toArray, List.set_cons_zero, List.set_cons_succ]
        refine wpAnyH_ready (rs := [5]) (by kernel_rfl) (by simp) ?_
        refine AllReadyH.cons rfl (fun K hK => ?_) ?_
        · go_simp
          refine hK.out _ _ ?_ (fun hHeld => ?_)
          · (try dsimp only); first | go_keep | (rw [hb2.cell (by simp <;> omega)]; assumption)
          clear hK K
          try simp only [Act.put, List.setIfInBounds_toArray, List.set_cons_zero, List.set_cons_succ]
          refine takeH (i := 8) (N := some 43) (v := ?_) rfl rfl (by kernel_rfl) (by kernel_rfl) (by kernel_rfl) (fun _ _ _ h => h) (Or.inl ⟨by rfl, ?_⟩) (by assumption) ?_
          rotate_left
          · intro w' hSw; (try dsimp only at hSw); go_simp; with_reducible rfl
          try simp only [Act.put, List.setIfInBounds_toArray, List.set_cons_zero, List.set_cons_succ]
          refine takeH (i := 14) (N := some 49) (v := ?_) rfl rfl (by kernel_rfl) (by kernel_rfl) (by kernel_rfl) (fun _ _ _ h => h) (Or.inl ⟨by rfl, ?_⟩) (by assumption) ?_
          rotate_left
          · intro w' hSw; (try dsimp only at hSw); go_simp; with_reducible rfl
          try simp only [Act.put, List.setIfInBounds_toArray, List.set_cons_zero, List.set_cons_succ]
          refine takeH (i := 16) (N := some 51) (v := ?_) rfl rfl (by kernel_rfl) (by kernel_rfl) (by kernel_rfl) (fun _ _ _ h => h) (Or.inl ⟨by rfl, ?_⟩) (by assumption) ?_
          rotate_left
          · intro w' hSw; (try dsimp only at hSw); go_simp; with_reducible rfl
          try simp only [Act.put, List.setIfInBounds_toArray, List.set_cons_zero, List.set_cons_succ]
          refine takeH (i := 17) (N := some 2) (v := ?_) rfl rfl (by kernel_rfl) (by kernel_rfl) (by kernel_rfl) (fun _ _ _ h => h) (Or.inl ⟨by rfl, ?_⟩) (by assumption) ?_
          rotate_left
          · intro w' hSw; (try dsimp only at hSw); go_simp; with_reducible rfl
          try simp only [Act.put, List.setIfInBounds_toArray, List.set_cons_zero, List.set_cons_succ]
          refine takeH (i := 18) (N := some 3) (v := ?_) rfl rfl (by kernel_rfl) (by kernel_rfl) (by kernel_rfl) (fun _ _ _ h => h) (Or.inl ⟨by rfl, ?_⟩) (by assumption) ?_
          rotate_left
          · intro w' hSw; (try dsimp only at hSw); go_simp; with_reducible rfl
          try simp only [Act.put, List.setIfInBounds_toArray, List.set_cons_zero, List.set_cons_succ]
          refine wpAnyH_done (by kernel_rfl) ?_ _
          go_wp2_with fail
          go_ret2
          rw [HS.out]
          exact ⟨rfl, by first | exact ((HB1.out.alloc HB1.out.size _).drew.trans (hb2.mono (by have := HB1.out.size; simp; omega))) | exact (HB1.out.drew.trans (hb2.mono HB1.out.size)).alloc (Nat.le_trans HB1.out.size hb2.size) _⟩
        exact AllReadyH.nil
      exact AllReadyH.nil
    refine AllReadyH.cons rfl (fun K hK => ?_) ?_
    · go_simp; go_at_call 42; refine (Noughts_any (19 - (s.size : Int)) (by omega) (by omega) _).mono ?_; rw [show strOfNums (List.replicate (19 - (s.size : Int)).toNat 0) = z from by rw [HZ.out]; congr 2; omega]; rintro e w2 ⟨rfl, hb2⟩; have hq := hb2.cell (p := ⟨w.heap.size, 0, none⟩) (by simp <;> omega); try (with_reducible have hq3 := conv_later hb2); try (rw [← HO.out] at hq3)
      refine hK.out _ _ ?_ (fun hHeld => ?_)
      · (try dsimp only); first | go_keep | (rw [hb2.cell (by simp <;> omega)]; assumption)
      clear hK K
      try simp only [Act.put, List.setIfInBounds_toArray, List.set_cons_zero, List.set_cons_succ]
      refine wpAnyH_ready (rs := [4]) (by kernel_rfl) (by simp) ?_
      refine AllReadyH.cons rfl (fun K hK => ?_) ?_
      · go_simp
        refine hK.out _ _ ?_ (fun hHeld => ?_)
        · (try dsimp only); first | go_keep | (rw [hb2.cell (by simp <;> omega)]; assumption)
        clear hK K
        try simp only [Act.put, List.setIfInBounds_toArray, List.set_cons_zero, List.set_cons_succ]
        refine wpAnyH_ready (rs := [5]) (by kernel_rfl) (by simp) ?_
        refine AllReadyH.cons rfl (fun K hK => ?_) ?_
        · go_simp
          refine hK.out _ _ ?_ (fun hHeld => ?_)
          · (try dsimp only); first | go_keep | (rw [hb2.cell (by simp <;> omega)]; assumption)
          clear hK K
          try simp only [Act.put, List.setIfInBounds_toArray, List.set_cons_zero, List.set_cons_succ]
          refine takeH (i := 8) (N := some 43) (v := ?_) rfl rfl (by kernel_rfl) (by kernel_rfl) (by kernel_rfl) (fun _ _ _ h => h) (Or.inl ⟨by rfl, ?_⟩) (by assumption) ?_
          rotate_left
          · intro w' hSw; (try dsimp only at hSw); go_simp; with_reducible rfl
          try simp only [Act.put, List.setIfInBounds_toArray, List.set_cons_zero, List.set_cons_succ]
          refine takeH (i := 14) (N := some 49) (v := ?_) rfl rfl (by kernel_rfl) (by kernel_rfl) (by kernel_rfl) (fun _ _ _ h => h) (Or.inl ⟨by rfl, ?_⟩) (by assumption) ?_
          rotate_left
          · intro w' hSw; (try dsimp only at hSw); go_simp; with_reducible rfl
          try simp only [Act.put, List.setIfInBounds_toArray, List.set_cons_zero, List.set_cons_succ]
          refine takeH (i := 16) (N := some 51) (v := ?_) rfl rfl (by kernel_rfl) (by kernel_rfl) (by kernel_rfl) (fun _ _ _ h => h) (Or.inl ⟨by rfl, ?_⟩) (by assumption) ?_
          rotate_left
          · intro w' hSw; (try dsimp only at hSw); go_simp; with_reducible rfl
          try simp only [Act.put, List.setIfInBounds_toArray, List.set_cons_zero, List.set_cons_succ]
          refine takeH (i := 17) (N := some 2) (v := ?_) rfl rfl (by kernel_rfl) (by kernel_rfl) (by kernel_rfl) (fun _ _ _ h => h) (Or.inl ⟨by rfl, ?_⟩) (by assumption) ?_
          rotate_left
          · intro w' hSw; (try dsimp only at hSw); go_simp; with_reducible rfl
          try simp only [Act.put, List.setIfInBounds_toArray, List.set_cons_zero, List.set_cons_succ]
          refine takeH (i := 18) (N := some 3) (v := ?_) rfl rfl (by kernel_rfl) (by kernel_rfl) (by kernel_rfl) (fun _ _ _ h => h) (Or.inl ⟨by rfl, ?_⟩) (by assumption) ?_
          rotate_left
          · intro w' hSw; (try dsimp only at hSw); go_simp; with_reducible rfl
          try simp only [Act.put, List.setIfInBounds_toArray, List.set_cons_zero, List.set_cons_succ]
          refine wpAnyH_done (by kernel_rfl) ?_ _
          go_wp2_with fail
          go_ret2
          rw [HS.out]
          exact ⟨rfl, by first | exact ((HB1.out.alloc HB1.out.size _).drew.trans (hb2.mono (by have := HB1.out.size; simp; omega))) | exact (HB1.out.drew.trans (hb2.mono HB1.out.size)).alloc (Nat.le_trans HB1.out.size hb2.size) _⟩
        exact AllReadyH.nil
      exact AllReadyH.nil
    exact AllReadyH.nil
  · have hgf : good (entryFs a1 a2) = false := by simpa using hgood
    have hld : laidSpec (sides [a1, a2] [4, 4]) = (⟨#[]⟩, false) := by
      rw [laidSpec, show sides [a1, a2] [4, 4] = entryFs a1 a2 from rfl, hgf]
      rfl
    have hs : entrySpec s a1 a2 = (⟨#[]⟩, 2) := by
      rw [entrySpec, if_neg (by omega), if_neg (fun h => h0 h.1), if_neg hgood]
    have HLD := Lib.hid hld
    have HS := Lib.hid hs
    clear hld hs hgood hgf
    go_enter Try.func30, Try.ntmps30
    go_wp2_with fail
    refine (laid_any _ _ [a1, a2] [4, 4] _ (by repeat (first | refine Row.drew ?_ | exact Row.lit (get_top (by simp)) 2 rfl (by decide) | exact Row.lit (get_below (get_top (by simp))) 2 rfl (by decide))) (by repeat (first | refine Row.drew ?_ | exact Row.lit (get_top (by simp)) 2 rfl (by decide) | exact Row.lit (get_below (get_top (by simp))) 2 rfl (by decide))) rfl (by simp) HR.out (by decide)).mono ?_
    rw [HLD.out]
    rintro e w1 ⟨rfl, hb⟩
    have HB1 := Lib.hid (below_al3 w _ _ _ hb)
    clear hb
    go_wp2
    go_ret2
    rw [HS.out]
    exact ⟨rfl, HB1.out⟩
set_option maxRecDepth 100000 in
set_option maxHeartbeats 1600000 in
theorem refEntry_none (s : ByteArray) (h0 : s.size = 0) (hi : ∀ x ∈ [(0 : Int), 0], -9223372036854775808 ≤ x ∧ x ≤ 9223372036854775807) (w : World) :
    Calls Try.prog 30 #[.agg #[.string s, .int .i64 0, .int .i64 0]] w fun e w' => e = .returned (.tuple #[.string (entrySpec s 0 0).1, .int .i64 (entrySpec s 0 0).2]) ∧ Below w.heap.size w w' := by
  have hu := Try.underlying37
  have HR := Lib.hid hi
  clear hi
  have he : s.toList = [] := by rw [empty_of_size h0, ByteArray.toList_eq]
  have h19 : ¬ 19 < s.size := by omega
  have hs0 : s.size ≤ 0 := by omega
  have H0 := Lib.hid h0
  clear h0
  by_cases hgood : good (entryFs 0 0) = true
  · have hld : laidSpec (sides [0, 0] [4, 4]) = (strOfNums (lay (entryFs 0 0)), true) := by
      rw [laidSpec, show sides [0, 0] [4, 4] = entryFs 0 0 from rfl, if_pos hgood]
    have hs : entrySpec s 0 0 = (strOfNums [(s.size : Int)] ++ s ++ strOfNums (List.replicate (19 - s.size) 0) ++ strOfNums (lay (entryFs 0 0)), 0) := by
      rw [entrySpec, if_neg (by omega), if_neg (by simp), if_pos hgood, entryXs, strOfNums_append, strOfNums_append, strOfNums_append, strOfNums_bytesOf]
    obtain ⟨x, hx⟩ : ∃ x, x = strOfNums (lay (entryFs 0 0)) := ⟨_, rfl⟩
    have hxs : x.size ≤ 8 := by rw [hx, strOfNums_size, lay_length]; simp [entryFs]
    obtain ⟨z, hz⟩ : ∃ z, z = strOfNums (List.replicate (19 - s.size) (0 : Int)) := ⟨_, rfl⟩
    have hzs : z.size ≤ 19 := by rw [hz, strOfNums_size, List.length_replicate]; omega
    obtain ⟨o, ho⟩ : ∃ o, o = strOfNums [(s.size : Int)] := ⟨_, rfl⟩
    have hos : o.size ≤ 1 := by rw [ho, strOfNums_size]; simp
    have hconv : ∀ W g, World.cell? W ⟨g, 0, none⟩ = some (.int .u8 (s.size : Int)) → (convert 44 9 (.slice (some ⟨g, 0, none⟩) 1 1)).run Try.prog W = .ok (.string o) W := fun W g h => by rw [ho]; exact conv_one h
    have hconv1 : ∀ (W : World) n, (convert 44 9 (.slice (some ⟨W.heap.size, 0, none⟩) 1 1)).run Try.prog ((W.alloc (.cells #[.int .u8 (s.size : Int)] 5)).drewN n) = .ok (.string o) ((W.alloc (.cells #[.int .u8 (s.size : Int)] 5)).drewN n) := fun W n => hconv _ _ (by simp [go_sem])
    have hconv2 : ∀ W : World, (convert 44 9 (.slice (some ⟨W.heap.size, 0, none⟩) 1 1)).run Try.prog (W.alloc (.cells #[.int .u8 (s.size : Int)] 5)) = .ok (.string o) (W.alloc (.cells #[.int .u8 (s.size : Int)] 5)) := fun W => hconv _ _ (by simp [go_sem])
    have hconv3 : ∀ W : World, (convert 44 9 (.slice (some ⟨W.heap.size, 0, none⟩) 1 1)).run Try.prog (W.alloc (.cells #[.int .u8 (s.size : Int)] 5)).drew = .ok (.string o) (W.alloc (.cells #[.int .u8 (s.size : Int)] 5)).drew := fun W => hconv _ _ (by simp [go_sem])
    rw [← hx] at hld hs
    rw [← hz, ← ho] at hs
    have HZ := Lib.hid hz
    have HLD := Lib.hid hld
    have HS := Lib.hid hs
    have q1 : (9223372036854775807 < o.size + s.size) = False := by simp; omega
    have q2 : (9223372036854775807 < o.size + s.size + z.size) = False := by simp; omega
    have q3 : (9223372036854775807 < o.size + s.size + z.size + x.size) = False := by simp; omega
    have hu8 : IntKind.u8.wrap (s.size : Int) = (s.size : Int) := by rw [IntKind.wrap_u8]; omega
    have hsub : IntKind.i64.wrap (19 - (s.size : Int)) = 19 - (s.size : Int) := IntWalk.i64_in _ (by omega)
    clear hld hs hx hgood hz
    have HO := Lib.hid ho
    clear ho
    go_enter Try.func30, Try.ntmps30
    go_wp2_with fail
    refine (laid_any _ _ [0, 0] [4, 4] _ (by repeat (first | refine Row.drew ?_ | exact Row.lit (get_top (by simp)) 2 rfl (by decide) | exact Row.lit (get_below (get_top (by simp))) 2 rfl (by decide))) (by repeat (first | refine Row.drew ?_ | exact Row.lit (get_top (by simp)) 2 rfl (by decide) | exact Row.lit (get_below (get_top (by simp))) 2 rfl (by decide))) rfl (by simp) HR.out (by decide)).mono ?_
    rw [HLD.out]
    rintro e w1 ⟨rfl, hb⟩
    have HB := Lib.hid hb
    have hblk : w1.heap[w.heap.size]? = some (.cells #[.string s, .int .i64 0, .int .i64 0] 37 (0, 0)) := (hb.block _ (by simp; omega)).trans (get_below (get_below (get_top rfl)))
    have cp := blk_cell hblk 0
    have hpl := blk_lt hblk
    have HB1 := Lib.hid (below_al3 w _ _ _ hb)
    clear hb hblk
    go_wp2_with fail
    refine wp_region_held_drew (S := (fun w' => w'.cell? ⟨w.heap.size, 0, none⟩ = some (.string s))) (by kernel_rfl) ?_ (fun hHeld => ?_)
    · (try dsimp only); first | go_keep | (rw [hb2.cell (by simp <;> omega)]; assumption)
    refine takeH (i := 0) (N := some 35) (v := ?_) rfl rfl (by kernel_rfl) (by kernel_rfl) (by kernel_rfl) (fun _ _ _ h => h) (Or.inl ⟨by rfl, ?_⟩) (by assumption) ?_
    rotate_left
    · intro w' hSw; (try dsimp only at hSw); go_simp; with_reducible rfl
    try simp only [Act.put, List.setIfInBounds_toArray, List.set_cons_zero, List.set_cons_succ]
    refine takeH (i := 1) (N := some 36) (v := ?_) rfl rfl (by kernel_rfl) (by kernel_rfl) (by kernel_rfl) (fun _ _ _ h => h) (Or.inl ⟨by rfl, ?_⟩) (by assumption) ?_
    rotate_left
    · intro w' hSw; (try dsimp only at hSw); go_simp; with_reducible rfl
    try simp only [Act.put, List.setIfInBounds_toArray, List.set_cons_zero, List.set_cons_succ]
    refine takeH (i := 2) (N := some 37) (v := ?_) rfl rfl (by kernel_rfl) (by kernel_rfl) (by kernel_rfl) (fun _ _ _ h => h) (Or.inl ⟨by rfl, ?_⟩) (by assumption) ?_
    rotate_left
    · intro w' hSw; (try dsimp only at hSw); go_simp; with_reducible rfl
    try simp only [Act.put, List.setIfInBounds_toArray, List.set_cons_zero, List.set_cons_succ]
    refine takeH (i := 3) (N := some 38) (v := ?_) rfl rfl (by kernel_rfl) (by kernel_rfl) (by kernel_rfl) (fun _ _ _ h => h) (Or.inl ⟨by rfl, ?_⟩) (by assumption) ?_
    rotate_left
    · intro w' hSw; (try dsimp only at hSw); go_simp; with_reducible rfl
    try simp only [Act.put, List.setIfInBounds_toArray, List.set_cons_zero, List.set_cons_succ]
    refine takeH (i := 6) (N := some 41) (v := ?_) rfl rfl (by kernel_rfl) (by kernel_rfl) (by kernel_rfl) (fun _ _ _ h => h) (Or.inl ⟨by rfl, ?_⟩) (by assumption) ?_
    rotate_left
    · intro w' hSw; (try dsimp only at hSw); go_simp; with_reducible rfl
    try simp only [Act.put, List.setIfInBounds_toArray, List.set_cons_zero, List.set_cons_succ]
    refine takeH (i := 7) (N := some 42) (v := ?_) rfl rfl (by kernel_rfl) (by kernel_rfl) (by kernel_rfl) (fun _ _ _ h => h) (Or.inl ⟨by rfl, ?_⟩) (by assumption) ?_
    rotate_left
    · intro w' hSw; (try dsimp only at hSw); go_simp; with_reducible rfl
    try simp only [Act.put, List.setIfInBounds_toArray, List.set_cons_zero, List.set_cons_succ]
    refine takeH (i := 9) (N := some 44) (v := ?_) rfl rfl (by kernel_rfl) (by kernel_rfl) (by kernel_rfl) (fun _ _ _ h => h) (Or.inl ⟨by rfl, ?_⟩) (by assumption) ?_
    rotate_left
    · intro w' hSw; (try dsimp only at hSw); go_simp; with_reducible rfl
    try simp only [Act.put, List.setIfInBounds_toArray, List.set_cons_zero, List.set_cons_succ]
    refine takeH (i := 10) (N := some 45) (v := ?_) rfl rfl (by kernel_rfl) (by kernel_rfl) (by kernel_rfl) (fun _ _ _ h => h) (Or.inl ⟨by rfl, ?_⟩) (by assumption) ?_
    rotate_left
    · intro w' hSw; (try dsimp only at hSw); go_simp; with_reducible rfl
    try simp only [Act.put, List.setIfInBounds_toArray, List.set_cons_zero, List.set_cons_succ]
    refine takeH (i := 11) (N := some 46) (v := ?_) rfl rfl (by kernel_rfl) (by kernel_rfl) (by kernel_rfl) (fun _ _ _ h => h) (Or.inl ⟨by rfl, ?_⟩) (by assumption) ?_
    rotate_left
    · intro w' hSw; (try dsimp only at hSw); go_simp; with_reducible rfl
    try simp only [Act.put, List.setIfInBounds_toArray, List.set_cons_zero, List.set_cons_succ]
    refine takeH (i := 12) (N := some 47) (v := ?_) rfl rfl (by kernel_rfl) (by kernel_rfl) (by kernel_rfl) (fun _ _ _ h => h) (Or.inl ⟨by rfl, ?_⟩) (by assumption) ?_
    rotate_left
    · intro w' hSw; (try dsimp only at hSw); go_simp; with_reducible rfl
    try simp only [Act.put, List.setIfInBounds_toArray, List.set_cons_zero, List.set_cons_succ]
    refine takeH (i := 15) (N := some 50) (v := ?_) rfl rfl (by kernel_rfl) (by kernel_rfl) (by kernel_rfl) (fun _ _ _ h => h) (Or.inl ⟨by rfl, ?_⟩) (by assumption) ?_
    rotate_left
    · intro w' hSw; (try dsimp only at hSw); go_simp; with_reducible rfl
    try simp only [Act.put, List.setIfInBounds_toArray, List.set_cons_zero, List.set_cons_succ]
    refine wpAnyH_ready (rs := [4, 13]) (by kernel_rfl) (by simp) ?_
    refine AllReadyH.cons rfl (fun K hK => ?_) ?_
    · go_simp
      refine hK.out _ _ ?_ (fun hHeld => ?_)
      · (try dsimp only); first | go_keep | (rw [hb2.cell (by simp <;> omega)]; assumption)
      clear hK K
      try simp only [Act.put, List.setIfInBounds_toArray, List.set_cons_zero, List.set_cons_succ]
      refine wpAnyH_ready (rs := [5, 13]) (by kernel_rfl) (by simp) ?_
      refine AllReadyH.cons rfl (fun K hK => ?_) ?_
      · go_simp
        refine hK.out _ _ ?_ (fun hHeld => ?_)
        · (try dsimp only); first | go_keep | (rw [hb2.cell (by simp <;> omega)]; assumption)
        clear hK K
        try simp only [Act.put, List.setIfInBounds_toArray, List.set_cons_zero, List.set_cons_succ]
        refine takeH (i := 8) (N := some 43) (v := ?_) rfl rfl (by kernel_rfl) (by kernel_rfl) (by kernel_rfl) (fun _ _ _ h => h) (Or.inl ⟨by rfl, ?_⟩) (by assumption) ?_
        rotate_left
        · intro w' hSw; (try dsimp only at hSw); go_simp; with_reducible rfl
        try simp only [Act.put, List.setIfInBounds_toArray, List.set_cons_zero, List.set_cons_succ]
        refine wpAnyH_ready (rs := [13]) (by kernel_rfl) (by simp) ?_
        refine AllReadyH.cons rfl (fun K hK => ?_) ?_
        · go_simp; go_at_call 42; refine (Noughts_any (19 - (s.size : Int)) (by omega) (by omega) _).mono ?_; rw [show strOfNums (List.replicate (19 - (s.size : Int)).toNat 0) = z from by rw [HZ.out]; congr 2; omega]; rintro e w2 ⟨rfl, hb2⟩; have hq := hb2.cell (p := ⟨w.heap.size, 0, none⟩) (by simp <;> omega); try (with_reducible have hq3 := conv_later hb2); try (rw [← HO.out] at hq3)
          refine hK.out _ _ ?_ (fun hHeld => ?_)
          · (try dsimp only); first | go_keep | (rw [hb2.cell (by simp <;> omega)]; assumption)
          clear hK K
          try simp only [Act.put, List.setIfInBounds_toArray, List.set_cons_zero, List.set_cons_succ]
          refine takeH (i := 14) (N := some 49) (v := ?_) rfl rfl (by kernel_rfl) (by kernel_rfl) (by kernel_rfl) (fun _ _ _ h => h) (Or.inl ⟨by rfl, ?_⟩) (by assumption) ?_
          rotate_left
          · intro w' hSw; (try dsimp only at hSw); go_simp; with_reducible rfl
          try simp only [Act.put, List.setIfInBounds_toArray, List.set_cons_zero, List.set_cons_succ]
          refine takeH (i := 16) (N := some 51) (v := ?_) rfl rfl (by kernel_rfl) (by kernel_rfl) (by kernel_rfl) (fun _ _ _ h => h) (Or.inl ⟨by rfl, ?_⟩) (by assumption) ?_
          rotate_left
          · intro w' hSw; (try dsimp only at hSw); go_simp; with_reducible rfl
          try simp only [Act.put, List.setIfInBounds_toArray, List.set_cons_zero, List.set_cons_succ]
          refine takeH (i := 17) (N := some 2) (v := ?_) rfl rfl (by kernel_rfl) (by kernel_rfl) (by kernel_rfl) (fun _ _ _ h => h) (Or.inl ⟨by rfl, ?_⟩) (by assumption) ?_
          rotate_left
          · intro w' hSw; (try dsimp only at hSw); go_simp; with_reducible rfl
          try simp only [Act.put, List.setIfInBounds_toArray, List.set_cons_zero, List.set_cons_succ]
          refine takeH (i := 18) (N := some 3) (v := ?_) rfl rfl (by kernel_rfl) (by kernel_rfl) (by kernel_rfl) (fun _ _ _ h => h) (Or.inl ⟨by rfl, ?_⟩) (by assumption) ?_
          rotate_left
          · intro w' hSw; (try dsimp only at hSw); go_simp; with_reducible rfl
          try simp only [Act.put, List.setIfInBounds_toArray, List.set_cons_zero, List.set_cons_succ]
          refine wpAnyH_done (by kernel_rfl) ?_ _
          go_wp2_with fail
          go_ret2
          rw [HS.out]
          exact ⟨rfl, by first | exact ((HB1.out.alloc HB1.out.size _).drew.trans (hb2.mono (by have := HB1.out.size; simp; omega))) | exact (HB1.out.drew.trans (hb2.mono HB1.out.size)).alloc (Nat.le_trans HB1.out.size hb2.size) _⟩
        exact AllReadyH.nil
      refine AllReadyH.cons rfl (fun K hK => ?_) ?_
      · go_simp; go_at_call 42; refine (Noughts_any (19 - (s.size : Int)) (by omega) (by omega) _).mono ?_; rw [show strOfNums (List.replicate (19 - (s.size : Int)).toNat 0) = z from by rw [HZ.out]; congr 2; omega]; rintro e w2 ⟨rfl, hb2⟩; have hq := hb2.cell (p := ⟨w.heap.size, 0, none⟩) (by simp <;> omega); try (with_reducible have hq3 := conv_later hb2); try (rw [← HO.out] at hq3)
        refine hK.out _ _ ?_ (fun hHeld => ?_)
        · (try dsimp only); first | go_keep | (rw [hb2.cell (by simp <;> omega)]; assumption)
        clear hK K
        try simp only [Act.put, List.setIfInBounds_toArray, List.set_cons_zero, List.set_cons_succ]
        refine wpAnyH_ready (rs := [5]) (by kernel_rfl) (by simp) ?_
        refine AllReadyH.cons rfl (fun K hK => ?_) ?_
        · go_simp
          refine hK.out _ _ ?_ (fun hHeld => ?_)
          · (try dsimp only); first | go_keep | (rw [hb2.cell (by simp <;> omega)]; assumption)
          clear hK K
          try simp only [Act.put, List.setIfInBounds_toArray, List.set_cons_zero, List.set_cons_succ]
          refine takeH (i := 8) (N := some 43) (v := ?_) rfl rfl (by kernel_rfl) (by kernel_rfl) (by kernel_rfl) (fun _ _ _ h => h) (Or.inl ⟨by rfl, ?_⟩) (by assumption) ?_
          rotate_left
          · intro w' hSw; (try dsimp only at hSw); go_simp; with_reducible rfl
          try simp only [Act.put, List.setIfInBounds_toArray, List.set_cons_zero, List.set_cons_succ]
          refine takeH (i := 14) (N := some 49) (v := ?_) rfl rfl (by kernel_rfl) (by kernel_rfl) (by kernel_rfl) (fun _ _ _ h => h) (Or.inl ⟨by rfl, ?_⟩) (by assumption) ?_
          rotate_left
          · intro w' hSw; (try dsimp only at hSw); go_simp; with_reducible rfl
          try simp only [Act.put, List.setIfInBounds_toArray, List.set_cons_zero, List.set_cons_succ]
          refine takeH (i := 16) (N := some 51) (v := ?_) rfl rfl (by kernel_rfl) (by kernel_rfl) (by kernel_rfl) (fun _ _ _ h => h) (Or.inl ⟨by rfl, ?_⟩) (by assumption) ?_
          rotate_left
          · intro w' hSw; (try dsimp only at hSw); go_simp; with_reducible rfl
          try simp only [Act.put, List.setIfInBounds_toArray, List.set_cons_zero, List.set_cons_succ]
          refine takeH (i := 17) (N := some 2) (v := ?_) rfl rfl (by kernel_rfl) (by kernel_rfl) (by kernel_rfl) (fun _ _ _ h => h) (Or.inl ⟨by rfl, ?_⟩) (by assumption) ?_
          rotate_left
          · intro w' hSw; (try dsimp only at hSw); go_simp; with_reducible rfl
          try simp only [Act.put, List.setIfInBounds_toArray, List.set_cons_zero, List.set_cons_succ]
          refine takeH (i := 18) (N := some 3) (v := ?_) rfl rfl (by kernel_rfl) (by kernel_rfl) (by kernel_rfl) (fun _ _ _ h => h) (Or.inl ⟨by rfl, ?_⟩) (by assumption) ?_
          rotate_left
          · intro w' hSw; (try dsimp only at hSw); go_simp; with_reducible rfl
          try simp only [Act.put, List.setIfInBounds_toArray, List.set_cons_zero, List.set_cons_succ]
          refine wpAnyH_done (by kernel_rfl) ?_ _
          go_wp2_with fail
          go_ret2
          rw [HS.out]
          exact ⟨rfl, by first | exact ((HB1.out.alloc HB1.out.size _).drew.trans (hb2.mono (by have := HB1.out.size; simp; omega))) | exact (HB1.out.drew.trans (hb2.mono HB1.out.size)).alloc (Nat.le_trans HB1.out.size hb2.size) _⟩
        exact AllReadyH.nil
      exact AllReadyH.nil
    refine AllReadyH.cons rfl (fun K hK => ?_) ?_
    · go_simp; go_at_call 42; refine (Noughts_any (19 - (s.size : Int)) (by omega) (by omega) _).mono ?_; rw [show strOfNums (List.replicate (19 - (s.size : Int)).toNat 0) = z from by rw [HZ.out]; congr 2; omega]; rintro e w2 ⟨rfl, hb2⟩; have hq := hb2.cell (p := ⟨w.heap.size, 0, none⟩) (by simp <;> omega); try (with_reducible have hq3 := conv_later hb2); try (rw [← HO.out] at hq3)
      refine hK.out _ _ ?_ (fun hHeld => ?_)
      · (try dsimp only); first | go_keep | (rw [hb2.cell (by simp <;> omega)]; assumption)
      clear hK K
      try simp only [Act.put, List.setIfInBounds_toArray, List.set_cons_zero, List.set_cons_succ]
      refine wpAnyH_ready (rs := [4]) (by kernel_rfl) (by simp) ?_
      refine AllReadyH.cons rfl (fun K hK => ?_) ?_
      · go_simp
        refine hK.out _ _ ?_ (fun hHeld => ?_)
        · (try dsimp only); first | go_keep | (rw [hb2.cell (by simp <;> omega)]; assumption)
        clear hK K
        try simp only [Act.put, List.setIfInBounds_toArray, List.set_cons_zero, List.set_cons_succ]
        refine wpAnyH_ready (rs := [5]) (by kernel_rfl) (by simp) ?_
        refine AllReadyH.cons rfl (fun K hK => ?_) ?_
        · go_simp
          refine hK.out _ _ ?_ (fun hHeld => ?_)
          · (try dsimp only); first | go_keep | (rw [hb2.cell (by simp <;> omega)]; assumption)
          clear hK K
          try simp only [Act.put, List.setIfInBounds_toArray, List.set_cons_zero, List.set_cons_succ]
          refine takeH (i := 8) (N := some 43) (v := ?_) rfl rfl (by kernel_rfl) (by kernel_rfl) (by kernel_rfl) (fun _ _ _ h => h) (Or.inl ⟨by rfl, ?_⟩) (by assumption) ?_
          rotate_left
          · intro w' hSw; (try dsimp only at hSw); go_simp; with_reducible rfl
          try simp only [Act.put, List.setIfInBounds_toArray, List.set_cons_zero, List.set_cons_succ]
          refine takeH (i := 14) (N := some 49) (v := ?_) rfl rfl (by kernel_rfl) (by kernel_rfl) (by kernel_rfl) (fun _ _ _ h => h) (Or.inl ⟨by rfl, ?_⟩) (by assumption) ?_
          rotate_left
          · intro w' hSw; (try dsimp only at hSw); go_simp; with_reducible rfl
          try simp only [Act.put, List.setIfInBounds_toArray, List.set_cons_zero, List.set_cons_succ]
          refine takeH (i := 16) (N := some 51) (v := ?_) rfl rfl (by kernel_rfl) (by kernel_rfl) (by kernel_rfl) (fun _ _ _ h => h) (Or.inl ⟨by rfl, ?_⟩) (by assumption) ?_
          rotate_left
          · intro w' hSw; (try dsimp only at hSw); go_simp; with_reducible rfl
          try simp only [Act.put, List.setIfInBounds_toArray, List.set_cons_zero, List.set_cons_succ]
          refine takeH (i := 17) (N := some 2) (v := ?_) rfl rfl (by kernel_rfl) (by kernel_rfl) (by kernel_rfl) (fun _ _ _ h => h) (Or.inl ⟨by rfl, ?_⟩) (by assumption) ?_
          rotate_left
          · intro w' hSw; (try dsimp only at hSw); go_simp; with_reducible rfl
          try simp only [Act.put, List.setIfInBounds_toArray, List.set_cons_zero, List.set_cons_succ]
          refine takeH (i := 18) (N := some 3) (v := ?_) rfl rfl (by kernel_rfl) (by kernel_rfl) (by kernel_rfl) (fun _ _ _ h => h) (Or.inl ⟨by rfl, ?_⟩) (by assumption) ?_
          rotate_left
          · intro w' hSw; (try dsimp only at hSw); go_simp; with_reducible rfl
          try simp only [Act.put, List.setIfInBounds_toArray, List.set_cons_zero, List.set_cons_succ]
          refine wpAnyH_done (by kernel_rfl) ?_ _
          go_wp2_with fail
          go_ret2
          rw [HS.out]
          exact ⟨rfl, by first | exact ((HB1.out.alloc HB1.out.size _).drew.trans (hb2.mono (by have := HB1.out.size; simp; omega))) | exact (HB1.out.drew.trans (hb2.mono HB1.out.size)).alloc (Nat.le_trans HB1.out.size hb2.size) _⟩
        exact AllReadyH.nil
      exact AllReadyH.nil
    exact AllReadyH.nil
  · have hgf : good (entryFs 0 0) = false := by simpa using hgood
    have hld : laidSpec (sides [0, 0] [4, 4]) = (⟨#[]⟩, false) := by
      rw [laidSpec, show sides [0, 0] [4, 4] = entryFs 0 0 from rfl, hgf]
      rfl
    have hs : entrySpec s 0 0 = (⟨#[]⟩, 2) := by
      rw [entrySpec, if_neg (by omega), if_neg (by simp), if_neg hgood]
    have HLD := Lib.hid hld
    have HS := Lib.hid hs
    clear hld hs hgood hgf
    go_enter Try.func30, Try.ntmps30
    go_wp2_with fail
    refine (laid_any _ _ [0, 0] [4, 4] _ (by repeat (first | refine Row.drew ?_ | exact Row.lit (get_top (by simp)) 2 rfl (by decide) | exact Row.lit (get_below (get_top (by simp))) 2 rfl (by decide))) (by repeat (first | refine Row.drew ?_ | exact Row.lit (get_top (by simp)) 2 rfl (by decide) | exact Row.lit (get_below (get_top (by simp))) 2 rfl (by decide))) rfl (by simp) HR.out (by decide)).mono ?_
    rw [HLD.out]
    rintro e w1 ⟨rfl, hb⟩
    have HB1 := Lib.hid (below_al3 w _ _ _ hb)
    clear hb
    go_wp2
    go_ret2
    rw [HS.out]
    exact ⟨rfl, HB1.out⟩
theorem refEntry_refused (s : ByteArray) (a1 a2 : Int) (h : 19 < s.size ∨ (s.size = 0 ∧ (a1 ≠ 0 ∨ a2 ≠ 0))) (w : World) :
    Calls Try.prog 30 #[.agg #[.string s, .int .i64 a1, .int .i64 a2]] w fun e w' => e = .returned (.tuple #[.string (entrySpec s a1 a2).1, .int .i64 (entrySpec s a1 a2).2]) ∧ Below w.heap.size w w' := by
  have hu := Try.underlying37
  by_cases h19 : 19 < s.size
  · have hs : entrySpec s a1 a2 = (⟨#[]⟩, 4) := by rw [entrySpec, if_pos h19]
    have HS := Lib.hid hs
    clear hs h
    go_enter Try.func30, Try.ntmps30
    go_wp2
    go_ret2
    rw [HS.out]
    exact ⟨rfl, (Below.refl _ w).alloc (Nat.le_refl _) _⟩
  obtain ⟨h0, hn⟩ : s.size = 0 ∧ (a1 ≠ 0 ∨ a2 ≠ 0) := by
    rcases h with h | h
    · exact absurd h h19
    · exact h
  obtain rfl := empty_of_size h0
  have hs : entrySpec ⟨#[]⟩ a1 a2 = (⟨#[]⟩, 5) := by rw [entrySpec, if_neg h19, if_pos ⟨h0, hn⟩]
  have HS := Lib.hid hs
  clear hs h h19 h0
  by_cases h1 : a1 = 0
  · have h2 : (a2 != 0) = true := by
      rcases hn with h | h
      · exact absurd h1 h
      · simp [h]
    subst h1
    clear hn
    go_enter Try.func30, Try.ntmps30
    go_wp2
    go_ret2
    rw [HS.out]
    exact ⟨rfl, (Below.refl _ w).alloc (Nat.le_refl _) _⟩
  · have h2 : (a1 != 0) = true := by simp [h1]
    clear hn
    go_enter Try.func30, Try.ntmps30
    go_wp2
    go_ret2
    rw [HS.out]
    exact ⟨rfl, (Below.refl _ w).alloc (Nat.le_refl _) _⟩
theorem refEntry_any (s : ByteArray) (a1 a2 : Int) (hi : ∀ x ∈ [a1, a2], -9223372036854775808 ≤ x ∧ x ≤ 9223372036854775807) (w : World) :
    Calls Try.prog 30 #[.agg #[.string s, .int .i64 a1, .int .i64 a2]] w fun e w' => e = .returned (.tuple #[.string (entrySpec s a1 a2).1, .int .i64 (entrySpec s a1 a2).2]) ∧ Below w.heap.size w w' := by
  by_cases h : 19 < s.size ∨ (s.size = 0 ∧ (a1 ≠ 0 ∨ a2 ≠ 0))
  · exact refEntry_refused s a1 a2 h w
  have h19 : ¬ 19 < s.size := fun h' => h (.inl h')
  by_cases h0 : s.size = 0
  · obtain rfl : a1 = 0 := Classical.byContradiction fun h1 => h (.inr ⟨h0, .inl h1⟩)
    obtain rfl : a2 = 0 := Classical.byContradiction fun h1 => h (.inr ⟨h0, .inr h1⟩)
    exact refEntry_none s h0 hi w
  · exact refEntry_some s a1 a2 h19 h0 hi w
theorem div_next (n : Int) (i : Nat) : n / 256 / 2 ^ (8 * i) = n / 2 ^ (8 * (i + 1)) := by
  rw [Int.ediv_ediv_of_nonneg (by decide), show 8 * (i + 1) = 8 * i + 8 by omega, Int.pow_add, Int.mul_comm]
  rfl
theorem le_cons (n : Int) (k : Nat) : le n (k + 1) = (n % 256) :: le (n / 256) k := by
  simp only [le, List.range_succ_eq_map, List.map_cons, List.map_map]
  congr 1
  · simp
  · apply List.map_congr_left
    intro i _
    simp only [Function.comp_apply]
    rw [div_next]
theorem bytesOf_get (s : ByteArray) (p : Nat) (h : p < s.size) : (bytesOf s)[p]? = some (byteAt s p) := by
  simp [bytesOf, byteAt, h]
  rfl
theorem drop_bytes (s : ByteArray) (p : Nat) (h : p < s.size) : (bytesOf s).drop p = byteAt s p :: (bytesOf s).drop (p + 1) := by
  have hl : p < (bytesOf s).length := by rw [bytesOf_length]; exact h
  rw [List.drop_eq_getElem_cons hl]
  congr 1
  have := bytesOf_get s p h
  rw [List.getElem?_eq_getElem hl] at this
  exact Option.some.inj this
theorem le_num (s : ByteArray) : ∀ (k p : Nat), p + k ≤ s.size → le (num s p k) k = ((bytesOf s).drop p).take k
  | 0, p, _ => by simp [le]
  | k + 1, p, h => by
    have hb := byteAt_range s p
    rw [num_cons, le_cons, drop_bytes s p (by omega), List.take_succ_cons, ← le_num s k (p + 1) (by omega)]
    congr 1
    · omega
    · congr 1
      omega
theorem fits_num (s : ByteArray) (p k : Nat) : fits (num s p k) k = true := by
  have h := num_range s p k
  simp only [fits, Bool.and_eq_true, decide_eq_true_eq, beq_iff_eq]
  exact ⟨h.1, Int.ediv_eq_zero_of_lt h.1 h.2⟩
theorem good_nums (s : ByteArray) : ∀ (ws : List Int) (p : Nat), good (sides (numsAt s p ws) ws) = true
  | [], _ => rfl
  | x :: r, p => by
    have := good_nums s r (p + x.toNat)
    simp only [good, sides, numsAt, List.zip_cons_cons, List.map_cons, List.all_cons, Bool.and_eq_true] at this ⊢
    exact ⟨fits_num s p _, this⟩
theorem lay_nums (s : ByteArray) : ∀ (ws : List Int) (p : Nat), p + lens ws ≤ s.size → lay (sides (numsAt s p ws) ws) = ((bytesOf s).drop p).take (lens ws)
  | [], p, _ => by simp [lay, sides, numsAt, lens]
  | x :: r, p, h => by
    rw [lens_cons] at h
    have ih := lay_nums s r (p + x.toNat) (by omega)
    rw [lens_cons, List.take_add, List.drop_drop, ← ih]
    simp only [lay, sides, numsAt, List.zip_cons_cons, List.map_cons, List.flatMap_cons]
    rw [le_num s _ p (by omega)]
theorem str_inj {s : ByteArray} {xs : List Int} (h : bytesOf s = xs) : strOfNums xs = s := by rw [← h, strOfNums_bytesOf]
theorem bytesOf_strOf0 (n : Nat) : bytesOf (strOfNums (List.replicate n 0)) = List.replicate n 0 := bytesOf_strOfNums _ (by
  intro x hx
  rw [List.mem_replicate] at hx
  omega)
theorem entry_canon (s : ByteArray) (h : (entryOfSpec s).2.2.2 = 0) : entrySpec (entryOfSpec s).1 (entryOfSpec s).2.1 (entryOfSpec s).2.2.1 = (s, 0) := by
  unfold entryOfSpec at h ⊢
  by_cases h1 : 28 < s.size
  · rw [if_pos h1] at h; cases h
  by_cases h2 : s.size < 28
  · rw [if_neg h1, if_pos h2] at h; cases h
  rw [if_neg h1, if_neg h2] at h ⊢
  obtain ⟨n, hn⟩ : ∃ n, n = (num s 0 1).toNat := ⟨_, rfl⟩
  rw [← hn] at h ⊢
  by_cases h3 : 19 < n
  · rw [if_pos h3] at h; cases h
  rw [if_neg h3] at h ⊢
  by_cases h4 : allZero (s.extract (1 + n) 20) = false ∨ (n = 0 ∧ (num s 20 4 ≠ 0 ∨ num s 24 4 ≠ 0))
  · rw [if_pos h4] at h; cases h
  rw [if_neg h4]
  have e1 : allZero (s.extract (1 + n) 20) = true := by
    cases hr : allZero (s.extract (1 + n) 20)
    · exact absurd (Or.inl hr) h4
    · rfl
  have e2 := (allZero_iff _).1 e1
  have hz : (s.extract (1 + n) 20).size = 19 - n := by rw [ByteArray.size_extract]; omega
  rw [hz] at e2
  have b1 := congrArg bytesOf e2
  rw [bytesOf_extract, bytesOf_strOf0] at b1
  have hl : (bytesOf s).length = 28 := by rw [bytesOf_length]; omega
  have hsz : (s.extract 1 (1 + n)).size = n := by rw [ByteArray.size_extract]; omega
  have hg : good (entryFs (num s 20 4) (num s 24 4)) = true := good_nums s [4, 4] 20
  have hlay : lay (entryFs (num s 20 4) (num s 24 4)) = ((bytesOf s).drop 20).take 8 := lay_nums s [4, 4] 20 (by rw [show lens [4, 4] = 8 from rfl]; omega)
  show entrySpec (s.extract 1 (1 + n)) (num s 20 4) (num s 24 4) = _
  rw [entrySpec, if_neg (by omega), if_neg (by rw [hsz]; exact fun h => h4 (.inr h)), if_pos hg]
  congr 1
  apply str_inj
  have hb := byteAt_range s 0
  have h0 : byteAt s 0 = (n : Int) := by
    have : num s 0 1 = byteAt s 0 := by simp [num]
    rw [hn, this]; omega
  rw [entryXs, hsz, hlay, bytesOf_extract, List.take_of_length_le (by simp [hl] : ((bytesOf s).drop 20).length ≤ 8)]
  have t1 : bytesOf s = byteAt s 0 :: (bytesOf s).drop 1 := by simpa using drop_bytes s 0 (by omega)
  have t2 := List.take_append_drop (1 + n - 1) ((bytesOf s).drop 1)
  have t3 := List.take_append_drop (20 - (1 + n)) ((bytesOf s).drop (1 + n))
  rw [List.drop_drop] at t2 t3
  rw [show 1 + (1 + n - 1) = 1 + n by omega] at t2
  rw [show 1 + n + (20 - (1 + n)) = 20 by omega, b1] at t3
  rw [List.append_assoc, t3, List.append_assoc, t2, ← h0]
  exact t1
end Go.Proofs.Ytdamlbkibhmepaa.B
namespace Go.Proofs.Ytdamlbkibhmepaa.B
open Go.RowKit
set_option linter.unusedVariables false
set_option linter.unusedSimpArgs false
/-- Block g is a builder that holds the bytes xs; its row lies behind it. -/
structure BldV (W : World) (g : Nat) (p v : Value) (xs : List Int) : Prop where
  addr : p = .pointer none ∨ p = .pointer (some ⟨g, 0, none⟩)
  blk : W.heap[g]? = some (.cells #[p, v] 46 (0, 0))
  row : Row W 5 1 v xs.length (nums xs)
  own : ∀ b, v.ownBlock = some b → g < b
def Bld (W : World) (g : Nat) (xs : List Int) : Prop := ∃ p v, BldV W g p v xs
/-- What writing a builder leaves as it was: all below it, and all that is no row of bytes. -/
structure BFrame (g : Nat) (w w' : World) : Prop where
  bel : Below g w w'
  size : w.heap.size ≤ w'.heap.size
  rest : ∀ (k : Nat) (cs : Array Value) (t : TypeId) (fr : Nat × Nat), k ≠ g → w.heap[k]? = some (.cells cs t fr) → t ≠ 5 → w'.heap[k]? = some (.cells cs t fr)
theorem BFrame.refl (g : Nat) (w : World) : BFrame g w w := ⟨Below.refl _ _, Nat.le_refl _, fun _ _ _ _ _ h _ => h⟩
theorem BFrame.trans {g : Nat} {a b c : World} (h : BFrame g a b) (k : BFrame g b c) : BFrame g a c :=
  ⟨h.bel.trans k.bel, Nat.le_trans h.size k.size, fun i cs t fr hi hc ht => k.rest i cs t fr hi (h.rest i cs t fr hi hc ht) ht⟩
theorem BFrame.of_below {g : Nat} {a b : World} (hg : g ≤ a.heap.size) (h : Below a.heap.size a b) : BFrame g a b :=
  ⟨h.mono hg, h.size, fun i cs t fr hi hc ht => (h.block _ (blk_lt hc)).trans hc⟩
theorem Bld.below {W W1 : World} {g : Nat} {xs : List Int} (h : Bld W g xs) (hb : Below W.heap.size W W1) : Bld W1 g xs := by
  obtain ⟨p, v, h1, h2, h3, h4⟩ := h
  exact ⟨p, v, h1, (hb.block _ (blk_lt h2)).trans h2, h3.kept (S := fun _ => False) (Keeps.of_below hb) (fun _ _ h => h), h4⟩
theorem Bld.lt {W : World} {g : Nat} {xs : List Int} (h : Bld W g xs) : g < W.heap.size := by
  obtain ⟨p, v, h1, h2, h3, h4⟩ := h
  exact blk_lt h2
theorem Bld.new (w : World) : Bld (w.alloc (.cells #[.pointer none, .slice none 0 0] 46 (0, 0))) w.heap.size [] :=
  ⟨_, _, .inl rfl, get_top rfl, Row.nil _ _ _, by simp [Value.ownBlock]⟩
theorem infoBuilder : (Try.prog.info? 46).map (·.size) = some 2 := by kernel_rfl
set_option maxRecDepth 100000 in
theorem copyCheck_used (g : Nat) (w : World) (h0 : w.cell? ⟨g, 0, none⟩ = some (.pointer (some ⟨g, 0, none⟩))) :
    Calls Try.prog 45 #[.pointer (some ⟨g, 0, none⟩)] w fun e w' => e = .returned (.tuple #[]) ∧ w = w' := by
  obtain ⟨j, hj, _⟩ := Option.map_eq_some_iff.1 infoBuilder
  go_enter Try.func45, Try.ntmps45
  go_wp2
  rw [Lib.run_neq_ptr_same w _ Try.underlying43 hj]
  go_wp2
  go_end0
  exact ⟨rfl, rfl⟩
set_option maxRecDepth 100000 in
theorem copyCheck_fresh (g : Nat) (w : World) (h0 : w.cell? ⟨g, 0, none⟩ = some (.pointer none)) (hsh : w.shape? g = some (46, 2)) (hfz : w.frozen? ⟨g, 0, none⟩ = false) :
    Calls Try.prog 45 #[.pointer (some ⟨g, 0, none⟩)] w fun e w' => e = .returned (.tuple #[]) ∧ w.setCell ⟨g, 0, none⟩ (.pointer (some ⟨g, 0, none⟩)) = w' := by
  obtain ⟨j, hj, hjs⟩ := Option.map_eq_some_iff.1 infoBuilder
  go_enter Try.func45, Try.ntmps45
  go_wp2
  rw [Lib.run_to_unsafe w ⟨g, 0, none⟩ Try.underlying43 Try.underlying78 hj (by rw [hjs]; decide) hsh (Nat.zero_lt_succ 1)]
  simp only [Result.andThen]
  rw [Oper.upon_value]
  go_wp2
  rw [run_callFunc_extern Try.func48 (by kernel_rfl) (by kernel_rfl) (by kernel_rfl) (e := Extern.AbiNoEscape.same) (by kernel_rfl)]
  rw [Lib.run_noEscape]
  simp only [Result.andThen]
  rw [Oper.upon_value]
  go_wp2
  rw [Lib.run_from_unsafe w ⟨g, 0, none⟩ Try.underlying78 Try.underlying43 hj hsh (by kernel_rfl)]
  simp only [Result.andThen]
  rw [Oper.upon_value]
  go_wp2
  go_end0
  exact ⟨rfl, rfl⟩
theorem Bld.wrote {w w1 : World} {g cap : Nat} {p v : Value} {xs ys : List Int} {ao : Option Addr} (h : BldV w g (.pointer (some ⟨g, 0, none⟩)) v xs) (hown : Row w1 5 1 (.slice ao (xs.length + ys.length) cap) (xs.length + ys.length) (nums xs ++ nums ys)) (hgrow : w.grownBy w1 v.ownBlock)
    (hat : (Value.slice ao (xs.length + ys.length) cap).ownBlock = v.ownBlock ∨ (Value.slice ao (xs.length + ys.length) cap).ownBlock = some w.heap.size) :
    Bld (w1.setCell ⟨g, 1, none⟩ (.slice ao (xs.length + ys.length) cap)) g (xs ++ ys) ∧ BFrame g w (w1.setCell ⟨g, 1, none⟩ (.slice ao (xs.length + ys.length) cap)) := by
  have hlt := blk_lt h.blk
  have hne : some g ≠ v.ownBlock := fun he => by have := h.own g he.symm; omega
  have hb1 : w1.heap[g]? = _ := (hgrow.block g hlt hne).trans h.blk
  have hsz := hgrow.size
  have hgo : ∀ b, (Value.slice ao (xs.length + ys.length) cap).ownBlock = some b → g < b := fun b hb => by
    rcases hat with e | e
    · exact h.own b (by rw [← e]; exact hb)
    · rw [hb] at e; cases e; exact hlt
  refine ⟨⟨_, _, .inr rfl, ?_, ?_, hgo⟩, ?_, ?_, ?_⟩
  · rw [blk_set hb1]; rfl
  · rw [List.length_append, nums_append]
    refine hown.kept (S := fun i => i = g) (Keeps.setCell (S := fun i => i = g) (Keeps.refl _ _) (fun _ => rfl) _) (fun k hk he => ?_)
    have := hgo k hk
    omega
  · have hbw : Below g w w1 := ⟨hgrow.os, hgrow.tape, hgrow.output, hgrow.size, fun k hk => hgrow.block k (by omega) (fun he => by
      have := h.own k he.symm
      omega)⟩
    exact hbw.setCell (by simp) _
  · simpa [World.setCell] using hsz
  · intro k cs t fr hk hc ht
    refine (Below.heap_setCell _ _ _ _ (by simpa using hk)).trans ?_
    refine (hgrow.block k (blk_lt hc) (h.row.ne_type hc (fun e => ht e.symm))).trans hc
set_option maxRecDepth 100000 in
set_option maxHeartbeats 800000 in
theorem writeString_used (g : Nat) (s : ByteArray) (xs : List Int) (v : Value) (w0 w : World) (hcc : Calls Try.prog 45 #[.pointer (some ⟨g, 0, none⟩)] w0 fun e w' => e = .returned (.tuple #[]) ∧ w = w') (h : BldV w g (.pointer (some ⟨g, 0, none⟩)) v xs) (hsz : xs.length + s.size ≤ 100000000) :
    Calls Try.prog 28 #[.pointer (some ⟨g, 0, none⟩), .string s] w0 fun e w' => e = .returned (.tuple #[.int .i64 s.size, .nilIface]) ∧ Bld w' g (xs ++ bytesOf s) ∧ BFrame g w w' := by
  have c1 := blk_cell h.blk 1
  have f1 := blk_frozen h.blk 1
  have HCC := Lib.hid hcc
  have hne : some g ≠ v.ownBlock := fun he => by have := h.own g he.symm; omega
  obtain ⟨ao, cap, rfl, hcap⟩ := h.row.form
  obtain ⟨n, hn⟩ : ∃ n, n = xs.length := ⟨_, rfl⟩
  have hr := h.row
  have hb := h.blk
  rw [← hn] at hcap hsz c1 hne hr hb
  have HN := Lib.hid hn
  have HR := Lib.hid hr
  have HB := Lib.hid hb
  have HNE := Lib.hid hne
  have H := Lib.hid h
  obtain ⟨i0, hi, hz0, hz1, hz2⟩ := info_parts infoByte
  have HI := Lib.hid hi
  have HZ0 := Lib.hid hz0
  have HZ1 := Lib.hid hz1
  have HZ2 := Lib.hid hz2
  have hcells : Lib.strCells s = nums (bytesOf s) := (nums_bytesOf s).symm
  have HSC := Lib.hid hcells
  have hbl := bytesOf_length s
  have HBL := Lib.hid hbl
  clear hi hz0 hz1 hz2 h hcells hbl hne hn hr hb hcc
  go_enter Try.func28, Try.ntmps28
  go_wp2_with fail
  refine HCC.out.mono ?_
  rintro e W ⟨rfl, rfl⟩
  go_wp2_with (refine wpList_append_row _ (by rfl) _ _ _ _ (by rfl) 5 i0 (.int .u8 0) 1 1 Try.underlying44 HI.out HZ0.out HZ1.out HZ2.out rfl (by omega) _ _ _ (by rfl) HR.out _ (by rfl) s.size _ (Feeds.str Try.underlying9 s) (by unfold maxLen; omega) (by omega) w.heap.size rfl ?_; intro ao5 cap5 w5 hown5 hgrow5 hat5; have HG5 := Lib.hid hgrow5; have HO5 := Lib.hid hown5; have HA5 := Lib.hid hat5; have hb5 := (hgrow5.block g (blk_lt HB.out) HNE.out).trans HB.out; have c51 := blk_cell hb5 1; have f51 := blk_frozen hb5 1; clear hown5 hgrow5 hat5 hb5)
  go_ret2
  have hn := HN.out
  subst hn
  have hown := HO5.out
  have hat := HA5.out
  rw [HSC.out, ← HBL.out] at hown
  rw [← HBL.out] at hat
  have hfin := Bld.wrote (p := .pointer none) H.out hown HG5.out hat
  rw [HBL.out] at hfin
  exact ⟨rfl, hfin⟩
set_option maxRecDepth 100000 in
theorem writeString_any (g : Nat) (s : ByteArray) (xs : List Int) (w : World) (h : Bld w g xs) (hsz : xs.length + s.size ≤ 100000000) :
    Calls Try.prog 28 #[.pointer (some ⟨g, 0, none⟩), .string s] w fun e w' => e = .returned (.tuple #[.int .i64 s.size, .nilIface]) ∧ Bld w' g (xs ++ bytesOf s) ∧ BFrame g w w' := by
  obtain ⟨p, v, hv⟩ := h
  rcases hv.addr with rfl | rfl
  · have hb := hv.blk
    have hv1 : BldV (w.setCell ⟨g, 0, none⟩ (.pointer (some ⟨g, 0, none⟩))) g (.pointer (some ⟨g, 0, none⟩)) v xs := by
      refine ⟨.inr rfl, (blk_set hb 0 _).trans rfl, hv.row.kept (S := fun i => i = g) (Keeps.setCell (S := fun i => i = g) (Keeps.refl _ _) (fun _ => rfl) _) (fun k hk he => ?_), hv.own⟩
      have := hv.own k hk
      omega
    refine (writeString_used g s xs v w _ (copyCheck_fresh g w (blk_cell hb 0) (by simp [World.shape?, hb]) (blk_frozen hb 0)) hv1 hsz).mono ?_
    rintro e w' ⟨he, hbd, hf⟩
    refine ⟨he, hbd, BFrame.trans ⟨(Below.refl g w).setCell (by simp) _, by simp [World.setCell], fun k cs t fr hk hc _ => ?_⟩ hf⟩
    exact (Below.heap_setCell _ _ _ _ (by simpa using hk)).trans hc
  · exact writeString_used g s xs v w w (copyCheck_used g w (blk_cell hv.blk 0)) hv hsz
theorem byteCellsOf : Try.prog.cellsOf 5 = 1 := by kernel_rfl
set_option maxRecDepth 100000 in
theorem builder_string (g : Nat) (s : ByteArray) (w : World) (h : Bld w g (bytesOf s)) (h0 : 0 < s.size) :
    Calls Try.prog 29 #[.pointer (some ⟨g, 0, none⟩)] w fun e w' => e = .returned (.string s) ∧ Below g w w' := by
  obtain ⟨p, v, hv⟩ := h
  have hlen : (bytesOf s).length = s.size := bytesOf_length s
  have hr := hv.row
  rw [hlen] at hr
  obtain ⟨b, cap, rfl, hcap, hb⟩ := hr.form_pos h0
  obtain ⟨_, hz | ⟨b', cap', cur, lo, hi, he, hblk, _, _, hcm, hcs, _⟩⟩ := id hr
  · omega
  obtain ⟨rfl, rfl⟩ : b = b' ∧ cap = cap' := by simpa using he
  have hgb : g < b := hv.own b rfl
  have hne : s.data.toList ≠ [] := by
    intro h
    have := congrArg List.length h
    rw [Lib.size_eq] at h0
    simp at this
    simp [this] at h0
  have hl : s.data.toList.length = s.size := (Lib.size_eq s).symm
  have c1 : w.drew.cell? ⟨g, 1, none⟩ = some (.slice (some ⟨b, 0, none⟩) s.size cap) := blk_cell hv.blk 1
  have hSD : (Builtin.unsafeSliceData_ #[44] 68 #[.slice (some ⟨b, 0, none⟩) s.size cap]).run Try.prog w.drew = .ok (.pointer (some ⟨b, 0, none⟩)) w.drew :=
    Lib.run_unsafeSliceData_row _ _ _ _ _ _ (by omega)
  have hUS : (Builtin.unsafeString_ #[68, 3] 9 #[.pointer (some ⟨b, 0, none⟩), .int .i64 s.size]).run Try.prog w.drew = .ok (.string s) (w.drew.freeze ⟨b, 0, none⟩ s.size) := by
    have := Lib.run_unsafeString_row w.drew 68 3 9 5 Try.underlying68 byteCellsOf b cur.size (by have hg' : w.drew.heap[b]? = some (.cells cur 5 (lo, hi)) := hblk; simp [World.shape?, hg']) s.data.toList hne (by omega) (by unfold maxLen at hcm; omega) (by
      intro j x hx
      have h1 := hr.cells j (.int .u8 x.toNat) (by rw [nums_bytesOf]; simp [Lib.strCells, hx])
      rcases j with _ | j
      · exact h1
      · simpa [Addr.add] using h1)
    rwa [hl] at this
  clear hne hl he hlen hr
  go_enter Try.func29, Try.ntmps29
  go_wp2
  go_region
  all_goals (go_wp2; go_ret; exact ⟨rfl, Lib.below_freeze (Below.drew (Below.refl g w)) (p := ⟨b, 0, none⟩) (Nat.le_of_lt hgb) _⟩)
theorem wpList_index_here {P : Program} {ops : Array Oper} {rest : List Oper} {op : Oper} {a : Act} {w : World} {Q : Exit → Act → World → Prop} (hgd : op.guard = none) (ty : TypeId) (x y : Operand) (ho : op.op = .index ty x y) (xv yv : Value) (hx : a.eval x = xv) (hyv : a.eval y = yv)
    (v : Value) (hy : (Instr.index ty xv yv).run P w = .ok v w) (h : wpList P ops Q rest (a.put op.dst v) w) : wpList P ops Q (op :: rest) a w :=
  wpList_plain hgd fun K hK => by
    have hK' := hK _ _ h
    unfold Oper.wp execOp
    simp only [ho, hx, hyv, Sem.run_bind, hy, Result.andThen_ok, Sem.run_pure]
    exact hK'
end Go.Proofs.Ytdamlbkibhmepaa.B
