/-
  report.Of, walked.
-/
import Derived.Test.YthobfbiobnmceaaFndRow
import Derived.Test.YthobfbiobnmceaaGet
namespace Go.Proofs.Ythobfbiobnmceaa.B
open Go.RowKit
set_option linter.unusedVariables false
set_option linter.unusedSimpArgs false

def fndAt (s : ByteArray) (p : Nat) : Four := ⟨num s p 2, num s (p + 2) 4, num s (p + 6) 4, num s (p + 10) 4⟩
def fndsOf (s : ByteArray) (n : Nat) : List Four := (List.range n).map fun i => fndAt s (20 + 14 * i)
def fcells (l : List Four) : List Value := l.flatMap Four.cells
theorem fcells_length (l : List Four) : (fcells l).length = l.length * 4 := by
  induction l with
  | nil => rfl
  | cons f r ih =>
    have : fcells (f :: r) = f.cells ++ fcells r := rfl
    rw [this, List.length_append, ih]
    simp [Four.cells]; omega
theorem fcells_get : ∀ (l : List Four) (i j : Nat) (f : Four), l[i]? = some f → j < 4 → (fcells l)[i * 4 + j]? = f.cells[j]?
  | [], i, j, f, h, _ => by simp at h
  | q :: r, 0, j, f, h, hj => by
    simp at h
    subst h
    have : fcells (q :: r) = q.cells ++ fcells r := rfl
    rw [this, Nat.zero_mul, Nat.zero_add, List.getElem?_append_left (by simpa [Four.cells] using hj)]
  | q :: r, i + 1, j, f, h, hj => by
    have e : fcells (q :: r) = q.cells ++ fcells r := rfl
    have hl : q.cells.length = 4 := rfl
    rw [e, List.getElem?_append_right (by rw [hl]; omega), hl, show (i + 1) * 4 + j - 4 = i * 4 + j by omega]
    exact fcells_get r i j f (by simpa using h) hj
theorem fndRow_row {w : World} {v : Value} {l : List Four} (h : Row w 54 4 v l.length (fcells l)) (hf : ∀ f ∈ l, f.wf) : FndRow w v l := by
  obtain ⟨ao, cap, rfl, hc⟩ := h.form
  refine ⟨ao, cap, rfl, hc, h.max, fun h0 => ?_⟩
  obtain ⟨g, cap', he, _, hg⟩ := h.form_pos h0
  simp at he
  obtain ⟨rfl, rfl⟩ := he
  refine ⟨g, 0, rfl, hg, fun i f hi => ⟨hf f (List.mem_of_getElem? hi), fun j u hu => ?_⟩⟩
  have hj : j < 4 := (List.getElem?_eq_some_iff.1 hu).1
  have := h.cells (i * 4 + j) u (by rw [fcells_get l i j f hi hj]; exact hu)
  rw [Nat.zero_add]
  exact this
theorem infoFinding : (Try.prog.info? 54).map (fun i => (i.zero, i.size, i.bytes)) = some (some (.agg #[.int .i64 0, .int .i64 0, .int .i64 0, .int .i64 0]), 4, 32) := by kernel_rfl

/-- Four numbers, of which k have been read. -/
def arr4 (x : Nat → Int) (k : Nat) : Array Value := #[.int .i64 (if 0 < k then x 0 else 0), .int .i64 (if 1 < k then x 1 else 0), .int .i64 (if 2 < k then x 2 else 0), .int .i64 (if 3 < k then x 3 else 0)]
def headAt (s : ByteArray) : Nat → Int := fnd4 (num s 0 6) (num s 6 6) (num s 12 4) (num s 16 4)
structure HeadI (w : World) (g : Nat) (x : Nat → Int) (k : Nat) (W : World) : Prop where
  bel : Below w.heap.size w W
  ge : w.heap.size < g
  z : W.heap[w.heap.size]? = some (.cells #[.int .i64 0, .int .i64 0, .int .i64 0, .slice none 0 0] 24 (0, 0))
  arr : W.heap[g]? = some (.cells (arr4 x k) 66 (0, 0))
theorem HeadI.below {w W W1 : World} {g k : Nat} {x : Nat → Int} (h : HeadI w g x k W) (hb : Below W.heap.size W W1) : HeadI w g x k W1 :=
  ⟨h.bel.trans (hb.mono h.bel.size), h.ge, (hb.block _ (blk_lt h.z)).trans h.z, (hb.block g (blk_lt h.arr)).trans h.arr⟩
theorem HeadI.at_ {w W : World} {g k i : Nat} {x : Nat → Int} (h : HeadI w g x k W) (hi : i < 4) : W.cell? ⟨g, i, none⟩ = some (.int .i64 (if i < k then x i else 0)) := by
  rw [blk_cell h.arr]
  match i, hi with
  | 0, _ => rfl
  | 1, _ => rfl
  | 2, _ => rfl
  | 3, _ => rfl
theorem HeadI.put {w W : World} {g k : Nat} {x : Nat → Int} (h : HeadI w g x k W) (hk : k < 4) : HeadI w g x (k + 1) (W.setCell ⟨g, k, none⟩ (.int .i64 (x k))) := by
  refine ⟨h.bel.setCell (Nat.le_of_lt h.ge) _, h.ge, (Below.heap_setCell _ _ _ _ (by have := h.ge; simp; omega)).trans h.z, ?_⟩
  rw [blk_set h.arr]
  congr 2
  match k, hk with
  | 0, _ => rfl
  | 1, _ => rfl
  | 2, _ => rfl
  | 3, _ => rfl
theorem wpList_index_here {P : Program} {ops : Array Oper} {rest : List Oper} {op : Oper} {a : Act} {w : World} {Q : Exit → Act → World → Prop} (hgd : op.guard = none) (ty : TypeId) (x y : Operand) (ho : op.op = .index ty x y) (xv yv : Value) (hx : a.eval x = xv) (hyv : a.eval y = yv)
    (v : Value) (hy : (Instr.index ty xv yv).run P w = .ok v w) (h : wpList P ops Q rest (a.put op.dst v) w) : wpList P ops Q (op :: rest) a w :=
  wpList_plain hgd fun K hK => by
    have hK' := hK _ _ h
    unfold Oper.wp execOp
    simp only [ho, hx, hyv, Sem.run_bind, hy, Result.andThen_ok, Sem.run_pure]
    exact hK'
theorem cells2 : Try.prog.cellsOf 60 = 2 := by kernel_rfl
theorem index42 (a0 b0 a1 b1 a2 b2 a3 b3 : Int) (k : Nat) (hk : k < 4) (W : World) : (Instr.index 67 (.agg #[.int .i64 a0, .int .i64 b0, .int .i64 a1, .int .i64 b1, .int .i64 a2, .int .i64 b2, .int .i64 a3, .int .i64 b3]) (.int .i64 k)).run Try.prog W = .ok (.agg #[.int .i64 (fnd4 a0 a1 a2 a3 k), .int .i64 (fnd4 b0 b1 b2 b3 k)]) W := by
  have hua := Try.underlying67
  have hc := cells2
  match k, hk with
  | 0, _ => simp [Instr.index, run_underlying hua, asIntOf, go_sem, fnd4, hc]
  | 1, _ => simp [Instr.index, run_underlying hua, asIntOf, go_sem, fnd4, hc]
  | 2, _ => simp [Instr.index, run_underlying hua, asIntOf, go_sem, fnd4, hc]
  | 3, _ => simp [Instr.index, run_underlying hua, asIntOf, go_sem, fnd4, hc]
theorem head_off (s : ByteArray) (k : Nat) (hk : k < 4) : ∃ o d : Nat, fnd4 0 6 12 16 k = (o : Int) ∧ fnd4 6 6 4 4 k = (d : Int) ∧ 1 ≤ d ∧ d ≤ 6 ∧ o + d ≤ 20 ∧ num s o d = headAt s k := by
  match k, hk with
  | 0, _ => exact ⟨0, 6, rfl, rfl, by omega, by omega, by omega, rfl⟩
  | 1, _ => exact ⟨6, 6, rfl, rfl, by omega, by omega, by omega, rfl⟩
  | 2, _ => exact ⟨12, 4, rfl, rfl, by omega, by omega, by omega, rfl⟩
  | 3, _ => exact ⟨16, 4, rfl, rfl, by omega, by omega, by omega, rfl⟩
theorem body_off (s : ByteArray) (p : Nat) (k : Nat) (hk : k < 4) : ∃ o d : Nat, fnd4 0 2 6 10 k = (o : Int) ∧ fnd4 2 4 4 4 k = (d : Int) ∧ 1 ≤ d ∧ d ≤ 6 ∧ o + d ≤ 14 ∧ num s (p + o) d = (fndAt s p).fnd k := by
  match k, hk with
  | 0, _ => exact ⟨0, 2, rfl, rfl, by omega, by omega, by omega, rfl⟩
  | 1, _ => exact ⟨2, 4, rfl, rfl, by omega, by omega, by omega, rfl⟩
  | 2, _ => exact ⟨6, 4, rfl, rfl, by omega, by omega, by omega, rfl⟩
  | 3, _ => exact ⟨10, 4, rfl, rfl, by omega, by omega, by omega, rfl⟩
theorem fndsOf_succ (s : ByteArray) (k : Nat) : fndsOf s (k + 1) = fndsOf s k ++ [fndAt s (20 + 14 * k)] := by simp [fndsOf, List.range_succ]
theorem fndsOf_length (s : ByteArray) (k : Nat) : (fndsOf s k).length = k := by simp [fndsOf]
theorem fndsOf_wf (s : ByteArray) (k : Nat) : ∀ f ∈ fndsOf s k, f.wf := by
  intro f hf
  obtain ⟨i, _, rfl⟩ := List.mem_map.1 hf
  have h2 : ∀ p, (Lit.int .i64 (num s p 2)).wf = true := fun p => by
    have := num_range s p 2
    exact WalkArith.wf_i64 (by omega)
  have h4 : ∀ p, (Lit.int .i64 (num s p 4)).wf = true := fun p => by
    have := num_range s p 4
    exact WalkArith.wf_i64 (by omega)
  exact ⟨h2 _, h4 _, h4 _, h4 _⟩
/-- The findings are read one by one: k of them lie there. -/
structure FndI (w : World) (g : Nat) (s : ByteArray) (k : Nat) (v : Value) (W : World) : Prop where
  bel : Below w.heap.size w W
  gt : w.heap.size < g
  z : W.heap[w.heap.size]? = some (.cells #[.int .i64 0, .int .i64 0, .int .i64 0, .slice none 0 0] 24 (0, 0))
  r : W.heap[g]? = some (.cells #[.int .i64 (num s 0 6), .int .i64 (num s 6 6), .int .i64 (num s 12 4), v] 24 (0, 0))
  row : Row W 54 4 v k (fcells (fndsOf s k))
  own : ∀ b, v.ownBlock = some b → w.heap.size < b
theorem FndI.below {w W W1 : World} {g k : Nat} {s : ByteArray} {v : Value} (h : FndI w g s k v W) (hb : Below W.heap.size W W1) : FndI w g s k v W1 :=
  ⟨h.bel.trans (hb.mono h.bel.size), h.gt, (hb.block _ (blk_lt h.z)).trans h.z, (hb.block g (blk_lt h.r)).trans h.r, h.row.kept (S := fun _ => False) (Keeps.of_below hb) (fun _ _ h => h), h.own⟩
/-- One finding's numbers are read one by one: q of them are there. -/
structure InI (w : World) (g : Nat) (s : ByteArray) (k : Nat) (v : Value) (ga : Nat) (x : Nat → Int) (q : Nat) (W : World) : Prop where
  f : FndI w g s k v W
  lt : g < ga
  arr : W.heap[ga]? = some (.cells (arr4 x q) 66 (0, 0))
theorem InI.below {w W W1 : World} {g k ga q : Nat} {s : ByteArray} {v : Value} {x : Nat → Int} (h : InI w g s k v ga x q W) (hb : Below W.heap.size W W1) : InI w g s k v ga x q W1 :=
  ⟨h.f.below hb, h.lt, (hb.block ga (blk_lt h.arr)).trans h.arr⟩
theorem InI.at_ {w W : World} {g k ga q i : Nat} {s : ByteArray} {v : Value} {x : Nat → Int} (h : InI w g s k v ga x q W) (hi : i < 4) : W.cell? ⟨ga, i, none⟩ = some (.int .i64 (if i < q then x i else 0)) := by
  rw [blk_cell h.arr]
  match i, hi with
  | 0, _ => rfl
  | 1, _ => rfl
  | 2, _ => rfl
  | 3, _ => rfl
theorem InI.put {w W : World} {g k ga q : Nat} {s : ByteArray} {v : Value} {x : Nat → Int} (h : InI w g s k v ga x q W) (hq : q < 4) : InI w g s k v ga x (q + 1) (W.setCell ⟨ga, q, none⟩ (.int .i64 (x q))) := by
  have hgt := h.f.gt
  have hlt := h.lt
  have hne := h.f.row.ne_type h.arr (by decide)
  refine ⟨⟨h.f.bel.setCell (p := ⟨ga, q, none⟩) (by show w.heap.size ≤ ga; omega) _, hgt, (Below.heap_setCell _ _ _ _ (by simp; omega)).trans h.f.z, (Below.heap_setCell _ _ _ _ (by simp; omega)).trans h.f.r,
    h.f.row.kept (S := fun i => i = ga) (Keeps.setCell (S := fun i => i = ga) (Keeps.refl _ _) (fun _ => rfl) _) (fun b hb he => hne (by rw [← he]; exact hb.symm)), h.f.own⟩, hlt, ?_⟩
  rw [blk_set h.arr]
  congr 2
  match q, hq with
  | 0, _ => rfl
  | 1, _ => rfl
  | 2, _ => rfl
  | 3, _ => rfl
theorem FndI.app {w W W1 W2 : World} {g k cap : Nat} {s : ByteArray} {v : Value} {ao : Option Addr} {f : Four} (h : FndI w g s k v W) (hb : Below W.heap.size W W1) (hf : f = fndAt s (20 + 14 * k))
    (hown : Row W2 54 4 (.slice ao (k + 1) cap) (k + 1) (fcells (fndsOf s k) ++ f.cells)) (hgrow : W1.grownBy W2 v.ownBlock) (hat : (Value.slice ao (k + 1) cap).ownBlock = v.ownBlock ∨ (Value.slice ao (k + 1) cap).ownBlock = some W1.heap.size) :
    FndI w g s (k + 1) (.slice ao (k + 1) cap) (W2.setCell ⟨g, 3, none⟩ (.slice ao (k + 1) cap)) := by
  have h1 := h.below hb
  have hgt := h.gt
  have hlt := blk_lt h1.r
  have hltz := blk_lt h1.z
  have hne := h1.row.ne_type h1.r (by decide)
  have hnz := h1.row.ne_type h1.z (by decide)
  have hr2 : W2.heap[g]? = _ := (hgrow.block g hlt hne).trans h1.r
  have hz2 : W2.heap[w.heap.size]? = _ := (hgrow.block _ hltz hnz).trans h1.z
  have hown2 := fun b (hb : (Value.slice ao (k + 1) cap).ownBlock = some b) => (show w.heap.size < b by
    rcases hat with e | e
    · exact h.own b (by rw [← e]; exact hb)
    · rw [hb] at e; cases e; have := h1.bel.size; omega)
  have hbel : Below w.heap.size w W2 := h1.bel.trans ⟨hgrow.os, hgrow.tape, hgrow.output, hgrow.size, fun b hb => hgrow.block b (by have := h1.bel.size; omega) (fun he => by
    have := h.own b he.symm
    omega)⟩
  refine ⟨hbel.setCell (p := ⟨g, 3, none⟩) (by show w.heap.size ≤ g; omega) _, hgt, (Below.heap_setCell _ _ _ _ (by simp; omega)).trans hz2, (blk_set hr2 3 _).trans rfl, ?_, hown2⟩
  rw [fndsOf_succ]
  have e : fcells (fndsOf s k ++ [fndAt s (20 + 14 * k)]) = fcells (fndsOf s k) ++ f.cells := by
    rw [hf]
    simp [fcells]
  rw [e]
  refine hown.kept (S := fun i => i = g) (Keeps.setCell (S := fun i => i = g) (Keeps.refl _ _) (fun _ => rfl) _) (fun b hb he => ?_)
  subst he
  rcases hat with e2 | e2
  · exact hne (by rw [← e2]; exact hb.symm)
  · rw [hb] at e2
    cases e2
    omega
/-- What the reading of a report's bytes says; the findings; the state. -/
structure RepOut where
  a0 : Int
  a1 : Int
  a2 : Int
  l : List Four
  e : Int
def repOf (s : ByteArray) : RepOut :=
  if s.size < 20 then ⟨0, 0, 0, [], 3⟩
  else if num s 16 4 > ((s.size - 20) / 14 : Nat) then ⟨0, 0, 0, [], 3⟩
  else if ((s.size - 20 : Nat) : Int) > num s 16 4 * 14 then ⟨0, 0, 0, [], 4⟩
  else if rises (fndsOf s ((s.size - 20) / 14)) = true then ⟨num s 0 6, num s 6 6, num s 12 4, fndsOf s ((s.size - 20) / 14), 0⟩ else ⟨0, 0, 0, [], 5⟩
def RepPost (w : World) (r : RepOut) (e : Ending) (w' : World) : Prop :=
  ∃ v', e = .returned (.tuple #[.agg #[.int .i64 r.a0, .int .i64 r.a1, .int .i64 r.a2, v'], .int .i64 r.e]) ∧ FndRow w' v' r.l ∧ Below w.heap.size w w'
set_option maxRecDepth 100000 in
set_option maxHeartbeats 3200000 in
theorem repOf_any (s : ByteArray) (hs : s.size ≤ 10000000) (w : World) :
    Calls Try.prog 15 #[.string s] w (RepPost w (repOf s)) := by
  have hu24 := Try.underlying24
  obtain ⟨R, hR⟩ : ∃ R, R = repOf s := ⟨_, rfl⟩
  rw [← hR]
  unfold repOf at hR
  by_cases h20 : s.size < 20
  · have i1 : (s.size : Int) < 20 := by omega
    rw [if_pos h20] at hR
    have HR := Lib.hid hR
    clear hR
    go_enter Try.func15, Try.ntmps15
    go_wp2_with fail
    rw [HR.out]
    refine bodyPost_ret (v := .tuple #[.agg #[.int .i64 0, .int .i64 0, .int .i64 0, .slice none 0 0], .int .i64 3]) (by simp [results, Try.results15, go_sem]) rfl ⟨_, rfl, FndRow.nil _, ?_⟩
    exact (Below.refl _ w).alloc (Nat.le_refl _) _
  · have i1 : ¬ (s.size : Int) < 20 := by omega
    rw [if_neg h20] at hR
    have HR := Lib.hid hR
    clear hR
    go_enter Try.func15, Try.ntmps15
    go_wp2_with fail
    have hI0 : HeadI w (w.heap.size + 1) (headAt s) 0 ((w.alloc (.cells #[.int .i64 0, .int .i64 0, .int .i64 0, .slice none 0 0] 24 (0, 0))).alloc (.cells #[.int .i64 0, .int .i64 0, .int .i64 0, .int .i64 0] 66 (0, 0))) :=
      ⟨((Below.refl _ w).alloc (Nat.le_refl _) _).alloc (by simp) _, by omega, (Lib.alloc_old _ _ _ (by simp)).trans (get_top rfl), get_top (by simp)⟩
    generalize ((w.alloc (.cells #[.int .i64 0, .int .i64 0, .int .i64 0, .slice none 0 0] 24 (0, 0))).alloc (.cells #[.int .i64 0, .int .i64 0, .int .i64 0, .int .i64 0] 66 (0, 0))) = W0 at hI0 ⊢
    obtain ⟨gr, hgr⟩ : ∃ g, g = w.heap.size := ⟨_, rfl⟩
    obtain ⟨gh, hgh⟩ : ∃ g, g = w.heap.size + 1 := ⟨_, rfl⟩
    rw [← hgh] at hI0 ⊢
    rw [← hgr]
    have HI0 := Lib.hid hI0
    have HGR := Lib.hid hgr
    have HGH := Lib.hid hgh
    clear hI0 hgr hgh
    go_loopg [23] 4 (fun j i wr => ∃ k : Nat, j + k = 4 ∧ i = .int .i64 (k : Int) ∧ HeadI w gh (headAt s) k wr)
    case atStart => exact ⟨0, rfl, rfl, HI0.out⟩
    case round =>
      clear HI0
      obtain ⟨k, hk, rfl, hI⟩ := hrel
      have HS := Lib.hid hs
      by_cases hlt : k < 4
      · obtain ⟨o, d, ho, hd, hd1, hd6, hod, hnum⟩ := head_off s k hlt
        have hix := index42 0 6 6 6 12 4 16 4 k hlt
        rw [ho, hd] at hix
        have HIX := Lib.hid hix
        have HG := Lib.hid (fun W => Get_ok s o (d : Int) (by omega) (by omega) (by omega) (by omega) (by omega) W)
        rw [Int.toNat_natCast, hnum] at HG
        have HI := Lib.hid hI
        have ck := blk_frozen hI.arr k
        have hk4 : (k : Int) < 4 := by omega
        obtain ⟨j, rfl⟩ : ∃ j, gk = j + 1 := ⟨gk - 1, by omega⟩
        have hjk : j + (k + 1) = 4 := by omega
        obtain ⟨x, hx⟩ : ∃ x, x = headAt s k := ⟨_, rfl⟩
        rw [← hx] at HG
        have HXK := Lib.hid hx
        clear hix ho hd hod hnum hI hk hx
        go_wp2_with (refine wpList_index_here (by rfl) 67 _ _ (by rfl) _ _ (by rfl) (by rfl) _ (HIX.out _) ?_)
        refine (HG.out _).mono ?_
        rintro e W1 ⟨rfl, hb1⟩
        have hI1 := HI.out.below (((Below.refl _ wr).alloc (Nat.le_refl _) _).trans (hb1.mono (by simp)))
        obtain ⟨y, hy⟩ : ∃ y, y = (if k < k then headAt s k else 0) := ⟨_, rfl⟩
        have ck1 := hI1.at_ hlt
        rw [← hy] at ck1
        have fk1 := blk_frozen hI1.arr k
        have HI1 := Lib.hid (hI1.put hlt)
        rw [← HXK.out] at HI1
        clear hb1 hI1 HI HG HIX ck hy
        go_wp2_with fail
        go_roundg j
        case measure => omega
        case rel => exact ⟨k + 1, hjk, by go_num, HI1.out⟩
      · obtain rfl : k = 4 := by omega
        obtain rfl : gk = 0 := by omega
        have HI := Lib.hid hI
        have h3 := hI.at_ (i := 3) (by omega)
        have h2 := hI.at_ (i := 2) (by omega)
        have h1 := hI.at_ (i := 1) (by omega)
        have h0 := hI.at_ (i := 0) (by omega)
        rw [if_pos (by omega)] at h0 h1 h2 h3
        have hn := num_range s 16 4
        change wr.cell? ⟨gh, 3, none⟩ = some (.int .i64 (num s 16 4)) at h3
        change wr.cell? ⟨gh, 2, none⟩ = some (.int .i64 (num s 12 4)) at h2
        change wr.cell? ⟨gh, 1, none⟩ = some (.int .i64 (num s 6 6)) at h1
        change wr.cell? ⟨gh, 0, none⟩ = some (.int .i64 (num s 0 6)) at h0
        have hz := hI.z
        rw [← HGR.out] at hz
        have r0 := (blk_cell hz 0).trans rfl
        have r1 := (blk_cell hz 1).trans rfl
        have r2 := (blk_cell hz 2).trans rfl
        have r3 := (blk_cell hz 3).trans rfl
        have fr0 := blk_frozen hz 0
        have fr1 := blk_frozen hz 1
        have fr2 := blk_frozen hz 2
        have fr3 := blk_frozen hz 3
        have HZ := Lib.hid hz
        obtain ⟨n3, hn3⟩ : ∃ n, n = num s 16 4 := ⟨_, rfl⟩
        have hR := HR.out
        rw [← hn3] at h3 hn hR
        have e14 : (((s.size - 20) / 14 : Nat) : Int) = ((s.size : Int) - 20) / 14 := by omega
        have e20 : ((s.size - 20 : Nat) : Int) = (s.size : Int) - 20 := by omega
        rw [e14, e20] at hR
        have hn0 := hn.1
        have hn1 : n3 < 4294967296 := hn.2
        by_cases hA : n3 > ((s.size : Int) - 20) / 14
        · rw [if_pos hA] at hR
          have HR := Lib.hid hR
          have hA' : ((s.size : Int) - 20) / 14 < n3 := hA
          clear hR hI hz hn e14 e20 hn3
          go_wp2_with fail
          rw [HR.out]
          refine bodyPost_ret (v := .tuple #[.agg #[.int .i64 0, .int .i64 0, .int .i64 0, .slice none 0 0], .int .i64 3]) (by simp [results, Try.results15, go_sem, r0, r1, r2, r3]) rfl ⟨_, rfl, FndRow.nil _, ?_⟩
          exact (((HI.out.bel.setCell (p := ⟨gr, 0, none⟩) (by rw [HGR.out]; exact Nat.le_refl _) _).setCell (p := ⟨gr, 1, none⟩) (by rw [HGR.out]; exact Nat.le_refl _) _).setCell (p := ⟨gr, 2, none⟩) (by rw [HGR.out]; exact Nat.le_refl _) _).setCell (p := ⟨gr, 3, none⟩) (by rw [HGR.out]; exact Nat.le_refl _) _
        · rw [if_neg hA] at hR
          by_cases hB : (s.size : Int) - 20 > n3 * 14
          · rw [if_pos hB] at hR
            have HR := Lib.hid hR
            have hA' : n3 ≤ ((s.size : Int) - 20) / 14 := by omega
            have hB' : n3 * 14 < (s.size : Int) - 20 := hB
            clear hR hI hz hn e14 e20 hn3 hA hB
            go_wp2_with fail
            rw [HR.out]
            refine bodyPost_ret (v := .tuple #[.agg #[.int .i64 0, .int .i64 0, .int .i64 0, .slice none 0 0], .int .i64 4]) (by simp [results, Try.results15, go_sem, r0, r1, r2, r3]) rfl ⟨_, rfl, FndRow.nil _, ?_⟩
            exact (((HI.out.bel.setCell (p := ⟨gr, 0, none⟩) (by rw [HGR.out]; exact Nat.le_refl _) _).setCell (p := ⟨gr, 1, none⟩) (by rw [HGR.out]; exact Nat.le_refl _) _).setCell (p := ⟨gr, 2, none⟩) (by rw [HGR.out]; exact Nat.le_refl _) _).setCell (p := ⟨gr, 3, none⟩) (by rw [HGR.out]; exact Nat.le_refl _) _
          · rw [if_neg hB] at hR
            obtain ⟨m, hm⟩ : ∃ m, m = (s.size - 20) / 14 := ⟨_, rfl⟩
            have hn3m : n3 = (m : Int) := by omega
            have hsm : s.size = 20 + 14 * m := by omega
            rw [← hm] at hR
            have hA' : n3 ≤ ((s.size : Int) - 20) / 14 := by omega
            have hB' : (s.size : Int) - 20 ≤ n3 * 14 := by omega
            have HR := Lib.hid hR
            have HM := Lib.hid hsm
            clear hR hI hz hn e14 e20 hn3 hA hB hm hn3m hsm
            go_wp2_with fail
            have hF0 : FndI w wr.heap.size s 0 (.slice none 0 0) (wr.alloc (.cells #[.int .i64 (num s 0 6), .int .i64 (num s 6 6), .int .i64 (num s 12 4), .slice none 0 0] 24 (0, 0))) :=
              ⟨HI.out.bel.alloc HI.out.bel.size _, by have := blk_lt HI.out.z; omega, (Lib.alloc_old _ _ _ (blk_lt HI.out.z)).trans HI.out.z, get_top rfl, Row.nil _ _ _, by simp [Value.ownBlock]⟩
            generalize (wr.alloc (.cells #[.int .i64 (num s 0 6), .int .i64 (num s 6 6), .int .i64 (num s 12 4), .slice none 0 0] 24 (0, 0))) = W5 at hF0 ⊢
            obtain ⟨g8, hg8⟩ : ∃ g, g = wr.heap.size := ⟨_, rfl⟩
            rw [← hg8] at hF0 ⊢
            have HF0 := Lib.hid hF0
            clear hF0 hg8 r0 r1 r2 r3 fr0 fr1 fr2 fr3 h0 h1 h2 h3 HI HZ
            go_loopg [9] m (fun j i wr => ∃ (k P : Nat) (v : Value), j + k = m ∧ P = 20 + 14 * k ∧ i = .int .i64 (P : Int) ∧ FndI w g8 s k v wr)
            case atStart => exact ⟨0, 20, _, by omega, rfl, rfl, HF0.out⟩
            case round =>
              clear HF0
              obtain ⟨k, P, v, hk, hP, rfl, hF⟩ := hrel
              by_cases hlt : k < m
              · obtain ⟨j, rfl⟩ : ∃ j, gk = j + 1 := ⟨gk - 1, by omega⟩
                have hsm := HM.out
                have u1 : (P : Int) < (s.size : Int) := by omega
                have hjk : j + (k + 1) = m := by omega
                have HPK := Lib.hid hP
                have hPs : P + 14 ≤ s.size := by omega
                have HF := Lib.hid hF
                clear hF hk hP hlt hsm
                go_wp2_with fail
                obtain ⟨x, hx⟩ : ∃ x, x = (fndAt s P).fnd := ⟨_, rfl⟩
                have HX := Lib.hid hx
                have hN0 : InI w g8 s k v wr.heap.size x 0 (wr.alloc (.cells #[.int .i64 0, .int .i64 0, .int .i64 0, .int .i64 0] 66 (0, 0))) :=
                  ⟨HF.out.below ((Below.refl _ _).alloc (Nat.le_refl _) _), blk_lt HF.out.r, get_top rfl⟩
                generalize (wr.alloc (.cells #[.int .i64 0, .int .i64 0, .int .i64 0, .int .i64 0] 66 (0, 0))) = W6 at hN0 ⊢
                obtain ⟨ga, hga⟩ : ∃ g, g = wr.heap.size := ⟨_, rfl⟩
                rw [← hga] at hN0 ⊢
                have HN0 := Lib.hid hN0
                clear hN0 hga hx HF
                go_loopg [75] 4 (fun j i wr => ∃ q : Nat, j + q = 4 ∧ i = .int .i64 (q : Int) ∧ InI w g8 s k v ga x q wr)
                case atStart => exact ⟨0, rfl, rfl, HN0.out⟩
                case round =>
                  clear HN0
                  obtain ⟨q, hq, rfl, hI⟩ := hrel
                  by_cases hlt : q < 4
                  · obtain ⟨o, d, ho, hd, hd1, hd6, hod, hnum⟩ := body_off s P q hlt
                    have hix := index42 0 2 2 4 6 4 10 4 q hlt
                    rw [ho, hd] at hix
                    have HIX := Lib.hid hix
                    have hg := fun W => Get_ok s (P + o) (d : Int) (by omega) (by omega) (by omega) (by omega) (by omega) W
                    rw [Int.toNat_natCast, hnum, ← HX.out, Int.natCast_add] at hg
                    have HG := Lib.hid hg
                    have HI := Lib.hid hI
                    have hk4 : (q : Int) < 4 := by omega
                    obtain ⟨jj, rfl⟩ : ∃ j, gk = j + 1 := ⟨gk - 1, by omega⟩
                    have hjq : jj + (q + 1) = 4 := by omega
                    obtain ⟨y, hy⟩ : ∃ y, y = x q := ⟨_, rfl⟩
                    rw [← hy] at HG
                    have HY := Lib.hid hy
                    have hPo : (P : Int) + (o : Int) ≤ 9223372036854775807 := by omega
                    clear hix ho hd hod hnum hI hq hg hy
                    go_wp2_with (refine wpList_index_here (by rfl) 67 _ _ (by rfl) _ _ (by rfl) (by rfl) _ (HIX.out _) ?_)
                    refine (HG.out _).mono ?_
                    rintro e W7 ⟨rfl, hb7⟩
                    have hI7 := HI.out.below (((Below.refl _ _).alloc (Nat.le_refl _) _).trans (hb7.mono (by simp)))
                    obtain ⟨y0, hy0⟩ : ∃ y, y = (if q < q then x q else 0) := ⟨_, rfl⟩
                    have ck1 := hI7.at_ hlt
                    rw [← hy0] at ck1
                    have fk1 := blk_frozen hI7.arr q
                    have HI7 := Lib.hid (hI7.put hlt)
                    rw [← HY.out] at HI7
                    clear hb7 hI7 HI HG HIX hy0
                    go_wp2_with fail
                    go_roundg jj
                    case measure => omega
                    case rel => exact ⟨q + 1, hjq, by go_num, HI7.out⟩
                  · obtain rfl : q = 4 := by omega
                    obtain rfl : gk = 0 := by omega
                    have b0 := hI.at_ (i := 0) (by omega)
                    have b1 := hI.at_ (i := 1) (by omega)
                    have b2 := hI.at_ (i := 2) (by omega)
                    have b3 := hI.at_ (i := 3) (by omega)
                    rw [if_pos (by omega)] at b0 b1 b2 b3
                    obtain ⟨ff, hff⟩ : ∃ f, f = fndAt s P := ⟨_, rfl⟩
                    rw [HX.out, ← hff] at b0 b1 b2 b3
                    change wr.cell? ⟨ga, 0, none⟩ = some (.int .i64 ff.a) at b0
                    change wr.cell? ⟨ga, 1, none⟩ = some (.int .i64 ff.b) at b1
                    change wr.cell? ⟨ga, 2, none⟩ = some (.int .i64 ff.c) at b2
                    change wr.cell? ⟨ga, 3, none⟩ = some (.int .i64 ff.d) at b3
                    obtain ⟨ao, cap, rfl, hcap⟩ := hI.f.row.form
                    have hfc := hI.f
                    have hr8 := hfc.r
                    have c83 := (blk_cell hr8 3).trans rfl
                    have f83 := blk_frozen hr8 3
                    have hlt8 := blk_lt hr8
                    have hlta := blk_lt hI.arr
                    obtain ⟨i0, hi, hz0, hz1, hz2⟩ := info_parts infoFinding
                    have HII := Lib.hid hi
                    have HZ0 := Lib.hid hz0
                    have HZ1 := Lib.hid hz1
                    have HZ2 := Lib.hid hz2
                    have HFC := Lib.hid hfc
                    have HFF := Lib.hid hff
                    have hkm : k ≤ 1000000 := by have := HPK.out; omega
                    have hne8 := hfc.row.ne_type hfc.r (by decide)
                    have HNE := Lib.hid hne8
                    clear hne8
                    clear hI hi hz0 hz1 hz2 hfc hr8 hff
                    go_wp2_with (refine wpList_append_row _ (by rfl) _ _ _ _ (by rfl) 54 i0 (.agg #[.int .i64 0, .int .i64 0, .int .i64 0, .int .i64 0]) 4 32 Try.underlying22 HII.out HZ0.out HZ1.out HZ2.out rfl (by omega) _ _ _ (by rfl) (HFC.out.row.alloc _) _ (by rfl) 1 [.int .i64 ff.a, .int .i64 ff.b, .int .i64 ff.c, .int .i64 ff.d] (Feeds.slice Try.underlying22 ⟨wr.heap.size, 0, none⟩ 1 1 _ (by rfl) (by simp [Value.oneCell']) (World.news_of_block (cs := #[.int .i64 ff.a, .int .i64 ff.b, .int .i64 ff.c, .int .i64 ff.d]) (t := 54) (fr := (0, 0)) (heap_alloc_new wr _))) (by unfold maxLen; omega) (by omega) (wr.heap.size + 1) (by simp) ?_; intro ao5 cap5 w5 hown5 hgrow5 hat5; have hr5 := (hgrow5.block g8 (by simp; omega) HNE.out).trans ((Lib.alloc_old wr _ g8 (blk_lt HFC.out.r)).trans HFC.out.r); have c85 := blk_cell hr5 3; have f85 := blk_frozen hr5 3; have HA5 := Lib.hid (FndI.app HFC.out ((Below.refl _ wr).alloc (Nat.le_refl _) _) (by rw [HFF.out, HPK.out]) hown5 hgrow5 (by simpa using hat5)); clear hown5 hgrow5 hat5 hr5)
                    go_roundg j
                    case measure => omega
                    case rel => exact ⟨k + 1, P + 14, _, hjk, by have := HPK.out; omega, by go_num, HA5.out⟩
              · obtain rfl : gk = 0 := by omega
                obtain rfl : k = m := by omega
                have hsm := HM.out
                have u1 : ¬ (P : Int) < (s.size : Int) := by omega
                obtain ⟨ao, cap, rfl, hcap⟩ := hF.row.form
                have hl := fndsOf_length s k
                have hrow : FndRow wr (.slice ao k cap) (fndsOf s k) := fndRow_row (by rw [hl]; exact hF.row) (fndsOf_wf s k)
                have c83 := (blk_cell hF.r 3).trans rfl
                have HF := Lib.hid hF
                have HRI := Lib.hid (fun (W : World) (h : FndRow W (.slice ao k cap) (fndsOf s k)) => rising_any _ _ W h (by rw [hl]; omega))
                have HROW := Lib.hid hrow
                obtain ⟨bb, hbb⟩ : ∃ b, b = rises (fndsOf s k) := ⟨_, rfl⟩
                have hR := HR.out
                rw [← hbb] at hR
                have HR2 := Lib.hid hR
                have HB := Lib.hid hbb
                clear hF hrow hbb hsm HR hl hR
                go_wp2_with fail
                refine (HRI.out _ HROW.out).mono ?_
                rintro e W8 ⟨he, hb8⟩
                have he' : e = .returned (.bool bb) := by rw [HB.out]; exact he
                subst he'
                have hF8 := HF.out.below hb8
                have HROW8 := Lib.hid (HROW.out.below hb8)
                have hz := hF8.z
                rw [← HGR.out] at hz
                have hr8 := hF8.r
                have r0 := (blk_cell hz 0).trans rfl
                have r1 := (blk_cell hz 1).trans rfl
                have r2 := (blk_cell hz 2).trans rfl
                have r3 := (blk_cell hz 3).trans rfl
                have fr0 := blk_frozen hz 0
                have fr1 := blk_frozen hz 1
                have fr2 := blk_frozen hz 2
                have fr3 := blk_frozen hz 3
                have t0 := (blk_cell hr8 0).trans rfl
                have t1 := (blk_cell hr8 1).trans rfl
                have t2 := (blk_cell hr8 2).trans rfl
                have t3 := (blk_cell hr8 3).trans rfl
                have HF8 := Lib.hid hF8
                have hR := HR2.out
                clear hF8 hz hr8 hb8 he HF HROW HRI c83 HR2
                cases bb with
                | false =>
                  rw [if_neg (by simp)] at hR
                  have HR := Lib.hid hR
                  clear hR
                  go_wp2_with fail
                  rw [HR.out]
                  refine bodyPost_ret (v := .tuple #[.agg #[.int .i64 0, .int .i64 0, .int .i64 0, .slice none 0 0], .int .i64 5]) (by simp [results, Try.results15, go_sem, r0, r1, r2, r3]) rfl ⟨_, rfl, FndRow.nil _, ?_⟩
                  exact (((HF8.out.bel.setCell (p := ⟨gr, 0, none⟩) (by rw [HGR.out]; exact Nat.le_refl _) _).setCell (p := ⟨gr, 1, none⟩) (by rw [HGR.out]; exact Nat.le_refl _) _).setCell (p := ⟨gr, 2, none⟩) (by rw [HGR.out]; exact Nat.le_refl _) _).setCell (p := ⟨gr, 3, none⟩) (by rw [HGR.out]; exact Nat.le_refl _) _
                | true =>
                  rw [if_pos rfl] at hR
                  have HR := Lib.hid hR
                  clear hR
                  go_wp2_with fail
                  rw [HR.out]
                  refine bodyPost_ret (v := .tuple #[.agg #[.int .i64 (num s 0 6), .int .i64 (num s 6 6), .int .i64 (num s 12 4), .slice ao k cap], .int .i64 0]) (by simp [results, Try.results15, go_sem, r0, r1, r2, r3]) rfl ⟨_, rfl, ?_, ?_⟩
                  · refine fndRow_row ?_ (fndsOf_wf s k)
                    rw [fndsOf_length]
                    refine HF8.out.row.kept (S := fun i => i = gr) (Keeps.setCell (S := fun i => i = gr) (Keeps.setCell (S := fun i => i = gr) (Keeps.setCell (S := fun i => i = gr) (Keeps.setCell (S := fun i => i = gr) (Keeps.refl _ _) (fun _ => rfl) _) (fun _ => rfl) _) (fun _ => rfl) _) (fun _ => rfl) _) (fun b hb he => ?_)
                    have := HF8.out.own b hb
                    have := HGR.out
                    omega
                  · exact (((HF8.out.bel.setCell (p := ⟨gr, 0, none⟩) (by rw [HGR.out]; exact Nat.le_refl _) _).setCell (p := ⟨gr, 1, none⟩) (by rw [HGR.out]; exact Nat.le_refl _) _).setCell (p := ⟨gr, 2, none⟩) (by rw [HGR.out]; exact Nat.le_refl _) _).setCell (p := ⟨gr, 3, none⟩) (by rw [HGR.out]; exact Nat.le_refl _) _
end Go.Proofs.Ythobfbiobnmceaa.B
