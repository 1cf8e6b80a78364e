/-
  A mix as cells of one block: what it reads as, and what each write leaves; the built-in copy of a text's bytes into the middle of a block.
-/
import Derived.Test.YtobgnmellbgfmaaTurned
import Derived.StillTailTactics
namespace Go.Proofs.Ytobgnmellbgfmaa.B
open Go.RowKit
set_option linter.unusedVariables false

/-! ### Ranges of a block known whole -/
def splc {α : Type} (L : List α) (o : Nat) (cs : List α) : List α := L.take o ++ (cs ++ L.drop (o + cs.length))
theorem splc_length {α : Type} (L : List α) (o : Nat) (cs : List α) (h : o + cs.length ≤ L.length) : (splc L o cs).length = L.length := by simp [splc]; omega
theorem midRange {W : World} {g : Nat} {a b c : List Value} {t : TypeId} {fr : Nat × Nat} (h : W.heap[g]? = some (.cells (a ++ (b ++ c)).toArray t fr)) {o : Nat} (ho : a.length = o) : W.rangeAt g o b := by
  subst ho
  intro j v hv
  have hj : j < b.length := (List.getElem?_eq_some_iff.1 hv).1
  rw [blk_cell h, List.getElem?_toArray, List.getElem?_append_right (by omega), Nat.add_sub_cancel_left, List.getElem?_append_left hj, hv]
theorem midThere {W : World} {g : Nat} {L : List Value} {t : TypeId} (h : W.heap[g]? = some (.cells L.toArray t (0, 0))) {o n : Nat} (hn : o + n ≤ L.length) : W.there g o n := fun j hj => by
  rw [blk_cell h]
  exact ⟨by simp; omega, blk_frozen h _⟩
theorem setMid {W : World} {g : Nat} {L : List Value} {t : TypeId} {fr : Nat × Nat} (h : W.heap[g]? = some (.cells L.toArray t fr)) (o : Nat) (cs : List Value) (hl : o + cs.length ≤ L.length) : (W.setCells g o cs).heap[g]? = some (.cells (splc L o cs).toArray t fr) := by
  obtain ⟨cur', h1, h2, h3⟩ := setCells_heap g cs o W L.toArray t fr h (by simpa using hl)
  rw [h1]
  congr 2
  apply Array.ext'
  rw [h3]
  simp [splc]
theorem setCells_keeps_at (w : World) (g o : Nat) (vs : List Value) : Keeps (fun i => i = g) w (w.setCells g o vs) := Keeps.of_grown (setCells_grown g vs o w) (fun k hk => (Option.some.inj hk).symm)

/-- Cells are stored into the middle of a block. -/
theorem wpList_store_part {P : Program} {ops : Array Oper} {rest : List Oper} {op : Oper} {a : Act} {w : World} {Q : Exit → Act → World → Prop} (hgd : op.guard = none) (ty : TypeId) (x y : Operand) (ho : op.op = .store ty x y)
    (g o : Nat) (cs L : List Value) (t : TypeId) (hx : a.eval x = .pointer (some ⟨g, o, none⟩)) (hy : a.eval y = .agg cs.toArray)
    (hg : w.heap[g]? = some (.cells L.toArray t (0, 0))) (hs : o + cs.length ≤ L.length) (hi : (P.info? ty).map (·.size) = some cs.length) (h1 : ∀ v ∈ cs, v.oneCell' = true)
    (h : ∀ W : World, W.heap[g]? = some (.cells (splc L o cs).toArray t (0, 0)) → Keeps (fun i => i = g) w W → wpList P ops Q rest (a.put op.dst undef) W) : wpList P ops Q (op :: rest) a w :=
  wpList_store_mid hgd ty x y ho g o cs.toArray hx hy (midThere hg (by simpa using hs)) (by simpa using hi) (all_oneCell_toArray h1) (h _ (by simpa using setMid hg o cs hs) (by simpa using setCells_keeps_at w g o cs))

/-- copy(dst, s) of a text's bytes. -/
theorem run_copy_str {P : Program} (w : World) (dT sT ty elem : TypeId) (g o dLen dCap : Nat) (s : ByteArray) (L : List Value) (t : TypeId)
    (hu : P.underlying dT = some (.slice elem)) (hs : (P.info? elem).map (·.size) = some 1) (hg : w.heap[g]? = some (.cells L.toArray t (0, 0))) (hfit : o + min s.size dLen ≤ L.length) :
    (Builtin.copy_ #[dT, sT] ty #[.slice (some ⟨g, o, none⟩) dLen dCap, .string s]).run P w = .ok (goInt (min s.size dLen : Nat)) (w.setCells g o (nums ((bytesOf s).take (min s.size dLen)))) := by
  have hc : ∀ n : Nat, ((s.extract 0 n).data.map fun b => Value.int .u8 b.toNat).toList = nums ((bytesOf s).take n) := fun n => by
    rw [Array.toList_map, Lib.extract_data, nums, bytesOf]
    simp only [Nat.sub_zero, List.drop_zero, List.map_take, List.map_map]
    rfl
  have hlen : (nums ((bytesOf s).take (min s.size dLen))).length = min s.size dLen := by
    rw [nums_length, List.length_take, bytesOf_length]
    omega
  have hst := run_storeCells_cells (P := P) g o (nums ((bytesOf s).take (min s.size dLen))) 0 w
    (fun j hj => by rw [Nat.add_zero]; exact ((midThere hg (o := o) (n := min s.size dLen) (by omega)) j (by omega)).1)
    (fun j hj => by rw [Nat.add_zero]; exact ((midThere hg (o := o) (n := min s.size dLen) (by omega)) j (by omega)).2) (nums_one _)
  simp only [Nat.add_zero] at hst
  cases hq : P.info? elem with
  | none => simp [hq] at hs
  | some i =>
    have hn : Nat.min s.size dLen = min s.size dLen := rfl
    have hsz : (sizeOf elem).run P w = .ok i.size w := by simp [sizeOf, typeInfo, hq]
    simp only [Builtin.copy_, Builtin.lenOf, Builtin.firstCells, hsz, Sem.run_bind, Sem.run_pure, run_underlying hu, Result.andThen_ok, List.getElem?_toArray, List.getElem?_cons_zero, List.getElem?_cons_succ, hn, hc, hst]

theorem wpList_copy_str {P : Program} {w : World} {ops : Array Oper} {rest : List Oper} {op : Oper} {a : Act} {Q : Exit → Act → World → Prop} (hgd : op.guard = none) (d x : Operand) (dT sT : TypeId)
    (ho : op.op = .call { callee := .builtin .copy, args := #[d, x], argTypes := #[dT, sT] }) (elem : TypeId) (hu : P.underlying dT = some (.slice elem)) (hs : (P.info? elem).map (·.size) = some 1)
    (g o dLen dCap : Nat) (s : ByteArray) (L : List Value) (t : TypeId) (hd : a.eval d = .slice (some ⟨g, o, none⟩) dLen dCap) (hx : a.eval x = .string s) (hg : w.heap[g]? = some (.cells L.toArray t (0, 0)))
    (n : Nat) (hn : n = min s.size dLen) (hfit : o + n ≤ L.length)
    (h : ∀ W : World, W.heap[g]? = some (.cells (splc L o (nums ((bytesOf s).take n))).toArray t (0, 0)) → Keeps (fun i => i = g) w W → wpList P ops Q rest (a.put op.dst (.int .i64 n)) W) : wpList P ops Q (op :: rest) a w := by
  subst hn
  refine wpList_plain hgd fun K hK => ?_
  have hrun := run_copy_str (P := P) w dT sT op.type elem g o dLen dCap s L t hu hs hg hfit
  unfold Oper.wp
  simp only [execOp, ho, resolve, invoke, builtin, Sem.run_bind, Sem.run_pure, Result.andThen_ok, List.map_toArray, List.map_cons, List.map_nil, hd, hx, hrun]
  have hl : (nums ((bytesOf s).take (min s.size dLen))).length = min s.size dLen := by
    rw [nums_length, List.length_take, bytesOf_length]
    omega
  exact hK _ _ (h _ (setMid hg o _ (by omega)) (setCells_keeps_at w g o _))
/-- The same store inside a region that draws its order. -/
theorem step_store_part {P : Program} {ops : Array Oper} {op : Oper} {a : Act} {w : World} {K : Act → World → Prop} {Q : Exit → Act → World → Prop} {E : Prop} (hgd : op.guard = none) (ty : TypeId) (x y : Operand) (ho : op.op = .store ty x y)
    (g o : Nat) (cs L : List Value) (t : TypeId) (hx : a.eval x = .pointer (some ⟨g, o, none⟩)) (hy : a.eval y = .agg cs.toArray)
    (hg : w.heap[g]? = some (.cells L.toArray t (0, 0))) (hs : o + cs.length ≤ L.length) (hi : (P.info? ty).map (·.size) = some cs.length) (h1 : ∀ v ∈ cs, v.oneCell' = true)
    (h : ∀ W : World, W.heap[g]? = some (.cells (splc L o cs).toArray t (0, 0)) → Keeps (fun i => i = g) w W → K (a.put op.dst undef) W) : if Region.wanted op (yielded ops a.tmps) = true then op.wp P a w K Q else E := by
  rw [if_pos (by simp [Region.wanted, hgd])]
  exact wp_store_mid ty x y ho g o cs.toArray hx hy (midThere hg (by simpa using hs)) (by simpa using hi) (all_oneCell_toArray h1) (h _ (by simpa using setMid hg o cs hs) (by simpa using setCells_keeps_at w g o cs))

/-- A range is loaded ahead of a region's tail. -/
theorem wpStill_load_mid {P : Program} {ops : Array Oper} {w : World} {Q : Act → Prop} {a : Act} {o : Oper} {rest : List Oper} (hgd : o.guard = none) (ty : TypeId) (x : Operand) (ho : o.op = .load ty x)
    (b off : Nat) (hx : a.eval x = .pointer (some ⟨b, off, none⟩)) (cs : List Value) (d : TypeDesc) (hc : w.rangeAt b off cs) (hu : P.underlying ty = some d) (hd : d.isRow = true) (hi : (P.info? ty).map (·.size) = some cs.length)
    (h : wpStill P ops w Q rest (a.put o.dst (.agg cs.toArray))) : wpStill P ops w Q (o :: rest) a := by
  refine wpStill_step fun K hK => ?_
  rw [if_pos (by simp [Region.wanted, hgd])]
  unfold Oper.still execOp
  simp only [ho, hx, Instr.loadAt, Instr.sureAddr, Sem.run_bind, Sem.run_pure, Result.andThen_ok, run_loadVar_mid w b off ty cs d hc hu hd hi]
  exact ⟨rfl, hK _ h⟩

theorem splc_mid {α : Type} {a b c cs : List α} {k o : Nat} (ha : a.length = k) (hl : o + cs.length ≤ b.length) : splc (a ++ (b ++ c)) (k + o) cs = a ++ (splc b o cs ++ c) := by
  subst ha
  simp only [splc]
  rw [List.take_append, List.take_of_length_le (by omega), Nat.add_sub_cancel_left, List.take_append_of_le_length (by omega), List.append_assoc, Nat.add_assoc, List.drop_append, List.drop_eq_nil_of_le (by omega), Nat.add_sub_cancel_left, List.drop_append_of_le_length hl, List.nil_append]
  simp
theorem splc_head {α : Type} {a b cs : List α} (hl : cs.length = a.length) : splc (a ++ b) 0 cs = cs ++ b := by
  simp [splc, hl]
theorem nums_splc (P : List Int) (o : Nat) (cs : List Int) : nums (splc P o cs) = splc (nums P) o (nums cs) := by
  simp [splc, nums]
theorem splc_take (P : List Int) (o : Nat) (cs : List Int) (hl : o + cs.length ≤ P.length) : (splc P o cs).take (o + cs.length) = P.take o ++ cs := by
  rw [splc, ← List.append_assoc, List.take_append_of_le_length (by simp; omega), List.take_of_length_le (by simp; omega)]

/-! ### A block of bytes, filled up -/
theorem feed_small {cs new P : List Int} {h : Nat} (hh : cs.length % 64 = h) (hP : P.length = 64) (hp : P.take h = cs.drop (64 * (cs.length / 64))) (hn : h + new.length < 64) :
    (cs ++ new).length / 64 = cs.length / 64 ∧ (cs ++ new).length % 64 = h + new.length ∧ shaN (cs ++ new) (cs.length / 64) = shaN cs (cs.length / 64) ∧ (splc P h new).take (h + new.length) = (cs ++ new).drop (64 * (cs.length / 64)) := by
  refine ⟨by simp; omega, by simp; omega, shaN_prefix cs new _ (by omega), ?_⟩
  rw [splc_take P h new (by omega), hp, List.drop_append_of_le_length (by omega)]
theorem feed_full {cs new P : List Int} {h : Nat} (hh : cs.length % 64 = h) (hP : P.length = 64) (hp : P.take h = cs.drop (64 * (cs.length / 64))) (hn : h + new.length = 64) :
    (cs ++ new).length / 64 = cs.length / 64 + 1 ∧ (cs ++ new).length % 64 = 0 ∧ shaN (cs ++ new) (cs.length / 64 + 1) = turn (shaN cs (cs.length / 64)) (splc P h new) ∧ (splc P h new).length = 64 := by
  have h1 : (cs ++ new).length = cs.length + new.length := List.length_append
  have h2 : (splc P h new).length = 64 := by rw [splc_length _ _ _ (by omega), hP]
  refine ⟨by omega, by omega, ?_, h2⟩
  have h3 := splc_take P h new (by omega)
  rw [List.take_of_length_le (by omega), hp] at h3
  rw [shaN, shaN_prefix cs new _ (by omega), h3, List.drop_append_of_le_length (by omega), List.take_of_length_le (by simp; omega)]

/-! ### The mix -/
/-- A mix's cells: its state, its part, how many of that are held, how many it has taken, that New gave it. -/
def mixC (H P : List Int) (h a : Int) : List Value := u32s H ++ (nums P ++ [.int .i64 h, .int .u64 a, .bool true])
theorem mixC_length {H P : List Int} (hH : H.length = 8) (hP : P.length = 64) (h a : Int) : (mixC H P h a).length = 75 := by simp [mixC, u32s_length, nums_length, hH, hP]
theorem mixC_oneCell (H P : List Int) (h a : Int) : ∀ v ∈ mixC H P h a, v.oneCell' = true := by
  intro v hv
  rw [mixC, List.mem_append, List.mem_append] at hv
  rcases hv with hv | hv | hv
  · exact u32s_oneCell H v hv
  · exact nums_one P v hv
  · simp at hv
    rcases hv with rfl | rfl | rfl <;> rfl
/-- Block g is a mix. -/
structure MixV (W : World) (g : Nat) (H P : List Int) (h a : Int) : Prop where
  blk : W.heap[g]? = some (.cells (mixC H P h a).toArray 38 (0, 0))
  h8 : H.length = 8
  p64 : P.length = 64
theorem mix_tail {H P : List Int} (hH : H.length = 8) (hP : P.length = 64) (h a : Int) (i : Nat) : (mixC H P h a)[72 + i]? = [Value.int .i64 h, .int .u64 a, .bool true][i]? := by
  rw [mixC, List.getElem?_append_right (by rw [u32s_length]; omega), List.getElem?_append_right (by rw [nums_length, u32s_length]; omega)]
  rw [nums_length, u32s_length, hH, hP]
  congr 1
  omega
theorem mix_tail_set {H P : List Int} (hH : H.length = 8) (hP : P.length = 64) (h a : Int) (i : Nat) (v : Value) : (mixC H P h a).set (72 + i) v = u32s H ++ (nums P ++ [Value.int .i64 h, .int .u64 a, .bool true].set i v) := by
  rw [mixC, List.set_append_right _ _ (by rw [u32s_length]; omega), List.set_append_right _ _ (by rw [nums_length, u32s_length]; omega), nums_length, u32s_length, hH, hP]
  congr 3
  omega
section
variable {W : World} {g : Nat} {H P : List Int} {h a : Int} (m : MixV W g H P h a)
include m
theorem MixV.held : W.cell? ⟨g, 72, none⟩ = some (.int .i64 h) := by rw [blk_cell m.blk, List.getElem?_toArray]; exact mix_tail m.h8 m.p64 h a 0
theorem MixV.all : W.cell? ⟨g, 73, none⟩ = some (.int .u64 a) := by rw [blk_cell m.blk, List.getElem?_toArray]; exact mix_tail m.h8 m.p64 h a 1
theorem MixV.made : W.cell? ⟨g, 74, none⟩ = some (.bool true) := by rw [blk_cell m.blk, List.getElem?_toArray]; exact mix_tail m.h8 m.p64 h a 2
theorem MixV.free (i : Nat) : W.frozen? ⟨g, i, none⟩ = false := blk_frozen m.blk i
theorem MixV.state : W.rangeAt g 0 (u32s H) := midRange (a := []) m.blk rfl
theorem MixV.part : W.rangeAt g 8 (nums P) := midRange m.blk (by rw [u32s_length, m.h8])
theorem MixV.setHeld (x : Int) : MixV (W.setCell ⟨g, 72, none⟩ (.int .i64 x)) g H P x a := ⟨by
  rw [blk_set m.blk, List.setIfInBounds_toArray]
  congr 3
  exact mix_tail_set m.h8 m.p64 h a 0 _, m.h8, m.p64⟩
theorem MixV.setAll (x : Int) : MixV (W.setCell ⟨g, 73, none⟩ (.int .u64 x)) g H P h x := ⟨by
  rw [blk_set m.blk, List.setIfInBounds_toArray]
  congr 3
  exact mix_tail_set m.h8 m.p64 h a 1 _, m.h8, m.p64⟩
theorem MixV.drewN (n : Nat) : MixV (W.drewN n) g H P h a := ⟨m.blk, m.h8, m.p64⟩
theorem MixV.drew : MixV W.drew g H P h a := ⟨m.blk, m.h8, m.p64⟩
theorem MixV.alloc (o : Obj) : MixV (W.alloc o) g H P h a := ⟨get_below m.blk, m.h8, m.p64⟩
theorem MixV.kept {S : Nat → Prop} {W1 : World} (hk : Keeps S W W1) (hn : ¬ S g) : MixV W1 g H P h a := ⟨hk.at_ m.blk hn, m.h8, m.p64⟩
theorem MixV.below {B : Nat} {W1 : World} (hb : Below B W W1) (hB : g < B) : MixV W1 g H P h a := ⟨(hb.block g hB).trans m.blk, m.h8, m.p64⟩
theorem MixV.fits : (mixC H P h a).length = 75 := mixC_length m.h8 m.p64 h a
theorem MixV.copied {o : Nat} {new : List Int} (hl : o + new.length ≤ 64) : splc (mixC H P h a) (8 + o) (nums new) = mixC H (splc P o new) h a := by
  rw [mixC, splc_mid (by rw [u32s_length, m.h8]) (by rw [nums_length, nums_length, m.p64]; exact hl), ← nums_splc, mixC]
theorem MixV.turned (H1 : List Int) (h1 : H1.length = 8) : splc (mixC H P h a) 0 (u32s H1) = mixC H1 P h a := by
  rw [mixC, splc_head (by rw [u32s_length, u32s_length, m.h8, h1]), mixC]
theorem MixV.lt : g < W.heap.size := blk_lt m.blk
end
theorem Bs.splc {P new : List Int} (hP : Bs P) (hn : Bs new) (o : Nat) : Bs (splc P o new) := (hP.take o).append (hn.append (hP.drop _))
/-- Block g is a mix that has taken bs, and of which 'all' says a. -/
def MixA (W : World) (g : Nat) (bs : List Int) (a : Int) : Prop := ∃ P, P.take (bs.length % 64) = bs.drop (64 * (bs.length / 64)) ∧ MixV W g (shaN bs (bs.length / 64)) P ((bs.length % 64 : Nat) : Int) a ∧ Bs P
theorem infoMix : (Try.prog.info? 38).map (·.size) = some 75 := by kernel_rfl
theorem infoB64 : (Try.prog.info? 35).map (·.size) = some 64 := by kernel_rfl
theorem sizeByte : (Try.prog.info? 5).map (·.size) = some 1 := by kernel_rfl
end Go.Proofs.Ytobgnmellbgfmaa.B
