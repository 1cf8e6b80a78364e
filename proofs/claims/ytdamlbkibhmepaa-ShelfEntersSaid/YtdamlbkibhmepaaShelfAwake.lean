/-
  Chapter 11's first example, walked.
-/
import Derived.Test.YtdamlbkibhmepaaBody
namespace Go.Proofs.Ytdamlbkibhmepaa.B
open Go.RowKit
set_option linter.unusedVariables false
set_option linter.unusedSimpArgs false

def exL0 : List Ent := List.replicate 16 .zero
def exE : Ent := ⟨⟨#[97]⟩, 3, 1⟩
def exL1 : List Ent := exE :: List.replicate 15 .zero
def exS : ByteArray := (bodySpec exL1).1
theorem ex_body : bodySpec exL1 = (exS, 0) := by
  have : (bodySpec exL1).2 = 0 := by decide +kernel
  rw [← this]
  rfl
theorem ex_page : pageSpec exS = (exL1, 0) := by decide +kernel
theorem ex_spare0 : spareL exL0 = 0 := by decide +kernel
theorem ex_spare1 : spareL exL1 = 1 := by decide +kernel
theorem ex_size : exS.size = 448 := by decide +kernel
theorem ex_wf0 : ∀ f ∈ exL0, f.wf := by
  intro f hf
  rw [exL0, List.mem_replicate] at hf
  rw [hf.2]
  exact ⟨Nat.zero_le _, by simp [in64, Ent.zero], by simp [in64, Ent.zero]⟩
theorem ex_wf1 : ∀ f ∈ exL1, f.wf := by
  intro f hf
  rw [exL1, List.mem_cons, List.mem_replicate] at hf
  rcases hf with rfl | ⟨_, rfl⟩
  · refine ⟨?_, by simp [in64, exE], by simp [in64, exE]⟩
    show 1 ≤ maxLen
    unfold maxLen
    omega
  · exact ⟨Nat.zero_le _, by simp [in64, Ent.zero], by simp [in64, Ent.zero]⟩
theorem Row.lit3 {w : World} {g : Nat} {cs : Array Value} {e : TypeId} (h : w.heap[g]? = some (.cells cs e (0, 0))) (n : Nat) (hn : cs.size = n * 3) (hm : n ≤ maxLen) : Row w e 3 (.slice (some ⟨g, 0, none⟩) n n) n cs.toList :=
  ⟨by simp [hn], .inr ⟨g, n, cs, 0, 0, rfl, h, .inl (Nat.le_refl _), Nat.le_refl _, hm, by omega, by rw [← hn, ← Array.length_toList, List.take_length]⟩⟩
theorem made_ents : madeCells (Value.cells (.agg #[.string ⟨#[]⟩, .int .i64 0, .int .i64 0])) (16 * 3) = (ecells exL0).toArray := by kernel_rfl
theorem wpList_make_ents {ops : Array Oper} {rest : List Oper} {op : Oper} {a : Act} {w : World} {Q : Exit → Act → World → Prop} (hgd : op.guard = none) (x y : Operand) (ho : op.op = .makeSlice 22 x y)
    (hx : a.eval x = .int .i64 16) (hy : a.eval y = .int .i64 16)
    (h : wpList Try.prog ops Q rest (a.put op.dst (.slice (some ⟨w.heap.size, 0, none⟩) 16 16)) (w.alloc (.cells (ecells exL0).toArray 37 (0, 0)))) : wpList Try.prog ops Q (op :: rest) a w := by
  obtain ⟨i0, hi, hz0, hz1, hz2⟩ := info_parts infoEntry
  have hr := run_make (P := Try.prog) w 22 37 i0 _ Try.underlying22 hi hz0 .i64 .i64 16 16 (by omega) (Int.le_refl _) (by rw [hz2]; omega) (by omega)
  rw [hz1, show (16 : Int).toNat = 16 from rfl, made_ents] at hr
  refine wpList_plain hgd fun K hK => ?_
  have hK' := hK _ _ h
  unfold Oper.wp execOp
  simp only [ho, hx, hy, Sem.run_bind, hr, Result.andThen_ok, Sem.run_pure]
  exact hK'
theorem ents_row {W : World} {g : Nat} {l : List Ent} (h : W.heap[g]? = some (.cells (ecells l).toArray 37 (0, 0))) (hm : l.length ≤ maxLen) (hf : ∀ f ∈ l, f.wf) : EntRow W (.slice (some ⟨g, 0, none⟩) l.length l.length) l :=
  entRow_row (by
    have := Row.lit3 h l.length (by rw [List.size_toArray, ecells_length]) hm
    simpa using this) hf
theorem eql_ent (f : Ent) (W : World) : (binOp .eql 37 (.agg #[.string f.nm, .int .i64 f.a, .int .i64 f.b]) (.agg #[.string f.nm, .int .i64 f.a, .int .i64 f.b])).run Try.prog W = .ok (.bool true) W := by
  have hu := Try.underlying37
  have hi := Try.underlying3
  have hs := Try.underlying9
  simp [go_sem]
theorem ex_sets {W : World} {g : Nat} (h : W.heap[g]? = some (.cells (ecells exL0).toArray 37 (0, 0))) :
    (((W.setCell ⟨g, 0, none⟩ (.string ⟨#[97]⟩)).setCell ⟨g, 1, none⟩ (.int .i64 3)).setCell ⟨g, 2, none⟩ (.int .i64 1)).heap[g]? = some (.cells (ecells exL1).toArray 37 (0, 0)) :=
  (blk_set (blk_set (blk_set h 0 _) 1 _) 2 _).trans (by congr 2)

set_option maxRecDepth 100000 in
set_option maxHeartbeats 1600000 in
theorem shelfAwake_any (w : World) : Calls Try.prog 14 #[] w fun e w' => e = .returned (.bool true) ∧ Below w.heap.size w w' := by
  have hu := Try.underlying37
  have hb0 : (w.alloc (.cells (ecells exL0).toArray 37 (0, 0))).heap[w.heap.size]? = some (.cells (ecells exL0).toArray 37 (0, 0)) := get_top rfl
  have hbel0 := (Below.refl _ w).alloc (Nat.le_refl _) (.cells (ecells exL0).toArray 37 (0, 0))
  obtain ⟨g, hg⟩ : ∃ g, g = w.heap.size := ⟨_, rfl⟩
  generalize hW0 : (w.alloc (.cells (ecells exL0).toArray 37 (0, 0))) = W0 at hb0 hbel0
  rw [← hg] at hb0 hbel0
  have HW0 := Lib.hid hW0
  have HG := Lib.hid hg
  have HB0 := Lib.hid hb0
  have HBEL0 := Lib.hid hbel0
  clear hW0 hb0 hbel0 hg
  go_enter Try.func14, Try.ntmps14
  go_wp2_with (refine wpList_make_ents (by rfl) _ _ (by rfl) (by rfl) (by rfl) ?_; rw [HW0.out, ← HG.out])
  have hr0 : EntRow W0 (.slice (some ⟨g, 0, none⟩) 16 16) exL0 := ents_row HB0.out (by decide) ex_wf0
  refine (Spare_any _ exL0 W0 hr0 (by decide)).mono ?_
  rw [ex_spare0]
  rintro e W1 ⟨rfl, hb1⟩
  have hB1 : W1.heap[g]? = _ := (hb1.block g (blk_lt HB0.out)).trans HB0.out
  have HB1 := Lib.hid hB1
  have HBEL1 := Lib.hid (HBEL0.out.trans (hb1.mono (by have := blk_lt HB0.out; omega)))
  have f0 := blk_frozen hB1 0
  have f1 := blk_frozen hB1 1
  have f2 := blk_frozen hB1 2
  have c0 : W1.cell? ⟨g, 0, none⟩ = some (.string ⟨#[]⟩) := (blk_cell hB1 0).trans rfl
  have c1 : W1.cell? ⟨g, 1, none⟩ = some (.int .i64 0) := (blk_cell hB1 1).trans rfl
  have c2 : W1.cell? ⟨g, 2, none⟩ = some (.int .i64 0) := (blk_cell hB1 2).trans rfl
  clear hB1 hb1 hr0 HB0 HBEL0 HW0
  go_wp2_with fail
  have hB2 := ex_sets HB1.out
  have hbel2 := ((HBEL1.out.setCell (p := ⟨g, 0, none⟩) (Nat.le_refl _) (.string ⟨#[97]⟩)).setCell (p := ⟨g, 1, none⟩) (Nat.le_refl _) (.int .i64 3)).setCell (p := ⟨g, 2, none⟩) (Nat.le_refl _) (.int .i64 1)
  generalize (((W1.setCell ⟨g, 0, none⟩ (.string ⟨#[97]⟩)).setCell ⟨g, 1, none⟩ (.int .i64 3)).setCell ⟨g, 2, none⟩ (.int .i64 1)) = W2 at hB2 hbel2 ⊢
  have hr2 : EntRow W2 (.slice (some ⟨g, 0, none⟩) 16 16) exL1 := ents_row hB2 (by decide) ex_wf1
  refine (Body_any _ exL1 W2 hr2).mono ?_
  rw [ex_body]
  rintro e W3 ⟨rfl, hb3⟩
  have HB3 := Lib.hid ((hb3.block g (blk_lt hB2)).trans hB2)
  have HBEL3 := Lib.hid (hbel2.trans (hb3.mono (by have := blk_lt hB2; omega)))
  have HR3 := Lib.hid (hr2.below hb3)
  clear hb3 hr2 hB2 hbel2 HB1 HBEL1 c0 c1 c2 f0 f1 f2
  simp only
  go_wp2_with fail
  refine (Page_any exS (by rw [ex_size]; omega) W3).mono ?_
  rw [ex_page]
  rintro e W4 ⟨v4, rfl, hr4, hb4, _⟩
  obtain ⟨ao4, cap4, rfl, hcap4, _⟩ := hr4.form
  obtain ⟨g4, o4, rfl, hg4, _, hc4⟩ := hr4.get (i := 0) (by decide)
  have e4 := hc4 0 (by decide)
  have y0 : W4.cell? ⟨g4, o4, none⟩ = some (.string ⟨#[97]⟩) := by
    have h := e4 0 _ rfl
    simp only [Nat.zero_mul, Nat.zero_add, Nat.add_zero] at h
    exact h
  have y1 : W4.cell? ⟨g4, o4 + 1, none⟩ = some (.int .i64 3) := by
    have h := e4 1 _ rfl
    simp only [Nat.zero_mul, Nat.zero_add, Nat.add_zero] at h
    exact h
  have y2 : W4.cell? ⟨g4, o4 + 2, none⟩ = some (.int .i64 1) := by
    have h := e4 2 _ rfl
    simp only [Nat.zero_mul, Nat.zero_add, Nat.add_zero] at h
    exact h
  have hR4 := HR3.out.below hb4
  have hB4 := (hb4.block g (blk_lt HB3.out)).trans HB3.out
  have z0 : W4.cell? ⟨g, 0, none⟩ = some (.string ⟨#[97]⟩) := (blk_cell hB4 0).trans rfl
  have z1 : W4.cell? ⟨g, 1, none⟩ = some (.int .i64 3) := (blk_cell hB4 1).trans rfl
  have z2 : W4.cell? ⟨g, 2, none⟩ = some (.int .i64 1) := (blk_cell hB4 2).trans rfl
  have HR4 := Lib.hid hR4
  have HB4 := Lib.hid hB4
  have HBEL4 := Lib.hid (HBEL3.out.trans (hb4.mono (by have := blk_lt HB3.out; omega)))
  have hlen : exL1.length = 16 := rfl
  simp only [hlen] at hcap4 ⊢
  clear hb4 hr4 hc4 e4 HR3 HB3 HBEL3 hR4 hB4 hlen
  have hE := eql_ent exE
  go_wp2_with fail
  have key4 : EntRow W4 (.slice (some ⟨g, 0, none⟩) 16 16) exL1 := HR4.out
  have hgl := blk_lt HB4.out
  go_region_held3 (fun w' => EntRow w' (.slice (some ⟨g, 0, none⟩) 16 16) exL1 ∧ w'.cell? ⟨g, 0, none⟩ = some (.string ⟨#[97]⟩) ∧ w'.cell? ⟨g, 1, none⟩ = some (.int .i64 3) ∧ w'.cell? ⟨g, 2, none⟩ = some (.int .i64 1) ∧ w'.cell? ⟨g4, o4, none⟩ = some (.string ⟨#[97]⟩) ∧ w'.cell? ⟨g4, o4 + 1, none⟩ = some (.int .i64 3) ∧ w'.cell? ⟨g4, o4 + 2, none⟩ = some (.int .i64 1)) (first | exact ⟨key4, z0, z1, z2, y0, y1, y2⟩ | exact ⟨key4.below (((Below.refl _ W4).drew).trans hb5), (World.cell?_of_block (hb5.block g hgl)).trans z0, (World.cell?_of_block (hb5.block g hgl)).trans z1, (World.cell?_of_block (hb5.block g hgl)).trans z2, (World.cell?_of_block (hb5.block g4 hg4)).trans y0, (World.cell?_of_block (hb5.block g4 hg4)).trans y1, (World.cell?_of_block (hb5.block g4 hg4)).trans y2⟩) (first | (go_at_call 19; refine (Spare_any _ exL1 W4.drew key4 (by decide)).mono ?_; rw [ex_spare1]; rintro e W5 ⟨rfl, hb5⟩))
  have HB5 := Lib.hid (HBEL4.out.trans ((((Below.refl _ W4).drew).trans hb5).mono (Nat.le_of_lt hgl)))
  clear hb5
  go_wp2_with fail
  go_ret
  rw [← HG.out]
  exact ⟨rfl, HB5.out⟩
end Go.Proofs.Ytdamlbkibhmepaa.B
