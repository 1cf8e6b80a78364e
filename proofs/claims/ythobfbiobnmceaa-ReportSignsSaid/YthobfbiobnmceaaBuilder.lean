/-
  strings.Builder, walked: a builder that a call has made: WriteString, String.
-/
import Derived.Test.YthobfbiobnmceaaBytes
import Derived.Lib.Builder
import Derived.Lib.UnsafeStr
import Derived.RegionTactic
import Derived.ChangeAlike
import Derived.Laws.Externs
namespace Go.Proofs.Ythobfbiobnmceaa.B
open Go.RowKit
set_option linter.unusedVariables false
set_option linter.unusedSimpArgs false

/-- Block g is a builder that holds the bytes xs; its row lies behind it. -/
structure BldV (W : World) (g : Nat) (p v : Value) (xs : List Int) : Prop where
  addr : p = .pointer none ∨ p = .pointer (some ⟨g, 0, none⟩)
  blk : W.heap[g]? = some (.cells #[p, v] 58 (0, 0))
  row : Row W 5 1 v xs.length (nums xs)
  own : ∀ b, v.ownBlock = some b → g < b
def Bld (W : World) (g : Nat) (xs : List Int) : Prop := ∃ p v, BldV W g p v xs
/-- What writing a builder leaves as it was: all below it, and all that is no row of bytes. -/
structure BFrame (g : Nat) (w w' : World) : Prop where
  bel : Below g w w'
  size : w.heap.size ≤ w'.heap.size
  rest : ∀ (k : Nat) (cs : Array Value) (t : TypeId) (fr : Nat × Nat), k ≠ g → w.heap[k]? = some (.cells cs t fr) → t ≠ 5 → w'.heap[k]? = some (.cells cs t fr)
theorem BFrame.refl (g : Nat) (w : World) : BFrame g w w := ⟨Below.refl _ _, Nat.le_refl _, fun _ _ _ _ _ h _ => h⟩
theorem BFrame.trans {g : Nat} {a b c : World} (h : BFrame g a b) (k : BFrame g b c) : BFrame g a c :=
  ⟨h.bel.trans k.bel, Nat.le_trans h.size k.size, fun i cs t fr hi hc ht => k.rest i cs t fr hi (h.rest i cs t fr hi hc ht) ht⟩
theorem BFrame.of_below {g : Nat} {a b : World} (hg : g ≤ a.heap.size) (h : Below a.heap.size a b) : BFrame g a b :=
  ⟨h.mono hg, h.size, fun i cs t fr hi hc ht => (h.block _ (blk_lt hc)).trans hc⟩
theorem Bld.below {W W1 : World} {g : Nat} {xs : List Int} (h : Bld W g xs) (hb : Below W.heap.size W W1) : Bld W1 g xs := by
  obtain ⟨p, v, h1, h2, h3, h4⟩ := h
  exact ⟨p, v, h1, (hb.block _ (blk_lt h2)).trans h2, h3.kept (S := fun _ => False) (Keeps.of_below hb) (fun _ _ h => h), h4⟩
theorem Bld.lt {W : World} {g : Nat} {xs : List Int} (h : Bld W g xs) : g < W.heap.size := by
  obtain ⟨p, v, h1, h2, h3, h4⟩ := h
  exact blk_lt h2
theorem Bld.new (w : World) : Bld (w.alloc (.cells #[.pointer none, .slice none 0 0] 58 (0, 0))) w.heap.size [] :=
  ⟨_, _, .inl rfl, get_top rfl, Row.nil _ _ _, by simp [Value.ownBlock]⟩
theorem infoBuilder : (Try.prog.info? 58).map (·.size) = some 2 := by kernel_rfl

set_option maxRecDepth 100000 in
theorem copyCheck_used (g : Nat) (w : World) (h0 : w.cell? ⟨g, 0, none⟩ = some (.pointer (some ⟨g, 0, none⟩))) :
    Calls Try.prog 62 #[.pointer (some ⟨g, 0, none⟩)] w fun e w' => e = .returned (.tuple #[]) ∧ w = w' := by
  obtain ⟨j, hj, _⟩ := Option.map_eq_some_iff.1 infoBuilder
  go_enter Try.func62, Try.ntmps62
  go_wp2
  rw [Lib.run_neq_ptr_same w _ Try.underlying56 hj]
  go_wp2
  go_end0
  exact ⟨rfl, rfl⟩
set_option maxRecDepth 100000 in
theorem copyCheck_fresh (g : Nat) (w : World) (h0 : w.cell? ⟨g, 0, none⟩ = some (.pointer none)) (hsh : w.shape? g = some (58, 2)) (hfz : w.frozen? ⟨g, 0, none⟩ = false) :
    Calls Try.prog 62 #[.pointer (some ⟨g, 0, none⟩)] w fun e w' => e = .returned (.tuple #[]) ∧ w.setCell ⟨g, 0, none⟩ (.pointer (some ⟨g, 0, none⟩)) = w' := by
  obtain ⟨j, hj, hjs⟩ := Option.map_eq_some_iff.1 infoBuilder
  go_enter Try.func62, Try.ntmps62
  go_wp2
  rw [Lib.run_to_unsafe w ⟨g, 0, none⟩ Try.underlying56 Try.underlying137 hj (by rw [hjs]; decide) hsh (Nat.zero_lt_succ 1)]
  simp only [Result.andThen]
  rw [Oper.upon_value]
  go_wp2
  rw [run_callFunc_extern Try.func76 (by kernel_rfl) (by kernel_rfl) (by kernel_rfl) (e := Extern.AbiNoEscape.same) (by kernel_rfl)]
  rw [Lib.run_noEscape]
  simp only [Result.andThen]
  rw [Oper.upon_value]
  go_wp2
  rw [Lib.run_from_unsafe w ⟨g, 0, none⟩ Try.underlying137 Try.underlying56 hj hsh (by kernel_rfl)]
  simp only [Result.andThen]
  rw [Oper.upon_value]
  go_wp2
  go_end0
  exact ⟨rfl, rfl⟩
theorem Bld.wrote {w w1 : World} {g cap : Nat} {p v : Value} {xs ys : List Int} {ao : Option Addr} (h : BldV w g (.pointer (some ⟨g, 0, none⟩)) v xs) (hown : Row w1 5 1 (.slice ao (xs.length + ys.length) cap) (xs.length + ys.length) (nums xs ++ nums ys)) (hgrow : w.grownBy w1 v.ownBlock)
    (hat : (Value.slice ao (xs.length + ys.length) cap).ownBlock = v.ownBlock ∨ (Value.slice ao (xs.length + ys.length) cap).ownBlock = some w.heap.size) :
    Bld (w1.setCell ⟨g, 1, none⟩ (.slice ao (xs.length + ys.length) cap)) g (xs ++ ys) ∧ BFrame g w (w1.setCell ⟨g, 1, none⟩ (.slice ao (xs.length + ys.length) cap)) := by
  have hlt := blk_lt h.blk
  have hne : some g ≠ v.ownBlock := fun he => by have := h.own g he.symm; omega
  have hb1 : w1.heap[g]? = _ := (hgrow.block g hlt hne).trans h.blk
  have hsz := hgrow.size
  have hgo : ∀ b, (Value.slice ao (xs.length + ys.length) cap).ownBlock = some b → g < b := fun b hb => by
    rcases hat with e | e
    · exact h.own b (by rw [← e]; exact hb)
    · rw [hb] at e; cases e; exact hlt
  refine ⟨⟨_, _, .inr rfl, ?_, ?_, hgo⟩, ?_, ?_, ?_⟩
  · rw [blk_set hb1]; rfl
  · rw [List.length_append, nums_append]
    refine hown.kept (S := fun i => i = g) (Keeps.setCell (S := fun i => i = g) (Keeps.refl _ _) (fun _ => rfl) _) (fun k hk he => ?_)
    have := hgo k hk
    omega
  · have hbw : Below g w w1 := ⟨hgrow.os, hgrow.tape, hgrow.output, hgrow.size, fun k hk => hgrow.block k (by omega) (fun he => by
      have := h.own k he.symm
      omega)⟩
    exact hbw.setCell (by simp) _
  · simpa [World.setCell] using hsz
  · intro k cs t fr hk hc ht
    refine (Below.heap_setCell _ _ _ _ (by simpa using hk)).trans ?_
    refine (hgrow.block k (blk_lt hc) (h.row.ne_type hc (fun e => ht e.symm))).trans hc

set_option maxRecDepth 100000 in
set_option maxHeartbeats 800000 in
theorem writeString_used (g : Nat) (s : ByteArray) (xs : List Int) (v : Value) (w0 w : World) (hcc : Calls Try.prog 62 #[.pointer (some ⟨g, 0, none⟩)] w0 fun e w' => e = .returned (.tuple #[]) ∧ w = w') (h : BldV w g (.pointer (some ⟨g, 0, none⟩)) v xs) (hsz : xs.length + s.size ≤ 100000000) :
    Calls Try.prog 44 #[.pointer (some ⟨g, 0, none⟩), .string s] w0 fun e w' => e = .returned (.tuple #[.int .i64 s.size, .nilIface]) ∧ Bld w' g (xs ++ bytesOf s) ∧ BFrame g w w' := by
  have c1 := blk_cell h.blk 1
  have f1 := blk_frozen h.blk 1
  have HCC := Lib.hid hcc
  have hne : some g ≠ v.ownBlock := fun he => by have := h.own g he.symm; omega
  obtain ⟨ao, cap, rfl, hcap⟩ := h.row.form
  obtain ⟨n, hn⟩ : ∃ n, n = xs.length := ⟨_, rfl⟩
  have hr := h.row
  have hb := h.blk
  rw [← hn] at hcap hsz c1 hne hr hb
  have HN := Lib.hid hn
  have HR := Lib.hid hr
  have HB := Lib.hid hb
  have HNE := Lib.hid hne
  have H := Lib.hid h
  obtain ⟨i0, hi, hz0, hz1, hz2⟩ := info_parts infoByte
  have HI := Lib.hid hi
  have HZ0 := Lib.hid hz0
  have HZ1 := Lib.hid hz1
  have HZ2 := Lib.hid hz2
  have hcells : Lib.strCells s = nums (bytesOf s) := (nums_bytesOf s).symm
  have HSC := Lib.hid hcells
  have hbl := bytesOf_length s
  have HBL := Lib.hid hbl
  clear hi hz0 hz1 hz2 h hcells hbl hne hn hr hb hcc
  go_enter Try.func44, Try.ntmps44
  go_wp2_with fail
  refine HCC.out.mono ?_
  rintro e W ⟨rfl, rfl⟩
  go_wp2_with (refine wpList_append_row _ (by rfl) _ _ _ _ (by rfl) 5 i0 (.int .u8 0) 1 1 Try.underlying50 HI.out HZ0.out HZ1.out HZ2.out rfl (by omega) _ _ _ (by rfl) HR.out _ (by rfl) s.size _ (Feeds.str Try.underlying9 s) (by unfold maxLen; omega) (by omega) w.heap.size rfl ?_; intro ao5 cap5 w5 hown5 hgrow5 hat5; have HG5 := Lib.hid hgrow5; have HO5 := Lib.hid hown5; have HA5 := Lib.hid hat5; have hb5 := (hgrow5.block g (blk_lt HB.out) HNE.out).trans HB.out; have c51 := blk_cell hb5 1; have f51 := blk_frozen hb5 1; clear hown5 hgrow5 hat5 hb5)
  go_ret2
  have hn := HN.out
  subst hn
  have hown := HO5.out
  have hat := HA5.out
  rw [HSC.out, ← HBL.out] at hown
  rw [← HBL.out] at hat
  have hfin := Bld.wrote (p := .pointer none) H.out hown HG5.out hat
  rw [HBL.out] at hfin
  exact ⟨rfl, hfin⟩
set_option maxRecDepth 100000 in
theorem writeString_any (g : Nat) (s : ByteArray) (xs : List Int) (w : World) (h : Bld w g xs) (hsz : xs.length + s.size ≤ 100000000) :
    Calls Try.prog 44 #[.pointer (some ⟨g, 0, none⟩), .string s] w fun e w' => e = .returned (.tuple #[.int .i64 s.size, .nilIface]) ∧ Bld w' g (xs ++ bytesOf s) ∧ BFrame g w w' := by
  obtain ⟨p, v, hv⟩ := h
  rcases hv.addr with rfl | rfl
  · have hb := hv.blk
    have hv1 : BldV (w.setCell ⟨g, 0, none⟩ (.pointer (some ⟨g, 0, none⟩))) g (.pointer (some ⟨g, 0, none⟩)) v xs := by
      refine ⟨.inr rfl, (blk_set hb 0 _).trans rfl, hv.row.kept (S := fun i => i = g) (Keeps.setCell (S := fun i => i = g) (Keeps.refl _ _) (fun _ => rfl) _) (fun k hk he => ?_), hv.own⟩
      have := hv.own k hk
      omega
    refine (writeString_used g s xs v w _ (copyCheck_fresh g w (blk_cell hb 0) (by simp [World.shape?, hb]) (blk_frozen hb 0)) hv1 hsz).mono ?_
    rintro e w' ⟨he, hbd, hf⟩
    refine ⟨he, hbd, BFrame.trans ⟨(Below.refl g w).setCell (by simp) _, by simp [World.setCell], fun k cs t fr hk hc _ => ?_⟩ hf⟩
    exact (Below.heap_setCell _ _ _ _ (by simpa using hk)).trans hc
  · exact writeString_used g s xs v w w (copyCheck_used g w (blk_cell hv.blk 0)) hv hsz
theorem byteCellsOf : Try.prog.cellsOf 5 = 1 := by kernel_rfl
set_option maxRecDepth 100000 in
theorem builder_string (g : Nat) (s : ByteArray) (w : World) (h : Bld w g (bytesOf s)) (h0 : 0 < s.size) :
    Calls Try.prog 28 #[.pointer (some ⟨g, 0, none⟩)] w fun e w' => e = .returned (.string s) ∧ Below g w w' := by
  obtain ⟨p, v, hv⟩ := h
  have hlen : (bytesOf s).length = s.size := bytesOf_length s
  have hr := hv.row
  rw [hlen] at hr
  obtain ⟨b, cap, rfl, hcap, hb⟩ := hr.form_pos h0
  obtain ⟨_, hz | ⟨b', cap', cur, lo, hi, he, hblk, _, _, hcm, hcs, _⟩⟩ := id hr
  · omega
  obtain ⟨rfl, rfl⟩ : b = b' ∧ cap = cap' := by simpa using he
  have hgb : g < b := hv.own b rfl
  have hne : s.data.toList ≠ [] := by
    intro h
    have := congrArg List.length h
    rw [Lib.size_eq] at h0
    simp at this
    simp [this] at h0
  have hl : s.data.toList.length = s.size := (Lib.size_eq s).symm
  have c1 : w.drew.cell? ⟨g, 1, none⟩ = some (.slice (some ⟨b, 0, none⟩) s.size cap) := blk_cell hv.blk 1
  have hSD : (Builtin.unsafeSliceData_ #[50] 98 #[.slice (some ⟨b, 0, none⟩) s.size cap]).run Try.prog w.drew = .ok (.pointer (some ⟨b, 0, none⟩)) w.drew :=
    Lib.run_unsafeSliceData_row _ _ _ _ _ _ (by omega)
  have hUS : (Builtin.unsafeString_ #[98, 3] 9 #[.pointer (some ⟨b, 0, none⟩), .int .i64 s.size]).run Try.prog w.drew = .ok (.string s) (w.drew.freeze ⟨b, 0, none⟩ s.size) := by
    have := Lib.run_unsafeString_row w.drew 98 3 9 5 Try.underlying98 byteCellsOf b cur.size (by have hg' : w.drew.heap[b]? = some (.cells cur 5 (lo, hi)) := hblk; simp [World.shape?, hg']) s.data.toList hne (by omega) (by unfold maxLen at hcm; omega) (by
      intro j x hx
      have h1 := hr.cells j (.int .u8 x.toNat) (by rw [nums_bytesOf]; simp [Lib.strCells, hx])
      rcases j with _ | j
      · exact h1
      · simpa [Addr.add] using h1)
    rwa [hl] at this
  clear hne hl he hlen hr
  go_enter Try.func28, Try.ntmps28
  go_wp2
  go_region
  all_goals (go_wp2; go_ret; exact ⟨rfl, Lib.below_freeze (Below.drew (Below.refl g w)) (p := ⟨b, 0, none⟩) (Nat.le_of_lt hgb) _⟩)
end Go.Proofs.Ythobfbiobnmceaa.B
