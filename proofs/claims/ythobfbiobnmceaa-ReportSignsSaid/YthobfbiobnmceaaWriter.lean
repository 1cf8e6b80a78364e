/-
  The writer of layer 1, (*pack.writer).put and .full, walked: what is laid behind the bytes that it has.
-/
import Derived.Test.YthobfbiobnmceaaProg
import Derived.Test.YthobfbiobnmceaaBase
import Derived.Test.YthobfbiobnmceaaBytes
namespace Go.Proofs.Ythobfbiobnmceaa.B
open Go.RowKit
set_option linter.unusedVariables false


/-- A writer: block g holds the slice v of the bytes xs, and whether something had no room. -/
structure Wr (w : World) (g : Nat) (v : Value) (xs : List Int) (bad : Bool) : Prop where
  blk : w.heap[g]? = some (.cells #[v, .bool bad] 120 (0, 0))
  own : Row w 5 1 v xs.length (nums xs)
  ne : some g ≠ v.ownBlock

theorem Wr.kept {S : Nat → Prop} {w w' : World} {g : Nat} {v : Value} {xs : List Int} {bad : Bool} (h : Wr w g v xs bad) (hk : Keeps S w w') (hg : ¬ S g) (hn : ∀ k, v.ownBlock = some k → ¬ S k) : Wr w' g v xs bad :=
  ⟨hk.at_ h.blk hg, h.own.kept hk hn, h.ne⟩
theorem Wr.lt {w : World} {g : Nat} {v : Value} {xs : List Int} {bad : Bool} (h : Wr w g v xs bad) : g < w.heap.size := blk_lt h.blk

/-- The lowest k bytes of a number. -/
def le (n : Int) (k : Nat) : List Int := (List.range k).map fun i => (n / 2 ^ (8 * i)) % 256
theorem le_length (n : Int) (k : Nat) : (le n k).length = k := by simp [le]
theorem le_succ (n : Int) (k : Nat) : le n (k + 1) = le n k ++ [(n / 2 ^ (8 * k)) % 256] := by simp [le, List.range_succ]

/-- From w to w' the writer at g (its row there: v) has come to hold xs' and bad'; nothing else was written. -/
def WrTo (g : Nat) (v : Value) (w : World) (xs' : List Int) (bad' : Bool) (w' : World) : Prop :=
  ∃ v', Wr w' g v' xs' bad' ∧ Keeps (fun i => i = g ∨ some i = v.ownBlock) w w' ∧ (v'.ownBlock = v.ownBlock ∨ ∃ b, v'.ownBlock = some b ∧ w.heap.size ≤ b)

theorem WrTo.refl {g : Nat} {v : Value} {w : World} {xs : List Int} {bad : Bool} (h : Wr w g v xs bad) : WrTo g v w xs bad w := ⟨v, h, Keeps.refl _ _, .inl rfl⟩
theorem WrTo.trans {g : Nat} {v v' : Value} {w w1 w2 : World} {xs : List Int} {bad : Bool}
    (hK : Keeps (fun i => i = g ∨ some i = v.ownBlock) w w1) (hv : v'.ownBlock = v.ownBlock ∨ ∃ b, v'.ownBlock = some b ∧ w.heap.size ≤ b)
    (h : WrTo g v' w1 xs bad w2) : WrTo g v w xs bad w2 := by
  obtain ⟨v2, h1, h2, h3⟩ := h
  refine ⟨v2, h1, hK.trans h2 ?_, ?_⟩
  · intro i hi hs
    rcases hs with hs | hs
    · exact .inl hs
    · rcases hv with e | ⟨b, e, hb⟩
      · exact .inr (hs.trans e)
      · rw [e] at hs; cases hs; omega
  · rcases h3 with e | ⟨b, e, hb⟩
    · rcases hv with e2 | ⟨b, e2, hb⟩
      · exact .inl (e.trans e2)
      · exact .inr ⟨b, e.trans e2, hb⟩
    · exact .inr ⟨b, e, by have := hK.size; omega⟩
/-- Behind a step that lays new blocks alone. -/
theorem WrTo.after {g : Nat} {v : Value} {w w1 : World} {xs : List Int} {bad : Bool} (h : Wr w g v xs bad) (hb : Below w.heap.size w w1) : Wr w1 g v xs bad :=
  h.kept (S := fun _ => False) (Keeps.of_below hb) (fun h => h) (fun _ _ h => h)

/-- Something has no room: the flag. -/
theorem flag_to {g : Nat} {v : Value} {w : World} {xs : List Int} {bad : Bool} (h : Wr w g v xs bad) : WrTo g v w xs true (w.setCell ⟨g, 1, none⟩ (.bool true)) := by
  have hk : Keeps (fun i => i = g) w (w.setCell ⟨g, 1, none⟩ (.bool true)) := (Keeps.refl (fun i => i = g) w).setCell (p := ⟨g, 1, none⟩) (fun _ => rfl) _
  refine ⟨v, ⟨?_, h.own.kept hk (fun k hk e => h.ne (by rw [hk, e])), h.ne⟩, hk.mono (fun i _ h => .inl h), .inl rfl⟩
  rw [blk_set h.blk]; simp

/-- An append to the row and its store: whatever is appended. -/
theorem step_to {g : Nat} {v : Value} {w wm w1 : World} {xs ys : List Int} {bad : Bool} {ao : Option Addr} {m cap : Nat} (h : Wr w g v xs bad) (hm : Below w.heap.size w wm) (hys : ys.length = m)
    (hown : Row w1 5 1 (.slice ao (xs.length + m) cap) (xs.length + m) (nums xs ++ nums ys)) (hgrow : wm.grownBy w1 v.ownBlock)
    (hat : (Value.slice ao (xs.length + m) cap).ownBlock = v.ownBlock ∨ (Value.slice ao (xs.length + m) cap).ownBlock = some wm.heap.size) :
    WrTo g v w (xs ++ ys) bad (w1.setCell ⟨g, 0, none⟩ (.slice ao (xs.length + m) cap)) := by
  have hlt := h.lt
  have hsz := hm.size
  have hb : w1.heap[g]? = some (.cells #[v, .bool bad] 120 (0, 0)) := by
    rw [hgrow.block g (by omega) h.ne, hm.block g hlt]
    exact h.blk
  have hne : some g ≠ (Value.slice ao (xs.length + m) cap).ownBlock := by
    rcases hat with e | e
    · rw [e]; exact h.ne
    · rw [e]; intro h; cases h; omega
  have hk1 : Keeps (fun i => i = g ∨ some i = v.ownBlock) w (w1.setCell ⟨g, 0, none⟩ (.slice ao (xs.length + m) cap)) := by
    refine Keeps.setCell ?_ (fun _ => .inl rfl) _
    exact (Keeps.of_below (S := fun i => i = g ∨ some i = v.ownBlock) hm).trans (Keeps.of_grown (S := fun i => some i = v.ownBlock) hgrow (fun k hk => hk.symm)) (fun i _ h => .inr h)
  refine ⟨.slice ao (xs.length + m) cap, ⟨?_, ?_, hne⟩, hk1, ?_⟩
  · rw [blk_set hb]; simp
  · have hl : (xs ++ ys).length = xs.length + m := by simp [hys]
    rw [hl, nums_append]
    exact hown.kept ((Keeps.refl (fun i => i = g) w1).setCell (p := ⟨g, 0, none⟩) (fun _ => rfl) _) (fun k hk e => hne (by rw [hk, e]))
  · rcases hat with e | e
    · exact .inl e
    · exact .inr ⟨_, e, hsz⟩

set_option maxRecDepth 100000 in
theorem put_neg (g : Nat) (v : Value) (xs : List Int) (bad : Bool) (n width : Int) (w : World) (h : Wr w g v xs bad) (hn : n < 0) :
    Calls Try.prog 61 #[.pointer (some ⟨g, 0, none⟩), .int .i64 n, .int .i64 width] w fun e w' => e = .returned (.tuple #[]) ∧ WrTo g v w xs true w' := by
  have hw := flag_to h
  have hc := blk_cell h.blk 1
  have hf := blk_frozen h.blk 1
  have hl := h.lt
  clear h
  go_enter Try.func61, Try.ntmps61
  go_wp2
  refine bodyPost_ret (results_none rfl _ _ _) rfl ?_
  exact ⟨rfl, hw⟩

set_option maxRecDepth 100000 in
theorem put_over (g : Nat) (v : Value) (xs : List Int) (bad : Bool) (n width : Int) (w : World) (h : Wr w g v xs bad) (hn : 0 ≤ n) (hn2 : n ≤ 9223372036854775807) (h0 : 0 ≤ width) (h6 : width ≤ 6)
    (hs : (n / 2 ^ (8 * width).toNat != 0) = true) :
    Calls Try.prog 61 #[.pointer (some ⟨g, 0, none⟩), .int .i64 n, .int .i64 width] w fun e w' => e = .returned (.tuple #[]) ∧ WrTo g v w xs true w' := by
  have hw := flag_to h
  have hc := blk_cell h.blk 1
  have hf := blk_frozen h.blk 1
  have hl := h.lt
  clear h
  go_enter Try.func61, Try.ntmps61
  go_wp2
  refine bodyPost_ret (results_none rfl _ _ _) rfl ?_
  exact ⟨rfl, hw⟩

set_option maxRecDepth 100000 in
theorem put_good (g : Nat) (v : Value) (xs : List Int) (bad : Bool) (n width : Int) (w : World) (h : Wr w g v xs bad) (hx : xs.length ≤ 1000000) (hn : 0 ≤ n) (hn2 : n ≤ 9223372036854775807) (h0 : 0 ≤ width) (h6 : width ≤ 6)
    (hs : (n / 2 ^ (8 * width).toNat != 0) = false) :
    Calls Try.prog 61 #[.pointer (some ⟨g, 0, none⟩), .int .i64 n, .int .i64 width] w fun e w' => e = .returned (.tuple #[]) ∧ WrTo g v w (xs ++ le n width.toNat) bad w' := by
  obtain ⟨i0, hi, hz0, hz1, hz2⟩ := info_parts infoByte
  have HI := Lib.hid hi
  have HZ0 := Lib.hid hz0
  have HZ1 := Lib.hid hz1
  have HZ2 := Lib.hid hz2
  clear hi hz0 hz1 hz2
  go_enter Try.func61, Try.ntmps61
  go_wp2
  go_loopw [6, 20] (fun a i wr => ∃ k : Nat, (k : Int) ≤ width ∧ i = .int .i64 k ∧ WrTo g v w (xs ++ le n k) bad wr) (fun _ i _ => width.toNat - (intOf i).toNat)
  case atStart => exact ⟨0, h0, rfl, by simpa [le] using WrTo.refl h⟩
  case round =>
    obtain ⟨k, hk, rfl, v', hW, hK, hv⟩ := hrel
    by_cases hlt : (k : Int) < width
    · have hc := blk_cell hW.blk 0
      have hf := blk_frozen hW.blk 0
      have hl := hW.lt
      have hh : k ≤ 5 := by omega
      have HW := Lib.hid hW
      have hlen : (xs ++ le n k).length ≤ 1000006 := by rw [List.length_append, le_length]; omega
      go_wp2
      have hw8 : IntKind.i64.wrap (8 * (k : Int)) = 8 * (k : Int) := IntWalk.i64_in _ (by omega)
      have hp8 : (0 : Int) ≤ 8 * (k : Int) := by omega
      have ht8 : (8 * (k : Int)).toNat = 8 * k := by omega
      have hm8 : min (8 * k) 64 = 8 * k := by omega
      clear hW
      go_region_law
        ((refine step_append_row (by rfl) _ _ _ _ (by rfl) 5 i0 (.int .u8 0) 1 1 Try.underlying50 HI.out HZ0.out HZ1.out HZ2.out rfl (by omega) v' _ _ (by rfl) ((HW.out.own.alloc _).drew) _ (by rfl) 1 [.int .u8 (IntKind.u8.wrap (n / 2 ^ (8 * k)))] (Feeds.slice Try.underlying50 ⟨wr.heap.size, 0, none⟩ 1 1 _ (by rfl) (by simp [Value.oneCell']) (World.news_of_block (cs := #[.int .u8 (IntKind.u8.wrap (n / 2 ^ (8 * k)))]) (t := 5) (fr := (0, 0)) (heap_alloc_new wr _))) (by unfold maxLen; omega) (by omega) (wr.heap.size + 1) (by simp) ?_; intro ao cap w1 hown1 hgrow hat; have hcz : w1.cell? ⟨g, 0, none⟩ = some v' := (hgrow.cell_far ⟨g, 0, none⟩ (by simp; omega) HW.out.ne).trans ((World.cell?_of_block (w := wr) (Below.heap_alloc wr _ g hl)).trans hc); have hfz : w1.frozen? ⟨g, 0, none⟩ = false := (hgrow.frozen_far ⟨g, 0, none⟩ (by simp; omega) HW.out.ne).trans ((World.frozen?_of_block (w := wr) (Below.heap_alloc wr _ g hl)).trans hf)))
      all_goals
        have hstep := step_to (ys := [(n / 2 ^ (8 * k)) % 256]) HW.out (((Below.refl _ wr).alloc (Nat.le_refl _) _).drew) rfl (by simpa [nums, IntKind.wrap, IntKind.bits, IntKind.signed] using hown1) hgrow (by simpa using hat)
        rw [List.append_assoc, ← le_succ] at hstep
        have hs2 := WrTo.trans hK hv hstep
        have hlq : (xs ++ le n k).length = xs.length + (le n k).length := List.length_append
        rw [hlq] at hs2
        have HS := Lib.hid hs2
        clear hgrow hown1 hat hstep hs2 hlq
        go_wp2
        go_roundw
        case rel => exact ⟨k + 1, by omega, by go_num, HS.out⟩
        case measure => simp [intOf]; omega
    · go_wp2
      have hkw : k = width.toNat := by omega
      subst hkw
      refine bodyPost_end (results_none rfl _ _ _) rfl ?_
      exact ⟨rfl, v', hW, hK, hv⟩

set_option maxRecDepth 100000 in
/-- So many bytes 0 behind. -/
theorem full_any (g : Nat) (v : Value) (xs : List Int) (bad : Bool) (n : Int) (w : World) (h : Wr w g v xs bad) (hx : xs.length ≤ 1000000) (h0 : 0 ≤ n) (hn : n ≤ 1000000) :
    Calls Try.prog 77 #[.pointer (some ⟨g, 0, none⟩), .int .i64 n] w fun e w' => e = .returned (.string (strOfNums (xs ++ List.replicate (n.toNat - xs.length) 0))) ∧ WrTo g v w (xs ++ List.replicate (n.toNat - xs.length) 0) bad w' := by
  obtain ⟨i0, hi, hz0, hz1, hz2⟩ := info_parts infoByte
  have HI := Lib.hid hi
  have HZ0 := Lib.hid hz0
  have HZ1 := Lib.hid hz1
  have HZ2 := Lib.hid hz2
  clear hi hz0 hz1 hz2
  go_enter Try.func77, Try.ntmps77
  go_wp2
  go_loopg [5] (n.toNat - xs.length) (fun j p wr => ∃ k, j + k = n.toNat - xs.length ∧ WrTo g v w (xs ++ List.replicate k 0) bad wr)
  case atStart => exact ⟨0, rfl, by simpa using WrTo.refl h⟩
  case round =>
    obtain ⟨k, hk, v', hW, hK, hv⟩ := hrel
    obtain ⟨ys, hys⟩ : ∃ ys, ys = xs ++ List.replicate k (0 : Int) := ⟨_, rfl⟩
    rw [← hys] at hW
    have hlen : ys.length = xs.length + k := by rw [hys]; simp
    obtain ⟨ao, cap, rfl, hcap⟩ := hW.own.form
    have hc := blk_cell hW.blk 0
    have hf := blk_frozen hW.blk 0
    have hl := hW.lt
    have HW := Lib.hid hW
    have HL := Lib.hid hlen
    have HY := Lib.hid hys
    by_cases hlt : xs.length + k < n.toNat
    · have ht : (ys.length : Int) < n := by rw [hlen]; omega
      have hlq : ys.length ≤ 2000000 := by rw [hlen]; omega
      clear hW hlen hys
      go_wp2_with (at_builtin; go_must (refine wpList_append_row _ (by rfl) _ _ _ _ (by rfl) 5 i0 (.int .u8 0) 1 1 Try.underlying50 HI.out HZ0.out HZ1.out HZ2.out rfl (by omega) _ _ _ (by rfl) (HW.out.own.alloc _) _ (by rfl) 1 [.int .u8 0] (Feeds.slice Try.underlying50 ⟨wr.heap.size, 0, none⟩ 1 1 _ rfl (by simp [Value.oneCell']) (World.news_of_block (cs := #[.int .u8 0]) (t := 5) (fr := (0, 0)) (heap_alloc_new wr _))) (by unfold maxLen; omega) (by omega) (wr.heap.size + 1) (by simp) ?_); go_must (intro ao2 cap2 w1 hown1 hgrow hat); go_must (have hcz := (hgrow.cell_far ⟨g, 0, none⟩ (by simp; omega) HW.out.ne).trans ((World.cell?_of_block (w := wr) (Below.heap_alloc wr _ g hl)).trans hc)); go_must (have hfz : w1.frozen? ⟨g, 0, none⟩ = false := (hgrow.frozen_far ⟨g, 0, none⟩ (by simp; omega) HW.out.ne).trans ((World.frozen?_of_block (w := wr) (Below.heap_alloc wr _ g hl)).trans hf)); go_must (have HS := Lib.hid (step_to (ys := [0]) (m := 1) HW.out ((Below.refl _ wr).alloc (Nat.le_refl _) _) rfl (by simpa [nums] using hown1) hgrow (by simpa using hat))); go_must (clear hgrow hown1 hat))
      have hyk : ys ++ [0] = xs ++ List.replicate (k + 1) 0 := by rw [HY.out, List.append_assoc, List.replicate_succ']
      have hs2 := WrTo.trans hK hv HS.out
      rw [hyk] at hs2
      have HS2 := Lib.hid hs2
      clear hs2 HS hyk
      go_roundg (gk - 1)
      case measure => omega
      case rel => exact ⟨k + 1, by omega, HS2.out⟩
    · have ht : ¬ (ys.length : Int) < n := by rw [hlen]; omega
      have hcs := row_string (P := Try.prog) Try.underlying50 Try.underlying5 Try.underlying9 hW.own
      have hkw : k = n.toNat - xs.length := by omega
      have HK := Lib.hid hkw
      clear hW hlen hys hkw
      go_wp2
      refine bodyPost_ret (results_tmp rfl _ _ _) rfl ?_
      refine ⟨?_, ?_⟩
      · rw [← HK.out, ← HY.out]
        rfl
      · rw [← HK.out, ← HY.out]
        exact ⟨_, HW.out, hK, hv⟩

end Go.Proofs.Ythobfbiobnmceaa.B
