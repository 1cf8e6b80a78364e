/-
  pack.Head, pack.Super and the document's laid, Head, Super, walked: rows of numbers, each in its width.
-/
import Derived.Test.YtpbmgollolbgoaaRefPut
import Derived.Test.YtpbmgollolbgoaaPad
import Derived.Lib.SlBytesConst
namespace Go.Proofs.Ytpbmgollolbgoaa.B
open Go.RowKit
set_option linter.unusedVariables false

/-- Numbers, each in its width: have all room; their bytes. -/
def good (fs : List (Int × Nat)) : Bool := fs.all fun f => fits f.1 f.2
def lay (fs : List (Int × Nat)) : List Int := fs.flatMap fun f => le f.1 f.2
/-- What a writer holds behind them. -/
def putsXs (xs : List Int) : List (Int × Nat) → List Int
  | [] => xs
  | f :: r => putsXs (putXs xs f.1 f.2) r
def putsBad (bad : Bool) : List (Int × Nat) → Bool
  | [] => bad
  | f :: r => putsBad (putBad bad f.1 f.2) r
theorem putsBad_true : ∀ fs, putsBad true fs = true
  | [] => rfl
  | f :: r => by rw [putsBad, putBad]; split <;> exact putsBad_true r
theorem putsBad_eq : ∀ fs, putsBad false fs = !good fs
  | [] => rfl
  | f :: r => by
    rw [putsBad, putBad]
    by_cases h : fits f.1 f.2 = true
    · rw [if_pos h, putsBad_eq r]; simp [good, h]
    · rw [if_neg h, putsBad_true]; simp [good, h]
theorem putsXs_good : ∀ (fs : List (Int × Nat)) (xs : List Int), good fs = true → putsXs xs fs = xs ++ lay fs
  | [], xs, _ => by simp [putsXs, lay]
  | f :: r, xs, h => by
    have h2 : fits f.1 f.2 = true ∧ good r = true := by simpa [good] using h
    rw [putsXs, putXs, if_pos h2.1, putsXs_good r _ h2.2]
    simp [lay]
theorem putXs_length (xs : List Int) (n : Int) (k : Nat) : (putXs xs n k).length ≤ xs.length + k := by
  rw [putXs]; split <;> simp [le_length]
theorem lay_length : ∀ fs : List (Int × Nat), (lay fs).length = (fs.map Prod.snd).sum
  | [] => rfl
  | f :: r => by
    have h := lay_length r
    simp only [lay, List.flatMap_cons, List.length_append, le_length, List.map_cons, List.sum_cons] at h ⊢
    omega

/-- A writer at work: p is the block that holds what was handed in, w0 the world in which the call began. -/
structure At (w0 W : World) (p : Nat) (o : Obj) (g : Nat) (v : Value) (xs : List Int) (bad : Bool) : Prop where
  par : W.heap[p]? = some o
  wr : Wr W g v xs bad
  bel : Below w0.heap.size w0 W
  hpg : p ≠ g
  hpv : v.ownBlock ≠ some p
  hg : w0.heap.size ≤ g
  hv : ∀ k, v.ownBlock = some k → w0.heap.size ≤ k
theorem At.step {w0 W W' : World} {p : Nat} {o : Obj} {g : Nat} {v : Value} {xs xs' : List Int} {bad bad' : Bool} (h : At w0 W p o g v xs bad) (ht : WrTo g v W xs' bad' W') : ∃ v', At w0 W' p o g v' xs' bad' := by
  obtain ⟨v', h1, h2, h3⟩ := ht
  have hp : p < W.heap.size := blk_lt h.par
  have hs := h.bel.size
  refine ⟨v', h2.at_ h.par ?_, h1, h.bel.trans (h2.below h.bel.size ?_), h.hpg, ?_, h.hg, ?_⟩
  · rintro (e | e)
    · exact h.hpg e
    · exact h.hpv e.symm
  · rintro i hi (e | e)
    · have := h.hg; omega
    · have := h.hv i e.symm; omega
  · rcases h3 with e | ⟨b, e, hb⟩
    · rw [e]; exact h.hpv
    · rw [e]; intro e2; cases e2; omega
  · intro k hk
    rcases h3 with e | ⟨b, e, hb⟩
    · exact h.hv k (by rw [← e]; exact hk)
    · rw [e] at hk; cases hk; omega
theorem At.put {w0 W W' : World} {p : Nat} {o : Obj} {g : Nat} {v : Value} {xs : List Int} {bad : Bool} {n : Int} {k N : Nat} (h : At w0 W p o g v xs bad) (hl : xs.length ≤ N) (ht : WrTo g v W (putXs xs n k) (putBad bad n k) W') :
    ∃ v' xs' bad', At w0 W' p o g v' xs' bad' ∧ xs'.length ≤ N + k ∧ xs' = putXs xs n k ∧ bad' = putBad bad n k := by
  obtain ⟨v', h2⟩ := h.step ht
  exact ⟨v', _, _, h2, Nat.le_trans (putXs_length _ _ _) (by omega), rfl, rfl⟩

theorem At.magic (w : World) (o : Obj) : At w (((w.alloc o).alloc (.cells #[.int .u8 71, .int .u8 82, .int .u8 80, .int .u8 78] 5 (4, 5))).alloc (.cells #[.slice (some ⟨w.heap.size + 1, 0, none⟩) 4 4, .bool false] 62))
    w.heap.size o (w.heap.size + 1 + 1) (.slice (some ⟨w.heap.size + 1, 0, none⟩) 4 4) [71, 82, 80, 78] false := by
  have e0 : ∀ a b c : Obj, (((w.alloc a).alloc b).alloc c).heap[w.heap.size]? = some a := fun a b c => by
    show (((w.heap.push a).push b).push c)[w.heap.size]? = _
    simp only [Array.getElem?_push, Array.size_push]
    rw [if_neg (by omega), if_neg (by omega), if_pos trivial]
  have e1 : ∀ a b c : Obj, (((w.alloc a).alloc b).alloc c).heap[w.heap.size + 1]? = some b := fun a b c => by
    show (((w.heap.push a).push b).push c)[w.heap.size + 1]? = _
    simp only [Array.getElem?_push, Array.size_push]
    rw [if_neg (by omega), if_pos trivial]
  have e2 : ∀ a b c : Obj, (((w.alloc a).alloc b).alloc c).heap[w.heap.size + 1 + 1]? = some c := fun a b c => by
    show (((w.heap.push a).push b).push c)[w.heap.size + 1 + 1]? = _
    simp only [Array.getElem?_push, Array.size_push]
    rw [if_pos trivial]
  refine ⟨e0 _ _ _, ⟨e2 _ _ _, ⟨rfl, .inr ⟨w.heap.size + 1, 4, _, 4, 5, rfl, e1 _ _ _, .inr (by decide), by decide, by unfold maxLen; omega, rfl, rfl⟩⟩, by simp [Value.ownBlock]⟩, (((Below.refl _ w).alloc (Nat.le_refl _) _).alloc (by simp) _).alloc (by simp; omega) _, by omega, by simp [Value.ownBlock], by omega, by intro k hk; simp [Value.ownBlock] at hk; omega⟩

/-- A head's numbers. -/
def headFs (a0 a1 a2 a3 a4 a5 a6 a7 : Int) : List (Int × Nat) := [(a0, 6), (a1, 4), (a2, 2), (a3, 4), (a4, 4), (a5, 4), (a6, 6), (a7, 6)]
def magic : List Int := [71, 82, 80, 78]
/-- What Head answers. -/
def headSpec (fs : List (Int × Nat)) : ByteArray × Int := if good fs = true then (strOfNums (magic ++ lay fs ++ List.replicate 8 0), 0) else (⟨#[]⟩, 2)

set_option maxHeartbeats 1600000 in
theorem Head_any (a0 a1 a2 a3 a4 a5 a6 a7 : Int) (m0 : -9223372036854775808 ≤ a0) (n0 : a0 ≤ 9223372036854775807) (m1 : -9223372036854775808 ≤ a1) (n1 : a1 ≤ 9223372036854775807) (m2 : -9223372036854775808 ≤ a2) (n2 : a2 ≤ 9223372036854775807) (m3 : -9223372036854775808 ≤ a3) (n3 : a3 ≤ 9223372036854775807) (m4 : -9223372036854775808 ≤ a4) (n4 : a4 ≤ 9223372036854775807) (m5 : -9223372036854775808 ≤ a5) (n5 : a5 ≤ 9223372036854775807) (m6 : -9223372036854775808 ≤ a6) (n6 : a6 ≤ 9223372036854775807) (m7 : -9223372036854775808 ≤ a7) (n7 : a7 ≤ 9223372036854775807) (w : World) :
    Calls Try.prog 26 #[.agg #[.int .i64 a0, .int .i64 a1, .int .i64 a2, .int .i64 a3, .int .i64 a4, .int .i64 a5, .int .i64 a6, .int .i64 a7]] w fun e w' => e = .returned (.tuple #[.string (headSpec (headFs a0 a1 a2 a3 a4 a5 a6 a7)).1, .int .i64 (headSpec (headFs a0 a1 a2 a3 a4 a5 a6 a7)).2]) ∧ Below w.heap.size w w' := by
  have hu := Try.underlying38
  have kc := Lib.run_convert_bytes_const (P := Try.prog) (w.alloc (.cells #[.int .i64 a0, .int .i64 a1, .int .i64 a2, .int .i64 a3, .int .i64 a4, .int .i64 a5, .int .i64 a6, .int .i64 a7] 38)) 60 5 #[.int .u8 71, .int .u8 82, .int .u8 80, .int .u8 78] 4 4 Try.underlying60 Try.underlying5
  rw [show (w.alloc (.cells #[.int .i64 a0, .int .i64 a1, .int .i64 a2, .int .i64 a3, .int .i64 a4, .int .i64 a5, .int .i64 a6, .int .i64 a7] 38)).heap.size = w.heap.size + 1 by simp] at kc
  have h0 := At.magic w (.cells #[.int .i64 a0, .int .i64 a1, .int .i64 a2, .int .i64 a3, .int .i64 a4, .int .i64 a5, .int .i64 a6, .int .i64 a7] 38)
  have H0 := Lib.hid h0
  have L0 := Lib.hid (show magic.length ≤ 4 by decide)
  clear h0
  go_enter Try.func26, Try.ntmps26
  go_wp2_with fail

  refine (put_any _ _ _ _ a0 6 _ H0.out.wr (Nat.le_trans L0.out (by omega)) (by omega) (by omega) (by omega) (by omega)).mono ?_
  rintro e u1 ⟨rfl, t1⟩
  obtain ⟨v1, x1, b1, h1, l1, ex1, eb1⟩ := H0.out.put L0.out t1
  have H1 := Lib.hid h1
  have L1 := Lib.hid l1
  have E1 := Lib.hid ex1
  have F1 := Lib.hid eb1
  have c1 := blk_cell h1.par 1
  clear t1 h1 l1 ex1 eb1
  go_wp2_with fail
  refine (put_any _ _ _ _ a1 4 _ H1.out.wr (Nat.le_trans L1.out (by omega)) (by omega) (by omega) (by omega) (by omega)).mono ?_
  rintro e u2 ⟨rfl, t2⟩
  obtain ⟨v2, x2, b2, h2, l2, ex2, eb2⟩ := H1.out.put L1.out t2
  have H2 := Lib.hid h2
  have L2 := Lib.hid l2
  have E2 := Lib.hid ex2
  have F2 := Lib.hid eb2
  have c2 := blk_cell h2.par 2
  clear t2 h2 l2 ex2 eb2 c1
  go_wp2_with fail
  refine (put_any _ _ _ _ a2 2 _ H2.out.wr (Nat.le_trans L2.out (by omega)) (by omega) (by omega) (by omega) (by omega)).mono ?_
  rintro e u3 ⟨rfl, t3⟩
  obtain ⟨v3, x3, b3, h3, l3, ex3, eb3⟩ := H2.out.put L2.out t3
  have H3 := Lib.hid h3
  have L3 := Lib.hid l3
  have E3 := Lib.hid ex3
  have F3 := Lib.hid eb3
  have c3 := blk_cell h3.par 3
  clear t3 h3 l3 ex3 eb3 c2
  go_wp2_with fail
  refine (put_any _ _ _ _ a3 4 _ H3.out.wr (Nat.le_trans L3.out (by omega)) (by omega) (by omega) (by omega) (by omega)).mono ?_
  rintro e u4 ⟨rfl, t4⟩
  obtain ⟨v4, x4, b4, h4, l4, ex4, eb4⟩ := H3.out.put L3.out t4
  have H4 := Lib.hid h4
  have L4 := Lib.hid l4
  have E4 := Lib.hid ex4
  have F4 := Lib.hid eb4
  have c4 := blk_cell h4.par 4
  clear t4 h4 l4 ex4 eb4 c3
  go_wp2_with fail
  refine (put_any _ _ _ _ a4 4 _ H4.out.wr (Nat.le_trans L4.out (by omega)) (by omega) (by omega) (by omega) (by omega)).mono ?_
  rintro e u5 ⟨rfl, t5⟩
  obtain ⟨v5, x5, b5, h5, l5, ex5, eb5⟩ := H4.out.put L4.out t5
  have H5 := Lib.hid h5
  have L5 := Lib.hid l5
  have E5 := Lib.hid ex5
  have F5 := Lib.hid eb5
  have c5 := blk_cell h5.par 5
  clear t5 h5 l5 ex5 eb5 c4
  go_wp2_with fail
  refine (put_any _ _ _ _ a5 4 _ H5.out.wr (Nat.le_trans L5.out (by omega)) (by omega) (by omega) (by omega) (by omega)).mono ?_
  rintro e u6 ⟨rfl, t6⟩
  obtain ⟨v6, x6, b6, h6, l6, ex6, eb6⟩ := H5.out.put L5.out t6
  have H6 := Lib.hid h6
  have L6 := Lib.hid l6
  have E6 := Lib.hid ex6
  have F6 := Lib.hid eb6
  have c6 := blk_cell h6.par 6
  clear t6 h6 l6 ex6 eb6 c5
  go_wp2_with fail
  refine (put_any _ _ _ _ a6 6 _ H6.out.wr (Nat.le_trans L6.out (by omega)) (by omega) (by omega) (by omega) (by omega)).mono ?_
  rintro e u7 ⟨rfl, t7⟩
  obtain ⟨v7, x7, b7, h7, l7, ex7, eb7⟩ := H6.out.put L6.out t7
  have H7 := Lib.hid h7
  have L7 := Lib.hid l7
  have E7 := Lib.hid ex7
  have F7 := Lib.hid eb7
  have c7 := blk_cell h7.par 7
  clear t7 h7 l7 ex7 eb7 c6
  go_wp2_with fail
  refine (put_any _ _ _ _ a7 6 _ H7.out.wr (Nat.le_trans L7.out (by omega)) (by omega) (by omega) (by omega) (by omega)).mono ?_
  rintro e u8 ⟨rfl, t8⟩
  obtain ⟨v8, x8, b8, h8, l8, ex8, eb8⟩ := H7.out.put L7.out t8
  have H8 := Lib.hid h8
  have L8 := Lib.hid l8
  have E8 := Lib.hid ex8
  have F8 := Lib.hid eb8
  clear t8 h8 l8 ex8 eb8 c7
  have ex : x8 = putsXs magic (headFs a0 a1 a2 a3 a4 a5 a6 a7) := by rw [E8.out, E7.out, E6.out, E5.out, E4.out, E3.out, E2.out, E1.out]; rfl
  have eb : b8 = !good (headFs a0 a1 a2 a3 a4 a5 a6 a7) := by rw [← putsBad_eq, F8.out, F7.out, F6.out, F5.out, F4.out, F3.out, F2.out, F1.out]; rfl
  have EX := Lib.hid ex
  by_cases hgood : good (headFs a0 a1 a2 a3 a4 a5 a6 a7) = true
  · have hs : headSpec (headFs a0 a1 a2 a3 a4 a5 a6 a7) = (strOfNums (magic ++ lay (headFs a0 a1 a2 a3 a4 a5 a6 a7) ++ List.replicate 8 0), 0) := by rw [headSpec, if_pos hgood]
    have hx : x8 = magic ++ lay (headFs a0 a1 a2 a3 a4 a5 a6 a7) := by rw [ex, putsXs_good _ _ hgood]
    rw [hgood] at eb
    obtain rfl : b8 = false := eb
    have HS := Lib.hid hs
    have HX := Lib.hid hx
    have c1 := blk_cell H8.out.wr.blk 1
    clear hs hx ex hgood
    go_wp2_with fail
    refine (full_any _ _ _ _ 48 _ H8.out.wr (Nat.le_trans L8.out (by omega)) (by omega) (by omega)).mono ?_
    rintro e u9 ⟨rfl, t9⟩
    obtain ⟨v9, h9⟩ := H8.out.step t9
    have HB := Lib.hid h9.bel
    clear t9 h9 c1
    go_wp2
    go_ret2
    rw [HS.out, HX.out]
    exact ⟨rfl, HB.out⟩
  · have hs : headSpec (headFs a0 a1 a2 a3 a4 a5 a6 a7) = (⟨#[]⟩, 2) := by rw [headSpec, if_neg hgood]
    have hgf : good (headFs a0 a1 a2 a3 a4 a5 a6 a7) = false := by simpa using hgood
    rw [hgf] at eb
    obtain rfl : b8 = true := eb
    have HS := Lib.hid hs
    have c1 := blk_cell H8.out.wr.blk 1
    clear hs ex hgood hgf
    go_wp2
    go_ret2
    rw [HS.out]
    exact ⟨rfl, H8.out.bel⟩
end Go.Proofs.Ytpbmgollolbgoaa.B
