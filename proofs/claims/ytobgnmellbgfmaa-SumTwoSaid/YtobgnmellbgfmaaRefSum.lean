/-
  The document's Sum (grapnelref02), walked: it answers a text's plain sum.
-/
import Derived.Test.YtobgnmellbgfmaaShaRef
import Derived.Test.YtobgnmellbgfmaaFilled
import Derived.Test.YtobgnmellbgfmaaBlocks
import Derived.StillTailTactics
namespace Go.Proofs.Ytobgnmellbgfmaa.B
open Go.RowKit
set_option linter.unusedVariables false

/-- The blocks of the document's Sum behind m blocks of the text. -/
structure SumI (w : World) (gh gb gq : Nat) (fb : List Int) (m : Nat) (W : World) : Prop where
  bel : Below w.heap.size w W
  hh : W.heap[gh]? = some (.cells (ints (shaN fb m)).toArray 3 (0, 0))
  bb : ∀ j, j < fb.length → W.cell? ⟨gb, j, none⟩ = some (.int .u8 (fb.getD j 0))
  kk : ∀ j, j < 64 → W.cell? ⟨gq, j, none⟩ = some (.int .i64 (shaK.getD j 0))
  lb : gb < W.heap.size
  lk : gq < W.heap.size
  gt : w.heap.size ≤ gh
  nb : gb ≠ gh
  nk : gq ≠ gh
theorem SumI.below {w : World} {gh gb gq : Nat} {fb : List Int} {m : Nat} {W W1 : World} (h : SumI w gh gb gq fb m W) (hb : Below W.heap.size W W1) : SumI w gh gb gq fb m W1 :=
  ⟨h.bel.trans (hb.mono h.bel.size), (hb.block _ (blk_lt h.hh)).trans h.hh, fun j hj => (hb.cell (p := ⟨gb, j, none⟩) h.lb).trans (h.bb j hj), fun j hj => (hb.cell (p := ⟨gq, j, none⟩) h.lk).trans (h.kk j hj), Nat.lt_of_lt_of_le h.lb hb.size, Nat.lt_of_lt_of_le h.lk hb.size, h.gt, h.nb, h.nk⟩

/-- The rounds: x leads to the eight words behind n of them. -/
structure RndI (w4 : World) (gh : Nat) (ws H : List Int) (gx capx n : Nat) (W : World) : Prop where
  bel : Below w4.heap.size w4 W
  lt : gx < W.heap.size
  cap : 8 ≤ capx
  ne : gx ≠ gh
  xx : ∀ c, c < 8 → W.cell? ⟨gx, c, none⟩ = some (.int .i64 ((rnds ws H n).getD c 0))
theorem eight (l : List Int) (h : l.length = 8) : ∃ x0 x1 x2 x3 x4 x5 x6 x7, l = [x0, x1, x2, x3, x4, x5, x6, x7] := by
  match l, h with
  | [x0, x1, x2, x3, x4, x5, x6, x7], _ => exact ⟨_, _, _, _, _, _, _, _, rfl⟩
/-- The state's words are added one by one: c of them are done. -/
structure AddI (W5 : World) (gh : Nat) (H X : List Int) (c : Nat) (W : World) : Prop where
  keep : Keeps (fun i => i = gh) W5 W
  blk : W.heap[gh]? = some (.cells (ints ((adds H X).take c ++ H.drop c)).toArray 3 (0, 0))
theorem adds_length {H X : List Int} (h : H.length = 8) (x : X.length = 8) : (adds H X).length = 8 := by rw [adds, List.length_zipWith, h, x]; rfl
theorem adds_get {H X : List Int} (h : H.length = 8) (x : X.length = 8) (c : Nat) (hc : c < 8) : (adds H X).getD c 0 = (H.getD c 0 + X.getD c 0) % 4294967296 := by
  have hl := adds_length h x
  rw [List.getD, List.getElem?_eq_getElem (by omega), Option.getD_some]
  simp [adds, List.getD, List.getElem?_eq_getElem (show c < H.length by omega), List.getElem?_eq_getElem (show c < X.length by omega)]
theorem AddI.at_ {W5 W : World} {gh : Nat} {H X : List Int} {c : Nat} (h : AddI W5 gh H X c W) (hH : H.length = 8) (hX : X.length = 8) (hc : c < 8) : W.cell? ⟨gh, c, none⟩ = some (.int .i64 (H.getD c 0)) := by
  have hl := adds_length hH hX
  rw [blk_cell h.blk c, List.getElem?_toArray, ints, List.getElem?_map, List.getElem?_append_right (by simp; omega)]
  simp [hl, Nat.min_eq_left (show c ≤ 8 by omega), List.getD, List.getElem?_eq_getElem (show c < H.length by omega)]
theorem AddI.put {W5 W : World} {gh : Nat} {H X : List Int} {c : Nat} (h : AddI W5 gh H X c W) (hH : H.length = 8) (hX : X.length = 8) (hc : c < 8) (y : Int) (hy : y = (adds H X).getD c 0) : AddI W5 gh H X (c + 1) (W.setCell ⟨gh, c, none⟩ (.int .i64 y)) := by
  have hl := adds_length hH hX
  refine ⟨h.keep.setCell (fun _ => rfl) _, ?_⟩
  rw [blk_set h.blk]
  congr 2
  simp only [ints, List.setIfInBounds_toArray]
  congr 1
  rw [show (Value.int .i64 y) = (fun x => Value.int .i64 x) y from rfl, ← List.map_set]
  congr 1
  have h1 : ((adds H X).take c).length = c := by simp; omega
  rw [List.set_append_right _ _ (by omega), h1, Nat.sub_self, List.drop_eq_getElem_cons (show c < H.length by omega), List.set_cons_zero, hy, ← List.take_append_getElem (show c < (adds H X).length by omega), List.append_assoc]
  simp [List.getD, List.getElem?_eq_getElem (show c < (adds H X).length by omega)]
theorem AddI.drew {W5 W : World} {gh : Nat} {H X : List Int} {c : Nat} (h : AddI W5 gh H X c W) : AddI W5 gh H X c W.drew := ⟨h.keep.drew, h.blk⟩
theorem SumI.turned {w W5 W : World} {gh gb gq : Nat} {fb bl H X : List Int} {m : Nat} (h : SumI w gh gb gq fb m W5) (hH : H = shaN fb m) (hb : bl = (fb.drop (64 * m)).take 64) (hX : X = rnds (wd bl 64) H 64) (hA : AddI W5 gh H X 8 W) : SumI w gh gb gq fb (m + 1) W := by
  have h8 : H.length = 8 := by rw [hH, shaN_length]
  have x8 : X.length = 8 := by rw [hX, rnds_length h8]
  have hblk := hA.blk
  rw [List.take_of_length_le (by rw [adds_length h8 x8]; omega), List.drop_of_length_le (by omega), List.append_nil, hX, hb, hH] at hblk
  refine ⟨h.bel.trans (hA.keep.below h.bel.size (by intro i hi he; have := h.gt; omega)), hblk, fun j hj => ?_, fun j hj => ?_, Nat.lt_of_lt_of_le h.lb hA.keep.size, Nat.lt_of_lt_of_le h.lk hA.keep.size, h.gt, h.nb, h.nk⟩
  · exact (hA.keep.cell (p := ⟨gb, j, none⟩) h.lb h.nb).trans (h.bb j hj)
  · exact (hA.keep.cell (p := ⟨gq, j, none⟩) h.lk h.nk).trans (h.kk j hj)
/-- The first sum of a round, as the document reckons it. -/
theorem tSum {x4 x5 x6 x7 k v : Int} (h4 : W32 x4) (h5 : W32 x5) (h6 : W32 x6) (h7 : W32 x7) (hk : W32 k) (hv : W32 v) :
    ∃ y1 y2 s1 y3 y4 y5 y6 s2 s3 t : Int, bits .xor .i64 (rr x4 6) (rr x4 11) = y1 ∧ bits .xor .i64 y1 (rr x4 25) = y2 ∧ IntKind.i64.wrap (x7 + y2) = s1 ∧ bits .and .i64 x4 x5 = y3 ∧ IntKind.i64.wrap (4294967295 - x4) = y4 ∧ bits .and .i64 y4 x6 = y5 ∧ bits .xor .i64 y3 y5 = y6 ∧
      IntKind.i64.wrap (s1 + y6) = s2 ∧ IntKind.i64.wrap (s2 + k) = s3 ∧ IntKind.i64.wrap (s3 + v) = t ∧ t = x7 + bs1 x4 + chs x4 x5 x6 + k + v ∧ 0 ≤ t ∧ t < 21474836480 := by
  have a := bs1_w h4
  have b := chs_w h4 h5 h6
  have c4 : W32 (4294967295 - x4) := by unfold W32 at *; omega
  refine ⟨_, _, _, _, _, _, _, _, _, _, rfl, rfl, rfl, rfl, rfl, rfl, rfl, rfl, rfl, rfl, ?_⟩
  rw [xor_i64 (rr_w h4 (by omega)) (rr_w h4 (by omega)), xor_i64 (xr_w (rr_w h4 (by omega)) (rr_w h4 (by omega))) (rr_w h4 (by omega)), and_i64 h4 h5, wraps_i64 (4294967295 - x4) c4.1 (by unfold W32 at *; omega), and_i64 c4 h6, xor_i64 (an_w h4 h5) (an_w c4 h6)]
  rw [show xr (xr (rr x4 6) (rr x4 11)) (rr x4 25) = bs1 x4 from rfl, show xr (an x4 x5) (an (4294967295 - x4) x6) = chs x4 x5 x6 from rfl]
  generalize bs1 x4 = p at *
  generalize chs x4 x5 x6 = q at *
  unfold W32 at *
  rw [wraps_i64 (x7 + p) (by omega) (by omega), wraps_i64 (x7 + p + q) (by omega) (by omega), wraps_i64 (x7 + p + q + k) (by omega) (by omega), wraps_i64 (x7 + p + q + k + v) (by omega) (by omega)]
  omega
theorem uSum {x0 x1 x2 : Int} (h0 : W32 x0) (h1 : W32 x1) (h2 : W32 x2) :
    ∃ y1 y2 y3 y4 y5 y6 y7 u : Int, bits .xor .i64 (rr x0 2) (rr x0 13) = y1 ∧ bits .xor .i64 y1 (rr x0 22) = y2 ∧ bits .and .i64 x0 x1 = y3 ∧ bits .and .i64 x0 x2 = y4 ∧ bits .xor .i64 y3 y4 = y5 ∧ bits .and .i64 x1 x2 = y6 ∧ bits .xor .i64 y5 y6 = y7 ∧ IntKind.i64.wrap (y2 + y7) = u ∧
      u = bs0 x0 + mjs x0 x1 x2 ∧ 0 ≤ u ∧ u < 8589934592 := by
  have a := bs0_w h0
  have b := mjs_w h0 h1 h2
  refine ⟨_, _, _, _, _, _, _, _, rfl, rfl, rfl, rfl, rfl, rfl, rfl, rfl, ?_⟩
  rw [xor_i64 (rr_w h0 (by omega)) (rr_w h0 (by omega)), xor_i64 (xr_w (rr_w h0 (by omega)) (rr_w h0 (by omega))) (rr_w h0 (by omega)), and_i64 h0 h1, and_i64 h0 h2, and_i64 h1 h2, xor_i64 (an_w h0 h1) (an_w h0 h2), xor_i64 (xr_w (an_w h0 h1) (an_w h0 h2)) (an_w h1 h2)]
  rw [show xr (xr (rr x0 2) (rr x0 13)) (rr x0 22) = bs0 x0 from rfl, show xr (xr (an x0 x1) (an x0 x2)) (an x1 x2) = mjs x0 x1 x2 from rfl]
  generalize bs0 x0 = p at *
  generalize mjs x0 x1 x2 = q at *
  unfold W32 at *
  rw [wraps_i64 (p + q) (by omega) (by omega)]
  omega

set_option maxRecDepth 100000 in
set_option maxHeartbeats 6400000 in
theorem refSum_any (s : ByteArray) (hs : s.size ≤ 1000000) (w : World) :
    Calls Try.prog 14 #[.string s] w fun e w' => e = .returned (.string (strOfNums (sha (bytesOf s)))) ∧ Below w.heap.size w w' := by
  obtain ⟨fb, hfb⟩ : ∃ fb, fb = fill (bytesOf s) := ⟨_, rfl⟩
  have hbs : Bs fb := by rw [hfb]; exact fill_b (bytesOf_range s)
  obtain ⟨M, hM⟩ : ∃ M, M = (s.size + 72) / 64 := ⟨_, rfl⟩
  have hlen : fb.length = 64 * M := by rw [hfb, fill_length, bytesOf_length, ← hM]
  have hM1 : M ≤ 20000 := by omega
  have HFB := Lib.hid hfb
  have HBS := Lib.hid hbs
  have HLEN := Lib.hid hlen
  have HM := Lib.hid hM
  clear hfb hbs hlen hM
  go_enter Try.func14, Try.ntmps14
  go_wp2_with fail
  refine (filled_any s hs _).mono ?_
  rintro e w1 ⟨v, rfl, hL⟩
  rw [← HFB.out] at hL
  have h0 : 0 < fb.length := by rw [HLEN.out, HM.out]; omega
  obtain ⟨gb, capb, rfl, hcb, hgb⟩ := hL.row.form_pos h0
  have HL := Lib.hid hL
  clear hL
  go_wp2_with fail
  refine (keys_any _).mono ?_
  rintro e w2 ⟨v, rfl, hK⟩
  obtain ⟨gq, capk, rfl, hck, hgk⟩ := hK.row.form_pos (by decide)
  have hI : SumI w w.heap.size gb gq fb 0 w2 := by
    have hb1 := HL.out.below
    have hz : (w.alloc (.cells #[.int .i64 1779033703, .int .i64 3144134277, .int .i64 1013904242, .int .i64 2773480762, .int .i64 1359893119, .int .i64 2600822924, .int .i64 528734635, .int .i64 1541459225] 3)).heap.size = w.heap.size + 1 := by simp
    have hs1 := hb1.size
    have hs2 := hK.below.size
    have hgb2 := HL.out.base gb rfl
    have hgk2 := hK.base gq rfl
    refine ⟨?_, ?_, fun j hj => ?_, fun j hj => ?_, by omega, hgk, Nat.le_refl _, by omega, by omega⟩
    · exact ((Below.refl _ w).alloc (Nat.le_refl _) _).trans ((hb1.mono (by omega)).trans (hK.below.mono (by omega)))
    · exact (hK.below.block _ (by omega)).trans ((hb1.block _ (by omega)).trans (heap_alloc_new w _))
    · rw [hK.below.cell (p := ⟨gb, j, none⟩) (by simpa using hgb)]
      exact HL.out.row.cells j _ (by simp [nums, List.getElem?_eq_getElem hj, List.getD])
    · exact hK.row.cells j _ (by simp [ints, List.getElem?_eq_getElem (show j < shaK.length from hj), List.getD])
  have HI := Lib.hid hI
  clear hK HL hI hgk hgb
  obtain ⟨gh, hgh⟩ : ∃ gh, gh = w.heap.size := ⟨_, rfl⟩
  have HI2 := HI.out
  rw [← hgh] at HI2 ⊢
  have HI := Lib.hid HI2
  clear HI2 hgh
  obtain ⟨N, hN⟩ : ∃ N, N = fb.length := ⟨_, rfl⟩
  have hN2 : N = 64 * M := by rw [hN, HLEN.out]
  rw [← hN] at hcb h0 ⊢
  have HN := Lib.hid hN
  have HN2 := Lib.hid hN2
  have hNM : N ≤ 1280000 := by omega
  clear hN hN2
  go_wp2_with fail
  go_loopg [6] M (fun j at_ wr => ∃ m : Nat, j + m = M ∧ at_ = .int .i64 ((64 * m : Nat) : Int) ∧ SumI w gh gb gq fb m wr)
  case atStart => exact ⟨0, rfl, rfl, HI.out⟩
  case round =>
    obtain ⟨m, hm, rfl, hI⟩ := hrel
    have HI := Lib.hid hI
    clear hI
    obtain ⟨p, hp⟩ : ∃ p, p = 64 * m := ⟨_, rfl⟩
    rw [← hp]
    by_cases hlt : m < M
    · have hpN : p + 64 ≤ N := by rw [HN2.out]; omega
      have HP := Lib.hid hp
      clear hp
      have q1 : (p : Int) < (N : Int) := by omega
      have q2 : (p : Int) + 64 ≤ (capb : Int) := by omega
      have q3 : (0 : Int) ≤ (p : Int) := by omega
      obtain ⟨bl, hbl⟩ : ∃ bl, bl = (fb.drop (64 * m)).take 64 := ⟨_, rfl⟩
      have hbll : bl.length = 64 := by rw [hbl, List.length_take, List.length_drop, ← HN.out, ← HP.out]; omega
      have hblb : Bs bl := by rw [hbl]; exact (HBS.out.drop _).take _
      have hblg : ∀ j, j < 64 → wr.cell? ((⟨gb, p, none⟩ : Addr).add j) = some (.int .u8 (bl.getD j 0)) := by
        intro j hj
        rw [Addr.add_mid, HI.out.bb (p + j) (by rw [← HN.out]; omega), hbl, ← HP.out]
        simp [List.getD, List.getElem?_drop, hj]
      have HBL := Lib.hid hbl
      have HBLL := Lib.hid hbll
      have HBLB := Lib.hid hblb
      have HBLG := Lib.hid hblg
      clear hbl hbll hblb hblg
      go_wp2_with fail
      refine (words_any bl HBLB.out HBLL.out ⟨gb, p, none⟩ (capb - p) (by omega) _ HBLG.out).mono ?_
      rintro e w3 ⟨v, rfl, hW⟩
      obtain ⟨gw, capw, rfl, hcw, hgw⟩ := hW.row.form_pos (by decide)
      have HI3 := Lib.hid (HI.out.below hW.below)
      have hgwb := hW.base gw rfl
      have hwne : gw ≠ gh := by have := blk_lt HI.out.hh; omega
      have hwc : ∀ j, j < 64 → w3.cell? ⟨gw, j, none⟩ = some (.int .i64 ((wd bl 64).getD j 0)) := fun j hj => hW.row.cells j _ (by
        simp [ints, List.getElem?_eq_getElem (show j < (wd bl 64).length by rw [wd_length]; exact hj), List.getD])
      have HWC := Lib.hid hwc
      clear hW hwc hgwb
      have hH8 := shaN_length fb m
      have hHW := shaN_w fb m
      obtain ⟨H, hH⟩ : ∃ H, H = shaN fb m := ⟨_, rfl⟩
      rw [← hH] at hH8 hHW
      have hhc := HI3.out.hh
      rw [← hH] at hhc
      obtain ⟨ws, hws⟩ : ∃ ws, ws = wd bl 64 := ⟨_, rfl⟩
      have hwc := HWC.out
      rw [← hws] at hwc
      have hwW : Ws ws := by rw [hws]; exact wd_w HBLB.out 64
      have HH8 := Lib.hid hH8
      have HHW := Lib.hid hHW
      have HHC := Lib.hid hhc
      have HH := Lib.hid hH
      have HWS := Lib.hid hws
      have HWW := Lib.hid hwW
      have HWC := Lib.hid hwc
      obtain ⟨i0, hi, hz0, hz1, hz2⟩ := info_parts infoInt
      have HII := Lib.hid hi
      have HZ0 := Lib.hid hz0
      have HZ1 := Lib.hid hz1
      have HZ2 := Lib.hid hz2
      have hfeed : Feeds Try.prog 48 1 (w3.alloc (.cells #[] 3 (0, 0))) (.slice (some ⟨gh, 0, none⟩) 8 8) 8 (ints H) := by
        refine Feeds.slice Try.underlying48 _ 8 8 _ (by rw [ints_length, hH8]) (ints_oneCell _) (fun j u hj => ?_)
        rw [Addr.add_mid, Nat.zero_add, blk_cell (get_below hhc), List.getElem?_toArray]
        exact hj
      have HFE := Lib.hid hfeed
      clear hH8 hHW hhc hH hws hwW hwc hi hz0 hz1 hz2 hfeed
      go_wp2_with (at_builtin; go_must (refine wpList_append_row _ (by rfl) _ _ _ _ (by rfl) 3 i0 (.int .i64 0) 1 8 Try.underlying48 HII.out HZ0.out HZ1.out HZ2.out rfl (by omega) _ _ _ (by rfl) (Row.lit (get_top rfl) 0 rfl (by unfold maxLen; omega)) _ (by rfl) 8 (ints H) HFE.out (by unfold maxLen; omega) (by omega) (w3.heap.size + 1) (by simp) ?_); intro ao4 cap4 w4 hown4 hgrow4 hat4)
      have hB4 : Below w3.heap.size w3 w4 := ((Below.refl _ w3).alloc (Nat.le_refl _) _).grown hgrow4 (by simp) (fun k hk => by
        have : w3.heap.size = k := by simpa [Value.ownBlock] using hk
        omega)
      rw [Nat.zero_add, List.nil_append] at hown4
      obtain ⟨gx, capx, hsl, hcx, hgx⟩ := hown4.form_pos (by decide)
      have hax : ao4 = some ⟨gx, 0, none⟩ ∧ cap4 = capx := by simpa using hsl
      obtain ⟨rfl, rfl⟩ := hax
      have HI4 := Lib.hid (HI3.out.below hB4)
      have hw4 : ∀ j, j < 64 → w4.cell? ⟨gw, j, none⟩ = some (.int .i64 (ws.getD j 0)) := fun j hj => (hB4.cell (p := ⟨gw, j, none⟩) hgw).trans (HWC.out j hj)
      have HW4 := Lib.hid hw4
      have hgw4 : gw < w4.heap.size := Nat.lt_of_lt_of_le hgw hB4.size
      have hxne : gx ≠ gh := by
        have := blk_lt HI3.out.hh
        rcases hat4 with h | h
        · have : gx = w3.heap.size := by simpa [Value.ownBlock] using h
          omega
        · have : gx = w3.heap.size + 1 := by simpa [Value.ownBlock] using h
          omega
      have hRI : RndI w4 gh ws H gx cap4 0 w4 := ⟨Below.refl _ _, hgx, hcx, hxne, fun c hc => hown4.cells c _ (by
        have := HH8.out
        simp [rnds, ints, List.getElem?_eq_getElem (show c < H.length by omega), List.getD])⟩
      have HRI := Lib.hid hRI
      clear hown4 hgrow4 hat4 hB4 hRI hw4 hsl hxne hgx hcx HFE HHC HI3 HWC
      go_loopg [8, 9] 64 (fun j x i wr => ∃ (n gx capx : Nat), j + n = 64 ∧ x = .slice (some ⟨gx, 0, none⟩) 8 capx ∧ i = .int .i64 (n : Int) ∧ RndI w4 gh ws H gx capx n wr)
      case atStart => exact ⟨0, gx, cap4, rfl, rfl, rfl, HRI.out⟩
      case round =>
        clear HRI
        obtain ⟨n, gx, capx, hn, rfl, rfl, hR⟩ := hrel
        have HR := Lib.hid hR
        clear hR
        by_cases hn64 : n < 64
        · obtain ⟨x0, x1, x2, x3, x4, x5, x6, x7, hx⟩ := eight (rnds ws H n) (rnds_length HH8.out ws n)
          have hxw := rnds_w HHW.out ws n
          rw [hx] at hxw
          have v0 := hxw x0 (by simp)
          have v1 := hxw x1 (by simp)
          have v2 := hxw x2 (by simp)
          have v3 := hxw x3 (by simp)
          have v4 := hxw x4 (by simp)
          have v5 := hxw x5 (by simp)
          have v6 := hxw x6 (by simp)
          have v7 := hxw x7 (by simp)
          obtain ⟨kk, hkk⟩ : ∃ kk, kk = shaK.getD n 0 := ⟨_, rfl⟩
          obtain ⟨vv, hvv⟩ : ∃ vv, vv = ws.getD n 0 := ⟨_, rfl⟩
          have hkw : W32 kk := by rw [hkk]; exact Ws.get (by unfold Ws W32; decide) n
          have hvw : W32 vv := by rw [hvv]; exact HWW.out.get n
          have ck : wr.cell? ⟨gq, n, none⟩ = some (.int .i64 kk) := by rw [hkk]; exact (HR.out.bel.cell (p := ⟨gq, n, none⟩) HI4.out.lk).trans (HI4.out.kk n hn64)
          have cw : wr.cell? ⟨gw, n, none⟩ = some (.int .i64 vv) := by rw [hvv]; exact (HR.out.bel.cell (p := ⟨gw, n, none⟩) hgw4).trans (HW4.out n hn64)
          have cx := HR.out.xx
          rw [hx] at cx
          have c0 := cx 0 (by omega)
          have c1 := cx 1 (by omega)
          have c2 := cx 2 (by omega)
          have c3 := cx 3 (by omega)
          have c4 := cx 4 (by omega)
          have c5 := cx 5 (by omega)
          have c6 := cx 6 (by omega)
          have c7 := cx 7 (by omega)
          simp only [List.getD_cons_zero, List.getD_cons_succ] at c0 c1 c2 c3 c4 c5 c6 c7
          obtain ⟨y1, y2, s1, y3, y4, y5, y6, s2, s3, tt, e1, e2, e3, e4, e5, e6, e7, e8, e9, e10, htt, ht0, ht1⟩ := tSum v4 v5 v6 v7 hkw hvw
          have HTT := Lib.hid htt
          have HX := Lib.hid hx
          have HKK := Lib.hid hkk
          have HVV := Lib.hid hvv
          have A4 := Lib.hid v4
          have A0 := Lib.hid v0
          have HVS := Lib.hid (⟨v0, v1, v2, v3, v4, v5, v6, v7⟩ : W32 x0 ∧ W32 x1 ∧ W32 x2 ∧ W32 x3 ∧ W32 x4 ∧ W32 x5 ∧ W32 x6 ∧ W32 x7)
          have r6 := right_any x4 v4 6 (by omega) (by omega)
          have r11 := right_any x4 v4 11 (by omega) (by omega)
          have r25 := right_any x4 v4 25 (by omega) (by omega)
          simp only [Int.cast_ofNat_Int] at r6 r11 r25
          have R6 := Lib.hid r6
          have R11 := Lib.hid r11
          have R25 := Lib.hid r25
          have q4 : (n : Int) < 64 := by omega
          have q5 : (0 : Int) ≤ (n : Int) := by omega
          have T0 := Lib.hid ht0
          have T1 := Lib.hid ht1
          clear htt hx hkk hvv v0 v1 v2 v3 v4 v5 v6 v7 hxw hkw hvw cx r6 r11 r25 ht0 ht1
          go_wp2_with fail
          go_quiet ((first | (go_at_call 29; (with_reducible refine (R6.out _).mono ?_); rintro e w' ⟨rfl, nd, rfl⟩; exact ⟨rfl, _, World.drewN_drewN _ _ _⟩) | (go_at_call 29; (with_reducible refine (R11.out _).mono ?_); rintro e w' ⟨rfl, nd, rfl⟩; exact ⟨rfl, _, World.drewN_drewN _ _ _⟩) | (go_at_call 29; (with_reducible refine (R25.out _).mono ?_); rintro e w' ⟨rfl, nd, rfl⟩; exact ⟨rfl, _, World.drewN_drewN _ _ _⟩)))
          obtain ⟨W1, hW1⟩ : ∃ W1, wr.drewN nq = W1 := ⟨_, rfl⟩
          have hR1 : RndI w4 gh ws H gx capx n W1 := by
            rw [← hW1]
            exact ⟨bdrewN HR.out.bel nq, HR.out.lt, HR.out.cap, HR.out.ne, HR.out.xx⟩
          have c0 := hR1.xx 0 (by omega)
          have c1 := hR1.xx 1 (by omega)
          have c2 := hR1.xx 2 (by omega)
          have c3 := hR1.xx 3 (by omega)
          have c4 := hR1.xx 4 (by omega)
          have c5 := hR1.xx 5 (by omega)
          have c6 := hR1.xx 6 (by omega)
          rw [HX.out] at c0 c1 c2 c3 c4 c5 c6
          simp only [List.getD_cons_zero, List.getD_cons_succ] at c0 c1 c2 c3 c4 c5 c6
          have HR1 := Lib.hid hR1
          rw [hW1]
          clear hW1 hR1 HR e1 e2 e3 e4 e5 e6 e7 e8 e9 e10 ck cw R6 R11 R25
          obtain ⟨v0, v1, v2, v3, v4, v5, v6, v7⟩ := HVS.out
          obtain ⟨z1, z2, z3, z4, z5, z6, z7, uu, e1, e2, e3, e4, e5, e6, e7, e8, huu, hu0, hu1⟩ := uSum v0 v1 v2
          have HUU := Lib.hid huu
          have r2 := right_any x0 v0 2 (by omega) (by omega)
          have r13 := right_any x0 v0 13 (by omega) (by omega)
          have r22 := right_any x0 v0 22 (by omega) (by omega)
          simp only [Int.cast_ofNat_Int] at r2 r13 r22
          have R2 := Lib.hid r2
          have R13 := Lib.hid r13
          have R22 := Lib.hid r22
          have U0 := Lib.hid hu0
          have U1 := Lib.hid hu1
          clear r2 r13 r22 huu hu0 hu1 v0 v1 v2 v3 v4 v5 v6 v7
          go_wp2_with fail
          go_quiet ((first | (go_at_call 29; (with_reducible refine (R2.out _).mono ?_); rintro e w' ⟨rfl, nd, rfl⟩; exact ⟨rfl, _, World.drewN_drewN _ _ _⟩) | (go_at_call 29; (with_reducible refine (R13.out _).mono ?_); rintro e w' ⟨rfl, nd, rfl⟩; exact ⟨rfl, _, World.drewN_drewN _ _ _⟩) | (go_at_call 29; (with_reducible refine (R22.out _).mono ?_); rintro e w' ⟨rfl, nd, rfl⟩; exact ⟨rfl, _, World.drewN_drewN _ _ _⟩)))
          obtain ⟨W2, hW2⟩ : ∃ W2, W1.drewN nq = W2 := ⟨_, rfl⟩
          have hR2 : RndI w4 gh ws H gx capx n W2 := by
            rw [← hW2]
            exact ⟨bdrewN HR1.out.bel nq, HR1.out.lt, HR1.out.cap, HR1.out.ne, HR1.out.xx⟩
          have d0 := hR2.xx 0 (by omega)
          have d1 := hR2.xx 1 (by omega)
          have d2 := hR2.xx 2 (by omega)
          have d3 := hR2.xx 3 (by omega)
          have d4 := hR2.xx 4 (by omega)
          have d5 := hR2.xx 5 (by omega)
          have d6 := hR2.xx 6 (by omega)
          rw [HX.out] at d0 d1 d2 d3 d4 d5 d6
          simp only [List.getD_cons_zero, List.getD_cons_succ] at d0 d1 d2 d3 d4 d5 d6
          have HR2 := Lib.hid hR2
          rw [hW2]
          clear hW2 hR2 HR1 e1 e2 e3 e4 e5 e6 e7 e8 R2 R13 R22 c0 c1 c2 c3 c4 c5 c6
          obtain ⟨s4, hs4⟩ : ∃ s4, IntKind.i64.wrap (tt + uu) = s4 := ⟨_, rfl⟩
          obtain ⟨s5, hs5⟩ : ∃ s5, IntKind.i64.wrap (x3 + tt) = s5 := ⟨_, rfl⟩
          have t0 := T0.out
          have t1 := T1.out
          have u0 := U0.out
          have u1 := U1.out
          have g3 := HVS.out.2.2.2.1
          have hv4 : s4 = tt + uu := by rw [← hs4]; exact wraps_i64 _ (by omega) (by omega)
          have hv5 : s5 = x3 + tt := by rw [← hs5]; exact wraps_i64 _ (by unfold W32 at g3; omega) (by unfold W32 at g3; omega)
          have L4 := Lib.hid (low_same s4 (by omega) (by omega))
          have L5 := Lib.hid (low_same s5 (by unfold W32 at g3; omega) (by unfold W32 at g3; omega))
          have HV4 := Lib.hid hv4
          have HV5 := Lib.hid hv5
          clear t0 t1 u0 u1 g3 hv4 hv5
          go_wp2_with fail
          go_still_tail 28, (by kernel_rfl)
          still_call (L4.out _)
          repeat still_step
          still_call (L5.out _)
          repeat still_step
          refine wpStill_nil ?_
          change wpList _ _ _ _ _ W2.drew
          go_wp2_with fail
          have hR3 : RndI w4 gh ws H W2.heap.size 8 (n + 1) (W2.drew.alloc (.cells #[.int .i64 (s4 % 4294967296), .int .i64 x0, .int .i64 x1, .int .i64 x2, .int .i64 (s5 % 4294967296), .int .i64 x4, .int .i64 x5, .int .i64 x6] 3)) := by
            have hgh : gh < W2.heap.size := Nat.lt_of_lt_of_le (blk_lt HI4.out.hh) HR2.out.bel.size
            have hb : (W2.drew.alloc (.cells #[.int .i64 (s4 % 4294967296), .int .i64 x0, .int .i64 x1, .int .i64 x2, .int .i64 (s5 % 4294967296), .int .i64 x4, .int .i64 x5, .int .i64 x6] 3)).heap[W2.heap.size]? = some (.cells #[.int .i64 (s4 % 4294967296), .int .i64 x0, .int .i64 x1, .int .i64 x2, .int .i64 (s5 % 4294967296), .int .i64 x4, .int .i64 x5, .int .i64 x6] 3 (0, 0)) := get_top rfl
            refine ⟨HR2.out.bel.drew.alloc HR2.out.bel.size _, blk_lt hb, Nat.le_refl _, by omega, fun c hc => ?_⟩
            rw [blk_cell hb c, rnds, HX.out, ← HKK.out, ← HVV.out]
            have e4 : s4 % 4294967296 = (x7 + bs1 x4 + chs x4 x5 x6 + kk + vv + (bs0 x0 + mjs x0 x1 x2)) % 4294967296 := by rw [HV4.out, HTT.out, HUU.out]
            have e5 : s5 % 4294967296 = (x3 + (x7 + bs1 x4 + chs x4 x5 x6 + kk + vv)) % 4294967296 := by rw [HV5.out, HTT.out]
            rw [e4, e5]
            match c, hc with
            | 0, _ => rfl
            | 1, _ => rfl
            | 2, _ => rfl
            | 3, _ => rfl
            | 4, _ => rfl
            | 5, _ => rfl
            | 6, _ => rfl
            | 7, _ => rfl
          have HR3 := Lib.hid hR3
          clear hR3 hs4 hs5 d0 d1 d2 d3 d4 d5 d6
          go_roundg (gk - 1)
          case measure => omega
          case rel => exact ⟨n + 1, W2.heap.size, 8, by omega, rfl, by go_num, HR3.out⟩
        · obtain rfl : n = 64 := by omega
          obtain ⟨X, hX⟩ : ∃ X, X = rnds ws H 64 := ⟨_, rfl⟩
          have hxx := HR.out.xx
          rw [← hX] at hxx
          have hX8 : X.length = 8 := by rw [hX]; exact rnds_length HH8.out ws 64
          have hXW : Ws X := by rw [hX]; exact rnds_w HHW.out ws 64
          have HI5 := Lib.hid (HI4.out.below HR.out.bel)
          have hA0 : AddI wr gh H X 0 wr := ⟨Keeps.refl _ _, by rw [List.take_zero, List.nil_append, List.drop_zero, HH.out]; exact HI5.out.hh⟩
          have HA0 := Lib.hid hA0
          have HXX := Lib.hid hxx
          have HX8 := Lib.hid hX8
          have HXW := Lib.hid hXW
          have HXE := Lib.hid hX
          have hxne := HR.out.ne
          have hxlt := HR.out.lt
          have hxcap := HR.out.cap
          clear hxx hX8 hXW hX hA0 hn64 hn HR
          obtain ⟨W5, hW5⟩ : ∃ W5, W5 = wr := ⟨_, rfl⟩
          have HA1 := HA0.out
          have HI6 := HI5.out
          have HXX1 := HXX.out
          rw [← hW5] at HA1 HI6 HXX1 hxlt
          have HA0 := Lib.hid HA1
          have HI5 := Lib.hid HI6
          have HXX := Lib.hid HXX1
          have HA2 := HA1
          rw [hW5] at HA2
          clear HA1 HI6 HXX1
          go_wp2_with fail
          go_loopg [12] 8 (fun j i wr => ∃ c : Nat, j + c = 8 ∧ i = .int .i64 (c : Int) ∧ AddI W5 gh H X c wr)
          case atStart => exact ⟨0, rfl, rfl, by rw [← hW5]; exact HA0.out⟩
          case round =>
            clear hW5
            obtain ⟨c, hc, rfl, hA⟩ := hrel
            by_cases hc8 : c < 8
            · have k1 := hA.at_ HH8.out HX8.out hc8
              have k2 := (hA.keep.cell (p := ⟨gx, c, none⟩) hxlt hxne).trans (HXX.out c hc8)
              have kf := blk_frozen hA.blk c
              have w1 := HHW.out.get c
              have w2 := HXW.out.get c
              have hg := adds_get HH8.out HX8.out c hc8
              obtain ⟨a, ha⟩ : ∃ a, a = H.getD c 0 := ⟨_, rfl⟩
              obtain ⟨b, hb⟩ : ∃ b, b = X.getD c 0 := ⟨_, rfl⟩
              rw [← ha] at k1 w1 hg
              rw [← hb] at k2 w2 hg
              obtain ⟨s6, hs6⟩ : ∃ s6, IntKind.i64.wrap (a + b) = s6 := ⟨_, rfl⟩
              have hv6 : s6 = a + b := by rw [← hs6]; exact wraps_i64 _ (by unfold W32 at w1 w2; omega) (by unfold W32 at w1 w2; omega)
              have L6 := Lib.hid (low_same s6 (by unfold W32 at w1 w2; omega) (by unfold W32 at w1 w2; omega))
              have hp := hA.put HH8.out HX8.out hc8 (s6 % 4294967296) (by rw [hg, hv6])
              have HP := Lib.hid hp
              have q5 : (c : Int) < 8 := by omega
              have q6 : (c : Int) < (capx : Int) := by omega
              have q7 : (0 : Int) ≤ (c : Int) := by omega
              clear ha hb hp hv6 w1 w2 hg hA
              go_wp2_with fail
              go_still_tail 13, (by kernel_rfl)
              still_call (L6.out _)
              repeat still_step
              refine wpStill_nil ?_
              change wpList _ _ _ _ _ wr.drew
              go_wp2_with fail
              go_roundg (gk - 1)
              case measure => omega
              case rel => exact ⟨c + 1, by omega, by go_num, HP.out.drew⟩
            · obtain rfl : c = 8 := by omega
              have hS := HI5.out.turned HH.out HBL.out (by rw [HXE.out, HWS.out]) hA
              have HS := Lib.hid hS
              have hp64 : ((p : Int) + 64) = ((64 * (m + 1) : Nat) : Int) := by rw [HP.out]; omega
              have HP64 := Lib.hid hp64
              clear hp64 hA hS hc hc8
              go_wp2_with fail
              go_roundg (M - (m + 1))
              case measure => omega
              case rel => exact ⟨m + 1, by omega, by rw [HP64.out], HS.out⟩
    · obtain rfl : m = M := by omega
      have hpN : p = N := by rw [HN2.out, hp]
      subst hpN
      have hfin := HI.out.hh
      rw [show shaN fb m = shaW (bytesOf s) by rw [HFB.out, shaW, bytesOf_length, ← HM.out]] at hfin
      have hHW : Ws (shaW (bytesOf s)) := shaN_w _ _
      have hH8 : (shaW (bytesOf s)).length = 8 := shaN_length _ _
      have hsha : sha (bytesOf s) = (shaW (bytesOf s)).flatMap be4 := rfl
      obtain ⟨H, hH⟩ : ∃ H, H = shaW (bytesOf s) := ⟨_, rfl⟩
      rw [← hH] at hfin hHW hH8 hsha
      have HF := Lib.hid hfin
      have HHW := Lib.hid hHW
      have HH8 := Lib.hid hH8
      have HSHA := Lib.hid hsha
      have HBEL := Lib.hid HI.out.bel
      clear hfin hHW hH8 hsha hH hp hm hlt HI
      go_wp2_with fail
      obtain ⟨W6, hW6⟩ : ∃ W6, W6 = wr := ⟨_, rfl⟩
      have HF1 := HF.out
      have HB1 := HBEL.out
      rw [← hW6] at HF1 HB1
      have HF := Lib.hid HF1
      have HBEL := Lib.hid HB1
      clear HF1 HB1
      go_loopg [13, 14] 8 (fun j o i wr => ∃ (k : Nat) (v : Value), j + k = 8 ∧ v = o ∧ i = .int .i64 (k : Int) ∧ Loc W6 wr 5 1 v (4 * k) (nums ((H.take k).flatMap be4)))
      case atStart => exact ⟨0, .slice none 0 0, rfl, rfl, rfl, by rw [← hW6]; exact Loc.nil (Below.refl _ _) _ _⟩
      case round =>
        clear hW6
        obtain ⟨k, v, hk, rfl, rfl, hA⟩ := hrel
        by_cases hk8 : k < 8
        · have hb0 := HF.out
          have hgh := blk_lt hb0
          have ck : wr.cell? ⟨gh, k, none⟩ = some (.int .i64 (H.getD k 0)) := by
            rw [hA.below.cell (p := ⟨gh, k, none⟩) hgh, blk_cell hb0 k]
            have := HH8.out
            simp [ints, List.getElem?_eq_getElem (show k < H.length by omega), List.getD]
          have wk := HHW.out.get k
          obtain ⟨a, ha⟩ : ∃ a, a = H.getD k 0 := ⟨_, rfl⟩
          rw [← ha] at ck wk
          have HA := Lib.hid hA
          have HAA := Lib.hid ha
          have WK := Lib.hid wk
          have q5 : (k : Int) < 8 := by omega
          have q7 : (0 : Int) ≤ (k : Int) := by omega
          obtain ⟨a0, a1⟩ := wk
          obtain ⟨c0, e0⟩ : ∃ c, IntKind.u8.wrap (a / 16777216) = c := ⟨_, rfl⟩
          obtain ⟨b1, f1⟩ : ∃ c, bits .and .i64 (a / 65536) 255 = c := ⟨_, rfl⟩
          obtain ⟨c1, e1⟩ : ∃ c, IntKind.u8.wrap b1 = c := ⟨_, rfl⟩
          obtain ⟨b2, f2⟩ : ∃ c, bits .and .i64 (a / 256) 255 = c := ⟨_, rfl⟩
          obtain ⟨c2, e2⟩ : ∃ c, IntKind.u8.wrap b2 = c := ⟨_, rfl⟩
          obtain ⟨b3, f3⟩ : ∃ c, bits .and .i64 a 255 = c := ⟨_, rfl⟩
          obtain ⟨c3, e3⟩ : ∃ c, IntKind.u8.wrap b3 = c := ⟨_, rfl⟩
          have hbe : be4 a = [c0, c1, c2, c3] := by
            have m := fun x h0 h1 => bits_mask .i64 63 (by decide) wraps_i64 8 (by decide) x h0 h1
            have m1 := m (a / 65536) (by omega) (by omega)
            have m2 := m (a / 256) (by omega) (by omega)
            have m3 := m a (by omega) (by omega)
            rw [show ((2 : Int) ^ 8 - 1) = 255 from rfl, show ((2 : Int) ^ 8) = 256 from rfl] at m1 m2 m3
            rw [← e0, ← e1, ← e2, ← e3, ← f1, ← f2, ← f3, m1, m2, m3, IntKind.wrap_u8, IntKind.wrap_u8, IntKind.wrap_u8, IntKind.wrap_u8, be4]
            simp
          have HBE := Lib.hid hbe
          have hvne : some gh ≠ v.ownBlock := fun he => by
            have := hA.base gh he.symm
            omega
          have hghwr : gh < wr.heap.size := Nat.lt_of_lt_of_le hgh hA.below.size
          have hHH8 := HH8.out
          have htk : (H.take (k + 1)).flatMap be4 = (H.take k).flatMap be4 ++ be4 a := by
            rw [ha, List.take_add_one, List.getElem?_eq_getElem (show k < H.length by omega), List.flatMap_append]
            simp [List.getD, List.getElem?_eq_getElem (show k < H.length by omega)]
          have HTK := Lib.hid htk
          obtain ⟨n, hn⟩ : ∃ n, n = 4 * k := ⟨_, rfl⟩
          have hA1 := hA
          rw [← hn] at hA1
          have HA := Lib.hid hA1
          have hn32 : n ≤ 32 := by omega
          have HN4 := Lib.hid hn
          obtain ⟨i0, hi, hz0, hz1, hz2⟩ := info_parts infoByte
          have HII := Lib.hid hi
          have HZ0 := Lib.hid hz0
          have HZ1 := Lib.hid hz1
          have HZ2 := Lib.hid hz2
          clear hA hA1 ha hb0 hgh hbe htk hHH8 hn hi hz0 hz1 hz2
          go_wp2_with fail
          go_region_held3 (fun w' => w'.cell? ⟨gh, k, none⟩ = some (.int .i64 a)) (first | go_keep | exact (hgrow5.cell_far ⟨gh, k, none⟩ (by simp; omega) hvne).trans ((World.cell?_of_block (w := wr) (Below.heap_alloc wr _ gh hghwr)).trans ck))
            ((refine step_append_row (by rfl) _ _ _ _ (by rfl) 5 i0 (.int .u8 0) 1 1 Try.underlying40 HII.out HZ0.out HZ1.out HZ2.out rfl (by omega) v _ _ (by rfl) ((HA.out.row.alloc _).drew) _ (by rfl) 4 [.int .u8 c0, .int .u8 c1, .int .u8 c2, .int .u8 c3] (Feeds.slice Try.underlying40 ⟨wr.heap.size, 0, none⟩ 4 4 _ (by rfl) (by simp [Value.oneCell']) (World.news_of_block (cs := #[.int .u8 c0, .int .u8 c1, .int .u8 c2, .int .u8 c3]) (t := 5) (fr := (0, 0)) (heap_alloc_new wr _))) (by unfold maxLen; omega) (by omega) (wr.heap.size + 1) (by simp) ?_; intro ao5 cap5 w5 hown5 hgrow5 hat5))
          have hloc := HA.out.app (((Below.refl _ wr).alloc (Nat.le_refl _) _).drew) hown5 hgrow5 hat5 (by omega)
          rw [show nums ((H.take k).flatMap be4) ++ [.int .u8 c0, .int .u8 c1, .int .u8 c2, .int .u8 c3] = nums ((H.take (k + 1)).flatMap be4) by rw [HTK.out, HBE.out, nums_append]; rfl, show n + 4 = 4 * (k + 1) by rw [HN4.out]; omega] at hloc
          have HS := Lib.hid hloc
          have e9 : n + 4 = 4 * (k + 1) := by rw [HN4.out]; omega
          clear hloc hown5 hgrow5 hat5 e0 e1 e2 e3 f1 f2 f3 ck
          go_wp2_with fail
          go_roundg (gk - 1)
          case measure => omega
          case rel => exact ⟨k + 1, _, by omega, by rw [e9], by go_num, HS.out⟩
        · obtain rfl : k = 8 := by omega
          have hcs := row_string (P := Try.prog) Try.underlying40 Try.underlying5 Try.underlying9 hA.row
          have hl8 := HH8.out
          rw [List.take_of_length_le (by omega), ← HSHA.out] at hcs
          have HB := Lib.hid (HBEL.out.trans (hA.below.mono HBEL.out.size))
          clear hA hl8
          go_wp2
          go_ret
          exact ⟨rfl, HB.out⟩
end Go.Proofs.Ytobgnmellbgfmaa.B
