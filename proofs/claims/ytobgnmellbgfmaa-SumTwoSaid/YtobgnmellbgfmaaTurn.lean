/-
  sum.turned, walked: a state behind one block is the plain one.
-/
import Derived.Test.YtobgnmellbgfmaaTurned
import Derived.Test.YtobgnmellbgfmaaRound
import Derived.Outline
namespace Go.Proofs.Ytobgnmellbgfmaa.B
open Go.RowKit
set_option linter.unusedVariables false

/-- The words' array with the first k of them there. -/
def wdAt (B : List Int) (k : Nat) : Array Value := (u32s (wd B k ++ List.replicate (64 - k) 0)).toArray
theorem wdAt_size (B : List Int) (k : Nat) (h : k ≤ 64) : (wdAt B k).size = 64 := by
  simp [wdAt, u32s, wd_length]
  omega
theorem wdAt_get (B : List Int) (k j : Nat) (hj : j < k) : (wdAt B k)[j]? = some (.int .u32 ((wd B k).getD j 0)) := by
  have hl := wd_length B k
  have := u32s_get (xs := wd B k ++ List.replicate (64 - k) 0) (i := j) (by simp; omega)
  rw [wdAt, this, List.getD, List.getElem?_append_left (by omega), ← List.getD]
theorem wdAt_zero (B : List Int) (k : Nat) (hk : k < 64) : (wdAt B k)[k]? = some (.int .u32 0) := by
  have hl := wd_length B k
  have := u32s_get (xs := wd B k ++ List.replicate (64 - k) 0) (i := k) (by simp; omega)
  rw [wdAt, this, List.getD, List.getElem?_append_right (by omega), hl, Nat.sub_self, List.getElem?_replicate]
  simp [show 0 < 64 - k by omega]
theorem wdAt_set (B : List Int) (k : Nat) (hk : k < 64) (y : Int) (hy : y = nextW B (wd B k)) : (wdAt B k).setIfInBounds k (.int .u32 y) = wdAt B (k + 1) := by
  have hl := wd_length B k
  simp only [wdAt, u32s, List.setIfInBounds_toArray]
  congr 1
  rw [show (Value.int .u32 y) = (fun x => Value.int .u32 x) y from rfl, ← List.map_set]
  congr 1
  rw [List.set_append_right _ _ (by omega), hl, Nat.sub_self, show 64 - k = (64 - (k + 1)) + 1 by omega, List.replicate_succ, List.set_cons_zero, wd, hy, List.append_assoc]
  rfl

/-- The world of turned: the state's box, the block's box, the result's and the words' array. -/
structure TurnI (w : World) (H B : List Int) (k : Nat) (W : World) : Prop where
  bel : Below w.heap.size w W
  hh : W.heap[w.heap.size]? = some (.cells (u32s H).toArray 34 (0, 0))
  bb : W.heap[w.heap.size + 1]? = some (.cells (nums B).toArray 35 (0, 0))
  rr : W.heap[w.heap.size + 1 + 1]? = some (.cells (u32s (List.replicate 8 0)).toArray 34 (0, 0))
  ww : W.heap[w.heap.size + 1 + 1 + 1]? = some (.cells (wdAt B k) 60 (0, 0))
theorem TurnI.below {w W W1 : World} {H B : List Int} {k : Nat} (h : TurnI w H B k W) (hb : Below W.heap.size W W1) : TurnI w H B k W1 :=
  ⟨h.bel.trans (hb.mono h.bel.size), (hb.block _ (blk_lt h.hh)).trans h.hh, (hb.block _ (blk_lt h.bb)).trans h.bb, (hb.block _ (blk_lt h.rr)).trans h.rr, (hb.block _ (blk_lt h.ww)).trans h.ww⟩
theorem TurnI.drew {w W : World} {H B : List Int} {k : Nat} (h : TurnI w H B k W) : TurnI w H B k W.drew := ⟨h.bel.drew, h.hh, h.bb, h.rr, h.ww⟩
theorem TurnI.drewN {w W : World} {H B : List Int} {k : Nat} (h : TurnI w H B k W) (n : Nat) : TurnI w H B k (W.drewN n) := ⟨bdrewN h.bel n, h.hh, h.bb, h.rr, h.ww⟩
theorem TurnI.put {w W : World} {H B : List Int} {k : Nat} (h : TurnI w H B k W) (hk : k < 64) (y : Int) (hy : y = nextW B (wd B k)) : TurnI w H B (k + 1) (W.setCell ⟨w.heap.size + 1 + 1 + 1, k, none⟩ (.int .u32 y)) := by
  refine ⟨h.bel.setCell (by simp; omega) _, ?_, ?_, ?_, ?_⟩
  · exact (Below.heap_setCell W _ _ _ (by simp <;> omega)).trans h.hh
  · exact (Below.heap_setCell W _ _ _ (by simp <;> omega)).trans h.bb
  · exact (Below.heap_setCell W _ _ _ (by simp <;> omega)).trans h.rr
  · rw [blk_set h.ww, wdAt_set B k hk y hy]

/-- Four bytes as a word, as the program joins them. -/
theorem orSum {y0 y1 y2 y3 : Int} (h0 : 0 ≤ y0 ∧ y0 < 256) (h1 : 0 ≤ y1 ∧ y1 < 256) (h2 : 0 ≤ y2 ∧ y2 < 256) (h3 : 0 ≤ y3 ∧ y3 < 256) :
    IntKind.u32.wrap y0 = y0 ∧ IntKind.u32.wrap y1 = y1 ∧ IntKind.u32.wrap y2 = y2 ∧ IntKind.u32.wrap y3 = y3 ∧ ∃ z0 z1 z2 v1 v2 v : Int, IntKind.u32.wrap (y0 * 16777216) = z0 ∧ IntKind.u32.wrap (y1 * 65536) = z1 ∧ IntKind.u32.wrap (y2 * 256) = z2 ∧
      bits .or .u32 z0 z1 = v1 ∧ bits .or .u32 v1 z2 = v2 ∧ bits .or .u32 v2 y3 = v ∧ v = y0 * 16777216 + y1 * 65536 + y2 * 256 + y3 := by
  refine ⟨wraps_u32 _ (by omega) (by omega), wraps_u32 _ (by omega) (by omega), wraps_u32 _ (by omega) (by omega), wraps_u32 _ (by omega) (by omega), _, _, _, _, _, _, rfl, rfl, rfl, rfl, rfl, rfl, ?_⟩
  rw [wraps_u32 (y0 * 16777216) (by omega) (by omega), wraps_u32 (y1 * 65536) (by omega) (by omega), wraps_u32 (y2 * 256) (by omega) (by omega)]
  have p24 : (2 : Int) ^ 24 = 16777216 := rfl
  have p16 : (2 : Int) ^ 16 = 65536 := rfl
  have p8 : (2 : Int) ^ 8 = 256 := rfl
  have a1 : bits .or .u32 (y0 * 16777216) (y1 * 65536) = y0 * 16777216 + y1 * 65536 := bits_join .u32 32 (by decide) wraps_u32 24 _ _ (by omega) (by rw [p24]; omega) (by omega) (by omega) (by rw [p24]; omega) (by omega)
  have a2 : bits .or .u32 (y0 * 16777216 + y1 * 65536) (y2 * 256) = y0 * 16777216 + y1 * 65536 + y2 * 256 := bits_join .u32 32 (by decide) wraps_u32 16 _ _ (by omega) (by rw [p16]; omega) (by omega) (by omega) (by rw [p16]; omega) (by omega)
  have a3 : bits .or .u32 (y0 * 16777216 + y1 * 65536 + y2 * 256) y3 = y0 * 16777216 + y1 * 65536 + y2 * 256 + y3 := bits_join .u32 32 (by decide) wraps_u32 8 _ _ (by omega) (by rw [p8]; omega) (by omega) (by omega) (by rw [p8]; omega) (by omega)
  rw [a1, a2, a3]
/-- The next word, as the program reckons it. -/
theorem wSum {x15 x2 x16 x7 : Int} (h15 : W32 x15) (h2 : W32 x2) (h16 : W32 x16) (h7 : W32 x7) :
    ∃ a1 a2 b1 b2 s1 s2 v : Int, bits .xor .u32 (rr x15 7) (rr x15 18) = a1 ∧ bits .xor .u32 a1 (x15 / 8) = a2 ∧ bits .xor .u32 (rr x2 17) (rr x2 19) = b1 ∧ bits .xor .u32 b1 (x2 / 1024) = b2 ∧
      IntKind.u32.wrap (x16 + a2) = s1 ∧ IntKind.u32.wrap (s1 + x7) = s2 ∧ IntKind.u32.wrap (s2 + b2) = v ∧ v = (x16 + sg0 x15 + x7 + sg1 x2) % 4294967296 := by
  have d8 : W32 (x15 / 8) := by unfold W32 at *; omega
  have d10 : W32 (x2 / 1024) := by unfold W32 at *; omega
  refine ⟨_, _, _, _, _, _, _, rfl, rfl, rfl, rfl, rfl, rfl, rfl, ?_⟩
  rw [xor_u32 (rr_w h15 (by omega)) (rr_w h15 (by omega)), xor_u32 (xr_w (rr_w h15 (by omega)) (rr_w h15 (by omega))) d8, xor_u32 (rr_w h2 (by omega)) (rr_w h2 (by omega)), xor_u32 (xr_w (rr_w h2 (by omega)) (rr_w h2 (by omega))) d10]
  rw [show xr (xr (rr x15 7) (rr x15 18)) (x15 / 8) = sg0 x15 from rfl, show xr (xr (rr x2 17) (rr x2 19)) (x2 / 1024) = sg1 x2 from rfl]
  generalize sg0 x15 = p
  generalize sg1 x2 = q
  rw [IntKind.wrap_u32, IntKind.wrap_u32, IntKind.wrap_u32]
  omega

/-- The rounds of the program: block gk holds the constants, block gs the state behind n of them. -/
structure RdsI (w : World) (H B : List Int) (gk gs n : Nat) (W : World) : Prop where
  ti : TurnI w H B 64 W
  kk : W.heap[gk]? = some (.cells (u32s shaK).toArray 60 (0, 0))
  ss : W.heap[gs]? = some (.cells (u32s (rnds (wd B 64) H n)).toArray 34 (0, 0))
  gtk : w.heap.size + 1 + 1 + 1 < gk
  gts : gk < gs
theorem RdsI.drewN {w W : World} {H B : List Int} {gk gs n : Nat} (h : RdsI w H B gk gs n W) (d : Nat) : RdsI w H B gk gs n (W.drewN d) := ⟨h.ti.drewN d, h.kk, h.ss, h.gtk, h.gts⟩
theorem RdsI.put {w W W1 : World} {H B : List Int} {gk gs n : Nat} (h : RdsI w H B gk gs n W) (hk : Keeps (fun i => i = gs) W W1) (hs : W1.heap[gs]? = some (.cells (u32s (rnds (wd B 64) H (n + 1))).toArray 34 (0, 0))) : RdsI w H B gk gs (n + 1) W1 := by
  have a := h.gtk
  have b := h.gts
  exact ⟨⟨h.ti.bel.trans (hk.below h.ti.bel.size (by intro i hi; omega)), hk.at_ h.ti.hh (by omega), hk.at_ h.ti.bb (by omega), hk.at_ h.ti.rr (by omega), hk.at_ h.ti.ww (by omega)⟩, hk.at_ h.kk (by omega), hs, h.gtk, h.gts⟩
theorem eight32 (l : List Int) (h : l.length = 8) : ∃ x0 x1 x2 x3 x4 x5 x6 x7, l = [x0, x1, x2, x3, x4, x5, x6, x7] := by
  match l, h with
  | [x0, x1, x2, x3, x4, x5, x6, x7], _ => exact ⟨_, _, _, _, _, _, _, _, rfl⟩

/-- The state's words are added one by one: c of them are done. -/
structure AddU (W5 : World) (gh : Nat) (H X : List Int) (c : Nat) (W : World) : Prop where
  keep : Keeps (fun i => i = gh) W5 W
  blk : W.heap[gh]? = some (.cells (u32s ((adds H X).take c ++ H.drop c)).toArray 34 (0, 0))
theorem addu_length {H X : List Int} (h : H.length = 8) (x : X.length = 8) : (adds H X).length = 8 := by rw [adds, List.length_zipWith, h, x]; rfl
theorem addu_get {H X : List Int} (h : H.length = 8) (x : X.length = 8) (c : Nat) (hc : c < 8) : (adds H X).getD c 0 = (H.getD c 0 + X.getD c 0) % 4294967296 := by
  have hl := addu_length h x
  rw [List.getD, List.getElem?_eq_getElem (by omega), Option.getD_some]
  simp [adds, List.getD, List.getElem?_eq_getElem (show c < H.length by omega), List.getElem?_eq_getElem (show c < X.length by omega)]
theorem AddU.at_ {W5 W : World} {gh : Nat} {H X : List Int} {c : Nat} (h : AddU W5 gh H X c W) (hH : H.length = 8) (hX : X.length = 8) (hc : c < 8) : W.cell? ⟨gh, c, none⟩ = some (.int .u32 (H.getD c 0)) := by
  have hl := addu_length hH hX
  rw [blk_cell h.blk c, List.getElem?_toArray, u32s, List.getElem?_map, List.getElem?_append_right (by simp; omega)]
  simp [hl, Nat.min_eq_left (show c ≤ 8 by omega), List.getD, List.getElem?_eq_getElem (show c < H.length by omega)]
theorem AddU.put {W5 W : World} {gh : Nat} {H X : List Int} {c : Nat} (h : AddU W5 gh H X c W) (hH : H.length = 8) (hX : X.length = 8) (hc : c < 8) (y : Int) (hy : y = (adds H X).getD c 0) : AddU W5 gh H X (c + 1) (W.setCell ⟨gh, c, none⟩ (.int .u32 y)) := by
  have hl := addu_length hH hX
  refine ⟨h.keep.setCell (fun _ => rfl) _, ?_⟩
  rw [blk_set h.blk]
  congr 2
  simp only [u32s, List.setIfInBounds_toArray]
  congr 1
  rw [show (Value.int .u32 y) = (fun x => Value.int .u32 x) y from rfl, ← List.map_set]
  congr 1
  have h1 : ((adds H X).take c).length = c := by simp; omega
  rw [List.set_append_right _ _ (by omega), h1, Nat.sub_self, List.drop_eq_getElem_cons (show c < H.length by omega), List.set_cons_zero, hy, ← List.take_append_getElem (show c < (adds H X).length by omega), List.append_assoc]
  simp [List.getD, List.getElem?_eq_getElem (show c < (adds H X).length by omega)]
theorem AddU.drew {W5 W : World} {gh : Nat} {H X : List Int} {c : Nat} (h : AddU W5 gh H X c W) : AddU W5 gh H X c W.drew := ⟨h.keep.drew, h.blk⟩

set_option maxRecDepth 100000 in
set_option maxHeartbeats 6400000 in
theorem turned_any (H B : List Int) (hH8 : H.length = 8) (hHW : Ws H) (hB64 : B.length = 64) (hBB : Bs B) (w : World) :
    Calls Try.prog 31 #[.agg (u32s H).toArray, .agg (nums B).toArray] w fun e w' => e = .returned (.agg (u32s (turn H B)).toArray) ∧ Below w.heap.size w w' := by
  have hu8 := Try.underlying34
  have hu64 := Try.underlying60
  have hub := Try.underlying35
  have h0 : TurnI w H B 0 ((((w.alloc (.cells (u32s H).toArray 34 (0, 0))).alloc (.cells (nums B).toArray 35 (0, 0))).alloc (.cells (u32s (List.replicate 8 0)).toArray 34 (0, 0))).alloc (.cells (wdAt B 0) 60 (0, 0))) := by
    refine ⟨?_, get_below (get_below (get_below (get_top rfl))), get_below (get_below (get_top (by simp))), get_below (get_top (by simp)), get_top (by simp)⟩
    exact ((((Below.refl _ w).alloc (Nat.le_refl _) _).alloc (by simp) _).alloc (by simp; omega) _).alloc (by simp; omega) _
  have HI0 := Lib.hid h0
  have H8 := Lib.hid hH8
  have HW := Lib.hid hHW
  have B64 := Lib.hid hB64
  have BB := Lib.hid hBB
  clear h0 hH8 hHW hB64 hBB
  go_enter Try.func31, Try.ntmps31
  go_wp2_with fail
  go_loopg [16] 16 (fun j i wr => ∃ k : Nat, j + k = 16 ∧ i = .int .i64 (k : Int) ∧ TurnI w H B k wr)
  case atStart => exact ⟨0, rfl, rfl, HI0.out⟩
  case round =>
    obtain ⟨k, hk, rfl, hI⟩ := hrel
    have HI := Lib.hid hI
    clear hI HI0
    by_cases hk16 : k < 16
    · have hb := fun j (hj : j < 64) => (blk_cell HI.out.bb j).trans (nums_get (by rw [B64.out]; exact hj))
      have k0 := hb (4 * k) (by omega)
      have k1 := hb (4 * k + 1) (by omega)
      have k2 := hb (4 * k + 2) (by omega)
      have k3 := hb (4 * k + 3) (by omega)
      have g0 := BB.out.get (4 * k)
      have g1 := BB.out.get (4 * k + 1)
      have g2 := BB.out.get (4 * k + 2)
      have g3 := BB.out.get (4 * k + 3)
      have hy := nextW_early (b := B) (wd_length B k) hk16
      obtain ⟨y0, e0⟩ : ∃ y, y = B.getD (4 * k) 0 := ⟨_, rfl⟩
      obtain ⟨y1, e1⟩ : ∃ y, y = B.getD (4 * k + 1) 0 := ⟨_, rfl⟩
      obtain ⟨y2, e2⟩ : ∃ y, y = B.getD (4 * k + 2) 0 := ⟨_, rfl⟩
      obtain ⟨y3, e3⟩ : ∃ y, y = B.getD (4 * k + 3) 0 := ⟨_, rfl⟩
      rw [← e0] at k0 g0 hy
      rw [← e1] at k1 g1 hy
      rw [← e2] at k2 g2 hy
      rw [← e3] at k3 g3 hy
      have kw := (blk_cell HI.out.ww k).trans (wdAt_zero B k (by omega))
      have kf := blk_frozen HI.out.ww k
      have HY := Lib.hid hy
      have G0 := Lib.hid g0
      have G1 := Lib.hid g1
      have G2 := Lib.hid g2
      have G3 := Lib.hid g3
      have i1 : (0 : Int) ≤ 4 * (k : Int) := by omega
      have i2 : 4 * (k : Int) < 64 := by omega
      have i3 : 4 * (k : Int) + 1 < 64 := by omega
      have i4 : 4 * (k : Int) + 2 < 64 := by omega
      have i5 : 4 * (k : Int) + 3 < 64 := by omega
      have i6 : (4 * (k : Int)).toNat = 4 * k := by omega
      have i7 : (4 * (k : Int) + 1).toNat = 4 * k + 1 := by omega
      have i8 : (4 * (k : Int) + 2).toNat = 4 * k + 2 := by omega
      have i9 : (4 * (k : Int) + 3).toNat = 4 * k + 3 := by omega
      have iA : (0 : Int) ≤ 4 * (k : Int) + 1 := by omega
      have iB : (0 : Int) ≤ 4 * (k : Int) + 2 := by omega
      have iC : (0 : Int) ≤ 4 * (k : Int) + 3 := by omega
      have w0 : IntKind.i64.wrap (4 * (k : Int)) = 4 * (k : Int) := IntWalk.i64_in _ (by omega)
      have w1 : IntKind.i64.wrap (4 * (k : Int) + 1) = 4 * (k : Int) + 1 := IntWalk.i64_in _ (by omega)
      have w2 : IntKind.i64.wrap (4 * (k : Int) + 2) = 4 * (k : Int) + 2 := IntWalk.i64_in _ (by omega)
      have w3 : IntKind.i64.wrap (4 * (k : Int) + 3) = 4 * (k : Int) + 3 := IntWalk.i64_in _ (by omega)
      obtain ⟨c0, c1, c2, c3, z0, z1, z2, v1, v2, vv, d0, d1, d2, d3, d4, d5, hv⟩ := orSum g0 g1 g2 g3
      have hp := HI.out.put (by omega : k < 64) vv (by rw [hv, hy])
      have HP := Lib.hid hp
      have iD : (0 : Int) ≤ (k : Int) := by omega
      have iE : (k : Int) < 64 := by omega
      clear hb hy g0 g1 g2 g3 e0 e1 e2 e3 hv hp
      go_wp2_with fail
      go_still_tail 31, (by kernel_rfl)
      change wpList _ _ _ _ _ wr.drew
      go_wp2_with fail
      go_roundg (gk - 1)
      case measure => omega
      case rel => exact ⟨k + 1, by omega, by go_num, HP.out.drew⟩
    · obtain rfl : k = 16 := by omega
      clear hk hk16
      go_wp2_with fail
      have HI16 := Lib.hid HI.out
      clear HI
      go_loopg [7] 48 (fun j i wr => ∃ n : Nat, j + n = 64 ∧ 16 ≤ n ∧ i = .int .i64 (n : Int) ∧ TurnI w H B n wr)
      case atStart => exact ⟨16, rfl, by omega, rfl, HI16.out⟩
      case round =>
        clear HI16
        obtain ⟨n, hn, hn16, rfl, hI⟩ := hrel
        have HI := Lib.hid hI
        clear hI
        by_cases hn64 : n < 64
        · have hw := fun j (hj : j < n) => (blk_cell HI.out.ww j).trans (wdAt_get B n j hj)
          have c15 := hw (n - 15) (by omega)
          have c2 := hw (n - 2) (by omega)
          have c16 := hw (n - 16) (by omega)
          have c7 := hw (n - 7) (by omega)
          have hWW := wd_w BB.out n
          have g15 := hWW.get (n - 15)
          have g2 := hWW.get (n - 2)
          have g16 := hWW.get (n - 16)
          have g7 := hWW.get (n - 7)
          have hy := nextW_late (b := B) (wd_length B n) hn16
          obtain ⟨x15, e15⟩ : ∃ y, y = (wd B n).getD (n - 15) 0 := ⟨_, rfl⟩
          obtain ⟨x2, e2⟩ : ∃ y, y = (wd B n).getD (n - 2) 0 := ⟨_, rfl⟩
          obtain ⟨x16, e16⟩ : ∃ y, y = (wd B n).getD (n - 16) 0 := ⟨_, rfl⟩
          obtain ⟨x7, e7⟩ : ∃ y, y = (wd B n).getD (n - 7) 0 := ⟨_, rfl⟩
          rw [← e15] at c15 g15 hy
          rw [← e2] at c2 g2 hy
          rw [← e16] at c16 g16 hy
          rw [← e7] at c7 g7 hy
          obtain ⟨a1, a2, b1, b2, s1, s2, vv, f1, f2, f3, f4, f5, f6, f7, hv⟩ := wSum g15 g2 g16 g7
          have hp := HI.out.put hn64 vv (by rw [hv, hy])
          have HP := Lib.hid hp
          have kw := (blk_cell HI.out.ww n).trans (wdAt_zero B n hn64)
          have kf := blk_frozen HI.out.ww n
          have r7 := right32_any x15 g15 7 (by omega) (by omega)
          have r18 := right32_any x15 g15 18 (by omega) (by omega)
          have r17 := right32_any x2 g2 17 (by omega) (by omega)
          have r19 := right32_any x2 g2 19 (by omega) (by omega)
          simp only [Int.cast_ofNat_Int] at r7 r18 r17 r19
          have R7 := Lib.hid r7
          have R18 := Lib.hid r18
          have R17 := Lib.hid r17
          have R19 := Lib.hid r19
          have i1 : (0 : Int) ≤ (n : Int) - 15 := by omega
          have i2 : (0 : Int) ≤ (n : Int) - 2 := by omega
          have i3 : (0 : Int) ≤ (n : Int) - 16 := by omega
          have i4 : (0 : Int) ≤ (n : Int) - 7 := by omega
          have m15 : (15 : Int) ≤ (n : Int) := by omega
          have m2 : (2 : Int) ≤ (n : Int) := by omega
          have m16 : (16 : Int) ≤ (n : Int) := by omega
          have m7 : (7 : Int) ≤ (n : Int) := by omega
          have j1 : (n : Int) - 15 < 64 := by omega
          have j2 : (n : Int) - 2 < 64 := by omega
          have j3 : (n : Int) - 16 < 64 := by omega
          have j4 : (n : Int) - 7 < 64 := by omega
          have iD : (0 : Int) ≤ (n : Int) := by omega
          have iE : (n : Int) < 64 := by omega
          have t1 : ((n : Int) - 15).toNat = n - 15 := by omega
          have t2 : ((n : Int) - 2).toNat = n - 2 := by omega
          have t3 : ((n : Int) - 16).toNat = n - 16 := by omega
          have t4 : ((n : Int) - 7).toNat = n - 7 := by omega
          have w1 : IntKind.i64.wrap ((n : Int) - 15) = (n : Int) - 15 := IntWalk.i64_in _ (by omega)
          have w2 : IntKind.i64.wrap ((n : Int) - 2) = (n : Int) - 2 := IntWalk.i64_in _ (by omega)
          have w3 : IntKind.i64.wrap ((n : Int) - 16) = (n : Int) - 16 := IntWalk.i64_in _ (by omega)
          have w4 : IntKind.i64.wrap ((n : Int) - 7) = (n : Int) - 7 := IntWalk.i64_in _ (by omega)
          clear hw hWW g15 g2 g16 g7 hy e15 e2 e16 e7 hv hp r7 r18 r17 r19
          go_wp2_with fail
          go_quiet ((first | (go_at_call 34; (with_reducible refine (R7.out _).mono ?_); rintro e w' ⟨rfl, nd, rfl⟩; exact ⟨rfl, _, World.drewN_drewN _ _ _⟩) | (go_at_call 34; (with_reducible refine (R18.out _).mono ?_); rintro e w' ⟨rfl, nd, rfl⟩; exact ⟨rfl, _, World.drewN_drewN _ _ _⟩)))
          obtain ⟨W1, hW1⟩ : ∃ Wz, wr.drewN nq = Wz := ⟨_, rfl⟩
          rw [hW1]
          have c2 : W1.cell? ⟨w.heap.size + 1 + 1 + 1, n - 2, none⟩ = some (.int .u32 x2) := by rw [← hW1]; exact c2
          have c16 : W1.cell? ⟨w.heap.size + 1 + 1 + 1, n - 16, none⟩ = some (.int .u32 x16) := by rw [← hW1]; exact c16
          have c7 : W1.cell? ⟨w.heap.size + 1 + 1 + 1, n - 7, none⟩ = some (.int .u32 x7) := by rw [← hW1]; exact c7
          have kw : W1.cell? ⟨w.heap.size + 1 + 1 + 1, n, none⟩ = some (.int .u32 0) := by rw [← hW1]; exact kw
          have kf : W1.frozen? ⟨w.heap.size + 1 + 1 + 1, n, none⟩ = false := by rw [← hW1]; exact kf
          have HP := Lib.hid (show TurnI w H B (n + 1) (W1.setCell ⟨w.heap.size + 1 + 1 + 1, n, none⟩ (.int .u32 vv)) by rw [← hW1]; exact HP.out.drewN nq)
          clear hW1
          go_wp2_with fail
          go_quiet ((first | (go_at_call 34; (with_reducible refine (R17.out _).mono ?_); rintro e w' ⟨rfl, nd, rfl⟩; exact ⟨rfl, _, World.drewN_drewN _ _ _⟩) | (go_at_call 34; (with_reducible refine (R19.out _).mono ?_); rintro e w' ⟨rfl, nd, rfl⟩; exact ⟨rfl, _, World.drewN_drewN _ _ _⟩)))
          obtain ⟨W2, hW1⟩ : ∃ Wz, W1.drewN nq = Wz := ⟨_, rfl⟩
          rw [hW1]
          have c2 : W2.cell? ⟨w.heap.size + 1 + 1 + 1, n - 2, none⟩ = some (.int .u32 x2) := by rw [← hW1]; exact c2
          have c16 : W2.cell? ⟨w.heap.size + 1 + 1 + 1, n - 16, none⟩ = some (.int .u32 x16) := by rw [← hW1]; exact c16
          have c7 : W2.cell? ⟨w.heap.size + 1 + 1 + 1, n - 7, none⟩ = some (.int .u32 x7) := by rw [← hW1]; exact c7
          have kw : W2.cell? ⟨w.heap.size + 1 + 1 + 1, n, none⟩ = some (.int .u32 0) := by rw [← hW1]; exact kw
          have kf : W2.frozen? ⟨w.heap.size + 1 + 1 + 1, n, none⟩ = false := by rw [← hW1]; exact kf
          have HP := Lib.hid (show TurnI w H B (n + 1) (W2.setCell ⟨w.heap.size + 1 + 1 + 1, n, none⟩ (.int .u32 vv)) by rw [← hW1]; exact HP.out.drewN nq)
          clear hW1
          go_wp2_with fail
          go_still_tail 15, (by kernel_rfl)
          change wpList _ _ _ _ _ W2.drew
          go_wp2_with fail
          go_roundg (gk - 1)
          case measure => omega
          case rel => exact ⟨n + 1, by omega, by omega, by go_num, HP.out.drew⟩
        · obtain rfl : n = 64 := by omega
          clear hn hn16 hn64
          have HI64 := Lib.hid HI.out
          clear HI
          go_wp2_with fail
          refine (constants_any _).mono ?_
          rintro e W3 ⟨rfl, hb⟩
          have HT3 := Lib.hid (HI64.out.below hb)
          clear hb HI64
          go_wp2_with (first | (refine wpList_store_row (by rfl) 60 _ _ (by rfl) W3.heap.size (u32s shaK).toArray (u32s (List.replicate 64 0)).toArray 60 (by rfl) (by rfl) (get_top rfl) rfl infoK (u32s_oneCell _) ?_; intro W4 hW4 hK4; have HT4 := Lib.hid (HT3.out.below (((Below.refl _ W3).alloc (Nat.le_refl _) _).trans (hK4.below (by simp) (by intro i hi; omega)))); have HK4 := Lib.hid hW4; clear hW4 hK4) | (refine wpList_load_row (by rfl) 34 _ (by rfl) w.heap.size (by rfl) 34 _ (0, 0) _ HT4.out.hh Try.underlying34 rfl (by rw [infoH]; simp [u32s_length, H8.out]) ?_) | (refine wpList_store_row (by rfl) 34 _ _ (by rfl) W4.heap.size (u32s H).toArray (u32s (List.replicate 8 0)).toArray 34 (by rfl) (by rfl) (get_top rfl) (by simp [u32s_length, H8.out]) (by rw [infoH]; simp [u32s_length, H8.out]) (u32s_oneCell _) ?_; intro W5 hW5 hK5; have HT5 := Lib.hid (HT4.out.below (((Below.refl _ W4).alloc (Nat.le_refl _) _).trans (hK5.below (by simp) (by intro i hi; omega)))); have HK5 := Lib.hid (hK5.at_ (get_below HK4.out) (by have := blk_lt HK4.out; omega)); have HS5 := Lib.hid hW5; clear hW5 hK5))
          obtain ⟨gk0, hgk0⟩ : ∃ g, g = W3.heap.size := ⟨_, rfl⟩
          obtain ⟨gs, hgs⟩ : ∃ g, g = W4.heap.size := ⟨_, rfl⟩
          have hR0 : RdsI w H B gk0 gs 0 W5 := by
            have a := blk_lt HT3.out.ww
            have b := blk_lt HK4.out
            rw [hgk0, hgs]
            exact ⟨HT5.out, HK5.out, HS5.out, a, b⟩
          rw [← hgk0, ← hgs]
          have HR0 := Lib.hid hR0
          clear hR0 hgk0 hgs HT3 HT4 HT5 HK4 HK5 HS5
          have hwW := wd_w BB.out 64
          have hwl := wd_length B 64
          obtain ⟨ws, hws⟩ : ∃ ws, ws = wd B 64 := ⟨_, rfl⟩
          rw [← hws] at hwW hwl
          have HWS := Lib.hid hws
          have HWW := Lib.hid hwW
          have HWL := Lib.hid hwl
          clear hws hwW hwl
          go_loopg [106] 64 (fun j i wr => ∃ n : Nat, j + n = 64 ∧ i = .int .i64 (n : Int) ∧ RdsI w H B gk0 gs n wr)
          case atStart => exact ⟨0, rfl, rfl, HR0.out⟩
          case round =>
            clear HR0
            obtain ⟨n, hn, rfl, hR⟩ := hrel
            have HR := Lib.hid hR
            clear hR
            by_cases hn64 : n < 64
            · obtain ⟨x0, x1, x2, x3, x4, x5, x6, x7, hx⟩ := eight32 (rnds ws H n) (rnds_length H8.out ws n)
              have hxw := rnds_w HW.out ws n
              rw [hx] at hxw
              have v0 := hxw x0 (by simp)
              have v1 := hxw x1 (by simp)
              have v2 := hxw x2 (by simp)
              have v3 := hxw x3 (by simp)
              have v4 := hxw x4 (by simp)
              have v5 := hxw x5 (by simp)
              have v6 := hxw x6 (by simp)
              have v7 := hxw x7 (by simp)
              obtain ⟨kk, hkk⟩ : ∃ kk, kk = shaK.getD n 0 := ⟨_, rfl⟩
              obtain ⟨vv, hvv⟩ : ∃ vv, vv = ws.getD n 0 := ⟨_, rfl⟩
              have hkw : W32 kk := by rw [hkk]; exact Ws.get (by unfold Ws W32; decide) n
              have hvw : W32 vv := by rw [hvv]; exact HWW.out.get n
              have ck : wr.cell? ⟨gk0, n, none⟩ = some (.int .u32 kk) := by rw [hkk]; exact (blk_cell HR.out.kk n).trans (u32s_get hn64)
              have cw : wr.cell? ⟨w.heap.size + 1 + 1 + 1, n, none⟩ = some (.int .u32 vv) := by rw [hvv, HWS.out]; exact (blk_cell HR.out.ti.ww n).trans (wdAt_get B 64 n hn64)
              have hss := HR.out.ss
              rw [← HWS.out, hx] at hss
              have HSS := Lib.hid (show wr.heap[gs]? = some (.cells #[.int .u32 x0, .int .u32 x1, .int .u32 x2, .int .u32 x3, .int .u32 x4, .int .u32 x5, .int .u32 x6, .int .u32 x7] 34 (0, 0)) from hss)
              have q0 : wr.cell? ⟨gs, 0, none⟩ = some (.int .u32 x0) := (blk_cell HSS.out 0).trans rfl
              have q1 : wr.cell? ⟨gs, 1, none⟩ = some (.int .u32 x1) := (blk_cell HSS.out 1).trans rfl
              have q2 : wr.cell? ⟨gs, 2, none⟩ = some (.int .u32 x2) := (blk_cell HSS.out 2).trans rfl
              have q3 : wr.cell? ⟨gs, 3, none⟩ = some (.int .u32 x3) := (blk_cell HSS.out 3).trans rfl
              have q4 : wr.cell? ⟨gs, 4, none⟩ = some (.int .u32 x4) := (blk_cell HSS.out 4).trans rfl
              have q5 : wr.cell? ⟨gs, 5, none⟩ = some (.int .u32 x5) := (blk_cell HSS.out 5).trans rfl
              have q6 : wr.cell? ⟨gs, 6, none⟩ = some (.int .u32 x6) := (blk_cell HSS.out 6).trans rfl
              have q7 : wr.cell? ⟨gs, 7, none⟩ = some (.int .u32 x7) := (blk_cell HSS.out 7).trans rfl
              obtain ⟨y1, y2, s1, y3, y4, y5, y6, e1, e2, e3, e4, e5, e6, e7, htt⟩ := tSum32 v4 v5 v6 v7 hkw hvw
              obtain ⟨z1, z2, z3, z4, z5, z6, z7, uu, f1, f2, f3, f4, f5, f6, f7, f8, huu⟩ := uSum32 v0 v1 v2
              have r6 := right32_any x4 v4 6 (by omega) (by omega)
              have r11 := right32_any x4 v4 11 (by omega) (by omega)
              have r25 := right32_any x4 v4 25 (by omega) (by omega)
              have r2 := right32_any x0 v0 2 (by omega) (by omega)
              have r13 := right32_any x0 v0 13 (by omega) (by omega)
              have r22 := right32_any x0 v0 22 (by omega) (by omega)
              simp only [Int.cast_ofNat_Int] at r6 r11 r25 r2 r13 r22
              have R6 := Lib.hid r6
              have R11 := Lib.hid r11
              have R25 := Lib.hid r25
              have R2 := Lib.hid r2
              have R13 := Lib.hid r13
              have R22 := Lib.hid r22
              have hnext : rnds ws H (n + 1) = [(s1 + y6 + kk + vv + uu) % 4294967296, x0, x1, x2, (x3 + (s1 + y6 + kk + vv)) % 4294967296, x4, x5, x6] := by
                have a4 : (x7 + bs1 x4 + chs x4 x5 x6 + kk + vv + (bs0 x0 + mjs x0 x1 x2)) % 4294967296 = (s1 + y6 + kk + vv + uu) % 4294967296 := by omega
                have a5 : (x3 + (x7 + bs1 x4 + chs x4 x5 x6 + kk + vv)) % 4294967296 = (x3 + (s1 + y6 + kk + vv)) % 4294967296 := by omega
                rw [rnds, hx, ← hkk, ← hvv, rnd]
                simp only [List.getD_cons_zero, List.getD_cons_succ]
                rw [a4, a5]
              have HNX := Lib.hid hnext
              have iD : (0 : Int) ≤ (n : Int) := by omega
              have iE : (n : Int) < 64 := by omega
              clear hx hxw v0 v1 v2 v3 v4 v5 v6 v7 hkk hvv hkw hvw hss htt huu r6 r11 r25 r2 r13 r22 hnext
              go_wp2_with fail
              go_quiet ((first | (go_at_call 34; (with_reducible refine (R6.out _).mono ?_); rintro e w' ⟨rfl, nd, rfl⟩; exact ⟨rfl, _, World.drewN_drewN _ _ _⟩) | (go_at_call 34; (with_reducible refine (R11.out _).mono ?_); rintro e w' ⟨rfl, nd, rfl⟩; exact ⟨rfl, _, World.drewN_drewN _ _ _⟩) | (go_at_call 34; (with_reducible refine (R25.out _).mono ?_); rintro e w' ⟨rfl, nd, rfl⟩; exact ⟨rfl, _, World.drewN_drewN _ _ _⟩)))
              obtain ⟨V1, hW1⟩ : ∃ Wz, wr.drewN nq = Wz := ⟨_, rfl⟩
              rw [hW1]
              have HSS := Lib.hid (show V1.heap[gs]? = some (.cells #[.int .u32 x0, .int .u32 x1, .int .u32 x2, .int .u32 x3, .int .u32 x4, .int .u32 x5, .int .u32 x6, .int .u32 x7] 34 (0, 0)) by rw [← hW1]; exact HSS.out)
              have HR := Lib.hid (show RdsI w H B gk0 gs n V1 by rw [← hW1]; exact HR.out.drewN nq)
              clear hW1
              have q0 : V1.cell? ⟨gs, 0, none⟩ = some (.int .u32 x0) := (blk_cell HSS.out 0).trans rfl
              have q1 : V1.cell? ⟨gs, 1, none⟩ = some (.int .u32 x1) := (blk_cell HSS.out 1).trans rfl
              have q2 : V1.cell? ⟨gs, 2, none⟩ = some (.int .u32 x2) := (blk_cell HSS.out 2).trans rfl
              have q3 : V1.cell? ⟨gs, 3, none⟩ = some (.int .u32 x3) := (blk_cell HSS.out 3).trans rfl
              have q4 : V1.cell? ⟨gs, 4, none⟩ = some (.int .u32 x4) := (blk_cell HSS.out 4).trans rfl
              have q5 : V1.cell? ⟨gs, 5, none⟩ = some (.int .u32 x5) := (blk_cell HSS.out 5).trans rfl
              have q6 : V1.cell? ⟨gs, 6, none⟩ = some (.int .u32 x6) := (blk_cell HSS.out 6).trans rfl
              have q7 : V1.cell? ⟨gs, 7, none⟩ = some (.int .u32 x7) := (blk_cell HSS.out 7).trans rfl
              go_wp2_with fail
              go_quiet ((first | (go_at_call 34; (with_reducible refine (R2.out _).mono ?_); rintro e w' ⟨rfl, nd, rfl⟩; exact ⟨rfl, _, World.drewN_drewN _ _ _⟩) | (go_at_call 34; (with_reducible refine (R13.out _).mono ?_); rintro e w' ⟨rfl, nd, rfl⟩; exact ⟨rfl, _, World.drewN_drewN _ _ _⟩) | (go_at_call 34; (with_reducible refine (R22.out _).mono ?_); rintro e w' ⟨rfl, nd, rfl⟩; exact ⟨rfl, _, World.drewN_drewN _ _ _⟩)))
              obtain ⟨V2, hW1⟩ : ∃ Wz, V1.drewN nq = Wz := ⟨_, rfl⟩
              rw [hW1]
              have HSS := Lib.hid (show V2.heap[gs]? = some (.cells #[.int .u32 x0, .int .u32 x1, .int .u32 x2, .int .u32 x3, .int .u32 x4, .int .u32 x5, .int .u32 x6, .int .u32 x7] 34 (0, 0)) by rw [← hW1]; exact HSS.out)
              have HR := Lib.hid (show RdsI w H B gk0 gs n V2 by rw [← hW1]; exact HR.out.drewN nq)
              clear hW1
              have q0 : V2.cell? ⟨gs, 0, none⟩ = some (.int .u32 x0) := (blk_cell HSS.out 0).trans rfl
              have q1 : V2.cell? ⟨gs, 1, none⟩ = some (.int .u32 x1) := (blk_cell HSS.out 1).trans rfl
              have q2 : V2.cell? ⟨gs, 2, none⟩ = some (.int .u32 x2) := (blk_cell HSS.out 2).trans rfl
              have q3 : V2.cell? ⟨gs, 3, none⟩ = some (.int .u32 x3) := (blk_cell HSS.out 3).trans rfl
              have q4 : V2.cell? ⟨gs, 4, none⟩ = some (.int .u32 x4) := (blk_cell HSS.out 4).trans rfl
              have q5 : V2.cell? ⟨gs, 5, none⟩ = some (.int .u32 x5) := (blk_cell HSS.out 5).trans rfl
              have q6 : V2.cell? ⟨gs, 6, none⟩ = some (.int .u32 x6) := (blk_cell HSS.out 6).trans rfl
              have q7 : V2.cell? ⟨gs, 7, none⟩ = some (.int .u32 x7) := (blk_cell HSS.out 7).trans rfl
              clear e1 e2 e3 e4 e5 e6 e7 f1 f2 f3 f4 f5 f6 f7 f8 R6 R11 R25 R2 R13 R22
              go_wp2_with (first | (refine wpList_store_row (by rfl) 34 _ _ (by rfl) gs #[.int .u32 ((s1 + y6 + kk + vv + uu) % 4294967296), .int .u32 x0, .int .u32 x1, .int .u32 x2, .int .u32 ((x3 + (s1 + y6 + kk + vv)) % 4294967296), .int .u32 x4, .int .u32 x5, .int .u32 x6] #[.int .u32 x0, .int .u32 x1, .int .u32 x2, .int .u32 x3, .int .u32 x4, .int .u32 x5, .int .u32 x6, .int .u32 x7] 34 (by rfl) (by rfl) HSS.out rfl infoH (by simp [Value.oneCell']) ?_; intro V3 hV3 hK3; have HV3 := Lib.hid (HR.out.put hK3 (by rw [hV3, ← HWS.out, HNX.out]; rfl)); clear hV3 hK3))
              go_roundg (gk - 1)
              case measure => omega
              case rel => exact ⟨n + 1, by omega, by go_num, HV3.out⟩
            · obtain rfl : n = 64 := by omega
              clear hn hn64
              obtain ⟨X, hX⟩ : ∃ X, X = rnds ws H 64 := ⟨_, rfl⟩
              have hX8 : X.length = 8 := by rw [hX]; exact rnds_length H8.out ws 64
              have hss := HR.out.ss
              rw [← HWS.out, ← hX] at hss
              have hT : turn H B = adds H X := by rw [turn, hX, HWS.out]
              obtain ⟨W5, hW5⟩ : ∃ W5, W5 = wr := ⟨_, rfl⟩
              have HA0 := Lib.hid (show AddU W5 w.heap.size H X 0 wr from by rw [hW5]; exact ⟨Keeps.refl _ _, by rw [List.take_zero, List.nil_append, List.drop_zero]; exact HR.out.ti.hh⟩)
              rw [← hW5] at hss
              have HSX := Lib.hid hss
              have HX8 := Lib.hid hX8
              have HT := Lib.hid hT
              have HGS := Lib.hid (show w.heap.size < gs from by have := HR.out.gtk; have := HR.out.gts; omega)
              have HRR := Lib.hid (show W5.heap[w.heap.size + 1 + 1]? = some (.cells (u32s (List.replicate 8 0)).toArray 34 (0, 0)) from by rw [hW5]; exact HR.out.ti.rr)
              have HBE := Lib.hid (show Below w.heap.size w W5 from by rw [hW5]; exact HR.out.ti.bel)
              have HTL := Lib.hid (turn_length H8.out B)
              clear hX hX8 hss hT HR hW5
              go_wp2_with fail
              go_loopg [194] 8 (fun j i wr => ∃ c : Nat, j + c = 8 ∧ i = .int .i64 (c : Int) ∧ AddU W5 w.heap.size H X c wr)
              case atStart => exact ⟨0, rfl, rfl, HA0.out⟩
              case round =>
                clear HA0
                obtain ⟨c, hc, rfl, hA⟩ := hrel
                by_cases hc8 : c < 8
                · have k1 := hA.at_ H8.out HX8.out hc8
                  have k2 := (hA.keep.cell (p := ⟨gs, c, none⟩) (blk_lt HSX.out) (by have := HGS.out; simp; omega)).trans ((blk_cell HSX.out c).trans (u32s_get (by rw [HX8.out]; exact hc8)))
                  have kf := blk_frozen hA.blk c
                  have hg := addu_get H8.out HX8.out c hc8
                  obtain ⟨a, ha⟩ : ∃ a, a = H.getD c 0 := ⟨_, rfl⟩
                  obtain ⟨b, hb⟩ : ∃ b, b = X.getD c 0 := ⟨_, rfl⟩
                  rw [← ha] at k1 hg
                  rw [← hb] at k2 hg
                  have hp := hA.put H8.out HX8.out hc8 ((a + b) % 4294967296) hg.symm
                  have HP := Lib.hid hp
                  have q5 : (c : Int) < 8 := by omega
                  have q7 : (0 : Int) ≤ (c : Int) := by omega
                  clear ha hb hp hg hA
                  go_wp2_with fail
                  go_still_tail 8, (by kernel_rfl)
                  change wpList _ _ _ _ _ wr.drew
                  go_wp2_with fail
                  go_roundg (gk - 1)
                  case measure => omega
                  case rel => exact ⟨c + 1, by omega, by go_num, HP.out.drew⟩
                · obtain rfl : c = 8 := by omega
                  have hf := hA.blk
                  have hal := addu_length H8.out HX8.out
                  rw [List.take_of_length_le (by omega), List.drop_of_length_le (by rw [H8.out]; omega), List.append_nil, ← HT.out] at hf
                  have HF := Lib.hid hf
                  have HRR2 := Lib.hid (hA.keep.at_ HRR.out (by omega))
                  have HBE2 := Lib.hid (HBE.out.trans (hA.keep.below HBE.out.size (by intro i hi; omega)))
                  clear hA hc hc8 hf hal HRR HBE HSX
                  go_wp2_with (first | (refine wpList_load_row (by rfl) 34 _ (by rfl) w.heap.size (by rfl) 34 _ (0, 0) _ HF.out Try.underlying34 rfl (by rw [infoH]; simp [u32s_length, HTL.out]) ?_) | (refine wpList_store_row (by rfl) 34 _ _ (by rfl) (w.heap.size + 1 + 1) (u32s (turn H B)).toArray (u32s (List.replicate 8 0)).toArray 34 (by rfl) (by rfl) HRR2.out (by simp [u32s_length, HTL.out]) (by rw [infoH]; simp [u32s_length, HTL.out]) (u32s_oneCell _) ?_; intro W6 hW6 hK6; have HW6 := Lib.hid hW6; have HK6 := Lib.hid hK6; clear hW6 hK6))
                  refine bodyPost_row rfl (w.heap.size + 1 + 1) 34 (u32s (turn H B)).toArray (0, 0) _ (by rfl) HW6.out Try.underlying34 rfl (by rw [infoH]; simp [u32s_length, HTL.out]) rfl ?_
                  exact ⟨rfl, HBE2.out.trans (HK6.out.below HBE2.out.size (by intro i hi; omega))⟩
end Go.Proofs.Ytobgnmellbgfmaa.B
